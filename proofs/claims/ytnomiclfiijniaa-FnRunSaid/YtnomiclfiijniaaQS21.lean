/- Contracts of the program's check of a function. No condition. -/
import Derived.Test.YtnomiclfiijniaaRows
import Derived.Test.YtnomiclfiijniaaQE3
import Derived.Test.YtnomiclfiijniaaQS4
import Derived.Test.YtnomiclfiijniaaQS6
import Derived.Test.YtnomiclfiijniaaQS16
section
namespace Go.Proofs.Ytnomiclfiijniaa
set_option linter.unusedSimpArgs false
set_option linter.unusedVariables false
end Go.Proofs.Ytnomiclfiijniaa
end

section
namespace Go.Proofs.Ytnomiclfiijniaa
set_option maxRecDepth 100000
set_option linter.unusedSimpArgs false
set_option linter.unusedVariables false
def bk (v:View) (n:Int):Int:=v.block_[n.toNat]?.getD 0
def blkAt (v:View) (n:Int):Block:=v.blocks_[(bk v n).toNat]?.getD default
def atV (v:View) (n:Int):Int:=IntKind.i64.wrap (IntKind.i64.wrap (n - (v.first_[(bk v n).toNat]?.getD 0)) - (blkAt v n).params_)
def instI (v:View) (n:Int):Inst:=(blkAt v n).insts_[(atV v n).toNat]?.getD default
def okV (v:View) (n:Int):Prop:=(0≤n∧n < v.block_.length)∧(0≤bk v n→bk v n < v.first_.length∧bk v n < v.blocks_.length∧(0≤atV v n→atV v n < (blkAt v n).insts_.length))
def pureOp (op:Int):Bool:=!decide (op=8) && (!decide (op=12) && !decide (op=13))
def pureV (v:View) (n:Int):Bool:=decide (0≤bk v n) && (decide (0≤atV v n) && pureOp (instI v n).op_)
end Go.Proofs.Ytnomiclfiijniaa
end

section
namespace Go.Proofs.Ytnomiclfiijniaa
set_option linter.unusedSimpArgs false
set_option linter.unusedVariables false
def szI (b:Block):Int:=b.params_ + b.insts_.length
def sumI:List Block→Int
  | []=>0
  | b :: bs=>szI b + sumI bs
theorem headOk_sz {b:Block} (h:headOk b=true):0≤b.params_∧b.params_≤4∧(b.insts_.length:Int)≤80∧IntKind.i64.wrap (b.params_ + b.insts_.length)=szI b∧0≤szI b∧szI b≤84:=by
  simp only [headOk,Bool.and_eq_true,decide_eq_true_eq] at h
  have:=inR_t.1 h.1
  refine ⟨this.1,this.2,by omega,wrap_id (by omega) (by omega), ?_, ?_⟩ <;> unfold szI <;> omega
theorem cntB_sum:∀ (bs:List Block) (m:Int),bs.all headOk=true→0≤m→m + 84 * bs.length≤9223372036854775807→cntB bs m=m + sumI bs∧0≤sumI bs∧sumI bs≤84 * bs.length
  | [],m,_,_,_=>by simp [cntB,sumI]
  | b :: bs,m,h,h0,h1=>by
    simp only [List.all_cons,Bool.and_eq_true] at h
    obtain ⟨_,_,_,e,e1,e2⟩:=headOk_sz h.1
    simp only [List.length_cons] at h1
    have hw:IntKind.i64.wrap (m + szI b)=m + szI b:=wrap_id (by omega) (by omega)
    obtain ⟨q1,q2,q3⟩:=cntB_sum bs (m + szI b) h.2 (by omega) (by omega)
    rw [cntB_cons,e,hw,q1]
    simp only [sumI,List.length_cons]
    omega
theorem wrap_sub {a b:Int} (h1:-1000000≤a - b) (h2:a - b≤1000000):IntKind.i64.wrap (a - b)=a - b:=wrap_id (by omega) (by omega)
theorem take_snoc {F:Func} {b:Block} {bs:List Block} {i:Nat} (hd:F.blocks_.drop i=b :: bs):F.blocks_.take (i + 1)=F.blocks_.take i++[b]∧F.blocks_.drop (i + 1)=bs∧i < F.blocks_.length∧b∈F.blocks_:=by
  have hi:i < F.blocks_.length:=by
    by_cases h:i < F.blocks_.length
    · exact h
    · rw [List.drop_eq_nil_of_le (by omega)] at hd;cases hd
  refine ⟨?_,by rw [← List.drop_drop,hd];rfl,hi,List.mem_of_mem_drop (by rw [hd];simp:b∈F.blocks_.drop i)⟩
  rw [List.take_add_one]
  have:F.blocks_[i]? = some b:=by
    have:=congrArg List.head? hd
    simpa [List.head?_drop] using this
  rw [this];rfl
end Go.Proofs.Ytnomiclfiijniaa
end

section
namespace Go.Proofs.Ytnomiclfiijniaa
set_option maxRecDepth 100000
set_option linter.unusedSimpArgs false
set_option linter.unusedVariables false
theorem goodF_spec {F:Func} (h:goodF F=true):(0≤F.params_∧F.params_≤4)∧(1≤(F.blocks_.length:Int)∧F.blocks_.length≤8)∧F.blocks_.all headOk=true∧many F≤80∧many F=F.params_ + sumI F.blocks_∧0≤sumI F.blocks_∧F.blocks_.all (bodyOk F.blocks_ (many F))=true:=by
  simp only [goodF,Bool.and_eq_true,decide_eq_true_eq] at h
  obtain ⟨h1,h2,h3,h4,h5,h6⟩:=h
  have h1':=inR_t.1 h1
  have h2':=inR_t.1 h2
  obtain ⟨c1,c2,c3⟩:=cntB_sum F.blocks_ F.params_ h4 h1'.1 (by omega)
  exact ⟨h1',⟨h2'.1,by omega⟩,h4,h5,c1,c2,h6⟩
end Go.Proofs.Ytnomiclfiijniaa
end

section
namespace Go.Proofs.Ytnomiclfiijniaa
set_option maxRecDepth 100000
set_option linter.unusedSimpArgs false
set_option linter.unusedVariables false
end Go.Proofs.Ytnomiclfiijniaa
end

section
namespace Go.Proofs.Ytnomiclfiijniaa
set_option maxRecDepth 100000
set_option linter.unusedSimpArgs false
set_option linter.unusedVariables false
theorem cnt_step {F:Func} {b:Block} {bs:List Block} {i:Nat} (hF:F.blocks_.all headOk=true) (hp:0≤F.params_∧F.params_≤4) (hl:F.blocks_.length≤8) (hd:F.blocks_.drop i=b :: bs) :
    cntB (F.blocks_.take (i + 1)) F.params_=cntB (F.blocks_.take i) F.params_ + szI b∧0≤cntB (F.blocks_.take i) F.params_∧cntB (F.blocks_.take i) F.params_≤4 + 84 * 8:=by
  obtain ⟨t1,t2,hi,hbm⟩:=take_snoc hd
  obtain ⟨p0,p1,p2,e,e1,e2⟩:=headOk_sz (List.all_eq_true.1 hF b hbm)
  have htk:(F.blocks_.take i).all headOk=true:=List.all_eq_true.2 fun x hx=>List.all_eq_true.1 hF x (List.mem_of_mem_take hx)
  have hlen:(F.blocks_.take i).length=i:=by rw [List.length_take];omega
  obtain ⟨c1,c2,c3⟩:=cntB_sum (F.blocks_.take i) F.params_ htk hp.1 (by rw [hlen];omega)
  rw [hlen] at c3
  refine ⟨?_,by omega,by omega⟩
  rw [t1]
  have:cntB (F.blocks_.take i++[b]) F.params_=IntKind.i64.wrap (cntB (F.blocks_.take i) F.params_ + IntKind.i64.wrap (b.params_ + b.insts_.length)):=by simp [cntB]
  rw [this,e,wrap_id (by omega) (by omega)]
theorem firsts_get:∀ (bs:List Block) (m:Int) (k:Nat),k < bs.length→(firsts bs m)[k]? = some (cntB (bs.take k) m)
  | [],m,k,h=>by simp at h
  | b :: bs,m,0,h=>rfl
  | b :: bs,m,k + 1,h=>by
    simp only [firsts,List.getElem?_cons_succ,List.take_succ_cons,cntB_cons]
    exact firsts_get bs _ k (by simpa using h)
def okW (w:Ways) (n b:Int):Prop:=okV w.view_.v n∧(0≤bk w.view_.v n→(0≤b∧b < w.dom_.length)∧bk w.view_.v n < (w.dom_[b.toNat]?.getD default).length)
end Go.Proofs.Ytnomiclfiijniaa
end

section
namespace Go.Proofs.Ytnomiclfiijniaa
set_option maxRecDepth 100000
set_option linter.unusedSimpArgs false
set_option linter.unusedVariables false
def usedL (b:Block):List Int:=(if b.end_=2 then [] else [b.value_])++b.jumps_.flatMap (·.args_)
section
variable {α:Type} {b:Block} {fn:Nat} {caps:List V} {L:Nat} {Hs:α→Heap} {f:α→Int→α}
end
end Go.Proofs.Ytnomiclfiijniaa
end

section
namespace Go.Proofs.Ytnomiclfiijniaa
set_option maxRecDepth 100000
set_option linter.unusedSimpArgs false
set_option linter.unusedVariables false
theorem upto_all (l:List Int):(upto l.length fun i=>[V.d (D.int IntKind.i64 (l[i]?.getD 0))])=rI l:=by
  have:=upto_take l (Nat.le_refl _)
  rwa [List.take_length] at this
def smallEnd (b:Block):Prop:=b.jumps_.length≤2∧∀ j∈b.jumps_,j.args_.length≤100
end Go.Proofs.Ytnomiclfiijniaa
end

section
namespace Go.Proofs.Ytnomiclfiijniaa
set_option maxRecDepth 100000
set_option linter.unusedSimpArgs false
set_option linter.unusedVariables false
def fsV (v:View) (k:Int):Int:=IntKind.i64.wrap (v.first_[k.toNat]?.getD 0 + (v.blocks_[k.toNat]?.getD default).params_)
theorem valueAt_c (v:View) (k a:Int) (h0:0≤k) (h1:k < v.first_.length) (h2:k < v.blocks_.length):PureP Try.prog 95 [.d (.rp 5 (dView v)),.d (.int .i64 k),.d (.int .i64 a)] (· = .d (.int .i64 (IntKind.i64.wrap (fsV v k + a)))):=by
  refine pure_of Try.func95 en_95 rfl rfl (W_run mixed ⟨[],[],[],26,0,[0,1,2,6],[]⟩ (fun | 1=>[0,1,2,4,7,8,9,10,12,17,3,5,6,11,13,14,15,16,18,19] | _=>[]) (by kernel_rfl) ?_)
  simp only [Try.f95,stripX,stripOps,pickOps]
  simp []
  exact ⟨⟨h0,h1⟩,⟨h0,h2⟩,rfl⟩
noncomputable def K_95:Ent Try.prog:=Ent.p3 (α:=Ptr View) (β:=Int) (γ:=Int) 95 (fun v k a=>0≤k∧k < v.v.first_.length∧k < v.v.blocks_.length) (fun v k a=>.d (.int .i64 (IntKind.i64.wrap (fsV v.v k + a)))) (fun v k a hc=>valueAt_c v.v k a hc.1 hc.2.1 hc.2.2)
theorem K_95_f:K_95.f=95:=rfl
theorem K_95_e (v:View) (k:Int) (a:Int):K_95.e [.d (.rp 5 (dView v)),.d (.int .i64 k),.d (.int .i64 a)]=some (0≤k∧k < v.first_.length∧k < v.blocks_.length,.d (.int .i64 (IntKind.i64.wrap (fsV v k + a))),[]):=by unfold K_95;exact Ent.p3_eq (α:=Ptr View) (β:=Int) (γ:=Int) (Ptr.mk v) k a
noncomputable def K_95h:EntH Try.prog:=EntH.pk3 (α:=Ptr View) (β:=Int) (γ:=Int) 95 (fun v k a=>0≤k∧k < v.v.first_.length∧k < v.v.blocks_.length) (fun v k a=>.d (.int .i64 (IntKind.i64.wrap (fsV v.v k + a)))) (fun v k a=>[]) (fun v k a hc=>PureP.ans (valueAt_c v.v k a hc.1 hc.2.1 hc.2.2))
theorem K_95h_f:K_95h.f=95:=rfl
theorem K_95h_g:K_95h.gro=true:=rfl
theorem K_95h_e {x1 x2 x3:V} {H:Heap}:K_95h.e [x1,x2,x3] H=guardR ((decA (α:=Ptr View) H x1).1∧(decA (α:=Int) H x2).1∧(decA (α:=Int) H x3).1) (peekR (0≤(decA (α:=Int) H x2).2∧(decA (α:=Int) H x2).2 < (decA (α:=Ptr View) H x1).2.v.first_.length∧(decA (α:=Int) H x2).2 < (decA (α:=Ptr View) H x1).2.v.blocks_.length) (.d (.int .i64 (IntKind.i64.wrap (fsV (decA (α:=Ptr View) H x1).2.v (decA (α:=Int) H x2).2 + (decA (α:=Int) H x3).2)))) ([]) H):=rfl
structure OkF (w:Ways):Prop where
  len:w.all_.length≤8
  blk:∀ k∈listB w.all_,0≤k∧k < w.view_.v.blocks_.length∧k < w.view_.v.first_.length
  fin:∀ k∈listB w.all_,smallEnd (w.view_.v.blocks_[k.toNat]?.getD default)
  ins:∀ k∈listB w.all_,(w.view_.v.blocks_[k.toNat]?.getD default).insts_.length≤1000∧∀ x∈(w.view_.v.blocks_[k.toNat]?.getD default).insts_,x.args_.length≤1000∧∀ n∈x.args_,okW w n k
  use:∀ k∈listB w.all_,∀ n∈usedL (w.view_.v.blocks_[k.toNat]?.getD default),okW w n k
theorem good_vals {F : Func} (h : goodF F = true) {b : Block} (hb : b ∈ F.blocks_) : b.insts_.length ≤ 80 ∧ (∀ x ∈ b.insts_, x.args_.length ≤ 1000 ∧ ∀ n ∈ x.args_, 0 ≤ n ∧ n < many F) ∧ ∀ n ∈ usedL b, 0 ≤ n ∧ n < many F := by
  obtain ⟨hp,hl,hh,hm,hc,hs,hbo⟩:=goodF_spec h
  have hm0:0≤many F:=by omega
  have inr:∀ n,inR n 0 (IntKind.i64.wrap (many F - 1))=true→0≤n∧n < many F:=fun n q=>by
    have:=inR_t.1 q
    rw [wrap_sub (by omega) (by omega)] at this
    omega
  have alln:∀ l:List Int,allIn l 0 (IntKind.i64.wrap (many F - 1))=true→∀ n∈l,0≤n∧n < many F:=fun l q n hn=>inr n (List.all_eq_true.1 q n hn)
  have h1:=List.all_eq_true.1 hbo b hb
  simp only [bodyOk,Bool.and_eq_true] at h1
  have hd:=headOk_sz (List.all_eq_true.1 hh b hb)
  refine ⟨by omega,fun x hx=>?_,fun n hn=>?_⟩
  · have q:=List.all_eq_true.1 h1.1 x hx
    simp only [instOk,Bool.and_eq_true,decide_eq_true_eq] at q
    have har:arity x.op_≤1000:=by
      unfold arity arity1
      repeat' split
      all_goals omega
    exact ⟨by omega,alln _ q.2.2.1⟩
  · have h2:=h1.2
    have js:jumpsOk F.blocks_ (many F) b.jumps_=true→n∈b.jumps_.flatMap (·.args_)→0≤n∧n < many F:=fun q hn=>by
      obtain ⟨j,hj,hn⟩:=List.mem_flatMap.1 hn
      have q2:=List.all_eq_true.1 q j hj
      simp only [jumpOk,Bool.and_eq_true] at q2
      exact alln _ q2.2.2 n hn
    unfold usedL at hn
    unfold endsOk at h2
    split at h2
    · rename_i e
      rw [if_neg (by omega)] at hn
      simp only [Bool.and_eq_true] at h2
      rcases List.mem_append.1 hn with q | q
      · rw [List.mem_singleton.1 q];exact inr _ h2.2.1
      · exact js h2.2.2 q
    · split at h2
      · rename_i e
        rw [if_pos e] at hn
        simp only [Bool.and_eq_true] at h2
        rcases List.mem_append.1 hn with q | q
        · exact absurd q List.not_mem_nil
        · exact js h2.2.2 q
      · split at h2
        · rename_i e
          rw [if_neg (by omega)] at hn
          simp only [Bool.and_eq_true] at h2
          rcases List.mem_append.1 hn with q | q
          · rw [List.mem_singleton.1 q];exact inr _ h2.2.1
          · exact js h2.2.2 q
        · cases h2
theorem firsts_len:∀ (bs:List Block) (m:Int),(firsts bs m).length=bs.length
  | [],_=>rfl
  | b :: bs,m=>by simp only [firsts,List.length_cons,firsts_len bs]
end Go.Proofs.Ytnomiclfiijniaa
end
