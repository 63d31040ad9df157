/- Contracts of the program's check of a function. No condition. -/
import Derived.Test.YtnomiclfiijniaaRows
import Derived.Test.YtnomiclfiijniaaQE3
import Derived.Test.YtnomiclfiijniaaQS4
import Derived.Test.YtnomiclfiijniaaQS8
import Derived.Test.YtnomiclfiijniaaQS16
section
namespace Go.Proofs.Ytnomiclfiijniaa
set_option linter.unusedSimpArgs false
set_option linter.unusedVariables false
end Go.Proofs.Ytnomiclfiijniaa
end

section
namespace Go.Proofs.Ytnomiclfiijniaa
set_option maxRecDepth 100000
set_option linter.unusedSimpArgs false
set_option linter.unusedVariables false
theorem goodF_spec {F:Func} (h:goodF F=true):(0≤F.params_∧F.params_≤4)∧(1≤(F.blocks_.length:Int)∧F.blocks_.length≤8)∧F.blocks_.all headOk=true∧many F≤80∧many F=F.params_ + sumI F.blocks_∧0≤sumI F.blocks_∧F.blocks_.all (bodyOk F.blocks_ (many F))=true:=by
  simp only [goodF,Bool.and_eq_true,decide_eq_true_eq] at h
  obtain ⟨h1,h2,h3,h4,h5,h6⟩:=h
  have h1':=inR_t.1 h1
  have h2':=inR_t.1 h2
  obtain ⟨c1,c2,c3⟩:=cntB_sum F.blocks_ F.params_ h4 h1'.1 (by omega)
  exact ⟨h1',⟨h2'.1,by omega⟩,h4,h5,c1,c2,h6⟩
theorem view_spec {F:Func} {n:Int} (h:goodF F=true) (h0:0≤n) (h1:n < many F):okV (viewD F) n ∧
    ((bk (viewD F) n = -1∧n < F.params_∧instS F n F.blocks_ 0=(-1,-1)) ∨
     (0≤bk (viewD F) n∧bk (viewD F) n < F.blocks_.length∧F.params_≤n∧atV (viewD F) n < (blkAt (viewD F) n).insts_.length∧-4≤atV (viewD F) n∧instS F n F.blocks_ 0=if 0≤atV (viewD F) n then (bk (viewD F) n,atV (viewD F) n) else (-1,-1))):=by
  obtain ⟨hp,hl,hh,hm,hc,hs,_⟩:=goodF_spec h
  have ec:cntB (F.blocks_.take 0) F.params_=F.params_:=rfl
  by_cases hn:n < F.params_
  · have hg:(viewD F).block_[n.toNat]? = some (-1):=by
      show (List.replicate F.params_.toNat (-1)++blkOf F.blocks_ 0)[n.toNat]? = _
      rw [List.getElem?_append_left (by simp;omega),List.getElem?_replicate,if_pos (by omega)]
    have hb:bk (viewD F) n = -1:=by simp only [bk,hg,Option.getD_some]
    have hlt:=(List.getElem?_eq_some_iff.1 hg).1
    refine ⟨⟨⟨h0,by omega⟩,fun q=>by omega⟩,.inl ⟨hb,hn, ?_⟩⟩
    exact instS_none F n hh hp (by omega) (by omega) F.blocks_ 0 rfl (by rw [ec];exact hn)
  · obtain ⟨k,q1,q2,q3,s,q4,q5,q6,q7,q8,q9⟩:=loc_spec n F.blocks_ 0 F.params_ hh hp.1 (by omega) (by omega) (by omega)
    have hg:(viewD F).block_[n.toNat]? = some ((0 + k:Nat):Int):=by
      show (List.replicate F.params_.toNat (-1)++blkOf F.blocks_ 0)[n.toNat]? = _
      rw [List.getElem?_append_right (by simp;omega),List.length_replicate,show n.toNat - F.params_.toNat=(n - F.params_).toNat by omega]
      exact q3
    have hb:bk (viewD F) n=(k:Int):=by simp only [bk,hg,Option.getD_some];omega
    have hblk:blkAt (viewD F) n=F.blocks_[k]?.getD default:=by simp only [blkAt,hb,viewD_blocks];rfl
    obtain ⟨p0,p1,p2,e,e1,e2⟩:=headOk_sz q8
    have hat:atV (viewD F) n=(loc n F.blocks_ 0 F.params_).2:=by
      have hf:(viewD F).first_[k]?.getD 0=s:=by show (firsts F.blocks_ F.params_)[k]?.getD 0=s;rw [q4];rfl
      simp only [atV,hblk,hb,Int.toNat_natCast]
      have w1:IntKind.i64.wrap (n - s)=n - s:=wrap_sub (by omega) (by omega)
      rw [hf,q7,w1,wrap_sub (by omega) (by omega)]
    have hlt:=(List.getElem?_eq_some_iff.1 hg).1
    have hfl:=(List.getElem?_eq_some_iff.1 q4).1
    have hbl:(viewD F).blocks_.length=F.blocks_.length:=rfl
    have hff:(viewD F).first_=firsts F.blocks_ F.params_:=rfl
    have hi:=instS_loc F n hh hp (by omega) (by omega) F.blocks_ 0 rfl (by rw [ec];omega) (by rw [ec];omega)
    rw [ec] at hi
    refine ⟨⟨⟨h0,by omega⟩,fun _=>⟨by rw [hb,hff];omega,by rw [hb,hbl];omega,fun _=>by rw [hat,hblk];exact q9⟩⟩,.inr ⟨by omega,by omega,by omega,by rw [hat,hblk];exact q9,by rw [hat,q7];omega, ?_⟩⟩
    rw [hi,hat,hb,q2]
    simp
theorem isVal_t {F:Func} {n:Int} (h:isVal F n=true):goodF F=true∧0≤n∧n < many F:=by
  simp only [isVal,Bool.and_eq_true] at h
  obtain ⟨hp,hl,hh,hm,hc,hs,_⟩:=goodF_spec h.1
  have:=inR_t.1 h.2
  rw [wrap_sub (by omega) (by omega)] at this
  exact ⟨h.1,by omega,by omega⟩
theorem instS_ok {F:Func} {n:Int} (h:isVal F n=true) (h0:0≤(instS F n F.blocks_ 0).1) :
    (instS F n F.blocks_ 0).1 < F.blocks_.length∧0≤(instS F n F.blocks_ 0).2∧(instS F n F.blocks_ 0).2 < (F.blocks_[(instS F n F.blocks_ 0).1.toNat]?.getD default).insts_.length:=by
  obtain ⟨hg,g0,g1⟩:=isVal_t h
  rcases (view_spec hg g0 g1).2 with ⟨q1,_,q2⟩ | ⟨q1,q4,_,q3,_,q2⟩
  · rw [q2] at h0;exact absurd h0 (by decide)
  · by_cases ha:0≤atV (viewD F) n
    · rw [if_pos ha] at q2
      rw [q2]
      exact ⟨q4,ha,q3⟩
    · rw [if_neg ha] at q2
      rw [q2] at h0;exact absurd h0 (by decide)
end Go.Proofs.Ytnomiclfiijniaa
end

section
namespace Go.Proofs.Ytnomiclfiijniaa
set_option maxRecDepth 100000
set_option linter.unusedSimpArgs false
set_option linter.unusedVariables false
def isBlk (F:Func) (k:Int):Bool:=goodF F && inR k 0 (IntKind.i64.wrap (F.blocks_.length - 1))
theorem isBlk_t {F:Func} {k:Int} (hF:Enc.good F) (h:isBlk F k=true):goodF F=true∧0≤k∧k < F.blocks_.length:=by
  simp only [isBlk,Bool.and_eq_true] at h
  have:=inR_index (good_len hF.2) h.2
  exact ⟨h.1,this.1,by omega⟩
end Go.Proofs.Ytnomiclfiijniaa
end

section
namespace Go.Proofs.Ytnomiclfiijniaa
set_option maxRecDepth 100000
set_option linter.unusedSimpArgs false
set_option linter.unusedVariables false
theorem cnt_step {F:Func} {b:Block} {bs:List Block} {i:Nat} (hF:F.blocks_.all headOk=true) (hp:0≤F.params_∧F.params_≤4) (hl:F.blocks_.length≤8) (hd:F.blocks_.drop i=b :: bs) :
    cntB (F.blocks_.take (i + 1)) F.params_=cntB (F.blocks_.take i) F.params_ + szI b∧0≤cntB (F.blocks_.take i) F.params_∧cntB (F.blocks_.take i) F.params_≤4 + 84 * 8:=by
  obtain ⟨t1,t2,hi,hbm⟩:=take_snoc hd
  obtain ⟨p0,p1,p2,e,e1,e2⟩:=headOk_sz (List.all_eq_true.1 hF b hbm)
  have htk:(F.blocks_.take i).all headOk=true:=List.all_eq_true.2 fun x hx=>List.all_eq_true.1 hF x (List.mem_of_mem_take hx)
  have hlen:(F.blocks_.take i).length=i:=by rw [List.length_take];omega
  obtain ⟨c1,c2,c3⟩:=cntB_sum (F.blocks_.take i) F.params_ htk hp.1 (by rw [hlen];omega)
  rw [hlen] at c3
  refine ⟨?_,by omega,by omega⟩
  rw [t1]
  have:cntB (F.blocks_.take i++[b]) F.params_=IntKind.i64.wrap (cntB (F.blocks_.take i) F.params_ + IntKind.i64.wrap (b.params_ + b.insts_.length)):=by simp [cntB]
  rw [this,e,wrap_id (by omega) (by omega)]
theorem firsts_get:∀ (bs:List Block) (m:Int) (k:Nat),k < bs.length→(firsts bs m)[k]? = some (cntB (bs.take k) m)
  | [],m,k,h=>by simp at h
  | b :: bs,m,0,h=>rfl
  | b :: bs,m,k + 1,h=>by
    simp only [firsts,List.getElem?_cons_succ,List.take_succ_cons,cntB_cons]
    exact firsts_get bs _ k (by simpa using h)
def okW (w:Ways) (n b:Int):Prop:=okV w.view_.v n∧(0≤bk w.view_.v n→(0≤b∧b < w.dom_.length)∧bk w.view_.v n < (w.dom_[b.toNat]?.getD default).length)
end Go.Proofs.Ytnomiclfiijniaa
end

section
namespace Go.Proofs.Ytnomiclfiijniaa
set_option maxRecDepth 100000
set_option linter.unusedSimpArgs false
set_option linter.unusedVariables false
def usedL (b:Block):List Int:=(if b.end_=2 then [] else [b.value_])++b.jumps_.flatMap (·.args_)
section
variable {α:Type} {b:Block} {fn:Nat} {caps:List V} {L:Nat} {Hs:α→Heap} {f:α→Int→α}
end
end Go.Proofs.Ytnomiclfiijniaa
end

section
namespace Go.Proofs.Ytnomiclfiijniaa
set_option maxRecDepth 100000
set_option linter.unusedSimpArgs false
set_option linter.unusedVariables false
theorem upto_all (l:List Int):(upto l.length fun i=>[V.d (D.int IntKind.i64 (l[i]?.getD 0))])=rI l:=by
  have:=upto_take l (Nat.le_refl _)
  rwa [List.take_length] at this
def smallEnd (b:Block):Prop:=b.jumps_.length≤2∧∀ j∈b.jumps_,j.args_.length≤100
end Go.Proofs.Ytnomiclfiijniaa
end

section
namespace Go.Proofs.Ytnomiclfiijniaa
set_option maxRecDepth 100000
set_option linter.unusedSimpArgs false
set_option linter.unusedVariables false
structure OkF (w:Ways):Prop where
  len:w.all_.length≤8
  blk:∀ k∈listB w.all_,0≤k∧k < w.view_.v.blocks_.length∧k < w.view_.v.first_.length
  fin:∀ k∈listB w.all_,smallEnd (w.view_.v.blocks_[k.toNat]?.getD default)
  ins:∀ k∈listB w.all_,(w.view_.v.blocks_[k.toNat]?.getD default).insts_.length≤1000∧∀ x∈(w.view_.v.blocks_[k.toNat]?.getD default).insts_,x.args_.length≤1000∧∀ n∈x.args_,okW w n k
  use:∀ k∈listB w.all_,∀ n∈usedL (w.view_.v.blocks_[k.toNat]?.getD default),okW w n k
theorem good_vals {F : Func} (h : goodF F = true) {b : Block} (hb : b ∈ F.blocks_) : b.insts_.length ≤ 80 ∧ (∀ x ∈ b.insts_, x.args_.length ≤ 1000 ∧ ∀ n ∈ x.args_, 0 ≤ n ∧ n < many F) ∧ ∀ n ∈ usedL b, 0 ≤ n ∧ n < many F := by
  obtain ⟨hp,hl,hh,hm,hc,hs,hbo⟩:=goodF_spec h
  have hm0:0≤many F:=by omega
  have inr:∀ n,inR n 0 (IntKind.i64.wrap (many F - 1))=true→0≤n∧n < many F:=fun n q=>by
    have:=inR_t.1 q
    rw [wrap_sub (by omega) (by omega)] at this
    omega
  have alln:∀ l:List Int,allIn l 0 (IntKind.i64.wrap (many F - 1))=true→∀ n∈l,0≤n∧n < many F:=fun l q n hn=>inr n (List.all_eq_true.1 q n hn)
  have h1:=List.all_eq_true.1 hbo b hb
  simp only [bodyOk,Bool.and_eq_true] at h1
  have hd:=headOk_sz (List.all_eq_true.1 hh b hb)
  refine ⟨by omega,fun x hx=>?_,fun n hn=>?_⟩
  · have q:=List.all_eq_true.1 h1.1 x hx
    simp only [instOk,Bool.and_eq_true,decide_eq_true_eq] at q
    have har:arity x.op_≤1000:=by
      unfold arity arity1
      repeat' split
      all_goals omega
    exact ⟨by omega,alln _ q.2.2.1⟩
  · have h2:=h1.2
    have js:jumpsOk F.blocks_ (many F) b.jumps_=true→n∈b.jumps_.flatMap (·.args_)→0≤n∧n < many F:=fun q hn=>by
      obtain ⟨j,hj,hn⟩:=List.mem_flatMap.1 hn
      have q2:=List.all_eq_true.1 q j hj
      simp only [jumpOk,Bool.and_eq_true] at q2
      exact alln _ q2.2.2 n hn
    unfold usedL at hn
    unfold endsOk at h2
    split at h2
    · rename_i e
      rw [if_neg (by omega)] at hn
      simp only [Bool.and_eq_true] at h2
      rcases List.mem_append.1 hn with q | q
      · rw [List.mem_singleton.1 q];exact inr _ h2.2.1
      · exact js h2.2.2 q
    · split at h2
      · rename_i e
        rw [if_pos e] at hn
        simp only [Bool.and_eq_true] at h2
        rcases List.mem_append.1 hn with q | q
        · exact absurd q List.not_mem_nil
        · exact js h2.2.2 q
      · split at h2
        · rename_i e
          rw [if_neg (by omega)] at hn
          simp only [Bool.and_eq_true] at h2
          rcases List.mem_append.1 hn with q | q
          · rw [List.mem_singleton.1 q];exact inr _ h2.2.1
          · exact js h2.2.2 q
        · cases h2
theorem firsts_len:∀ (bs:List Block) (m:Int),(firsts bs m).length=bs.length
  | [],_=>rfl
  | b :: bs,m=>by simp only [firsts,List.length_cons,firsts_len bs]
end Go.Proofs.Ytnomiclfiijniaa
end
