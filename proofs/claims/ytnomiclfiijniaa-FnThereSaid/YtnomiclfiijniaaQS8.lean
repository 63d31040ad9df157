/- What both programs tell of a value's place is the same: plain law. No condition. -/
import Derived.Test.YtnomiclfiijniaaQS6
section
namespace Go.Proofs.Ytnomiclfiijniaa
set_option maxRecDepth 100000
set_option linter.unusedSimpArgs false
set_option linter.unusedVariables false
theorem hasBlock_c (v:View) (k:Int):PureP Try.prog 71 [.d (.rp 5 (dView v)),.d (.int .i64 k)] (· = .d (.bool (inR k 0 (IntKind.i64.wrap (v.blocks_.length - 1))))):=by
  refine pure_of Try.func71 en_71 rfl rfl (W_run mixed ⟨[K_47],[K_47h],[],14,0,[0,1,4],[]⟩ (fun _=>[]) (by kernel_rfl) ?_)
  simp only [Try.f71,stripX,stripOps,pickOps]
  simp [K_47_f,K_47_e,K_47h_f,K_47h_e,K_47h_g]
noncomputable def K_71:Ent Try.prog:=Ent.p2 (α:=Ptr View) (β:=Int) 71 (fun v k=>True) (fun v k=>.d (.bool (inR k 0 (IntKind.i64.wrap (v.v.blocks_.length - 1))))) (fun v k hc=>hasBlock_c v.v k)
theorem K_71_f:K_71.f=71:=rfl
theorem K_71_e (v:View) (k:Int):K_71.e [.d (.rp 5 (dView v)),.d (.int .i64 k)]=some (True,.d (.bool (inR k 0 (IntKind.i64.wrap (v.blocks_.length - 1)))),[]):=by unfold K_71;exact Ent.p2_eq (α:=Ptr View) (β:=Int) (Ptr.mk v) k
noncomputable def K_71h:EntH Try.prog:=EntH.pk2 (α:=Ptr View) (β:=Int) 71 (fun v k=>True) (fun v k=>.d (.bool (inR k 0 (IntKind.i64.wrap (v.v.blocks_.length - 1))))) (fun v k=>[]) (fun v k hc=>PureP.ans (hasBlock_c v.v k))
theorem K_71h_f:K_71h.f=71:=rfl
theorem K_71h_g:K_71h.gro=true:=rfl
theorem K_71h_e {x1 x2:V} {H:Heap}:K_71h.e [x1,x2] H=guardR ((decA (α:=Ptr View) H x1).1∧(decA (α:=Int) H x2).1) (peekR (True) (.d (.bool (inR (decA (α:=Int) H x2).2 0 (IntKind.i64.wrap ((decA (α:=Ptr View) H x1).2.v.blocks_.length - 1))))) ([]) H):=rfl
def bk (v:View) (n:Int):Int:=v.block_[n.toNat]?.getD 0
def blkAt (v:View) (n:Int):Block:=v.blocks_[(bk v n).toNat]?.getD default
def atV (v:View) (n:Int):Int:=IntKind.i64.wrap (IntKind.i64.wrap (n - (v.first_[(bk v n).toNat]?.getD 0)) - (blkAt v n).params_)
def instI (v:View) (n:Int):Inst:=(blkAt v n).insts_[(atV v n).toNat]?.getD default
def okV (v:View) (n:Int):Prop:=(0≤n∧n < v.block_.length)∧(0≤bk v n→bk v n < v.first_.length∧bk v n < v.blocks_.length∧(0≤atV v n→atV v n < (blkAt v n).insts_.length))
def instV (v:View) (n:Int):V :=
  if bk v n < 0 then .tup [.d .nilp,.d (.int .i64 (-1)),.d (.int .i64 (-1))] else if atV v n < 0 then .tup [.d .nilp,.d (.int .i64 (bk v n)),.d (.int .i64 (atV v n))]
  else .tup [.d (.rp 3 (dInst (instI v n))),.d (.int .i64 (bk v n)),.d (.int .i64 (atV v n))]
theorem inst_c (v:View) (n:Int) (h:okV v n):PureP Try.prog 42 [.d (.rp 5 (dView v)),.d (.int .i64 n)] (· = instV v n):=by
  obtain ⟨h1,h2⟩:=h
  have e1:v.block_[n.toNat]?.getD 0=bk v n:=rfl
  have e2:v.blocks_[(bk v n).toNat]?.getD default=blkAt v n:=rfl
  have e3:IntKind.i64.wrap (IntKind.i64.wrap (n - (v.first_[(bk v n).toNat]?.getD 0)) - (blkAt v n).params_)=atV v n:=rfl
  have e4:(blkAt v n).insts_[(atV v n).toNat]?.getD default=instI v n:=rfl
  refine pure_of Try.func42 en_42 rfl rfl (W_run mixed ⟨[],[],[],54,0,[0,1,4,5,6,7,8,17,38],[17,38]⟩ (fun | 4=>[0,1,2,3,5,9,10,11,12,14,4,6,7,8,13,15,16,17,18,19] | _=>[]) (by kernel_rfl) ?_)
  simp only [Try.f42,stripX,stripOps,pickOps]
  simp [e1,e2,e3,e4]
  refine ⟨h1,fun q=>by simp [instV,q],fun q=>?_⟩
  obtain ⟨h3,h4,h5⟩:=h2 q
  refine ⟨⟨q,h3⟩,⟨q,h4⟩,fun q2=>?_,fun q2=>⟨⟨q,h4⟩,⟨q2,h5 q2⟩, ?_⟩⟩
  · have:¬ bk v n < 0:=by omega
    simp [instV,this,q2]
  · have q3:¬ bk v n < 0:=by omega
    have q4:¬ atV v n < 0:=by omega
    simp [instV,q3,q4]
noncomputable def K_42:Ent Try.prog:=Ent.p2 (α:=Ptr View) (β:=Int) 42 (fun v n=>okV v.v n) (fun v n=>instV v.v n) (fun v n hc=>inst_c v.v n hc)
theorem K_42_f:K_42.f=42:=rfl
theorem K_42_e (v:View) (n:Int):K_42.e [.d (.rp 5 (dView v)),.d (.int .i64 n)]=some (okV v n,instV v n,[]):=by unfold K_42;exact Ent.p2_eq (α:=Ptr View) (β:=Int) (Ptr.mk v) n
noncomputable def K_42h:EntH Try.prog:=EntH.pk2 (α:=Ptr View) (β:=Int) 42 (fun v n=>okV v.v n) (fun v n=>instV v.v n) (fun v n=>[]) (fun v n hc=>PureP.ans (inst_c v.v n hc))
theorem K_42h_f:K_42h.f=42:=rfl
theorem K_42h_g:K_42h.gro=true:=rfl
theorem K_42h_e {x1 x2:V} {H:Heap}:K_42h.e [x1,x2] H=guardR ((decA (α:=Ptr View) H x1).1∧(decA (α:=Int) H x2).1) (peekR (okV (decA (α:=Ptr View) H x1).2.v (decA (α:=Int) H x2).2) (instV (decA (α:=Ptr View) H x1).2.v (decA (α:=Int) H x2).2) ([]) H):=rfl
def pureOp (op:Int):Bool:=!decide (op=8) && (!decide (op=12) && !decide (op=13))
def pureV (v:View) (n:Int):Bool:=decide (0≤bk v n) && (decide (0≤atV v n) && pureOp (instI v n).op_)
def isVal (F:Func) (n:Int):Bool:=goodF F && inR n 0 (IntKind.i64.wrap (many F - 1))
theorem l14Is_c (F:Func) (n:Int) (hF:Enc.good F):PureP Try.prog 76 [vFunc F,.d (.int .i64 n)] (· = .d (.bool (isVal F n))):=by
  refine pure_of Try.func76 en_76 rfl rfl (W_run mixed ⟨[K_23,K_39,K_44],[K_23h,K_39h,K_44h],[],14,0,[0,1,2,4],[7]⟩ (fun _=>[]) (by kernel_rfl) ?_)
  simp only [Try.f76,stripX,stripOps,pickOps]
  simp [K_23_f,K_23_e,K_39_f,K_39_e,K_44_f,K_44_e,K_23h_f,K_23h_e,K_39h_f,K_39h_e,K_44h_f,K_44h_e,K_23h_g,K_39h_g,K_44h_g,hF]
  repeat' first | apply And.intro | intro _
  all_goals simp [isVal,many, *]
noncomputable def K_76:Ent Try.prog:=Ent.p2 (α:=Func) (β:=Int) 76 (fun F n=>Enc.good F) (fun F n=>.d (.bool (isVal F n))) (fun F n hc=>l14Is_c F n hc)
theorem K_76_f:K_76.f=76:=rfl
theorem K_76_e (F0:Int) (F1:List Block) (n:Int):K_76.e [.agg [.d (.int .i64 F0),.d (dBlockS F1)],.d (.int .i64 n)]=some (Enc.good (Func.mk F0 F1),.d (.bool (isVal (Func.mk F0 F1) n)),[]):=by unfold K_76;exact Ent.p2_eq (α:=Func) (β:=Int) (Func.mk F0 F1) n
noncomputable def K_76h:EntH Try.prog:=EntH.pk2 (α:=Func) (β:=Int) 76 (fun F n=>Enc.good F) (fun F n=>.d (.bool (isVal F n))) (fun F n=>[]) (fun F n hc=>PureP.ans (l14Is_c F n hc))
theorem K_76h_f:K_76h.f=76:=rfl
theorem K_76h_g:K_76h.gro=true:=rfl
theorem K_76h_e {x1 x2:V} {H:Heap}:K_76h.e [x1,x2] H=guardR ((decA (α:=Func) H x1).1∧(decA (α:=Int) H x2).1) (peekR (Enc.good (decA (α:=Func) H x1).2) (.d (.bool (isVal (decA (α:=Func) H x1).2 (decA (α:=Int) H x2).2))) ([]) H):=rfl
def instS (F:Func) (n:Int):List Block→Nat→Int × Int
  | [],_=>(-1,-1)
  | b :: bs,i =>
    let a:=IntKind.i64.wrap (IntKind.i64.wrap (n - cntB (F.blocks_.take i) F.params_) - b.params_)
    if inR a 0 (IntKind.i64.wrap (b.insts_.length - 1))=true then (i,a) else instS F n bs (i + 1)
end Go.Proofs.Ytnomiclfiijniaa
end

section
namespace Go.Proofs.Ytnomiclfiijniaa
set_option linter.unusedSimpArgs false
set_option linter.unusedVariables false
def szI (b:Block):Int:=b.params_ + b.insts_.length
def sumI:List Block→Int
  | []=>0
  | b :: bs=>szI b + sumI bs
theorem headOk_sz {b:Block} (h:headOk b=true):0≤b.params_∧b.params_≤4∧(b.insts_.length:Int)≤80∧IntKind.i64.wrap (b.params_ + b.insts_.length)=szI b∧0≤szI b∧szI b≤84:=by
  simp only [headOk,Bool.and_eq_true,decide_eq_true_eq] at h
  have:=inR_t.1 h.1
  refine ⟨this.1,this.2,by omega,wrap_id (by omega) (by omega), ?_, ?_⟩ <;> unfold szI <;> omega
theorem cntB_sum:∀ (bs:List Block) (m:Int),bs.all headOk=true→0≤m→m + 84 * bs.length≤9223372036854775807→cntB bs m=m + sumI bs∧0≤sumI bs∧sumI bs≤84 * bs.length
  | [],m,_,_,_=>by simp [cntB,sumI]
  | b :: bs,m,h,h0,h1=>by
    simp only [List.all_cons,Bool.and_eq_true] at h
    obtain ⟨_,_,_,e,e1,e2⟩:=headOk_sz h.1
    simp only [List.length_cons] at h1
    have hw:IntKind.i64.wrap (m + szI b)=m + szI b:=wrap_id (by omega) (by omega)
    obtain ⟨q1,q2,q3⟩:=cntB_sum bs (m + szI b) h.2 (by omega) (by omega)
    rw [cntB_cons,e,hw,q1]
    simp only [sumI,List.length_cons]
    omega
def loc (n:Int):List Block→Nat→Int→Nat × Int
  | [],_,_=>(0,-1)
  | b :: bs,i,m=>if n < m + szI b then (i,n - m - b.params_) else loc n bs (i + 1) (m + szI b)
theorem loc_spec (n : Int) : ∀ (bs : List Block) (i : Nat) (m : Int), bs.all headOk = true → 0 ≤ m → m ≤ n → n < m + sumI bs → m + 84 * bs.length ≤ 9223372036854775807 →
    ∃ k,k < bs.length∧(loc n bs i m).1=i + k∧(blkOf bs i)[(n - m).toNat]? = some ((i + k:Nat):Int)∧∃ s,(firsts bs m)[k]? = some s∧0≤s∧s≤n∧(loc n bs i m).2=n - s - (bs[k]?.getD default).params_ ∧
      headOk (bs[k]?.getD default)=true∧(loc n bs i m).2 < (bs[k]?.getD default).insts_.length
  | [],i,m,_,_,h1,h2,_=>by simp only [sumI] at h2;omega
  | b :: bs, i, m, h, h0, h1, h2, h3 => by
    simp only [List.all_cons,Bool.and_eq_true] at h
    obtain ⟨p0,p1,p2,e,e1,e2⟩:=headOk_sz h.1
    simp only [List.length_cons] at h3
    simp only [sumI] at h2
    have hw:IntKind.i64.wrap (m + szI b)=m + szI b:=wrap_id (by omega) (by omega)
    by_cases hc:n < m + szI b
    · refine ⟨0,by simp,by simp [loc,hc], ?_,m,by simp [firsts],h0,h1,by simp [loc,hc],by simpa using h.1, ?_⟩
      · simp only [blkOf,e]
        rw [List.getElem?_append_left (by simp;omega),List.getElem?_replicate,if_pos (by omega)]
        simp
      · simp only [loc,if_pos hc,List.getElem?_cons_zero,Option.getD_some]
        unfold szI at hc
        omega
    · obtain ⟨k,q1,q2,q3,s,q4,q5,q6,q7,q8,q9⟩:=loc_spec n bs (i + 1) (m + szI b) h.2 (by omega) (by omega) (by omega) (by omega)
      refine ⟨k + 1,by simp;omega, ?_, ?_,s, ?_,q5,q6, ?_,by simpa using q8, ?_⟩
      · simp only [loc,if_neg hc];omega
      · simp only [blkOf,e]
        rw [List.getElem?_append_right (by simp;omega),List.length_replicate]
        have e3:(n - m).toNat - (szI b).toNat=(n - (m + szI b)).toNat:=by omega
        rw [e3,q3]
        congr 2
        omega
      · simp only [firsts,e,hw,List.getElem?_cons_succ];exact q4
      · simp only [loc,if_neg hc,List.getElem?_cons_succ];exact q7
      · simp only [loc,if_neg hc,List.getElem?_cons_succ];exact q9
theorem wrap_sub {a b:Int} (h1:-1000000≤a - b) (h2:a - b≤1000000):IntKind.i64.wrap (a - b)=a - b:=wrap_id (by omega) (by omega)
theorem instS_none (F : Func) (n : Int) (hF : F.blocks_.all headOk = true) (hp : 0 ≤ F.params_ ∧ F.params_ ≤ 4) (hl : F.blocks_.length ≤ 8) (hn : -1000 ≤ n ∧ n ≤ 1000) : ∀ (bs : List Block) (i : Nat), F.blocks_.drop i = bs → n < cntB (F.blocks_.take i) F.params_ → instS F n bs i = (-1, -1)
  | [],i,_,_=>rfl
  | b :: bs, i, hd, hlt => by
    have hi:i < F.blocks_.length:=by
      by_cases h:i < F.blocks_.length
      · exact h
      · rw [List.drop_eq_nil_of_le (by omega)] at hd;cases hd
    have hbm:b∈F.blocks_:=List.mem_of_mem_drop (by rw [hd];simp:b∈F.blocks_.drop i)
    obtain ⟨p0,p1,p2,e,e1,e2⟩:=headOk_sz (List.all_eq_true.1 hF b hbm)
    have htk:(F.blocks_.take i).all headOk=true:=List.all_eq_true.2 fun x hx=>List.all_eq_true.1 hF x (List.mem_of_mem_take hx)
    have hlen:(F.blocks_.take i).length=i:=by rw [List.length_take];omega
    obtain ⟨c1,c2,c3⟩:=cntB_sum (F.blocks_.take i) F.params_ htk hp.1 (by rw [hlen];omega)
    rw [hlen] at c3
    have w1:IntKind.i64.wrap (n - cntB (F.blocks_.take i) F.params_)=n - cntB (F.blocks_.take i) F.params_:=wrap_sub (by omega) (by omega)
    have w2:IntKind.i64.wrap (n - cntB (F.blocks_.take i) F.params_ - b.params_)=n - cntB (F.blocks_.take i) F.params_ - b.params_:=wrap_sub (by omega) (by omega)
    have hno:inR (n - cntB (F.blocks_.take i) F.params_ - b.params_) 0 (IntKind.i64.wrap (b.insts_.length - 1))=false:=inR_f.2 (by omega)
    simp only [instS,w1,w2,hno,Bool.false_eq_true,if_false]
    refine instS_none F n hF hp hl hn bs (i + 1) ?_ ?_
    · rw [← List.drop_drop,hd];rfl
    · have e3:F.blocks_.take (i + 1)=F.blocks_.take i++[b]:=by
        rw [List.take_add_one]
        have:F.blocks_[i]? = some b:=by
          have:=congrArg List.head? hd
          simpa [List.head?_drop] using this
        rw [this];rfl
      rw [e3]
      have e4:cntB (F.blocks_.take i++[b]) F.params_=IntKind.i64.wrap (cntB (F.blocks_.take i) F.params_ + IntKind.i64.wrap (b.params_ + b.insts_.length)):=by simp [cntB]
      rw [e4,e,wrap_id (by omega) (by omega)]
      omega
theorem take_snoc {F:Func} {b:Block} {bs:List Block} {i:Nat} (hd:F.blocks_.drop i=b :: bs):F.blocks_.take (i + 1)=F.blocks_.take i++[b]∧F.blocks_.drop (i + 1)=bs∧i < F.blocks_.length∧b∈F.blocks_:=by
  have hi:i < F.blocks_.length:=by
    by_cases h:i < F.blocks_.length
    · exact h
    · rw [List.drop_eq_nil_of_le (by omega)] at hd;cases hd
  refine ⟨?_,by rw [← List.drop_drop,hd];rfl,hi,List.mem_of_mem_drop (by rw [hd];simp:b∈F.blocks_.drop i)⟩
  rw [List.take_add_one]
  have:F.blocks_[i]? = some b:=by
    have:=congrArg List.head? hd
    simpa [List.head?_drop] using this
  rw [this];rfl
theorem instS_loc (F : Func) (n : Int) (hF : F.blocks_.all headOk = true) (hp : 0 ≤ F.params_ ∧ F.params_ ≤ 4) (hl : F.blocks_.length ≤ 8) (hn : -1000 ≤ n ∧ n ≤ 1000) : ∀ (bs : List Block) (i : Nat), F.blocks_.drop i = bs → cntB (F.blocks_.take i) F.params_ ≤ n → n < cntB (F.blocks_.take i) F.params_ + sumI bs →
    instS F n bs i=if 0≤(loc n bs i (cntB (F.blocks_.take i) F.params_)).2 then (((loc n bs i (cntB (F.blocks_.take i) F.params_)).1:Int),(loc n bs i (cntB (F.blocks_.take i) F.params_)).2) else (-1,-1)
  | [],i,_,h1,h2=>by simp only [sumI] at h2;omega
  | b :: bs, i, hd, h1, h2 => by
    obtain ⟨t1,t2,hi,hbm⟩:=take_snoc hd
    obtain ⟨p0,p1,p2,e,e1,e2⟩:=headOk_sz (List.all_eq_true.1 hF b hbm)
    have htk:(F.blocks_.take i).all headOk=true:=List.all_eq_true.2 fun x hx=>List.all_eq_true.1 hF x (List.mem_of_mem_take hx)
    have hlen:(F.blocks_.take i).length=i:=by rw [List.length_take];omega
    obtain ⟨c1,c2,c3⟩:=cntB_sum (F.blocks_.take i) F.params_ htk hp.1 (by rw [hlen];omega)
    rw [hlen] at c3
    have e4:cntB (F.blocks_.take (i + 1)) F.params_=cntB (F.blocks_.take i) F.params_ + szI b:=by
      rw [t1]
      have:cntB (F.blocks_.take i++[b]) F.params_=IntKind.i64.wrap (cntB (F.blocks_.take i) F.params_ + IntKind.i64.wrap (b.params_ + b.insts_.length)):=by simp [cntB]
      rw [this,e,wrap_id (by omega) (by omega)]
    have w1:IntKind.i64.wrap (n - cntB (F.blocks_.take i) F.params_)=n - cntB (F.blocks_.take i) F.params_:=wrap_sub (by omega) (by omega)
    have w2:IntKind.i64.wrap (n - cntB (F.blocks_.take i) F.params_ - b.params_)=n - cntB (F.blocks_.take i) F.params_ - b.params_:=wrap_sub (by omega) (by omega)
    have w3:IntKind.i64.wrap ((b.insts_.length:Int) - 1)=(b.insts_.length:Int) - 1:=wrap_sub (by omega) (by omega)
    by_cases hc:n < cntB (F.blocks_.take i) F.params_ + szI b
    · by_cases ha:0≤n - cntB (F.blocks_.take i) F.params_ - b.params_
      · have hyes:inR (n - cntB (F.blocks_.take i) F.params_ - b.params_) 0 ((b.insts_.length:Int) - 1)=true:=inR_t.2 ⟨ha,by unfold szI at hc;omega⟩
        simp only [instS,w1,w2,w3,hyes,if_true,loc,if_pos hc,if_pos ha]
      · have hno:inR (n - cntB (F.blocks_.take i) F.params_ - b.params_) 0 ((b.insts_.length:Int) - 1)=false:=inR_f.2 (by omega)
        simp only [instS,w1,w2,w3,hno,Bool.false_eq_true,if_false,loc,if_pos hc,if_neg ha]
        exact instS_none F n hF hp hl hn bs (i + 1) t2 (by rw [e4];exact hc)
    · have hno:inR (n - cntB (F.blocks_.take i) F.params_ - b.params_) 0 ((b.insts_.length:Int) - 1)=false:=inR_f.2 (by unfold szI at hc;omega)
      simp only [instS,w1,w2,w3,hno,Bool.false_eq_true,if_false,loc,if_neg hc]
      have:=instS_loc F n hF hp hl hn bs (i + 1) t2 (by rw [e4];omega) (by rw [e4];simp only [sumI] at h2;omega)
      rw [e4] at this
      exact this
end Go.Proofs.Ytnomiclfiijniaa
end
