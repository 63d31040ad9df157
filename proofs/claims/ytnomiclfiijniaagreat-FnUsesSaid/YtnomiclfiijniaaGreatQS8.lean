/- What both programs tell of a value's place is the same: plain law. No condition. -/
import Derived.Test.YtnomiclfiijniaaGreatQS7
namespace Go.Proofs.YtnomiclfiijniaaGreat
set_option linter.unusedSimpArgs false
set_option linter.unusedVariables false
def szI (b:Block):Int:=b.params_ + b.insts_.length
def sumI:List Block→Int
  | []=>0
  | b :: bs=>szI b + sumI bs
theorem headOk_sz {b:Block} (h:headOk b=true):0≤b.params_∧b.params_≤4∧(b.insts_.length:Int)≤80∧IntKind.i64.wrap (b.params_ + b.insts_.length)=szI b∧0≤szI b∧szI b≤84:=by
  simp only [headOk,Bool.and_eq_true,decide_eq_true_eq] at h
  have:=inR_t.1 h.1
  refine ⟨this.1,this.2,by omega,wrap_id (by omega) (by omega), ?_, ?_⟩ <;> unfold szI <;> omega
theorem cntB_sum:∀ (bs:List Block) (m:Int),bs.all headOk=true→0≤m→m + 84 * bs.length≤9223372036854775807→cntB bs m=m + sumI bs∧0≤sumI bs∧sumI bs≤84 * bs.length
  | [],m,_,_,_=>by simp [cntB,sumI]
  | b :: bs,m,h,h0,h1=>by
    simp only [List.all_cons,Bool.and_eq_true] at h
    obtain ⟨_,_,_,e,e1,e2⟩:=headOk_sz h.1
    simp only [List.length_cons] at h1
    have hw:IntKind.i64.wrap (m + szI b)=m + szI b:=wrap_id (by omega) (by omega)
    obtain ⟨q1,q2,q3⟩:=cntB_sum bs (m + szI b) h.2 (by omega) (by omega)
    rw [cntB_cons,e,hw,q1]
    simp only [sumI,List.length_cons]
    omega
def loc (n:Int):List Block→Nat→Int→Nat × Int
  | [],_,_=>(0,-1)
  | b :: bs,i,m=>if n < m + szI b then (i,n - m - b.params_) else loc n bs (i + 1) (m + szI b)
theorem loc_spec (n : Int) : ∀ (bs : List Block) (i : Nat) (m : Int), bs.all headOk = true → 0 ≤ m → m ≤ n → n < m + sumI bs → m + 84 * bs.length ≤ 9223372036854775807 →
    ∃ k,k < bs.length∧(loc n bs i m).1=i + k∧(blkOf bs i)[(n - m).toNat]? = some ((i + k:Nat):Int)∧∃ s,(firsts bs m)[k]? = some s∧0≤s∧s≤n∧(loc n bs i m).2=n - s - (bs[k]?.getD default).params_ ∧
      headOk (bs[k]?.getD default)=true∧(loc n bs i m).2 < (bs[k]?.getD default).insts_.length
  | [],i,m,_,_,h1,h2,_=>by simp only [sumI] at h2;omega
  | b :: bs, i, m, h, h0, h1, h2, h3 => by
    simp only [List.all_cons,Bool.and_eq_true] at h
    obtain ⟨p0,p1,p2,e,e1,e2⟩:=headOk_sz h.1
    simp only [List.length_cons] at h3
    simp only [sumI] at h2
    have hw:IntKind.i64.wrap (m + szI b)=m + szI b:=wrap_id (by omega) (by omega)
    by_cases hc:n < m + szI b
    · refine ⟨0,by simp,by simp [loc,hc], ?_,m,by simp [firsts],h0,h1,by simp [loc,hc],by simpa using h.1, ?_⟩
      · simp only [blkOf,e]
        rw [List.getElem?_append_left (by simp;omega),List.getElem?_replicate,if_pos (by omega)]
        simp
      · simp only [loc,if_pos hc,List.getElem?_cons_zero,Option.getD_some]
        unfold szI at hc
        omega
    · obtain ⟨k,q1,q2,q3,s,q4,q5,q6,q7,q8,q9⟩:=loc_spec n bs (i + 1) (m + szI b) h.2 (by omega) (by omega) (by omega) (by omega)
      refine ⟨k + 1,by simp;omega, ?_, ?_,s, ?_,q5,q6, ?_,by simpa using q8, ?_⟩
      · simp only [loc,if_neg hc];omega
      · simp only [blkOf,e]
        rw [List.getElem?_append_right (by simp;omega),List.length_replicate]
        have e3:(n - m).toNat - (szI b).toNat=(n - (m + szI b)).toNat:=by omega
        rw [e3,q3]
        congr 2
        omega
      · simp only [firsts,e,hw,List.getElem?_cons_succ];exact q4
      · simp only [loc,if_neg hc,List.getElem?_cons_succ];exact q7
      · simp only [loc,if_neg hc,List.getElem?_cons_succ];exact q9
theorem wrap_sub {a b:Int} (h1:-1000000≤a - b) (h2:a - b≤1000000):IntKind.i64.wrap (a - b)=a - b:=wrap_id (by omega) (by omega)
theorem instS_none (F : Func) (n : Int) (hF : F.blocks_.all headOk = true) (hp : 0 ≤ F.params_ ∧ F.params_ ≤ 4) (hl : F.blocks_.length ≤ 8) (hn : -1000 ≤ n ∧ n ≤ 1000) : ∀ (bs : List Block) (i : Nat), F.blocks_.drop i = bs → n < cntB (F.blocks_.take i) F.params_ → instS F n bs i = (-1, -1)
  | [],i,_,_=>rfl
  | b :: bs, i, hd, hlt => by
    have hi:i < F.blocks_.length:=by
      by_cases h:i < F.blocks_.length
      · exact h
      · rw [List.drop_eq_nil_of_le (by omega)] at hd;cases hd
    have hbm:b∈F.blocks_:=List.mem_of_mem_drop (by rw [hd];simp:b∈F.blocks_.drop i)
    obtain ⟨p0,p1,p2,e,e1,e2⟩:=headOk_sz (List.all_eq_true.1 hF b hbm)
    have htk:(F.blocks_.take i).all headOk=true:=List.all_eq_true.2 fun x hx=>List.all_eq_true.1 hF x (List.mem_of_mem_take hx)
    have hlen:(F.blocks_.take i).length=i:=by rw [List.length_take];omega
    obtain ⟨c1,c2,c3⟩:=cntB_sum (F.blocks_.take i) F.params_ htk hp.1 (by rw [hlen];omega)
    rw [hlen] at c3
    have w1:IntKind.i64.wrap (n - cntB (F.blocks_.take i) F.params_)=n - cntB (F.blocks_.take i) F.params_:=wrap_sub (by omega) (by omega)
    have w2:IntKind.i64.wrap (n - cntB (F.blocks_.take i) F.params_ - b.params_)=n - cntB (F.blocks_.take i) F.params_ - b.params_:=wrap_sub (by omega) (by omega)
    have hno:inR (n - cntB (F.blocks_.take i) F.params_ - b.params_) 0 (IntKind.i64.wrap (b.insts_.length - 1))=false:=inR_f.2 (by omega)
    simp only [instS,w1,w2,hno,Bool.false_eq_true,if_false]
    refine instS_none F n hF hp hl hn bs (i + 1) ?_ ?_
    · rw [← List.drop_drop,hd];rfl
    · have e3:F.blocks_.take (i + 1)=F.blocks_.take i++[b]:=by
        rw [List.take_add_one]
        have:F.blocks_[i]? = some b:=by
          have:=congrArg List.head? hd
          simpa [List.head?_drop] using this
        rw [this];rfl
      rw [e3]
      have e4:cntB (F.blocks_.take i++[b]) F.params_=IntKind.i64.wrap (cntB (F.blocks_.take i) F.params_ + IntKind.i64.wrap (b.params_ + b.insts_.length)):=by simp [cntB]
      rw [e4,e,wrap_id (by omega) (by omega)]
      omega
theorem take_snoc {F:Func} {b:Block} {bs:List Block} {i:Nat} (hd:F.blocks_.drop i=b :: bs):F.blocks_.take (i + 1)=F.blocks_.take i++[b]∧F.blocks_.drop (i + 1)=bs∧i < F.blocks_.length∧b∈F.blocks_:=by
  have hi:i < F.blocks_.length:=by
    by_cases h:i < F.blocks_.length
    · exact h
    · rw [List.drop_eq_nil_of_le (by omega)] at hd;cases hd
  refine ⟨?_,by rw [← List.drop_drop,hd];rfl,hi,List.mem_of_mem_drop (by rw [hd];simp:b∈F.blocks_.drop i)⟩
  rw [List.take_add_one]
  have:F.blocks_[i]? = some b:=by
    have:=congrArg List.head? hd
    simpa [List.head?_drop] using this
  rw [this];rfl
theorem instS_loc (F : Func) (n : Int) (hF : F.blocks_.all headOk = true) (hp : 0 ≤ F.params_ ∧ F.params_ ≤ 4) (hl : F.blocks_.length ≤ 8) (hn : -1000 ≤ n ∧ n ≤ 1000) : ∀ (bs : List Block) (i : Nat), F.blocks_.drop i = bs → cntB (F.blocks_.take i) F.params_ ≤ n → n < cntB (F.blocks_.take i) F.params_ + sumI bs →
    instS F n bs i=if 0≤(loc n bs i (cntB (F.blocks_.take i) F.params_)).2 then (((loc n bs i (cntB (F.blocks_.take i) F.params_)).1:Int),(loc n bs i (cntB (F.blocks_.take i) F.params_)).2) else (-1,-1)
  | [],i,_,h1,h2=>by simp only [sumI] at h2;omega
  | b :: bs, i, hd, h1, h2 => by
    obtain ⟨t1,t2,hi,hbm⟩:=take_snoc hd
    obtain ⟨p0,p1,p2,e,e1,e2⟩:=headOk_sz (List.all_eq_true.1 hF b hbm)
    have htk:(F.blocks_.take i).all headOk=true:=List.all_eq_true.2 fun x hx=>List.all_eq_true.1 hF x (List.mem_of_mem_take hx)
    have hlen:(F.blocks_.take i).length=i:=by rw [List.length_take];omega
    obtain ⟨c1,c2,c3⟩:=cntB_sum (F.blocks_.take i) F.params_ htk hp.1 (by rw [hlen];omega)
    rw [hlen] at c3
    have e4:cntB (F.blocks_.take (i + 1)) F.params_=cntB (F.blocks_.take i) F.params_ + szI b:=by
      rw [t1]
      have:cntB (F.blocks_.take i++[b]) F.params_=IntKind.i64.wrap (cntB (F.blocks_.take i) F.params_ + IntKind.i64.wrap (b.params_ + b.insts_.length)):=by simp [cntB]
      rw [this,e,wrap_id (by omega) (by omega)]
    have w1:IntKind.i64.wrap (n - cntB (F.blocks_.take i) F.params_)=n - cntB (F.blocks_.take i) F.params_:=wrap_sub (by omega) (by omega)
    have w2:IntKind.i64.wrap (n - cntB (F.blocks_.take i) F.params_ - b.params_)=n - cntB (F.blocks_.take i) F.params_ - b.params_:=wrap_sub (by omega) (by omega)
    have w3:IntKind.i64.wrap ((b.insts_.length:Int) - 1)=(b.insts_.length:Int) - 1:=wrap_sub (by omega) (by omega)
    by_cases hc:n < cntB (F.blocks_.take i) F.params_ + szI b
    · by_cases ha:0≤n - cntB (F.blocks_.take i) F.params_ - b.params_
      · have hyes:inR (n - cntB (F.blocks_.take i) F.params_ - b.params_) 0 ((b.insts_.length:Int) - 1)=true:=inR_t.2 ⟨ha,by unfold szI at hc;omega⟩
        simp only [instS,w1,w2,w3,hyes,if_true,loc,if_pos hc,if_pos ha]
      · have hno:inR (n - cntB (F.blocks_.take i) F.params_ - b.params_) 0 ((b.insts_.length:Int) - 1)=false:=inR_f.2 (by omega)
        simp only [instS,w1,w2,w3,hno,Bool.false_eq_true,if_false,loc,if_pos hc,if_neg ha]
        exact instS_none F n hF hp hl hn bs (i + 1) t2 (by rw [e4];exact hc)
    · have hno:inR (n - cntB (F.blocks_.take i) F.params_ - b.params_) 0 ((b.insts_.length:Int) - 1)=false:=inR_f.2 (by unfold szI at hc;omega)
      simp only [instS,w1,w2,w3,hno,Bool.false_eq_true,if_false,loc,if_neg hc]
      have:=instS_loc F n hF hp hl hn bs (i + 1) t2 (by rw [e4];omega) (by rw [e4];simp only [sumI] at h2;omega)
      rw [e4] at this
      exact this
end Go.Proofs.YtnomiclfiijniaaGreat
