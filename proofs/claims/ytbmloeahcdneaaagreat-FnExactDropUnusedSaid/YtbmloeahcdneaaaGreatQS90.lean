/- A function without one value that nothing uses: plain laws. No condition. -/
import Derived.Test.YtbmloeahcdneaaaGreatQS13
import Derived.Test.YtbmloeahcdneaaaGreatQS17
import Derived.Test.YtbmloeahcdneaaaGreatQS33
import Derived.Test.YtbmloeahcdneaaaGreatQS61
import Derived.Test.YtbmloeahcdneaaaGreatQS79
import Derived.Test.YtbmloeahcdneaaaGreatQS81
import Derived.Test.YtbmloeahcdneaaaGreatQS80
section
namespace Go.Proofs.YtbmloeahcdneaaaGreat
set_option maxRecDepth 100000
set_option linter.unusedSimpArgs false
set_option linter.unusedVariables false
def pv0 (_:Int):Bool:=false
end Go.Proofs.YtbmloeahcdneaaaGreat
end

section
namespace Go.Proofs.YtbmloeahcdneaaaGreat
set_option maxRecDepth 100000
set_option linter.unusedSimpArgs false
set_option linter.unusedVariables false
theorem mFunc_idem (x:Func) (k:Int):mFunc (mFunc x k).1 k=mFunc x k:=by
  have hi:∀ l k,mkL mI (mkL mI l k).1 k=mkL mI l k:=mkL_idem (fun x k=>rfl)
  have hI:∀ (y:Inst) k,mInst (mInst y k).1 k=mInst y k:=fun y k=>by unfold mInst;simp only [hi]
  have hJ:∀ (y:Jump) k,mJump (mJump y k).1 k=mJump y k:=fun y k=>by unfold mJump;simp only [hi]
  have hB:∀ (y:Block) k,mBlock (mBlock y k).1 k=mBlock y k:=fun y k=>by unfold mBlock;simp only [mkL_idem hI,mkL_idem hJ]
  unfold mFunc
  simp only [mkL_idem hB]
theorem sm_good {F:Func} (h:goodF F=true):Sm.sm F:=by
  obtain ⟨h1,h2⟩:=good_small h
  refine ⟨trivial,by show F.blocks_.length≤_;omega,fun b hb=>?_⟩
  obtain ⟨q1,q2,q3,q4⟩:=h2 b hb
  exact ⟨trivial,⟨by omega,fun x hx=>⟨trivial,trivial,by have:=q3 x hx;exact ⟨by omega,fun _ _=>trivial⟩⟩⟩,trivial,trivial,⟨by omega,fun x hx=>⟨trivial,by have:=q4 x hx;exact ⟨by omega,fun _ _=>trivial⟩⟩⟩⟩
end Go.Proofs.YtbmloeahcdneaaaGreat
end

section
namespace Go.Proofs.YtbmloeahcdneaaaGreat
set_option maxRecDepth 100000
set_option linter.unusedSimpArgs false
set_option linter.unusedVariables false
theorem At.postO {H H':Heap} {idf:Nat} {A:AFunc} (q:At H idf A) (ho:Only [] H H'):At H' idf A:=q.frame ho List.not_mem_nil fun j _ h=>absurd h List.not_mem_nil
end Go.Proofs.YtbmloeahcdneaaaGreat
end

section
namespace Go.Proofs.YtbmloeahcdneaaaGreat
set_option maxRecDepth 100000
set_option linter.unusedSimpArgs false
set_option linter.unusedVariables false
theorem none_pd:Pd 108 [] (fun _=>True) [] (fun n=>True) (fun _=>false):=by
  refine ⟨fun H n _ _=>?_,fun _ _ _ _=>trivial⟩
  refine calls_of Tryz.func108 en_108 rfl (of_decide_eq_true rfl) (W_run mixed ⟨[],[],[],3,H.length,[2],[]⟩ (fun _=>[]) (by kernel_rfl) ?_)
  simp only [Tryz.f108,stripX,stripOps,pickOps]
  simp [retQ]
  exact Fin.same (by simp)
structure PW (H:Heap) (idf:Nat) (A A':AFunc) (H':Heap):Prop where
  row:H'[idf]? = some (.row 2 [[.d (.int .i64 A'.params_),A'.blocks_.v]])
  own:Own H' A'
  nin:idf ∉ ids A'
  ids:∀ j∈ids A',j∈ids A∨H.length≤j
  only:Only (idf :: Go.Proofs.YtbmloeahcdneaaaGreat.ids A) H H'
end Go.Proofs.YtbmloeahcdneaaaGreat
end

section
namespace Go.Proofs.YtbmloeahcdneaaaGreat
set_option maxRecDepth 100000
set_option linter.unusedSimpArgs false
set_option linter.unusedVariables false
end Go.Proofs.YtbmloeahcdneaaaGreat
end

section
namespace Go.Proofs.YtbmloeahcdneaaaGreat
set_option maxRecDepth 100000
set_option linter.unusedSimpArgs false
set_option linter.unusedVariables false
theorem body_to {bs bs' : List Block} {m m2 : Int} (m0 : 0 ≤ m ∧ m ≤ 80) (n0 : 0 ≤ m2 ∧ m2 ≤ 80) (hl : bs'.length = bs.length) (hpar : ∀ i : Nat, (bs'[i]?.getD default).params_ = (bs[i]?.getD default).params_) {b : Block} {g : Int → Int}
    (hg:∀ x∈allU b,0≤x→x < m→0≤g x∧g x < m2) (hb:bodyOk bs m b=true) {p:Int} {ins:List Inst} (hins:∀ y∈ins,∃ x∈b.insts_,y=mpI g x) {js:List Jump} (hjl:js.length=b.jumps_.length) (hjs:∀ y∈js,∃ j∈b.jumps_,y.to_=j.to_∧y.args_=j.args_.map g) :
    bodyOk bs' m2 ⟨p,ins,b.end_,if b.end_=2 then b.value_ else g b.value_,js⟩=true:=by
  simp only [bodyOk,Bool.and_eq_true] at hb ⊢
  obtain ⟨h1,h2⟩:=hb
  have alls:∀ l:List Int,(∀ x∈l,x∈allU b)→allIn l 0 (IntKind.i64.wrap (m - 1))=true→allIn (l.map g) 0 (IntKind.i64.wrap (m2 - 1))=true:=fun l hu q=>by
    refine List.all_eq_true.2 fun y hy=>?_
    obtain ⟨x,hx,rfl⟩:=List.mem_map.1 hy
    have:=(inR_many m0.1 m0.2).1 (List.all_eq_true.1 q x hx)
    exact (inR_many n0.1 n0.2).2 (hg x (hu x hx) this.1 this.2)
  have hj:jumpsOk bs m b.jumps_=true→jumpsOk bs' m2 js=true:=fun q=>by
    refine List.all_eq_true.2 fun y hy=>?_
    obtain ⟨j,hjm,e1,e2⟩:=hjs y hy
    have:=List.all_eq_true.1 q j hjm
    simp only [jumpOk,Bool.and_eq_true] at this ⊢
    rw [e1,e2,hl,hpar]
    refine ⟨this.1, ?_,alls _ (fun x hx=>List.mem_append_right _ (List.mem_append_right _ (List.mem_flatMap.2 ⟨j,hjm,hx⟩))) this.2.2⟩
    rw [List.length_map];exact this.2.1
  have hv:b.end_ ≠ 2→inR b.value_ 0 (IntKind.i64.wrap (m - 1))=true→inR (g b.value_) 0 (IntKind.i64.wrap (m2 - 1))=true:=fun ne q=>by
    have:=(inR_many m0.1 m0.2).1 q
    exact (inR_many n0.1 n0.2).2 (hg _ (List.mem_append_right _ (List.mem_append_left _ (by rw [if_neg ne];exact List.mem_singleton.2 rfl))) this.1 this.2)
  refine ⟨List.all_eq_true.2 fun y hy=>?_, ?_⟩
  · obtain ⟨x,hx,rfl⟩:=hins y hy
    have:=List.all_eq_true.1 h1 x hx
    simp only [instOk,Bool.and_eq_true] at this ⊢
    refine ⟨this.1, ?_,alls _ (fun z hz=>List.mem_append_left _ (List.mem_flatMap.2 ⟨x,hx,hz⟩)) this.2.2.1,this.2.2.2⟩
    show decide (((x.args_.map g).length:Int)=_)=true
    rw [List.length_map];exact this.2.1
  · unfold endsOk at h2 ⊢
    show (if b.end_=1 then decide ((js.length:Int)=0) && (inR (if b.end_=2 then b.value_ else g b.value_) 0 _ && jumpsOk bs' m2 js)
      else if b.end_=2 then decide ((if b.end_=2 then b.value_ else g b.value_)=0) && (decide ((js.length:Int)=1) && jumpsOk bs' m2 js)
      else if b.end_=3 then decide ((js.length:Int)=2) && (inR (if b.end_=2 then b.value_ else g b.value_) 0 _ && jumpsOk bs' m2 js) else false)=true
    rw [hjl]
    by_cases e1:b.end_=1
    · rw [if_pos e1,Bool.and_eq_true,Bool.and_eq_true] at h2 ⊢
      rw [if_neg (by omega)]
      exact ⟨h2.1,hv (by omega) h2.2.1,hj h2.2.2⟩
    · rw [if_neg e1] at h2 ⊢
      by_cases e2:b.end_=2
      · rw [if_pos e2,Bool.and_eq_true,Bool.and_eq_true] at h2 ⊢
        rw [if_pos e2]
        exact ⟨h2.1,h2.2.1,hj h2.2.2⟩
      · rw [if_neg e2] at h2 ⊢
        by_cases e3:b.end_=3
        · rw [if_pos e3,Bool.and_eq_true,Bool.and_eq_true] at h2 ⊢
          rw [if_neg e2]
          exact ⟨h2.1,hv e2 h2.2.1,hj h2.2.2⟩
        · rw [if_neg e3] at h2;cases h2
def only1 (v:Nat) (x:Int):Bool:=decide (x=v)
theorem kpt1 (F:Func) (v j:Nat) (hv:F.params_.toNat≤v):kpt F (only1 v) pv0 j = !decide (j=v):=by
  have e:only1 v (j:Int)=decide (j=v):=by unfold only1;exact decide_eq_decide.2 (by omega)
  unfold kpt
  rw [e]
  by_cases h:j=v
  · rw [decide_eq_false (show ¬ j < F.params_.toNat by omega),decide_eq_true h];rfl
  · rw [decide_eq_false h]
    show (decide (j < F.params_.toNat) || true)=true
    rw [Bool.or_true]
theorem nxt1 (F : Func) {v : Nat} (hv : F.params_.toNat ≤ v) {x : Nat} (hx : F.params_.toNat ≤ x) : nxt F (only1 v) pv0 x = if v < x then x - 1 else x := by
  induction x with
  | zero=>rw [nxt_par _ _ _ (by omega),if_neg (by omega)];omega
  | succ x ih =>
    by_cases hxp:F.params_.toNat≤x
    · rw [nxt_succ F _ _ hxp,ih hxp,kpt1 F v x hv]
      by_cases h:x=v
      · rw [decide_eq_true h]
        show (if v < x then x - 1 else x) + 0=_
        rw [if_neg (by omega),if_pos (by omega)];omega
      · rw [decide_eq_false h]
        show (if v < x then x - 1 else x) + 1=_
        by_cases h2:v < x
        · rw [if_pos h2,if_pos (by omega)];omega
        · rw [if_neg h2,if_neg (by omega)]
    · rw [nxt_par _ _ _ (by omega),if_neg (by omega)];omega
theorem num1 (F:Func) {v:Nat} (hv:F.params_.toNat≤v) {x:Nat} (hx:x ≠ v):numW F (only1 v) pv0 x=if v < x then (x:Int) - 1 else x:=by
  unfold numW
  by_cases h:x < F.params_.toNat
  · rw [if_pos h,if_neg (by omega)]
  · rw [if_neg h,kpt1 F v x hv,if_pos (by simp [hx]),nxt1 F hv (by omega)]
    by_cases h2:v < x
    · rw [if_pos h2,if_pos h2];omega
    · rw [if_neg h2,if_neg h2]
def leaveF (F:Func) (v:Nat):Func:=withoutF F (only1 v) pv0
theorem bno0 (k:Nat):bnoW pv0 k=k:=by
  unfold bnoW cntW
  rw [if_neg (by simp [pv0])]
  have:(List.range k).filter (fun j:Nat=>!pv0 (j:Int))=List.range k:=List.filter_eq_self.2 fun _ _=>rfl
  rw [this,List.length_range]
theorem leave_blocks (F:Func) (v:Nat):(leaveF F v).blocks_=(List.range F.blocks_.length).map (wB F (only1 v) pv0):=by
  show outB F _ _ _=_
  unfold outB
  have:(List.range F.blocks_.length).filter (fun j:Nat=>!pv0 (j:Int))=List.range F.blocks_.length:=List.filter_eq_self.2 fun _ _=>rfl
  rw [this]
theorem leave_get {F:Func} {v k:Nat} (hk:k < F.blocks_.length):(leaveF F v).blocks_[k]?.getD default=wB F (only1 v) pv0 k:=by
  rw [leave_blocks,List.getElem?_map,List.getElem?_range hk];rfl
theorem flt1 {α:Type} [Inhabited α] {v base:Nat} (h:base≤v) (l:List α):∀ i,i≤l.length→flt (only1 v) base l i=if base + i≤v then l.take i else (l.take i).eraseIdx (v - base)
  | 0,_=>by
    show []=_
    rw [List.take_zero];split <;> rfl
  | i + 1, hi => by
    have e:only1 v ((base + i:Nat):Int)=decide (base + i=v):=by unfold only1;exact decide_eq_decide.2 (by omega)
    have hlt:(l.take i).length=i:=by rw [List.length_take];omega
    rw [flt_succ,flt1 h l i (by omega),e,take_snocD (show i < l.length by omega)]
    by_cases h1:base + i=v
    · rw [if_pos (by omega),if_pos (by simpa using h1),if_neg (by omega),List.append_nil,List.eraseIdx_append_of_length_le (by rw [hlt];omega),hlt,show v - base - i=0 by omega];simp
    · have hd:¬ decide (base + i=v)=true:=by simpa using h1
      by_cases h2:base + i≤v
      · rw [if_pos h2,if_neg hd,if_pos (by omega)]
      · rw [if_neg h2,if_neg hd,if_neg (by omega),List.eraseIdx_append_of_lt_length (by rw [hlt];omega)]
theorem flt1_out {α:Type} [Inhabited α] {v base:Nat} (l:List α) (h:v < base∨base + l.length≤v):flt (only1 v) base l l.length=l:=by
  unfold flt
  have:(List.range l.length).filter (fun j=>!only1 v ((base + j:Nat):Int))=List.range l.length:=List.filter_eq_self.2 fun j hj=>by
    have:=List.mem_range.1 hj
    have e:only1 v ((base + j:Nat):Int)=false:=decide_eq_false (by omega)
    rw [e];rfl
  rw [this]
  refine List.ext_getElem (by simp) fun j h1 h2=>?_
  simp [List.getElem?_eq_getElem h2]
structure InB (F:Func) (v k0:Nat):Prop where
  k:k0 < F.blocks_.length
  lo:fstN F k0 + (F.blocks_[k0]?.getD default).params_.toNat≤v
  hi:v < fstN F (k0 + 1)
theorem InB.par {F:Func} {v k0:Nat} (h:InB F v k0):F.params_.toNat≤v:=by have:=h.lo;unfold fstN at this;omega
theorem leave_insts {F:Func} {v k0 k:Nat} (h:InB F v k0) (hk:k < F.blocks_.length) :
    (wB F (only1 v) pv0 k).insts_=if k=k0 then ((F.blocks_[k]?.getD default).insts_.map (mpI fun x=>numW F (only1 v) pv0 x.toNat)).eraseIdx (v - (fstN F k + (F.blocks_[k]?.getD default).params_.toNat)) else (F.blocks_[k]?.getD default).insts_.map (mpI fun x=>numW F (only1 v) pv0 x.toNat):=by
  have hs:=fstN_succ hk
  unfold szN at hs
  have hl:=h.lo
  have hh:=h.hi
  have hs0:=fstN_succ h.k
  unfold szN at hs0
  unfold wB
  show flt (only1 v) (fstN F k + (F.blocks_[k]?.getD default).params_.toNat) ((F.blocks_[k]?.getD default).insts_.map (mpI _)) ((F.blocks_[k]?.getD default).insts_.map (mpI _)).length=_
  by_cases e:k=k0
  · subst e
    rw [if_pos rfl,flt1 hl _ _ (Nat.le_refl _),if_neg (by rw [List.length_map];omega),List.take_length]
  · rw [if_neg e]
    refine flt1_out _ ?_
    rw [List.length_map]
    by_cases h2:k < k0
    · have:=fstN_mono F (show k + 1≤k0 by omega)
      exact .inr (by omega)
    · have:=fstN_mono F (show k0 + 1≤k by omega)
      exact .inl (by omega)
theorem leave_sz {F:Func} {v k0 k:Nat} (h:InB F v k0) (hk:k < F.blocks_.length):szN (wB F (only1 v) pv0 k) + (if k=k0 then 1 else 0)=szN (F.blocks_[k]?.getD default):=by
  have hs:=fstN_succ hk
  have hl:=h.lo
  have hh:=h.hi
  unfold szN at hs ⊢
  rw [leave_insts h hk]
  show (F.blocks_[k]?.getD default).params_.toNat + _ + _=_
  by_cases e:k=k0
  · subst e
    rw [if_pos rfl,if_pos rfl,List.length_eraseIdx,if_pos (by rw [List.length_map];omega),List.length_map];omega
  · rw [if_neg e,if_neg e,List.length_map];omega
theorem leave_off {F : Func} {v k0 : Nat} (h : InB F v k0) : ∀ k, k ≤ F.blocks_.length → offN (leaveF F v).blocks_ k + (if k0 < k then 1 else 0) = offN F.blocks_ k
  | 0,_=>by simp [offN]
  | k + 1, hk => by
    have hl:(leaveF F v).blocks_.length=F.blocks_.length:=by rw [leave_blocks];simp
    have ih:=leave_off h k (by omega)
    have hz:=leave_sz h (show k < F.blocks_.length by omega)
    rw [offN_succ (by omega),offN_succ (by omega),leave_get (by omega)]
    by_cases e:k=k0
    · subst e
      rw [if_neg (by omega)] at ih
      rw [if_pos rfl] at hz
      rw [if_pos (by omega)];omega
    · rw [if_neg e] at hz
      by_cases e2:k0 < k
      · rw [if_pos e2] at ih
        rw [if_pos (by omega)];omega
      · rw [if_neg e2] at ih
        rw [if_neg (by omega)];omega
theorem leave_len (F:Func) (v:Nat):(leaveF F v).blocks_.length=F.blocks_.length:=by rw [leave_blocks];simp
theorem leave_par {F:Func} {v:Nat} (i:Nat):((leaveF F v).blocks_[i]?.getD default).params_=(F.blocks_[i]?.getD default).params_:=by
  by_cases h:i < F.blocks_.length
  · rw [leave_get h];rfl
  · rw [List.getElem?_eq_none (by rw [leave_len];omega),List.getElem?_eq_none (by omega)]
theorem leave_head {F:Func} (hg:goodF F=true) {v k0:Nat} (h:InB F v k0):(leaveF F v).blocks_.all headOk=true:=by
  obtain ⟨_,_,hh,_⟩:=goodF_spec hg
  refine List.all_eq_true.2 fun b hb=>?_
  rw [leave_blocks] at hb
  obtain ⟨k,hk,rfl⟩:=List.mem_map.1 hb
  have hk:=List.mem_range.1 hk
  have q:=List.all_eq_true.1 hh (F.blocks_[k]?.getD default) (by rw [List.getElem?_eq_getElem hk];exact List.getElem_mem hk)
  simp only [headOk,Bool.and_eq_true,decide_eq_true_eq] at q ⊢
  refine ⟨q.1, ?_⟩
  have:=leave_sz h hk
  unfold szN at this
  have e:(wB F (only1 v) pv0 k).params_=(F.blocks_[k]?.getD default).params_:=rfl
  rw [e] at this
  omega
theorem leave_many {F:Func} (hg:goodF F=true) {v k0:Nat} (h:InB F v k0):many (leaveF F v)=many F - 1:=by
  have hL:=lay hg
  have ho:=leave_off h F.blocks_.length (Nat.le_refl _)
  rw [if_pos h.k] at ho
  have e:many (leaveF F v)=((F.params_.toNat + offN (leaveF F v).blocks_ (leaveF F v).blocks_.length:Nat):Int):=by
    show cntB (leaveF F v).blocks_ F.params_=_
    rw [← hL.par,cntB_N _ _ (leave_head hg h) (by rw [leave_len];have:=hL.len.1;have:=(goodF_spec hg).1;omega),Int.toNat_natCast]
  rw [e,hL.many,leave_len]
  unfold fstN
  omega
theorem leave_good {F : Func} (hg : goodF F = true) {v k0 : Nat} (h : InB F v k0) (hu : ∀ b ∈ F.blocks_, ∀ x ∈ allU b, x ≠ (v : Int)) : goodF (leaveF F v) = true := by
  obtain ⟨m0,m80⟩:=many_rng hg
  have hL:=lay hg
  obtain ⟨hp,hl,hh,hm,hc,hsu,hbo⟩:=goodF_spec hg
  have hmn:=leave_many hg h
  have hvm:(v:Int) < many F:=by
    have:=fstN_mono F (show k0 + 1≤F.blocks_.length from h.k)
    have:=h.hi
    rw [hL.many];omega
  have hbody:(leaveF F v).blocks_.all (bodyOk (leaveF F v).blocks_ (many (leaveF F v)))=true:=by
    refine List.all_eq_true.2 fun b hb=>?_
    have hb2:=hb
    rw [leave_blocks] at hb2
    obtain ⟨k,hk,rfl⟩:=List.mem_map.1 hb2
    have hk:=List.mem_range.1 hk
    have hmem:F.blocks_[k]?.getD default∈F.blocks_:=by rw [List.getElem?_eq_getElem hk];exact List.getElem_mem hk
    have hbk:=List.all_eq_true.1 hbo _ hmem
    have hins:=leave_insts h hk
    refine body_to (bs:=F.blocks_) (m:=many F) (g:=fun x=>numW F (only1 v) pv0 x.toNat) (b:=F.blocks_[k]?.getD default) ⟨m0,m80⟩ (by omega) (leave_len F v) leave_par (fun x hx x0 x1=>?_) hbk (ins:=(wB F (only1 v) pv0 k).insts_) (fun y hy=>?_) (js:=(wB F (only1 v) pv0 k).jumps_) ?_ fun y hy=>?_
    · have hne:=hu _ hmem x hx
      show 0≤numW F (only1 v) pv0 x.toNat∧_
      rw [num1 F h.par (show x.toNat ≠ v by omega),hmn]
      split <;> omega
    · rw [hins] at hy
      have hy2:y∈(F.blocks_[k]?.getD default).insts_.map (mpI fun x=>numW F (only1 v) pv0 x.toNat):=by
        split at hy
        · exact List.mem_of_mem_eraseIdx hy
        · exact hy
      obtain ⟨x,hx,rfl⟩:=List.mem_map.1 hy2
      exact ⟨x,hx,rfl⟩
    · show (((F.blocks_[k]?.getD default).jumps_.map (mpJ _)).map (toJ pv0)).length=_
      rw [List.length_map,List.length_map]
    · obtain ⟨z,hz,rfl⟩:=List.mem_map.1 (show y∈((F.blocks_[k]?.getD default).jumps_.map (mpJ _)).map (toJ pv0) from hy)
      obtain ⟨j,hj,rfl⟩:=List.mem_map.1 hz
      refine ⟨j,hj, ?_,rfl⟩
      have:=jump_to hg hmem hj
      show bnoW pv0 j.to_.toNat=j.to_
      rw [bno0];omega
  simp only [goodF,Bool.and_eq_true,decide_eq_true_eq]
  simp only [goodF,Bool.and_eq_true,decide_eq_true_eq] at hg
  refine ⟨hg.1,by rw [leave_len];exact hg.2.1, ?_,leave_head (by simp only [goodF,Bool.and_eq_true,decide_eq_true_eq];exact hg) h,by omega,hbody⟩
  rw [leave_par];exact hg.2.2.1
theorem num1_enc {F:Func} {v:Nat} (hv:F.params_.toNat≤v) {x:Int} (hx:Enc.good x):Enc.good (numW F (only1 v) pv0 x.toNat):=by
  by_cases h:x.toNat=v
  · have:numW F (only1 v) pv0 x.toNat=0:=by
      rw [h]
      unfold numW
      rw [if_neg (by omega),kpt1 F v v hv,if_neg (by simp)]
    rw [this];exact ⟨by decide,by decide⟩
  · rw [num1 F hv h]
    obtain ⟨h1,h2⟩:=hx
    split
    · exact ⟨by omega,by omega⟩
    · exact ⟨by omega,by omega⟩
theorem leave_enc {F:Func} (h:Enc.good F) {v:Nat} (hv:F.params_.toNat≤v):Enc.good (leaveF F v):=by
  have hm:=mpF_enc h (g:=fun x=>numW F (only1 v) pv0 x.toNat) fun x hx=>num1_enc hv hx
  refine ⟨h.1,by rw [leave_len];exact h.2.1,fun b hb=>?_⟩
  rw [leave_blocks] at hb
  obtain ⟨k,hk,rfl⟩:=List.mem_map.1 hb
  have hk:=List.mem_range.1 hk
  have hmem:F.blocks_[k]?.getD default∈F.blocks_:=by rw [List.getElem?_eq_getElem hk];exact List.getElem_mem hk
  obtain ⟨q1,q2,q3,q4,q5⟩:=hm.2.2 (mpB _ (F.blocks_[k]?.getD default)) (List.mem_map.2 ⟨_,hmem,rfl⟩)
  have hs:=flt_sub (only1 v) (fstN F k + (F.blocks_[k]?.getD default).params_.toNat) (l:=(mpB (fun x=>numW F (only1 v) pv0 x.toNat) (F.blocks_[k]?.getD default)).insts_) (Nat.le_refl _)
  refine ⟨q1,⟨Nat.le_trans hs.length_le q2.1,fun y hy=>q2.2 y (hs.subset hy)⟩,q3,q4,⟨?_,fun y hy=>?_⟩⟩
  · show (List.map (toJ pv0) _).length≤_
    rw [List.length_map];exact q5.1
  · obtain ⟨z,hz,rfl⟩:=List.mem_map.1 hy
    have:=q5.2 z hz
    refine ⟨?_,this.2⟩
    show Enc.good (bnoW pv0 z.to_.toNat)
    rw [bno0]
    obtain ⟨a1,a2⟩:=this.1
    exact ⟨by omega,by omega⟩
end Go.Proofs.YtbmloeahcdneaaaGreat
end
