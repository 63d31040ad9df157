/- Some values and blocks left out: what stays, and the walks within a block. No condition. -/
import Derived.Test.YtbmloeahcdneaaaGreatQE9
import Derived.Test.YtbmloeahcdneaaaGreatQS13
import Derived.Test.YtbmloeahcdneaaaGreatQS17
import Derived.Test.YtbmloeahcdneaaaGreatQS21
import Derived.Test.YtbmloeahcdneaaaGreatQS41
import Derived.Test.YtbmloeahcdneaaaGreatQS49
import Derived.Test.YtbmloeahcdneaaaGreatQS61
section
namespace Go.Proofs.YtbmloeahcdneaaaGreat
set_option maxRecDepth 100000
set_option linter.unusedSimpArgs false
set_option linter.unusedVariables false
theorem list_set_self {γ:Type} {l:List γ} {i:Nat} {x:γ} (h:l[i]? = some x):l.set i x=l:=by
  refine List.ext_getElem? fun j=>?_
  rw [List.getElem?_set]
  split
  · rename_i e;subst e;rw [if_pos (List.getElem?_eq_some_iff.1 h).1,h]
  · rfl
end Go.Proofs.YtbmloeahcdneaaaGreat
end

section
namespace Go.Proofs.YtbmloeahcdneaaaGreat
set_option maxRecDepth 100000
set_option linter.unusedSimpArgs false
set_option linter.unusedVariables false
theorem inR_many {n m:Int} (h0:0≤m) (h1:m≤80):inR n 0 (IntKind.i64.wrap (m - 1))=true ↔ 0≤n∧n < m:=by
  rw [wrap_id (by omega) (by omega),inR_t];omega
theorem many_rng {F:Func} (h:goodF F=true):0≤many F∧many F≤80:=by
  obtain ⟨hp,hl,hh,hm,hc,hs,_⟩:=goodF_spec h
  omega
theorem mpF_enc {F:Func} (h:Enc.good F) {g:Int→Int} (hg:∀ x:Int,Enc.good x→Enc.good (g x)):Enc.good (mpF g F):=by
  have ha:∀ l:List Int,Enc.good l→Enc.good (l.map g):=fun l hl=>⟨by rw [List.length_map];exact hl.1,fun y hy=>by
    obtain ⟨x,hx,rfl⟩:=List.mem_map.1 hy
    exact hg x (hl.2 x hx)⟩
  refine ⟨h.1,by show (F.blocks_.map _).length≤_;rw [List.length_map];exact h.2.1,fun b' hb'=>?_⟩
  obtain ⟨b,hb,rfl⟩:=List.mem_map.1 hb'
  obtain ⟨q1,q2,q3,q4,q5⟩:=h.2.2 b hb
  refine ⟨q1,⟨by show (b.insts_.map _).length≤_;rw [List.length_map];exact q2.1,fun y hy=>?_⟩,q3, ?_,⟨by show (b.jumps_.map _).length≤_;rw [List.length_map];exact q5.1,fun y hy=>?_⟩⟩
  · obtain ⟨x,hx,rfl⟩:=List.mem_map.1 hy
    obtain ⟨p1,p2,p3⟩:=q2.2 x hx
    exact ⟨p1,p2,ha _ p3⟩
  · show Enc.good (if b.end_=2 then b.value_ else g b.value_)
    split
    · exact q4
    · exact hg _ q4
  · obtain ⟨x,hx,rfl⟩:=List.mem_map.1 hy
    obtain ⟨p1,p2⟩:=q5.2 x hx
    exact ⟨p1,ha _ p2⟩
end Go.Proofs.YtbmloeahcdneaaaGreat
end

section
namespace Go.Proofs.YtbmloeahcdneaaaGreat
set_option maxRecDepth 100000
set_option linter.unusedSimpArgs false
set_option linter.unusedVariables false
def szN (b:Block):Nat:=b.params_.toNat + b.insts_.length
def offN (bs:List Block) (k:Nat):Nat:=((bs.take k).map szN).sum
def fstN (F:Func) (k:Nat):Nat:=F.params_.toNat + offN F.blocks_ k
theorem offN_cons (b:Block) (bs:List Block) (k:Nat):offN (b :: bs) (k + 1)=szN b + offN bs k:=by simp [offN]
theorem offN_zero (bs:List Block):offN bs 0=0:=rfl
theorem offN_succ {bs:List Block} {k:Nat} (h:k < bs.length):offN bs (k + 1)=offN bs k + szN (bs[k]?.getD default):=by
  unfold offN
  rw [take_snocD h,List.map_append,List.sum_append];simp
theorem headOk_szN {b:Block} (h:headOk b=true):0≤b.params_∧b.params_≤4∧b.insts_.length≤80∧IntKind.i64.wrap (b.params_ + b.insts_.length)=(szN b:Int):=by
  simp only [headOk,Bool.and_eq_true,decide_eq_true_eq] at h
  obtain ⟨h1,h2⟩:=inR_t.1 h.1
  refine ⟨h1,h2,h.2, ?_⟩
  rw [wrap_id (by omega) (by omega)]
  unfold szN;omega
theorem cntB_N:∀ (bs:List Block) (m:Nat),bs.all headOk=true→m + 84 * bs.length≤1000000→cntB bs m=((m + offN bs bs.length:Nat):Int)
  | [],m,_,_=>by simp [cntB,offN]
  | b :: bs,m,h,hm=>by
    simp only [List.all_cons,Bool.and_eq_true] at h
    obtain ⟨p0,p1,p2,e⟩:=headOk_szN h.1
    have hs:szN b≤84:=by unfold szN;omega
    simp only [List.length_cons] at hm
    rw [cntB_cons,e,wrap_id (by omega) (by omega),show ((m:Int) + (szN b:Int))=((m + szN b:Nat):Int) by omega,cntB_N bs (m + szN b) h.2 (by omega),List.length_cons,offN_cons]
    omega
theorem firsts_N : ∀ (bs : List Block) (m : Nat), bs.all headOk = true → m + 84 * bs.length ≤ 1000000 → ∀ k, k < bs.length → (firsts bs m)[k]? = some ((m + offN bs k : Nat) : Int)
  | [],m,_,_,k,hk=>by simp at hk
  | b :: bs, m, h, hm, k, hk => by
    simp only [List.all_cons,Bool.and_eq_true] at h
    obtain ⟨p0,p1,p2,e⟩:=headOk_szN h.1
    have hs:szN b≤84:=by unfold szN;omega
    simp only [List.length_cons] at hm hk
    cases k with
    | zero=>simp [firsts,offN]
    | succ k =>
      have e2:firsts (b :: bs) (m:Int)=(m:Int) :: firsts bs ((m + szN b:Nat):Int):=by
        simp only [firsts]
        rw [e,wrap_id (by omega) (by omega)]
        congr 2
      rw [e2,List.getElem?_cons_succ,firsts_N bs (m + szN b) h.2 (by omega) k (by omega),offN_cons]
      congr 2;omega
theorem blkOf_N:∀ (bs:List Block) (i:Nat),bs.all headOk=true→∀ k j,k < bs.length→offN bs k≤j→j < offN bs (k + 1)→(blkOf bs i)[j]? = some ((i + k:Nat):Int)
  | [],i,_,k,j,hk,_,_=>by simp at hk
  | b :: bs, i, h, k, j, hk, h1, h2 => by
    simp only [List.all_cons,Bool.and_eq_true] at h
    obtain ⟨p0,p1,p2,e⟩:=headOk_szN h.1
    have e2:blkOf (b :: bs) i=List.replicate (szN b) (i:Int)++blkOf bs (i + 1):=by
      simp only [blkOf]
      rw [e,Int.toNat_natCast]
    rw [e2]
    simp only [List.length_cons] at hk
    cases k with
    | zero =>
      rw [offN_cons,offN_zero] at h2
      rw [List.getElem?_append_left (by simp;omega),List.getElem?_replicate,if_pos (by omega)];rfl
    | succ k =>
      rw [offN_cons] at h1 h2
      rw [List.getElem?_append_right (by simp;omega),List.length_replicate,blkOf_N bs (i + 1) h.2 k (j - szN b) (by omega) (by omega) (by omega)]
      congr 2;omega
theorem offN_mono (bs:List Block):∀ {k l:Nat},k≤l→offN bs k≤offN bs l:=by
  intro k l h
  induction h with
  | refl=>exact Nat.le_refl _
  | step h ih =>
    rename_i m
    refine Nat.le_trans ih ?_
    by_cases hm:m < bs.length
    · rw [offN_succ hm];omega
    · unfold offN
      rw [List.take_of_length_le (by omega),List.take_of_length_le (by omega)]
      exact Nat.le_refl _
theorem offN_find {bs:List Block}:∀ {n:Nat},n < offN bs bs.length→∃ k,k < bs.length∧offN bs k≤n∧n < offN bs (k + 1):=by
  induction bs with
  | nil=>intro n h;simp [offN] at h
  | cons b bs ih =>
    intro n h
    rw [List.length_cons,offN_cons] at h
    by_cases hn:n < szN b
    · exact ⟨0,by simp,Nat.zero_le _,by rw [offN_cons,offN_zero];omega⟩
    · obtain ⟨k,h1,h2,h3⟩:=ih (n:=n - szN b) (by omega)
      exact ⟨k + 1,by simp;omega,by rw [offN_cons];omega,by rw [offN_cons];omega⟩
structure Lay (F:Func):Prop where
  par:((F.params_.toNat:Nat):Int)=F.params_
  len:F.blocks_.length≤8∧0 < F.blocks_.length
  many:many F=((fstN F F.blocks_.length:Nat):Int)
  first:∀ k,k < F.blocks_.length→(viewD F).first_[k]? = some ((fstN F k:Nat):Int)
  bkP:∀ n:Nat,n < F.params_.toNat→bk (viewD F) n = -1
  bkB:∀ (k n:Nat),k < F.blocks_.length→fstN F k≤n→n < fstN F (k + 1)→bk (viewD F) n=k
  find:∀ n:Nat,n < fstN F F.blocks_.length→n < F.params_.toNat∨∃ k,k < F.blocks_.length∧fstN F k≤n∧n < fstN F (k + 1)
theorem lay {F:Func} (h:goodF F=true):Lay F:=by
  obtain ⟨hp,hl,hh,hm,hc,hs,_⟩:=goodF_spec h
  have e:((F.params_.toNat:Nat):Int)=F.params_:=by omega
  have ef:(viewD F).block_=List.replicate F.params_.toNat (-1)++blkOf F.blocks_ 0:=rfl
  refine ⟨e,by omega, ?_,fun k hk=>?_,fun n hn=>?_,fun k n hk h1 h2=>?_,fun n hn=>?_⟩
  · show cntB F.blocks_ F.params_=_
    rw [← e,cntB_N _ _ hh (by omega)];rfl
  · show (firsts F.blocks_ F.params_)[k]? = _
    rw [← e,firsts_N _ _ hh (by omega) k hk];rfl
  · unfold bk
    rw [ef,Int.toNat_natCast,List.getElem?_append_left (by simpa using hn),List.getElem?_replicate,if_pos hn];rfl
  · unfold bk
    unfold fstN at h1 h2
    rw [ef,Int.toNat_natCast,List.getElem?_append_right (by simp;omega),List.length_replicate,blkOf_N _ 0 hh k (n - F.params_.toNat) hk (by omega) (by omega)]
    simp
  · by_cases hn':n < F.params_.toNat
    · exact .inl hn'
    · unfold fstN at hn
      obtain ⟨k,h1,h2,h3⟩:=offN_find (bs:=F.blocks_) (n:=n - F.params_.toNat) (by omega)
      exact .inr ⟨k,h1,by unfold fstN;omega,by unfold fstN;omega⟩
theorem fstN_succ {F:Func} {k:Nat} (h:k < F.blocks_.length):fstN F (k + 1)=fstN F k + szN (F.blocks_[k]?.getD default):=by
  unfold fstN;rw [offN_succ h];omega
theorem fstN_mono (F:Func) {k l:Nat} (h:k≤l):fstN F k≤fstN F l:=by
  unfold fstN;have:=offN_mono F.blocks_ h;omega
theorem blk_head {F:Func} (h:goodF F=true) {k:Nat} (hk:k < F.blocks_.length):0≤(F.blocks_[k]?.getD default).params_∧(F.blocks_[k]?.getD default).params_≤4∧(F.blocks_[k]?.getD default).insts_.length≤80:=by
  obtain ⟨hp,hl,hh,_⟩:=goodF_spec h
  have:=headOk_szN (List.all_eq_true.1 hh (F.blocks_[k]?.getD default) (by rw [List.getElem?_eq_getElem hk];exact List.getElem_mem hk))
  exact ⟨this.1,this.2.1,this.2.2.1⟩
end Go.Proofs.YtbmloeahcdneaaaGreat
end

section
namespace Go.Proofs.YtbmloeahcdneaaaGreat
set_option maxRecDepth 100000
set_option linter.unusedSimpArgs false
set_option linter.unusedVariables false
structure Pd (fn:Nat) (caps:List V) (E:Heap→Prop) (K:List Nat) (U:Int→Prop) (p:Int→Bool):Prop where
  call:∀ H n,E H→U n→CallsD Tryz.prog fn (.d (.int .i64 n) :: caps) H fun r H'=>r=.d (.bool (p n))∧H'=H
  keep:∀ H H',(∀ k∈K,H'[k]? = H[k]?)→E H→E H'
def kpt (F:Func) (pv pb:Int→Bool) (j:Nat):Bool:=decide (j < F.params_.toNat) || (!pv j && !pb (bk (viewD F) j))
def nxt (F:Func) (pv pb:Int→Bool) (k:Nat):Nat:=F.params_.toNat + ((List.range k).filter fun j=>decide (F.params_.toNat≤j) && kpt F pv pb j).length
def numW (F:Func) (pv pb:Int→Bool) (j:Nat):Int:=if j < F.params_.toNat then (j:Int) else if kpt F pv pb j=true then (nxt F pv pb j:Int) else 0
def cntW (pb:Int→Bool) (k:Nat):Nat:=((List.range k).filter fun j:Nat=>!pb j).length
def bnoW (pb:Int→Bool) (k:Nat):Int:=if pb k=true then 0 else (cntW pb k:Int)
theorem nxt_succ (F:Func) (pv pb:Int→Bool) {k:Nat} (h:F.params_.toNat≤k):nxt F pv pb (k + 1)=nxt F pv pb k + if kpt F pv pb k=true then 1 else 0:=by
  unfold nxt
  rw [List.range_succ,List.filter_append,List.length_append,Nat.add_assoc]
  congr 2
  have hd:decide (F.params_.toNat≤k)=true:=decide_eq_true h
  simp only [List.filter_cons,List.filter_nil,hd,Bool.true_and]
  cases q:kpt F pv pb k <;> rfl
theorem nxt_par (F:Func) (pv pb:Int→Bool) {k:Nat} (h:k≤F.params_.toNat):nxt F pv pb k=F.params_.toNat:=by
  unfold nxt
  have:((List.range k).filter fun j=>decide (F.params_.toNat≤j) && kpt F pv pb j)=[]:=by
    refine List.filter_eq_nil_iff.2 fun j hj=>?_
    have:=List.mem_range.1 hj
    have h2:¬ F.params_.toNat≤j:=by omega
    simp [h2]
  rw [this];rfl
theorem nxt_le (F:Func) (pv pb:Int→Bool) (k:Nat):nxt F pv pb k≤F.params_.toNat + k:=by
  unfold nxt
  have:=List.length_filter_le (fun j=>decide (F.params_.toNat≤j) && kpt F pv pb j) (List.range k)
  rw [List.length_range] at this
  omega
theorem cntW_succ (pb:Int→Bool) (k:Nat):cntW pb (k + 1)=cntW pb k + if pb k=true then 0 else 1:=by
  unfold cntW
  rw [List.range_succ,List.filter_append,List.length_append]
  congr 1
  cases q:pb k <;> simp [q]
theorem cntW_le (pb:Int→Bool) (k:Nat):cntW pb k≤k:=by
  unfold cntW
  have:=List.length_filter_le (fun j:Nat=>!pb j) (List.range k)
  rwa [List.length_range] at this
theorem blk_len {F:Func} (h:goodF F=true) {k:Nat} (hk:k < fstN F F.blocks_.length):k < (viewD F).block_.length:=by
  have ef:(viewD F).block_=List.replicate F.params_.toNat (-1)++blkOf F.blocks_ 0:=rfl
  obtain ⟨hp,hl,hh,_⟩:=goodF_spec h
  rw [ef,List.length_append,List.length_replicate]
  rcases (lay h).find k hk with h1 | ⟨b,hb,h1,h2⟩
  · omega
  · unfold fstN at h1 h2
    have:=(List.getElem?_eq_some_iff.1 (blkOf_N F.blocks_ 0 hh b (k - F.params_.toNat) hb (by omega) (by omega))).1
    omega
def flt {α:Type} [Inhabited α] (pv:Int→Bool) (base:Nat) (l:List α) (i:Nat):List α:=((List.range i).filter fun j=>!pv ((base + j:Nat):Int)).map fun j=>l[j]?.getD default
theorem flt_succ {α:Type} [Inhabited α] (pv:Int→Bool) (base:Nat) (l:List α) (i:Nat):flt pv base l (i + 1)=flt pv base l i++if pv ((base + i:Nat):Int)=true then [] else [l[i]?.getD default]:=by
  unfold flt
  rw [List.range_succ,List.filter_append,List.map_append]
  congr 1
  simp only [List.filter_cons,List.filter_nil]
  cases q:pv ((base + i:Nat):Int) <;> rfl
theorem flt_len {α:Type} [Inhabited α] (pv:Int→Bool) (base:Nat) (l:List α) (i:Nat):(flt pv base l i).length≤i:=by
  unfold flt
  have:=List.length_filter_le (fun j=>!pv ((base + j:Nat):Int)) (List.range i)
  rw [List.length_range] at this
  rwa [List.length_map]
theorem keepI {fv : Nat} {cv : List V} {Ev : Heap → Prop} {Kv : List Nat} {pv : Int → Bool} {Uv : Int → Prop} (hv : Pd fv cv Ev Kv Uv pv) (hnv : ¬ 145 = fv ∧ ¬ 48 = fv ∧ ¬ 91 = fv)
    {v:View} {w k base iid t16:Nat} {l:List AInst} {Hb:Heap} (hd:∀ H',Only [] Hb H'→decA (α:=Ptr View) H' (.ptr w 5 0 0)=(True,⟨v⟩)) (hE:Ev Hb) (hKv:∀ j∈Kv,j < Hb.length)
    (hk:k < v.first_.length∧k < v.blocks_.length) (hfs:fsV v k=base) (hbase:base + l.length≤1000) (hrow:Hb[iid]? = some (.row 3 (l.map Tr.cells))) (hone:∀ x∈l,x.args_.v.one=true) (hUv:∀ i:Nat,i < l.length→Uv ((base:Int) + i))
    {s2 s6 s8 s13 s14 s109 s110 s111:V} {n0:Nat} {c:Code} (hcd:(loopsIn (Tryz.f107.body.getD .skip))[3]? = some c) {Q:Exit→St→Prop} {s:St}
    (hs:IntoH s [(0,.ptr w 5 0 0),(1,.clo fv cv),(2,s2),(6,s6),(8,s8),(13,s13),(14,s14),(15,.d (.int .i64 k)),(16,.ptr t16 5 0 0),(17,.sl Hb.length 3 0 0),(109,s109),(110,s110),(111,s111),(121,.sl iid 3 0 l.length),(122,.d (.int .i64 l.length)),(123,.d (.int .i64 0))] (Hb++[.row 3 []]))
    (hq:∀ l' H' id,mk l' 0=.ptr w 5 0 0→mk l' 1=.clo fv cv→mk l' 2=s2→mk l' 6=s6→mk l' 8=s8→mk l' 13=s13→mk l' 14=s14→mk l' 15=.d (.int .i64 k)→mk l' 16=.ptr t16 5 0 0→mk l' 17=.sl id 3 0 (flt pv base l l.length).length →
      mk l' 109=s109→mk l' 110=s110→mk l' 111=s111→Only [] Hb H'→Hb.length≤id→H'[id]? = some (.row 3 ((flt pv base l l.length).map Tr.cells))→Q (.exit 7) ⟨mk l',H'⟩):W Tryz.prog 171 n0 c Q s:=by
  cases hcd
  obtain ⟨v1,v2,v3⟩:=hnv
  refine W_loopH (α:=Nat × Nat × Heap) (fun a=>[(0,.ptr w 5 0 0),(1,.clo fv cv),(2,s2),(6,s6),(8,s8),(13,s13),(14,s14),(15,.d (.int .i64 k)),(16,.ptr t16 5 0 0),(17,.sl a.2.1 3 0 (flt pv base l a.1).length),(109,s109),(110,s110),(111,s111),(121,.sl iid 3 0 l.length),(122,.d (.int .i64 l.length)),(123,.d (.int .i64 a.1))]) (fun a=>a.2.2)
    (fun a=>a.1≤l.length∧Only [] Hb a.2.2∧Hb.length≤a.2.1∧a.2.2[a.2.1]? = some (.row 3 ((flt pv base l a.1).map Tr.cells))) (fun a=>l.length - a.1) (0,Hb.length,Hb++[Place.row 3 []]) hs ⟨Nat.zero_le _,Only.app _ _ _,Nat.le_refl _,by simp [flt]⟩ ?_
  rintro ⟨i,id,H1⟩ ⟨hi,ho,hid,hr⟩
  simp only [] at hi ho hid hr ⊢
  have hol:=ho.len
  by_cases hil:i < l.length
  · have wk:IntKind.i64.wrap ((i:Int) + 1)=((i + 1:Nat):Int):=by rw [wrap_id] <;> omega
    have wb:IntKind.i64.wrap ((base:Int) + i)=((base + i:Nat):Int):=by rw [wrap_id] <;> omega
    have r1:H1[iid]? = some (.row 3 (l.map Tr.cells)):=(ho.at_ _ (List.getElem?_eq_some_iff.1 hrow).1 List.not_mem_nil).trans hrow
    have hidl:=(List.getElem?_eq_some_iff.1 hr).1
    obtain ⟨x,hx⟩:∃ x:AInst,l[i]? = some x:=⟨_,List.getElem?_eq_getElem hil⟩
    have hg1:(l.map Tr.cells)[i]? = some [.d (.int .i64 x.op_),.d (.int .i64 x.n_),x.args_.v]:=by rw [List.getElem?_map,hx];rfl
    have hg2:∀ h:i < (l.map (Tr.cells (α:=AInst))).length,(l.map Tr.cells)[i]=[.d (.int .i64 x.op_),.d (.int .i64 x.n_),x.args_.v]:=fun h=>by
      have:=List.getElem?_eq_getElem h
      rw [hg1] at this
      exact (Option.some.inj this).symm
    have hxi:∀ h:i < l.length,l[i]=x:=fun h=>by
      have:=List.getElem?_eq_getElem h
      rw [hx] at this
      exact (Option.some.inj this).symm
    have ho1:=hone x (List.mem_of_getElem? hx)
    have hdR:∀ R:Heap,decA (α:=Ptr View) (H1++R) (.ptr w 5 0 0)=(True,⟨v⟩):=fun R=>hd _ (ho.trans (Only.app [] _ _) (fun j hj=>hj) fun j hj _=>hj)
    have hk0:(0:Int)≤(k:Int):=by omega
    have hk1:(k:Int) < v.first_.length:=by omega
    have hk2:(k:Int) < v.blocks_.length:=by omega
    have hlm:(l.map (Tr.cells (α:=AInst))).length=l.length:=List.length_map _
    refine W_run mixed ⟨[],[K_145h],[48,91],171,n0,[0,1,2,6,7,8,9,10,11,12,13,14,15,16,17,18,19,20,39,40,41,43,55,80,81,82,87,109,110,111,112,118,121,122,123,124,134,144,145,146],[41,43,55,60,82,87,112,118,124,134,146]⟩ (fun | 1=>[0,1,2,5,6,7,8,12,13,14,15,3,9,10,16,4,11,17,18,19,20,21] | 18=>[0,1,2,5,6,7,8,3,9,10,4,11,12,13,14] | 35=>[0,2,3,4,6,1,5,7,8,9,10,11,12,13,14] | _=>[]) (by kernel_rfl) ?_
    simp only [stripX,stripOps,pickOps]
    simp [K_145h_f,K_145h_e,K_145h_g,-V.flat,-V.one,one_int,one_bool,one_str,one_nilp,one_rp,one_nilsl,one_ro,one_cl,one_nilf,one_nili,one_ifc,one_ptr,one_sl,one_clo,flat_d,flat_ptr,flat_sl,flat_clo,flat_agg,-decA,decA_int,decA_bool,decA_str,hil,r1,hg1,hg2,hxi,ho1,hdR,decA_int,hk0,hk1,hk2,hfs,wb,hlm,v1,v2,v3]
    rw [aft_call]
    refine (hv.call _ ((base:Int) + i) (hv.keep Hb _ (fun j hj=>?_) hE) (hUv i hil)).mono ?_
    · have:=hKv j hj
      rw [List.getElem?_append_left (by omega)]
      exact ho.at_ j this List.not_mem_nil
    rintro r H2 ⟨rfl,rfl⟩
    have hs:=flt_succ pv base l i
    rw [show ((base + i:Nat):Int)=(base:Int) + i by omega,hx] at hs
    cases hpv:pv ((base:Int) + i) with
    | true =>
      rw [hpv,if_pos rfl,List.append_nil] at hs
      simp [K_145h_f,K_145h_e,K_145h_g,-V.flat,-V.one,one_int,one_bool,one_str,one_nilp,one_rp,one_nilsl,one_ro,one_cl,one_nilf,one_nili,one_ifc,one_ptr,one_sl,one_clo,flat_d,flat_ptr,flat_sl,flat_clo,flat_agg,-decA,decA_int,decA_bool,decA_str,hil,r1,hg1,hg2,hxi,ho1]
      exact ⟨i + 1,id,_,⟨hil,ho.trans (Only.app [] _ _) (fun j hj=>hj) fun j hj _=>hj,hid,(List.getElem?_append_left hidl).trans (by rw [hs];exact hr)⟩,by omega,rfl,⟨rfl,by rw [hs]⟩,wk⟩
    | false =>
      rw [hpv,if_neg (by simp)] at hs
      have hr':∀ R:Heap,(H1++R)[id]? = some (.row 3 ((flt pv base l i).map Tr.cells)):=fun R=>(List.getElem?_append_left hidl).trans hr
      have hset:∀ (R:Heap) p,(H1++R).set id p=H1.set id p++R:=fun R p=>List.set_append_left _ _ hidl
      simp [K_145h_f,K_145h_e,K_145h_g,-V.flat,-V.one,one_int,one_bool,one_str,one_nilp,one_rp,one_nilsl,one_ro,one_cl,one_nilf,one_nili,one_ifc,one_ptr,one_sl,one_clo,flat_d,flat_ptr,flat_sl,flat_clo,flat_agg,-decA,decA_int,decA_bool,decA_str,hil,r1,hg1,hg2,hxi,ho1,hr',hset]
      have hfl:=flt_len pv base l i
      refine ⟨by omega,i + 1,H1.length + 2,_,⟨hil,⟨by simp;omega,fun j hj _=>?_⟩,by omega, ?_⟩,by omega,rfl,⟨rfl,by rw [hs];simp⟩,wk⟩
      · rw [List.getElem?_append_left (by simp;omega),List.getElem?_set_ne (by omega)]
        exact ho.at_ j hj List.not_mem_nil
      · rw [List.getElem?_append_right (by simp),List.length_set,Nat.add_sub_cancel_left,hs,List.map_append];rfl
  · have hie:i=l.length:=by omega
    subst hie
    refine W_run mixed ⟨[],[K_145h],[48,91],171,n0,[0,1,2,6,7,8,9,10,11,12,13,14,15,16,17,18,19,20,39,40,41,43,55,80,81,82,87,109,110,111,112,118,121,122,123,124,134,144,145,146],[41,43,55,60,82,87,112,118,124,134,146]⟩ (fun | 1=>[0,1,2,5,6,7,8,12,13,14,15,3,9,10,16,4,11,17,18,19,20,21] | 18=>[0,1,2,5,6,7,8,3,9,10,4,11,12,13,14] | 35=>[0,2,3,4,6,1,5,7,8,9,10,11,12,13,14] | _=>[]) (by kernel_rfl) ?_
    simp only [stripX,stripOps,pickOps]
    simp [K_145h_f,K_145h_e,K_145h_g,-V.flat,-V.one,one_int,one_bool,one_str,one_nilp,one_rp,one_nilsl,one_ro,one_cl,one_nilf,one_nili,one_ifc,one_ptr,one_sl,one_clo,flat_d,flat_ptr,flat_sl,flat_clo,flat_agg,-decA,decA_int,decA_bool,decA_str]
    exact hq _ _ _ (by simp) (by simp) (by simp) (by simp) (by simp) (by simp) (by simp) (by simp) (by simp) (by simp) (by simp) (by simp) (by simp) ho hid hr
def toJ (pb:Int→Bool) (x:Jump):Jump:=⟨bnoW pb x.to_.toNat,x.args_⟩
theorem toJumps {pb:Int→Bool} {nb br t16:Nat} {b:ABlock} {H0:Heap} {p e vl:Int} {vi:V} (hO:Own H0 b.jumps_) (hjv:b.jumps_.v=.sl b.jumps_.id 2 0 b.jumps_.l.length) (hl:b.jumps_.l.length≤1000) (hto:∀ x∈b.jumps_.l,0≤x.to_∧x.to_ < nb)
    (hcell:H0[t16]? = some (.row 5 [[.d (.int .i64 p),vi,.d (.int .i64 e),.d (.int .i64 vl),b.jumps_.v]])) (ht:t16 ∉ ids b.jumps_) (hrb:H0[br]? = some (.row 1 (fillR nb nb (fun j=>[.d (.int .i64 (bnoW pb j))]) [.d (.int .i64 0)]))) (hbn:br ∉ ids b.jumps_)
    {s0 s1 s2 s6 s13 s14 s15 s109 s110 s111:V} {n0:Nat} {c:Code} (hcd:(loopsIn (Tryz.f107.body.getD .skip))[4]? = some c) {Q:Exit→St→Prop} {s:St}
    (hs:IntoH s [(0,s0),(1,s1),(2,s2),(6,s6),(8,.sl br 1 0 nb),(13,s13),(14,s14),(15,s15),(16,.ptr t16 5 0 0),(109,s109),(110,s110),(111,s111),(144,.d (.int .i64 b.jumps_.l.length)),(145,.d (.int .i64 0))] H0)
    (hq:∀ l' H' js,mk l' 0=s0→mk l' 1=s1→mk l' 2=s2→mk l' 6=s6→mk l' 8=.sl br 1 0 nb→mk l' 13=s13→mk l' 14=s14→mk l' 15=s15→mk l' 16=.ptr t16 5 0 0 →
      mk l' 109=s109→mk l' 110=s110→mk l' 111=s111→Made H0 H' b.jumps_ js→Tr.era js=(Tr.era b.jumps_).map (toJ pb)→Q (.exit 9) ⟨mk l',H'⟩):W Tryz.prog 171 n0 c Q s:=by
  cases hcd
  refine W_loopH (α:=List AJump × List AJump × Heap) (fun a=>[(0,s0),(1,s1),(2,s2),(6,s6),(8,.sl br 1 0 nb),(13,s13),(14,s14),(15,s15),(16,.ptr t16 5 0 0),(109,s109),(110,s110),(111,s111),(144,.d (.int .i64 b.jumps_.l.length)),(145,.d (.int .i64 a.1.length))]) (fun a=>a.2.2)
    (fun a=>Mk (nk (toJ pb)) H0 b.jumps_ 0 a.1 a.2.1 0 a.2.2) (fun a=>b.jumps_.l.length - a.1.length) ([],b.jumps_.l,H0) hs (Mk.nil hO) ?_
  rintro ⟨m,l,H1⟩ hm
  dsimp only at hm
  have hc1:=(hm.only.at_ t16 (List.getElem?_eq_some_iff.1 hcell).1 ht).trans hcell
  have hb1:=(hm.only.at_ br (List.getElem?_eq_some_iff.1 hrb).1 hbn).trans hrb
  cases l with
  | nil =>
    have hge:=hm.ge
    obtain ⟨q1,q2⟩:=hm.done hge
    rw [mkL_nk] at q2
    have q3:Tr.era (⟨b.jumps_.v,m⟩:AS AJump)=(Tr.era b.jumps_).map (toJ pb):=congrArg Prod.fst q2
    refine W_run mixed ⟨[K_145],[K_145h],[48,91],171,n0,[0,1,2,6,7,8,9,10,11,12,13,14,15,16,17,18,19,20,39,40,41,43,55,80,81,82,87,109,110,111,112,118,121,122,123,124,134,144,145,146],[41,43,55,60,82,87,112,118,124,134,146]⟩ (fun | 1=>[0,1,2,5,6,7,8,12,13,14,15,3,9,10,16,4,11,17,18,19,20,21] | 18=>[0,1,2,5,6,7,8,3,9,10,4,11,12,13,14] | 35=>[0,2,3,4,6,1,5,7,8,9,10,11,12,13,14] | _=>[]) (by kernel_rfl) ?_
    simp only [stripX,stripOps,pickOps]
    simp [K_145_f,K_145_e,K_145h_f,K_145h_e,K_145h_g,-V.flat,-V.one,one_int,one_bool,one_str,one_nilp,one_rp,one_nilsl,one_ro,one_cl,one_nilf,one_nili,one_ifc,one_ptr,one_sl,one_clo,flat_d,flat_ptr,flat_sl,flat_clo,flat_agg,Nat.not_lt.2 hge]
    exact hq _ _ _ (by simp) (by simp) (by simp) (by simp) (by simp) (by simp) (by simp) (by simp) (by simp) (by simp) (by simp) (by simp) q1 q3
  | cons a l =>
    have hlt:=hm.lt
    obtain ⟨r1,r2,r3⟩:=hm.row
    have hmem:a∈b.jumps_.l:=List.mem_of_mem_drop (by rw [← hm.left];exact List.mem_cons_self)
    obtain ⟨x0,x1⟩:=hto a hmem
    have hxt:a.to_.toNat < nb:=by omega
    have hg:=fillR_get nb nb (fun j=>[V.d (.int .i64 (bnoW pb j))]) [.d (.int .i64 0)] hxt
    rw [if_pos hxt] at hg
    have hg2:∀ h:a.to_.toNat < (fillR nb nb (fun j=>[V.d (.int .i64 (bnoW pb j))]) [.d (.int .i64 0)]).length,(fillR nb nb (fun j=>[V.d (.int .i64 (bnoW pb j))]) [.d (.int .i64 0)])[a.to_.toNat]=[.d (.int .i64 (bnoW pb a.to_.toNat))]:=fun h=>by
      have:=List.getElem?_eq_getElem h
      rw [hg] at this
      exact (Option.some.inj this).symm
    have wi:IntKind.i64.wrap ((m.length:Int) + 1)=((m.length + 1:Nat):Int):=by rw [wrap_id] <;> omega
    have hset:(rowL m a l).set m.length [V.d (.int .i64 (bnoW pb a.to_.toNat)),a.args_.v]=rowL m ⟨bnoW pb a.to_.toNat,a.args_⟩ l:=rowL_set (a:=a) (⟨bnoW pb a.to_.toNat,a.args_⟩:AJump)
    refine W_run mixed ⟨[K_145],[K_145h],[48,91],171,n0,[0,1,2,6,7,8,9,10,11,12,13,14,15,16,17,18,19,20,39,40,41,43,55,80,81,82,87,109,110,111,112,118,121,122,123,124,134,144,145,146],[41,43,55,60,82,87,112,118,124,134,146]⟩ (fun | 1=>[0,1,2,5,6,7,8,12,13,14,15,3,9,10,16,4,11,17,18,19,20,21] | 18=>[0,1,2,5,6,7,8,3,9,10,4,11,12,13,14] | 35=>[0,2,3,4,6,1,5,7,8,9,10,11,12,13,14] | _=>[]) (by kernel_rfl) ?_
    simp only [stripX,stripOps,pickOps]
    simp [K_145_f,K_145_e,K_145h_f,K_145h_e,K_145h_g,-V.flat,-V.one,one_int,one_bool,one_str,one_nilp,one_rp,one_nilsl,one_ro,one_cl,one_nilf,one_nili,one_ifc,one_ptr,one_sl,one_clo,flat_d,flat_ptr,flat_sl,flat_clo,flat_agg,hlt,hc1,hb1,hjv,r1,rowL_len,rowL_get,rowL_at,x0,x1,hxt,hg,hg2,hset]
    have hw:=hm.wk.write (⟨bnoW pb a.to_.toNat,a.args_⟩:AJump) (show Tr.ok (⟨bnoW pb a.to_.toNat,a.args_⟩:AJump) from (hm.wk.elem.ok:Tr.ok a)) rfl
    exact ⟨_,l,_,hm.close hw rfl,by simp;omega,rfl,by rw [wi];simp⟩
end Go.Proofs.YtbmloeahcdneaaaGreat
end
