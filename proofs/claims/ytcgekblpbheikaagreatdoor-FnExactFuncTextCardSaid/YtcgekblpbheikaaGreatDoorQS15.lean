/- Contract of the specification's ways from block to block. No condition. -/
import Derived.Test.YtcgekblpbheikaaGreatDoorQS14
namespace Go.Proofs.YtcgekblpbheikaaGreatDoor
set_option maxRecDepth 100000
set_option linter.unusedSimpArgs false
set_option linter.unusedVariables false
structure SInv (nx:List (List Int)) (fr but:Int) (out:List Int):Prop where
  sorted:out.Pairwise (· < ·)
  start:fr∈out
  rng:∀ x∈out,0≤x∧x < nx.length
  sound:∀ x∈out,Rch nx fr but x
theorem numsOf_sorted (p:Nat→Bool) (n:Nat):(numsOf p n).Pairwise (· < ·):=by
  unfold numsOf
  refine List.Pairwise.map _ (fun a b h=>?_) (List.Pairwise.filter _ List.pairwise_lt_range)
  show (a:Int) < b
  omega
theorem sorted_len {out:List Int} {n:Nat} (h:out.Pairwise (· < ·)) (hr:∀ x∈out,0≤x∧x < n):out.length≤n:=by
  have:out=numsOf (fun k=>decide ((k:Int)∈out)) n:=sorted_ext h (numsOf_sorted _ _) fun x=>by
    rw [mem_numsOf]
    constructor
    · intro hx
      obtain ⟨h0,h1⟩:=hr x hx
      have:((x.toNat:Nat):Int)=x:=by omega
      exact ⟨h0,h1,by rw [this];exact decide_eq_true hx⟩
    · rintro ⟨h0,h1,h2⟩
      have:((x.toNat:Nat):Int)=x:=by omega
      rw [this] at h2
      exact of_decide_eq_true h2
  rw [this]
  exact numsOf_len _ _
theorem SInv.len {nx:List (List Int)} {fr but:Int} {out:List Int} (h:SInv nx fr but out):out.length≤nx.length:=sorted_len h.sorted h.rng
theorem putL_new {l:List Int} {n:Int} (h:n ∉ l):(putL l n).length=l.length + 1:=by
  induction l with
  | nil=>rfl
  | cons a l ih =>
    simp only [putL]
    have h1:¬ a=n:=fun e=>h (e ▸ List.mem_cons_self)
    split
    · rw [List.length_cons,ih fun q=>h (List.mem_cons_of_mem _ q)];rfl
    · first | rfl | (rw [if_neg h1];rfl)
theorem SInv.put {nx:List (List Int)} {fr but:Int} {out:List Int} {k b:Int} (hn:okNext nx) (h:SInv nx fr but out) (hk:k∈out) (hb:b∈nx[k.toNat]?.getD default) (hne:b ≠ but):SInv nx fr but (putL out b):=by
  refine ⟨putL_sorted h.sorted,mem_putL.2 (.inr h.start),fun x hx=>?_,fun x hx=>?_⟩
  · rcases mem_putL.1 hx with rfl | hx
    · exact (okNext_get hn _).2 _ hb
    · exact h.rng x hx
  · rcases mem_putL.1 hx with rfl | hx
    · exact .step (h.sound k hk) hb hne
    · exact h.sound x hx
theorem listB_rchB {nx:List (List Int)} {fr but x:Int}:x∈listB (rchB nx fr but) ↔ 0≤x∧x < nx.length∧Rch nx fr but x:=by
  rw [listB,mem_numsOf]
  constructor
  · rintro ⟨h0,h1,h2⟩
    have hl:x < nx.length:=by simpa [rchB] using h1
    have e:((x.toNat:Nat):Int)=x:=by omega
    have h3:x.toNat < nx.length:=by omega
    simp [rchB,h3,e] at h2
    exact ⟨h0,hl,h2⟩
  · rintro ⟨h0,h1,h2⟩
    have e:((x.toNat:Nat):Int)=x:=by omega
    have h3:x.toNat < nx.length:=by omega
    refine ⟨h0,by simpa [rchB] using h1, ?_⟩
    simp [rchB,h3,e,h2]
theorem SInv.done {nx:List (List Int)} {fr but:Int} {out:List Int} (h:SInv nx fr but out) (hc:∀ a∈out,∀ b∈nx[a.toNat]?.getD default,b ≠ but→b∈out):out=listB (rchB nx fr but):=by
  refine sorted_ext h.sorted (numsOf_sorted _ _) fun x=>?_
  rw [listB_rchB]
  constructor
  · intro hx
    obtain ⟨h0,h1⟩:=h.rng x hx
    exact ⟨h0,h1,h.sound x hx⟩
  · rintro ⟨_,_,hr⟩
    have all:∀ x,Rch nx fr but x→x∈out:=fun x hr=>by
      induction hr with
      | base=>exact h.start
      | step hr hb hne ih=>exact hc _ ih _ hb hne
    exact all x hr
structure MInv (nx:List (List Int)) (fr but:Int) (out0:List Int) (i:Nat) (l out:List Int) (more:Bool):Prop where
  inv:SInv nx fr but out
  sub:∀ x∈out0,x∈out
  past:∀ a∈out0.take i,∀ b∈nx[a.toNat]?.getD default,b ≠ but→b∈out
  now:∀ b∈l,b ≠ but→b∈out
  same:more=false→out=out0
  grow:more=true→out0.length < out.length
theorem MInv.keep {nx:List (List Int)} {fr but:Int} {out0 l out:List Int} {i j:Nat} {more:Bool} (h:MInv nx fr but out0 i (l.take j) out more) (hj:j < l.length) (hb:l[j]?.getD 0 ≠ but→l[j]?.getD 0∈out):MInv nx fr but out0 i (l.take (j + 1)) out more:=by
  refine ⟨h.inv,h.sub,h.past,fun b hb2 hne=>?_,h.same,h.grow⟩
  rw [List.take_succ_eq_append_getElem hj] at hb2
  rcases List.mem_append.1 hb2 with q | q
  · exact h.now b q hne
  · have e:b=l[j]?.getD 0:=by rw [List.getElem?_eq_getElem hj];simpa using q
    subst e;exact hb hne
theorem MInv.put {nx:List (List Int)} {fr but:Int} {out0 l out:List Int} {i j:Nat} {more:Bool} {k:Int} (hn:okNext nx) (h:MInv nx fr but out0 i (l.take j) out more) (hj:j < l.length) (hk:k∈out0) (hb:l[j]?.getD 0∈nx[k.toNat]?.getD default) (hne:l[j]?.getD 0 ≠ but) (hnew:l[j]?.getD 0 ∉ out) :
    MInv nx fr but out0 i (l.take (j + 1)) (putL out (l[j]?.getD 0)) true:=by
  have up:∀ x,x∈out→x∈putL out (l[j]?.getD 0):=fun x hx=>mem_putL.2 (.inr hx)
  refine ⟨h.inv.put hn (h.sub k hk) hb hne,fun x hx=>up x (h.sub x hx),fun a ha b hb hne=>up b (h.past a ha b hb hne),fun b hb2 hne=>?_,fun q=>(by cases q),fun _=>?_⟩
  · rw [List.take_succ_eq_append_getElem hj] at hb2
    rcases List.mem_append.1 hb2 with q | q
    · exact up b (h.now b q hne)
    · have e:b=l[j]?.getD 0:=by rw [List.getElem?_eq_getElem hj];simpa using q
      exact mem_putL.2 (.inl e)
  · rw [putL_new hnew]
    cases more with
    | false=>rw [h.same rfl];omega
    | true=>have:=h.grow rfl;omega
end Go.Proofs.YtcgekblpbheikaaGreatDoor
