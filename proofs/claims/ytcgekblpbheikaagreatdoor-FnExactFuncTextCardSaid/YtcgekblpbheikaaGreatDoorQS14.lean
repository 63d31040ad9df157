/- Contracts of the specification's sets of numbers, and its ways from block to block. No condition. -/
import Derived.Test.YtcgekblpbheikaaGreatDoorQS13
namespace Go.Proofs.YtcgekblpbheikaaGreatDoor
set_option maxRecDepth 100000
set_option linter.unusedSimpArgs false
set_option linter.unusedVariables false
def putL:List Int→Int→List Int
  | [],n=>[n]
  | a :: l,n=>if a < n then a :: putL l n else if a=n then a :: l else n :: a :: l
theorem upto_take (l:List Int) {i:Nat} (h:i≤l.length):(upto i fun i=>[V.d (D.int IntKind.i64 (l[i]?.getD 0))])=rI (l.take i):=by
  refine List.ext_getElem? fun k=>?_
  rw [upto_get,List.getElem?_map,List.getElem?_take]
  split
  · rw [List.getElem?_eq_getElem (by omega)];rfl
  · rfl
theorem mem_putL {l : List Int} {n x : Int} : x ∈ putL l n ↔ x = n ∨ x ∈ l := by
  induction l with
  | nil=>simp [putL]
  | cons a l ih =>
    simp only [putL]
    split
    · rw [List.mem_cons,ih,List.mem_cons]
      constructor <;> rintro (h | h | h) <;> first | exact .inl (.inr h) | exact .inl (.inl h) | exact .inr h | exact .inl h | exact .inr (.inl h) | exact .inr (.inr h)
    · split
      · rename_i e
        subst e
        simp only [List.mem_cons]
        exact ⟨fun h=>.inr h,fun h=>h.elim (fun q=>.inl q) id⟩
      · simp
theorem putL_sorted {l : List Int} {n : Int} (h : l.Pairwise (· < ·)) : (putL l n).Pairwise (· < ·) := by
  induction l with
  | nil=>simp [putL]
  | cons a l ih =>
    simp only [putL]
    have h':=List.pairwise_cons.1 h
    split
    · rename_i hlt
      refine List.pairwise_cons.2 ⟨fun x hx=>?_,ih h'.2⟩
      rcases mem_putL.1 hx with rfl | hx
      · exact hlt
      · exact h'.1 x hx
    · split
      · exact h
      · rename_i h1 h2
        refine List.pairwise_cons.2 ⟨fun x hx=>?_,h⟩
        rcases List.mem_cons.1 hx with rfl | hx
        · omega
        · have:=h'.1 x hx;omega
theorem sorted_ext : ∀ {l l' : List Int}, l.Pairwise (· < ·) → l'.Pairwise (· < ·) → (∀ x, x ∈ l ↔ x ∈ l') → l = l'
  | [],[],_,_,_=>rfl
  | [],a :: l',_,_,h=>absurd ((h a).2 List.mem_cons_self) List.not_mem_nil
  | a :: l,[],_,_,h=>absurd ((h a).1 List.mem_cons_self) List.not_mem_nil
  | a :: l, b :: l', h1, h2, h => by
    obtain ⟨p1,p2⟩:=List.pairwise_cons.1 h1
    obtain ⟨q1,q2⟩:=List.pairwise_cons.1 h2
    have e:a=b:=by
      rcases List.mem_cons.1 ((h a).1 List.mem_cons_self) with e | e
      · exact e
      · rcases List.mem_cons.1 ((h b).2 List.mem_cons_self) with e' | e'
        · exact e'.symm
        · have:=p1 b e';have:=q1 a e;omega
    subst e
    refine congrArg (a :: ·) (sorted_ext p2 q2 fun x=>⟨fun hx=>?_,fun hx=>?_⟩)
    · rcases List.mem_cons.1 ((h x).1 (List.mem_cons_of_mem _ hx)) with e | e
      · subst e;exact absurd (p1 x hx) (by omega)
      · exact e
    · rcases List.mem_cons.1 ((h x).2 (List.mem_cons_of_mem _ hx)) with e | e
      · subst e;exact absurd (q1 x hx) (by omega)
      · exact e
end Go.Proofs.YtcgekblpbheikaaGreatDoor
