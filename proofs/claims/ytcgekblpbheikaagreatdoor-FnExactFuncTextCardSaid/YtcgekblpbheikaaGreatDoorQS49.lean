/- Branches whose way is known: plain laws, and trees whose jumps are made anew. No condition. -/
import Derived.Test.YtcgekblpbheikaaGreatDoorQE8
import Derived.Test.YtcgekblpbheikaaGreatDoorQS39
import Derived.Test.YtcgekblpbheikaaGreatDoorQS48
namespace Go.Proofs.YtcgekblpbheikaaGreatDoor
set_option maxRecDepth 100000
set_option linter.unusedSimpArgs false
set_option linter.unusedVariables false
theorem OwnL.put {α β : Type} [Enc β] [Dec β] [Inhabited β] [Tr α β] {H H' : Heap} {p r : List α} {a a' : α} (h : OwnL H (p ++ a :: r)) (ha : Own H' a') (hi : ∀ j ∈ ids a', j ∈ ids a ∨ H.length ≤ j) (hs : ∀ j ∈ p.flatMap ids ++ r.flatMap ids, H'[j]? = H[j]?) : OwnL H' (p ++ a' :: r) := by
  have hnd:(p.flatMap ids++(ids a++r.flatMap ids)).Nodup:=by have:=h.nd;simpa [List.flatMap_append,List.flatMap_cons] using this
  obtain ⟨n1,n2,n3⟩:=List.nodup_append.1 hnd
  obtain ⟨n4,n5,n6⟩:=List.nodup_append.1 n2
  have lt:∀ j∈p.flatMap ids++r.flatMap ids,j < H.length:=fun j hj=>h.lt (by
    rw [List.flatMap_append,List.flatMap_cons]
    rcases List.mem_append.1 hj with q | q
    · exact List.mem_append_left _ q
    · exact List.mem_append_right _ (List.mem_append_right _ q))
  refine ⟨fun b hb=>?_,fun q hq=>?_, ?_⟩
  · rcases List.mem_append.1 hb with hb | hb
    · exact h.ok b (List.mem_append_left _ hb)
    · rcases List.mem_cons.1 hb with rfl | hb
      · exact ha.ok
      · exact h.ok b (List.mem_append_right _ (List.mem_cons_of_mem _ hb))
  · simp only [List.flatMap_append,List.flatMap_cons] at hq
    rcases List.mem_append.1 hq with hq | hq
    · have hm:q.1∈p.flatMap ids:=by rw [← ids_flat];exact List.mem_map.2 ⟨q,hq,rfl⟩
      rw [hs q.1 (List.mem_append_left _ hm)]
      exact h.at_ q (by simp only [List.flatMap_append];exact List.mem_append_left _ hq)
    · rcases List.mem_append.1 hq with hq | hq
      · exact ha.at_ q hq
      · have hm:q.1∈r.flatMap ids:=by rw [← ids_flat];exact List.mem_map.2 ⟨q,hq,rfl⟩
        rw [hs q.1 (List.mem_append_right _ hm)]
        exact h.at_ q (by simp only [List.flatMap_append,List.flatMap_cons];exact List.mem_append_right _ (List.mem_append_right _ hq))
  · rw [List.flatMap_append,List.flatMap_cons]
    refine List.nodup_append.2 ⟨n1,List.nodup_append.2 ⟨ha.nd,n5,fun x hx y hy e=>?_⟩,fun x hx y hy e=>?_⟩
    · subst e
      rcases hi x hx with q | q
      · exact n6 x q x hy rfl
      · have:=lt x (List.mem_append_right _ hy);omega
    · subst e
      rcases List.mem_append.1 hy with hy | hy
      · rcases hi x hy with q | q
        · exact n3 x hx x (List.mem_append_left _ q) rfl
        · have:=lt x (List.mem_append_left _ hx);omega
      · exact n3 x hx x (List.mem_append_right _ hy) rfl
theorem Rd1.tup {H:Heap} {l l':List V} (h:Rds H l l'):Rd1 H (.tup l) (.tup l'):=fun X w φ v hs hv=>by
  simp only [VS] at hv ⊢
  obtain ⟨cs,rfl,h2⟩:=hv
  exact ⟨cs,rfl,Rd1.list h X w φ _ hs h2⟩
end Go.Proofs.YtcgekblpbheikaaGreatDoor
