/- Branches whose way is known: plain laws, and trees whose jumps are made anew. No condition. -/
import Derived.Test.YtbmloeahcdneaaaGreatS48
import Derived.Test.YtbmloeahcdneaaaGreatS39
import Derived.Test.YtbmloeahcdneaaaGreatE7
namespace Go.Proofs.YtbmloeahcdneaaaGreat
set_option maxRecDepth 100000
set_option linter.unusedSimpArgs false
set_option linter.unusedVariables false
def foldB (F : Func) (b : Block) : Block :=
  if b.end_ = 3 ∧ nuB F b.value_ = true then ⟨b.params_, b.insts_, 2, 0, [b.jumps_[if nuN F b.value_ = 0 then 1 else 0]?.getD default]⟩ else b
def foldK (F : Func) (b : Block) : Int := if b.end_ = 3 ∧ nuB F b.value_ = true then 1 else 0
/-- A view whose blocks have other ends tells the same. -/
theorem kn_congr {v v' : View} {n : Int} (h1 : v'.first_ = v.first_) (h2 : v'.block_ = v.block_) (h3 : v'.blocks_.length = v.blocks_.length) (h4 : ∀ i : Nat, (v'.blocks_[i]?.getD default).insts_ = (v.blocks_[i]?.getD default).insts_ ∧ (v'.blocks_[i]?.getD default).params_ = (v.blocks_[i]?.getD default).params_) (h : okV v n) :
    okV v' n ∧ knB v' n = knB v n ∧ knN v' n = knN v n := by
  have e1 : bk v' n = bk v n := by unfold bk; rw [h2]
  have e2 : (blkAt v' n).insts_ = (blkAt v n).insts_ := by unfold blkAt; rw [e1]; exact (h4 _).1
  have e3 : (blkAt v' n).params_ = (blkAt v n).params_ := by unfold blkAt; rw [e1]; exact (h4 _).2
  have e4 : atV v' n = atV v n := by unfold atV; rw [e1, h1, e3]
  have e5 : instI v' n = instI v n := by unfold instI; rw [e2, e4]
  have e6 : knB v' n = knB v n := by unfold knB; rw [e1, e4, e5]
  refine ⟨?_, e6, by unfold knN; rw [e6, e5]⟩
  unfold okV at h ⊢
  rw [e1, e2, e4, h1, h2, h3]
  exact h
theorem vw_dec2 {n0 : Nat} {A : AFunc} {F : Func} {w f b : Nat} {G : Heap} (h : VW n0 A F w f b G) (hs : A.blocks_.v = .sl A.blocks_.id 5 0 A.blocks_.l.length) (hp : A.params_ = F.params_) {l : List ABlock} (hO : Own G (⟨A.blocks_.v, l⟩ : AS ABlock)) (hl : l.length = A.blocks_.l.length) :
    decA (α := Ptr View) G (.ptr w 5 0 0) = (True, ⟨⟨F.params_, l.map Tr.era, (viewD F).first_, (viewD F).block_, many F⟩⟩) := by
  have q1 : Dec.dec (α := List Block) G [.sl A.blocks_.id 5 0 A.blocks_.l.length] = (True, l.map Tr.era) := by
    have := dec_of hO
    rw [cells_AS, hs] at this
    exact this
  have q2 := dec_ints h.fr
  have q3 := dec_ints h.br
  have key : Dec.dec (α := Ptr View) G [.ptr w 5 0 0] = (True, ⟨⟨F.params_, l.map Tr.era, (viewD F).first_, (viewD F).block_, many F⟩⟩) := by
    rw [dec_ptr, h.view]
    show ((5 = 5 ∧ 0 + 5 ≤ 5) ∧ 0 < 1 ∧ (Dec.dec (α := View) G [_, _, _, _, _]).1, (⟨(Dec.dec (α := View) G [_, _, _, _, _]).2⟩ : Ptr View)) = _
    rw [dec_View, q1, q2, q3, dec_int, dec_int, hp]
    simp
  unfold Go.Proofs.YtbmloeahcdneaaaGreat.decA
  rw [show (V.ptr w 5 0 0).flat = [.ptr w 5 0 0] from rfl, key]
  exact Prod.ext (eq_true ⟨rfl, trivial⟩) rfl
/-- An element of a list of trees is another one, in part of the same places and in new ones. -/
theorem OwnL.put {α β : Type} [Enc β] [Dec β] [Inhabited β] [Tr α β] {H H' : Heap} {p r : List α} {a a' : α} (h : OwnL H (p ++ a :: r)) (ha : Own H' a') (hi : ∀ j ∈ ids a', j ∈ ids a ∨ H.length ≤ j) (hs : ∀ j ∈ p.flatMap ids ++ r.flatMap ids, H'[j]? = H[j]?) : OwnL H' (p ++ a' :: r) := by
  have hnd : (p.flatMap ids ++ (ids a ++ r.flatMap ids)).Nodup := by have := h.nd; simpa [List.flatMap_append, List.flatMap_cons] using this
  obtain ⟨n1, n2, n3⟩ := List.nodup_append.1 hnd
  obtain ⟨n4, n5, n6⟩ := List.nodup_append.1 n2
  have lt : ∀ j ∈ p.flatMap ids ++ r.flatMap ids, j < H.length := fun j hj => h.lt (by
    rw [List.flatMap_append, List.flatMap_cons]
    rcases List.mem_append.1 hj with q | q
    · exact List.mem_append_left _ q
    · exact List.mem_append_right _ (List.mem_append_right _ q))
  refine ⟨fun b hb => ?_, fun q hq => ?_, ?_⟩
  · rcases List.mem_append.1 hb with hb | hb
    · exact h.ok b (List.mem_append_left _ hb)
    · rcases List.mem_cons.1 hb with rfl | hb
      · exact ha.ok
      · exact h.ok b (List.mem_append_right _ (List.mem_cons_of_mem _ hb))
  · simp only [List.flatMap_append, List.flatMap_cons] at hq
    rcases List.mem_append.1 hq with hq | hq
    · have hm : q.1 ∈ p.flatMap ids := by rw [← ids_flat]; exact List.mem_map.2 ⟨q, hq, rfl⟩
      rw [hs q.1 (List.mem_append_left _ hm)]
      exact h.at_ q (by simp only [List.flatMap_append]; exact List.mem_append_left _ hq)
    · rcases List.mem_append.1 hq with hq | hq
      · exact ha.at_ q hq
      · have hm : q.1 ∈ r.flatMap ids := by rw [← ids_flat]; exact List.mem_map.2 ⟨q, hq, rfl⟩
        rw [hs q.1 (List.mem_append_right _ hm)]
        exact h.at_ q (by simp only [List.flatMap_append, List.flatMap_cons]; exact List.mem_append_right _ (List.mem_append_right _ hq))
  · rw [List.flatMap_append, List.flatMap_cons]
    refine List.nodup_append.2 ⟨n1, List.nodup_append.2 ⟨ha.nd, n5, fun x hx y hy e => ?_⟩, fun x hx y hy e => ?_⟩
    · subst e
      rcases hi x hx with q | q
      · exact n6 x q x hy rfl
      · have := lt x (List.mem_append_right _ hy); omega
    · subst e
      rcases List.mem_append.1 hy with hy | hy
      · rcases hi x hy with q | q
        · exact n3 x hx x (List.mem_append_left _ q) rfl
        · have := lt x (List.mem_append_left _ hx); omega
      · exact n3 x hx x (List.mem_append_right _ hy) rfl
end Go.Proofs.YtbmloeahcdneaaaGreat
