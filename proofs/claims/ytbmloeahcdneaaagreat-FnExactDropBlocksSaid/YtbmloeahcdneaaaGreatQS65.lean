/- The blocks to which each block goes: of a view of a function that owns its memory, as closed data. No condition. -/
import Derived.Test.YtbmloeahcdneaaaGreatQE9
import Derived.Test.YtbmloeahcdneaaaGreatQS13
import Derived.Test.YtbmloeahcdneaaaGreatQS39
import Derived.Test.YtbmloeahcdneaaaGreatQS37
section
namespace Go.Proofs.YtbmloeahcdneaaaGreat
set_option maxRecDepth 100000
set_option linter.unusedSimpArgs false
set_option linter.unusedVariables false
end Go.Proofs.YtbmloeahcdneaaaGreat
end

section
namespace Go.Proofs.YtbmloeahcdneaaaGreat
set_option maxRecDepth 100000
set_option linter.unusedSimpArgs false
set_option linter.unusedVariables false
def Gr (n0 : Nat) (l : List Int) (v : V) (H : Heap) : Prop := (l = [] ∧ v = .d .nilsl) ∨ ∃ id, v = .sl id 1 0 l.length ∧ 0 < l.length ∧ n0 ≤ id ∧ H[id]? = some (.row 1 (rI l))
theorem Gr.new {n0 : Nat} {l : List Int} {H : Heap} {P : Place} {rows : List (List V)} {n : Nat} (h : n0 ≤ H.length) (hl : 0 < l.length) (hn : n = l.length) (hr : rows = rI l) : Gr n0 l (.sl (H.length + 1) 1 0 n) (H ++ [P, .row 1 rows]) :=
  .inr ⟨_, by rw [hn], hl, by omega, by rw [List.getElem?_append_right (by omega), Nat.add_sub_cancel_left, hr]; rfl⟩
theorem Gr.new2 {n0 id : Nat} {l : List Int} {H : Heap} {P : Place} {rows : List (List V)} {n : Nat} (h : n0 ≤ H.length) (hl : 0 < l.length) (hn : n = l.length) (hr : rows = rI l) : Gr n0 l (.sl (H.length + 1) 1 0 n) (H.set id .dead ++ [P, .row 1 rows]) := by
  have := Gr.new (n0 := n0) (H := H.set id .dead) (P := P) (by simpa using h) hl hn hr
  rwa [List.length_set] at this
theorem only_dead {H0 H : Heap} {id : Nat} {R : Heap} (h : Only [] H0 H) (hi : H0.length ≤ id) : Only [] H0 (H.set id .dead ++ R) :=
  ⟨by simp; have := h.len; omega, fun j hj _ => by rw [List.getElem?_append_left (by have := h.len; simp; omega), List.getElem?_set_ne (by omega)]; exact h.at_ j hj List.not_mem_nil⟩
theorem only_more {H0 H R : Heap} (h : Only [] H0 H) : Only [] H0 (H ++ R) := h.trans (Only.app [] _ _) (fun j hj => hj) fun j hj _ => hj
theorem Gr.fin {H H1 : Heap} {l : List Int} {v : V} {Q : V → Heap → Prop} (hg : Gr H.length l v H1) (ho : Only [] H H1) (hq : ∀ H', New H H' (⟨v, l⟩ : AS Int) → Q v H') : ∃ r' H', Fin H.length H1 v H' r' ∧ Q r' H' := by
  rcases hg with ⟨rfl, rfl⟩ | ⟨id, rfl, hp, hi, hr⟩
  · exact fin_new (own_nil _) ho (fun j hj => absurd hj List.not_mem_nil) hq
  · refine fin_new (a := (⟨.sl id 1 0 l.length, l⟩ : AS Int)) (own_row hr) ho (fun j hj => ?_) hq
    rw [ids_row] at hj
    rw [List.mem_singleton.1 hj]; exact hi
theorem rI_snoc {l : List Int} {x : Int} {n : Nat} (h : n = l.length) : List.take n (rI l) ++ [[V.d (.int .i64 x)]] = rI (l ++ [x]) := by
  subst h
  rw [List.take_of_length_le (by simp)]; simp
def mapL (T : List Int) (v : Int) : Int := T[v.toNat]?.getD 0
theorem take_mapL {T l : List Int} {i : Nat} (h : i < l.length) : (l.map (mapL T)).take (i + 1) = (l.map (mapL T)).take i ++ [mapL T (l[i]?.getD 0)] := by
  rw [List.take_succ_eq_append_getElem (by simpa using h), List.getElem?_eq_getElem h]; simp
theorem l15Args_own (H : Heap) (l T : List Int) (h1 : l.length ≤ 1000) (hT : ∀ v ∈ l, 0 ≤ v ∧ v < T.length) : CallsD Tryz.prog 135 [.d (dIntS l), .d (dIntS T)] H fun r H' => ∃ s : AS Int, r = s.v ∧ s.l = l.map (mapL T) ∧ New H H' s := by
  refine calls_of Tryz.func135 en_135 rfl (of_decide_eq_true rfl) (W_run mixed ⟨[], [], [], 23, H.length, [0, 1, 4, 5, 7, 8, 9, 10, 11], [11]⟩ (fun _ => []) (by kernel_rfl) ?_)
  simp only [Tryz.f135, stripX, stripOps, pickOps]
  simp [-V.flat, -V.one, one_int, one_bool, one_str, one_nilp, one_rp, one_nilsl, one_ro, one_cl, one_nilf, one_nili, one_ifc, one_ptr, one_sl, one_clo, flat_d, flat_ptr, flat_sl, flat_clo, flat_agg, retQ]
  refine W_loopH (α := Nat × V × Heap) (fun a => [(1, .d (dIntS T)), (5, a.2.1), (8, .d (dIntS l)), (9, .d (.int .i64 l.length)), (10, .d (.int .i64 a.1))]) (fun a => a.2.2) (fun a => a.1 ≤ l.length ∧ Gr H.length ((l.map (mapL T)).take a.1) a.2.1 a.2.2 ∧ Only [] H a.2.2) (fun a => l.length - a.1) (0, .d .nilsl, H) ?_ ⟨Nat.zero_le _, .inl ⟨rfl, rfl⟩, Only.refl _ _⟩ ?_
  · simp
  rintro ⟨k, v, H1⟩ ⟨hk, hg, ho⟩
  simp only [] at hk hg ho
  have hol := ho.len
  have hlen : k ≤ l.length → ((l.map (mapL T)).take k).length = k := fun h => by simp; omega
  have wk : k < l.length → IntKind.i64.wrap ((k : Int) + 1) = ((k + 1 : Nat) : Int) := fun h => by rw [wrap_id] <;> omega
  have done : l.length ≤ k → (l.map (mapL T)).take k = l.map (mapL T) := fun h => by rw [List.take_of_length_le (by simpa using h)]
  have hv : k < l.length → 0 ≤ l[k]?.getD 0 ∧ l[k]?.getD 0 < T.length := fun h => hT _ (by rw [List.getElem?_eq_getElem h]; exact List.getElem_mem h)
  have hg0 := hg
  rcases hg with ⟨q, rfl⟩ | ⟨id, rfl, hp, hi, hr⟩
  · have k0 : k = 0 := by have := hlen hk; rw [q] at this; exact this.symm
    refine W_run mixed ⟨[], [], [], 23, H.length, [0, 1, 4, 5, 7, 8, 9, 10, 11], [11]⟩ (fun _ => []) (by kernel_rfl) ?_
    simp only [stripX, stripOps, pickOps]
    simp [-V.flat, -V.one, one_int, one_bool, one_str, one_nilp, one_rp, one_nilsl, one_ro, one_cl, one_nilf, one_nili, one_ifc, one_ptr, one_sl, one_clo, flat_d, flat_ptr, flat_sl, flat_clo, flat_agg, retQ]
    refine ⟨fun h => ⟨h, hv h, k + 1, _, _, ⟨by omega, Gr.new hol (by simp; omega) ?_ ?_, only_more ho⟩, by omega, rfl, rfl, wk h⟩, fun h => hg0.fin ho fun H' h' => ⟨_, rfl, by rw [done h], h'⟩⟩
    · simp; omega
    · rw [take_mapL h, q]; rfl
  · rw [hlen hk] at hg0 ⊢
    have hid := (List.getElem?_eq_some_iff.1 hr).1
    have hr' : ∀ R : Heap, (H1 ++ R)[id]? = some (.row 1 (rI ((l.map (mapL T)).take k))) := fun R => (List.getElem?_append_left hid).trans hr
    have hset : ∀ (R : Heap) p, (H1 ++ R).set id p = H1.set id p ++ R := fun R p => List.set_append_left _ _ hid
    have hlk := hlen hk
    have hgf : l.length ≤ k → ∃ r' H', Fin H.length H1 (.sl id 1 0 k) H' r' ∧ ∃ s : AS Int, r' = s.v ∧ s.l = l.map (mapL T) ∧ New H H' s := fun h => by
      have := hg0.fin (Q := fun r H' => ∃ s : AS Int, r = s.v ∧ s.l = l.map (mapL T) ∧ New H H' s) ho fun H' h' => ⟨_, rfl, by rw [done h], h'⟩
      exact this
    generalize hm : (l.map (mapL T)).take k = m at hg0 hr' hlk
    have hml : m.length = k := hlk
    refine W_run mixed ⟨[], [], [], 23, H.length, [0, 1, 4, 5, 7, 8, 9, 10, 11], [11]⟩ (fun _ => []) (by kernel_rfl) ?_
    simp only [stripX, stripOps, pickOps]
    simp [-V.flat, -V.one, one_int, one_bool, one_str, one_nilp, one_rp, one_nilsl, one_ro, one_cl, one_nilf, one_nili, one_ifc, one_ptr, one_sl, one_clo, flat_d, flat_ptr, flat_sl, flat_clo, flat_agg, retQ, hr', hset, hml]
    subst hm
    refine ⟨fun h => ⟨h, hv h, by omega, k + 1, _, _, ⟨by omega, Gr.new2 hol (by simp; omega) (by simp; omega) ?_, only_dead ho hi⟩, by omega, rfl, rfl, wk h⟩, fun h => hgf h⟩
    rw [rI_snoc hlk.symm, take_mapL h]; rfl
end Go.Proofs.YtbmloeahcdneaaaGreat
end

section
namespace Go.Proofs.YtbmloeahcdneaaaGreat
set_option maxRecDepth 100000
set_option linter.unusedSimpArgs false
set_option linter.unusedVariables false
theorem list_set_self {γ : Type} {l : List γ} {i : Nat} {x : γ} (h : l[i]? = some x) : l.set i x = l := by
  refine List.ext_getElem? fun j => ?_
  rw [List.getElem?_set]
  split
  · rename_i e; subst e; rw [if_pos (List.getElem?_eq_some_iff.1 h).1, h]
  · rfl
theorem next_tree (H : Heap) (v : View) (hv : fewJumps v.blocks_) : CallsD Tryz.prog 106 [.d (.rp 5 (dView v))] H fun r H' => ∃ s : AS (AS Int), r = s.v ∧ Tr.era s = nextL v.blocks_ ∧ New H H' s := by
  obtain ⟨h8, h2⟩ := hv
  have f1 : (v.blocks_.length : Int) * 24 ≤ 140737488355328 := by omega
  have f2 : (v.blocks_.length : Int) ≤ 140737488355328 := by omega
  refine calls_of Tryz.func106 en_106 rfl (of_decide_eq_true rfl) (W_run mixed ⟨[], [], [], 47, H.length, [0, 2, 3, 4, 5, 7, 19, 20, 21, 22, 27, 28, 29, 30], [22, 30]⟩ (fun | 8 => [0, 1, 2, 3, 4, 6, 5, 7, 8, 9, 10, 11] | _ => []) (by kernel_rfl) ?_)
  simp only [Tryz.f106, stripX, stripOps, pickOps]
  simp [f1, f2, retQ]
  refine W_loopH (α := List (AS Int) × Heap) (fun a => [(3, .sl H.length 1 0 v.blocks_.length), (19, .d (dBlockS v.blocks_)), (20, .d (.int .i64 v.blocks_.length)), (21, .d (.int .i64 a.1.length))]) (fun a => a.2)
    (fun a => Fl H.length v.blocks_ [.d .nilsl] tos a.1 a.2 ∧ Only [] H a.2) (fun a => v.blocks_.length - a.1.length) ([], H ++ [.row 1 (List.replicate v.blocks_.length [.d .nilsl])]) ?_ ⟨Fl.nil (by simp), Only.app _ _ _⟩ ?_
  · simp
  rintro ⟨m, H1⟩ ⟨hf, ho⟩
  simp only [] at hf ho
  have hlt := hf.lt
  have hrow : H1[H.length]? = some (.row 1 (partT m v.blocks_.length [.d .nilsl])) := hf.row
  by_cases hin : m.length < v.blocks_.length
  · have hb := h2 (v.blocks_[m.length]?.getD default) (by rw [List.getElem?_eq_getElem hin]; exact List.getElem_mem hin)
    have w1 : IntKind.i64.wrap 1 = 1 := by decide
    have w2 : IntKind.i64.wrap 2 = 2 := by decide
    have wi : IntKind.i64.wrap ((m.length : Int) + 1) = ((m.length + 1 : Nat) : Int) := by rw [wrap_id] <;> omega
    have hg : ∀ R : Heap, (H1 ++ R)[H.length]? = some (.row 1 (partT m v.blocks_.length [.d .nilsl])) := fun R => (List.getElem?_append_left hlt).trans hrow
    have hset : ∀ (R : Heap) p, (H1 ++ R).set H.length p = H1.set H.length p ++ R := fun R p => List.set_append_left _ _ hlt
    have s3 : ∀ (R : Heap) p, (H1.set H.length p ++ R)[H.length]? = some p := fun R p => (List.getElem?_append_left (by simpa using hlt)).trans (List.getElem?_set_self hlt)
    have s4 : ∀ (R : Heap) p x, (H1.set H.length p ++ R).set H.length x = H1.set H.length x ++ R := fun R p x => by rw [List.set_append_left _ _ (by simpa using hlt), List.set_set]
    have pl : (partT m v.blocks_.length [V.d .nilsl]).length = v.blocks_.length := partT_len hf.le
    have pg : (partT m v.blocks_.length [V.d .nilsl])[m.length]? = some [.d .nilsl] := partT_get hin
    have pg' : ∀ h : m.length < (partT m v.blocks_.length [V.d .nilsl]).length, (partT m v.blocks_.length [V.d .nilsl])[m.length] = [.d .nilsl] := fun h => Option.some.inj ((List.getElem?_eq_getElem h).symm.trans pg)
    have ps : ∀ x : List V, ((partT m v.blocks_.length [V.d .nilsl]).set m.length x)[m.length]? = some x := fun x => List.getElem?_set_self (by rw [pl]; exact hin)
    have ps' : ∀ (x : List V) (h : m.length < ((partT m v.blocks_.length [V.d .nilsl]).set m.length x).length), ((partT m v.blocks_.length [V.d .nilsl]).set m.length x)[m.length] = x := fun x h => Option.some.inj ((List.getElem?_eq_getElem h).symm.trans (ps x))
    generalize hx : v.blocks_[m.length]?.getD default = x at hb
    have hx' : ∀ h : m.length < v.blocks_.length, v.blocks_[m.length] = x := fun h => by rw [← hx, List.getElem?_eq_getElem h]; rfl
    have he : ∀ js, x.jumps_ = js → tos x = js.map (·.to_) := fun js e => by rw [tos, e]
    have onl : ∀ (R : Heap) p, Only [] H (H1.set H.length p ++ R) := fun R p => ⟨by simp; omega, fun j hj _ => by
      rw [List.getElem?_append_left (by simp; omega), List.getElem?_set_ne (by omega)]
      exact ho.at_ j hj List.not_mem_nil⟩
    have key : ∀ (R : Heap) (p n : Nat) (l : List Int), (H1 ++ R)[p]? = some (.row 1 (rI l)) → H1.length ≤ p → n = l.length → tos x = l → Fl H.length v.blocks_ [.d .nilsl] tos (m ++ [(⟨.sl p 1 0 n, l⟩ : AS Int)]) (H1.set H.length (.row 1 ((partT m v.blocks_.length [V.d .nilsl]).set m.length [.sl p 1 0 n])) ++ R) := fun R p n l hr hpl hn hl => by
      subst hn
      have h := (hf.frame (Only.app [] H1 R) List.not_mem_nil fun j _ hj => absurd hj List.not_mem_nil).step hin (own_row hr) (fun j hj => by
        rw [ids_row] at hj
        rw [List.mem_singleton.1 hj]
        exact ⟨by omega, fun q => by have := hf.own.lt q; omega⟩) (by rw [era_AS_ints, hx]; exact hl.symm)
      rw [← partT_set _ hin, hset] at h
      exact h
    have key0 : ∀ R : Heap, tos x = [] → Fl H.length v.blocks_ [.d .nilsl] tos (m ++ [(⟨.d .nilsl, []⟩ : AS Int)]) (H1 ++ R) := fun R hl => by
      have h := (hf.frame (Only.app [] H1 R) List.not_mem_nil fun j _ hj => absurd hj List.not_mem_nil).step (a := (⟨.d .nilsl, []⟩ : AS Int)) hin (own_nil _) (fun j hj => absurd hj List.not_mem_nil) (by rw [hx, hl]; rfl)
      rw [← partT_set _ hin] at h
      have e : (partT m v.blocks_.length [V.d .nilsl]).set m.length (Tr.cells (⟨.d .nilsl, []⟩ : AS Int)) = partT m v.blocks_.length [V.d .nilsl] := list_set_self pg
      rw [e, show Enc.size (List Int) = 1 from rfl, list_set_self (hg R)] at h
      exact h
    generalize hp : partT m v.blocks_.length [V.d .nilsl] = pr at hrow hg pl pg pg' ps ps' key
    match hjs : x.jumps_, hb with
    | [], _ =>
      refine W_run mixed ⟨[], [], [], 47, H.length, [0, 2, 3, 4, 5, 7, 19, 20, 21, 22, 27, 28, 29, 30], [22, 30]⟩ (fun | 8 => [0, 1, 2, 3, 4, 6, 5, 7, 8, 9, 10, 11] | _ => []) (by kernel_rfl) ?_
      simp only [stripX, stripOps, pickOps]
      simp [hin, hjs, hx, hx', hg]
      refine W_rounds 1 (WR_succ ?_)
      refine W_run mixed ⟨[], [], [], 47, H.length, [0, 2, 3, 4, 5, 7, 19, 20, 21, 22, 27, 28, 29, 30], [22, 30]⟩ (fun | 8 => [0, 1, 2, 3, 4, 6, 5, 7, 8, 9, 10, 11] | _ => []) (by kernel_rfl) ?_
      simp only [stripX, stripOps, pickOps]
      simp [hjs, hx, hx']
      exact ⟨_, _, ⟨key0 _ (he _ hjs), only_more ho⟩, by simp; omega, rfl, by rw [wi]; simp⟩
    | [a], _ =>
      refine W_run mixed ⟨[], [], [], 47, H.length, [0, 2, 3, 4, 5, 7, 19, 20, 21, 22, 27, 28, 29, 30], [22, 30]⟩ (fun | 8 => [0, 1, 2, 3, 4, 6, 5, 7, 8, 9, 10, 11] | _ => []) (by kernel_rfl) ?_
      simp only [stripX, stripOps, pickOps]
      simp [hin, hjs, hx, hx', hg]
      refine W_rounds 2 (WR_succ ?_)
      refine W_run mixed ⟨[], [], [], 47, H.length, [0, 2, 3, 4, 5, 7, 19, 20, 21, 22, 27, 28, 29, 30], [22, 30]⟩ (fun | 8 => [0, 1, 2, 3, 4, 6, 5, 7, 8, 9, 10, 11] | _ => []) (by kernel_rfl) ?_
      simp only [stripX, stripOps, pickOps]
      simp [hjs, hx, hx', w1, hg, hset, pl, pg, pg', hin]
      refine WR_succ ?_
      refine W_run mixed ⟨[], [], [], 47, H.length, [0, 2, 3, 4, 5, 7, 19, 20, 21, 22, 27, 28, 29, 30], [22, 30]⟩ (fun | 8 => [0, 1, 2, 3, 4, 6, 5, 7, 8, 9, 10, 11] | _ => []) (by kernel_rfl) ?_
      simp only [stripX, stripOps, pickOps]
      simp [hjs, hx, hx', w1]
      exact ⟨_, _, ⟨key _ _ _ [a.to_] (by rw [List.getElem?_append_right (by omega), Nat.add_sub_cancel_left]; rfl) (by omega) rfl (he _ hjs), onl _ _⟩, by simp; omega, rfl, by rw [wi]; simp⟩
    | [a, b], _ =>
      refine W_run mixed ⟨[], [], [], 47, H.length, [0, 2, 3, 4, 5, 7, 19, 20, 21, 22, 27, 28, 29, 30], [22, 30]⟩ (fun | 8 => [0, 1, 2, 3, 4, 6, 5, 7, 8, 9, 10, 11] | _ => []) (by kernel_rfl) ?_
      simp only [stripX, stripOps, pickOps]
      simp [hin, hjs, hx, hx', hg]
      refine W_rounds 3 (WR_succ ?_)
      refine W_run mixed ⟨[], [], [], 47, H.length, [0, 2, 3, 4, 5, 7, 19, 20, 21, 22, 27, 28, 29, 30], [22, 30]⟩ (fun | 8 => [0, 1, 2, 3, 4, 6, 5, 7, 8, 9, 10, 11] | _ => []) (by kernel_rfl) ?_
      simp only [stripX, stripOps, pickOps]
      simp [hjs, hx, hx', w1, hg, hset, pl, pg, pg', hin]
      refine WR_succ ?_
      refine W_run mixed ⟨[], [], [], 47, H.length, [0, 2, 3, 4, 5, 7, 19, 20, 21, 22, 27, 28, 29, 30], [22, 30]⟩ (fun | 8 => [0, 1, 2, 3, 4, 6, 5, 7, 8, 9, 10, 11] | _ => []) (by kernel_rfl) ?_
      simp only [stripX, stripOps, pickOps]
      simp [hjs, hx, hx', w1, w2, hg, hset, pl, pg, pg', hin, s3, s4, ps, ps']
      refine WR_succ ?_
      refine W_run mixed ⟨[], [], [], 47, H.length, [0, 2, 3, 4, 5, 7, 19, 20, 21, 22, 27, 28, 29, 30], [22, 30]⟩ (fun | 8 => [0, 1, 2, 3, 4, 6, 5, 7, 8, 9, 10, 11] | _ => []) (by kernel_rfl) ?_
      simp only [stripX, stripOps, pickOps]
      simp [hjs, hx, hx', w1, w2]
      exact ⟨_, _, ⟨key _ _ _ [a.to_, b.to_] (by rw [List.getElem?_append_right (by omega), Nat.add_sub_cancel_left]; rfl) (by omega) rfl (he _ hjs), onl _ _⟩, by simp; omega, rfl, by rw [wi]; simp⟩
  · refine W_run mixed ⟨[], [], [], 47, H.length, [0, 2, 3, 4, 5, 7, 19, 20, 21, 22, 27, 28, 29, 30], [22, 30]⟩ (fun | 8 => [0, 1, 2, 3, 4, 6, 5, 7, 8, 9, 10, 11] | _ => []) (by kernel_rfl) ?_
    simp only [stripX, stripOps, pickOps]
    simp [hin, retQ]
    obtain ⟨d1, d2, d3⟩ := hf.done (by omega)
    refine fin_new d1 ho (fun j hj => ?_) fun H' h' => ⟨_, rfl, d2, h'⟩
    rw [d3] at hj
    rcases List.mem_cons.1 hj with rfl | hj
    · exact Nat.le_refl _
    · have := hf.ge j hj; omega
theorem next_own {H : Heap} {v : View} {w : Nat} (hd : decA (α := Ptr View) H (.ptr w 5 0 0) = (True, ⟨v⟩)) (hv : fewJumps v.blocks_) :
    CallsD Tryz.prog 106 [.ptr w 5 0 0] H fun r H' => r = .d (dIntSS (nextL v.blocks_)) ∧ ∃ k, H' = H ++ List.replicate k .dead := by
  have hr : Rd1 H (.ptr w 5 0 0) (.d (.rp 5 (dView v))) := Rd1.dec (α := Ptr View) (a := ⟨v⟩) ⟨of_eq_true (congrArg Prod.fst hd), congrArg Prod.snd hd⟩
  refine CallsD.closeS (α := AS Int) (l := nextL v.blocks_) ((CallsD.peekN (T := fun r (s : AS (AS Int)) => r = s.v ∧ Tr.era s = nextL v.blocks_) ((next_tree (deads _) v hv).mono fun r H' ⟨s, q1, q2, q3⟩ => ⟨s, ⟨q1, q2⟩, q3⟩) (Rd1.list (vs := [.ptr w 5 0 0]) (vs' := [.d (.rp 5 (dView v))]) ⟨hr, trivial⟩) ?_).mono fun r H' ⟨s, ⟨q1, q2⟩, q3⟩ => ⟨s, q1, q2, q3⟩)
  rintro r s hok ⟨rfl, _⟩
  exact (show okS s from hok).1.scl.1
end Go.Proofs.YtbmloeahcdneaaaGreat
end
