/- The abstract machine, part 15: arguments that are read as data stand for data of Lean; a law that answers true, as a row asks it. No condition. -/
import Derived.Test.YtpakdkiceoknjaaB4
import Derived.OpenShut
import Derived.RowKit3
import Derived.ChangeOld
import Derived.ProofKit
import Derived.Carry
import Derived.DataElems
namespace Go.Proofs.Ytpakdkiceoknjaa
open Go.ChangeShapes Go.WideShapes Go.ChangeAt Go.RowKit
set_option linter.unusedVariables false

/-- Data of Lean that stand in cells. -/
class Enc (α : Type) where
  size : Nat
  agg : Bool
  cells : α → Nat → D
  good : α → Prop
  un : (Nat → D) → α
  un_of : ∀ (a : α) (f : Nat → D), (∀ j, j < size → f j = cells a j) → un f = a

/-- What type t's cells read as in Go stands for data of Lean. -/
structure Reads (P : Program) (t : TypeId) (α : Type) [Enc α] : Prop where
  cells : P.cellsOf t = Enc.size α
  kind : match P.underlying t with | some (.struct _) => Enc.agg α = true | some (.array _ _) => False | _ => Enc.agg α = false ∧ Enc.size α = 1
  read : ∀ (H : Type) (enc : TypeId × Value → H) (w : World) (fuel : Nat) (cs : List Value) (x : DataW H × List MemPlace), DataW.trod enc P w 0 (fun _ => true) true fuel t cs = some x →
    cs.length = Enc.size α ∧ ∃ a : α, Enc.good a ∧ ∀ j v, cs[j]? = some v → DS w (fun _ => False) (Enc.cells a j) v

@[reducible] instance encInt : Enc Int where
  size := 1
  agg := false
  cells n _ := .int .i64 n
  good n := -9223372036854775808 ≤ n ∧ n ≤ 9223372036854775807
  un f := match f 0 with | .int _ n => n | _ => 0
  un_of a f h := by rw [h 0 (by omega)]
@[reducible] instance encBool : Enc Bool where
  size := 1
  agg := false
  cells b _ := .bool b
  good _ := True
  un f := match f 0 with | .bool b => b | _ => false
  un_of a f h := by rw [h 0 (by omega)]
@[reducible] instance encStr : Enc ByteArray where
  size := 1
  agg := false
  cells s _ := .str s
  good s := s.size ≤ 9223372036854775807
  un f := match f 0 with | .str s => s | _ => default
  un_of a f h := by rw [h 0 (by omega)]
@[reducible] instance encList {α : Type} [Enc α] [Inhabited α] : Enc (List α) where
  size := 1
  agg := false
  cells l _ := .ro (Enc.size α) l.length fun i j => Enc.cells (l[i]?.getD default) j
  good l := l.length ≤ 9223372036854775807 ∧ ∀ a ∈ l, Enc.good a
  un f := match f 0 with | .ro _ n g => (List.range n).map fun i => Enc.un (g i) | _ => []
  un_of a f h := by
    rw [h 0 (by omega)]
    refine List.ext_getElem (by simp) fun i h1 h2 => ?_
    simp only [List.getElem_map, List.getElem_range]
    refine Enc.un_of _ _ fun j _ => ?_
    rw [List.getElem?_eq_getElem h2]
    rfl

theorem reads_int {P : Program} {t : TypeId} (ht : P.underlying t = some (.int .i64)) (hc : P.cellsOf t = 1) : Reads P t Int := by
  refine ⟨hc, by rw [ht]; exact ⟨rfl, rfl⟩, fun H enc w fuel cs x h => ?_⟩
  obtain ⟨n, rfl, _, hw⟩ := DataW.trod_int ht h
  refine ⟨rfl, n, bounds_i64 hw, fun j v hv => ?_⟩
  match j, hv with
  | 0, hv => simp at hv; subst hv; rfl

theorem reads_bool {P : Program} {t : TypeId} (ht : P.underlying t = some .bool) (hc : P.cellsOf t = 1) : Reads P t Bool := by
  refine ⟨hc, by rw [ht]; exact ⟨rfl, rfl⟩, fun H enc w fuel cs x h => ?_⟩
  obtain ⟨n, rfl, _⟩ := DataW.trod_bool ht h
  refine ⟨rfl, n, trivial, fun j v hv => ?_⟩
  match j, hv with
  | 0, hv => simp at hv; subst hv; rfl

theorem reads_str {P : Program} {t : TypeId} (ht : P.underlying t = some .string) (hc : P.cellsOf t = 1) : Reads P t ByteArray := by
  refine ⟨hc, by rw [ht]; exact ⟨rfl, rfl⟩, fun H enc w fuel cs x h => ?_⟩
  obtain ⟨n, rfl, _, hw⟩ := DataW.trod_string ht h
  refine ⟨rfl, n, hw, fun j v hv => ?_⟩
  match j, hv with
  | 0, hv => simp at hv; subst hv; rfl

theorem pick_list {α : Type} {Q : Nat → α → Prop} : ∀ (n : Nat), (∀ i, i < n → ∃ a, Q i a) → ∃ l : List α, l.length = n ∧ ∀ i a, l[i]? = some a → Q i a := by
  intro n
  induction n with
  | zero => exact fun _ => ⟨[], rfl, by simp⟩
  | succ n ih =>
    intro h
    obtain ⟨l, hl, hq⟩ := ih fun i hi => h i (by omega)
    obtain ⟨a, ha⟩ := h n (by omega)
    refine ⟨l ++ [a], by simp [hl], fun i b hb => ?_⟩
    rw [List.getElem?_append] at hb
    split at hb
    · exact hq i b hb
    · rename_i hge
      have : i - l.length = 0 := by
        by_cases h0 : i - l.length = 0
        · exact h0
        · rw [List.getElem?_eq_none (by simp; omega)] at hb; simp at hb
      rw [this] at hb
      simp at hb
      subst hb
      have : i = n := by omega
      subst this
      exact ha

theorem reads_list {P : Program} {t e : TypeId} {α : Type} [Enc α] [Inhabited α] (ht : P.underlying t = some (.slice e)) (hc : P.cellsOf t = 1) (he : Reads P e α) : Reads P t (List α) := by
  refine ⟨hc, by rw [ht]; exact ⟨rfl, rfl⟩, fun H enc w fuel cs x h => ?_⟩
  rcases DataW.trod_slice ht h with ⟨rfl, _⟩ | ⟨a, len, cap, elems, rest, n, rfl, rfl, _, _, hle, hmax, hlen, hel, _⟩
  · refine ⟨rfl, [], ⟨by simp, by simp⟩, fun j v hv => ?_⟩
    match j, hv with
    | 0, hv =>
      simp at hv; subst hv
      exact ⟨none, 0, rfl, Nat.le_refl _, fun i j hi => by simp at hi⟩
  · have hq : ∀ i, i < len → ∃ b : α, Enc.good b ∧ ∀ j, j < Enc.size α → ∃ c, w.cell? (a.add (i * Enc.size α + j)) = some c ∧ DS w (fun _ => False) (Enc.cells b j) c := by
      intro i hi
      have h1 := hel i hi
      rw [List.getElem?_eq_getElem (by omega)] at h1
      simp only [Option.bind_eq_some_iff] at h1
      obtain ⟨cs', hcs, h2⟩ := h1
      obtain ⟨hl, b, hg, hb⟩ := he.read H enc w n cs' _ h2
      obtain ⟨_, _, h3⟩ := World.cells?_some hcs
      refine ⟨b, hg, fun j hj => ?_⟩
      have h4 := h3 j (by rw [he.cells]; exact hj)
      rw [Addr.add_add, he.cells] at h4
      have h5 : j < cs'.length := by omega
      refine ⟨cs'[j], by rw [h4]; exact List.getElem?_eq_getElem h5, hb j _ (List.getElem?_eq_getElem h5)⟩
    obtain ⟨l, hl, hq⟩ := pick_list len hq
    refine ⟨rfl, l, ⟨by rw [hl]; exact Nat.le_trans hle hmax, fun b hb => ?_⟩, fun j v hv => ?_⟩
    · obtain ⟨i, hi⟩ := List.mem_iff_getElem?.1 hb
      exact (hq i b hi).1
    · match j, hv with
      | 0, hv =>
        simp at hv; subst hv
        refine ⟨some a, cap, by rw [hl], by omega, fun i j hi hj => ⟨a, rfl, fun h => h, ?_⟩⟩
        obtain ⟨c, h1, h2⟩ := (hq i _ (List.getElem?_eq_getElem hi)).2 j hj
        refine ⟨c, h1, ?_⟩
        have e : l[i]?.getD default = l[i] := by rw [List.getElem?_eq_getElem hi]; rfl
        simpa only [e] using h2

/-- The fields of a structure, one after the other. -/
theorem field_read {H : Type} {enc : TypeId × Value → H} {P : Program} {w : World} {fuel : Nat} {t : TypeId} {fs : Array Field} {cs : List Value} {x : DataW H × List MemPlace}
    (ht : P.underlying t = some (.struct fs)) (h : DataW.trod enc P w 0 (fun _ => true) true fuel t cs = some x) {α : Type} [Enc α] (i : Nat) (f : Field) (hf : fs[i]? = some f) (hr : Reads P f.type α) :
    ∃ a : α, Enc.good a ∧ ∀ j v, j < Enc.size α → cs[f.offset + j]? = some v → DS w (fun _ => False) (Enc.cells a j) v := by
  obtain ⟨xs, n, rfl, _, _, hl, hfl⟩ := DataW.trod_struct ht h
  have hi : i < fs.size := (Array.getElem?_eq_some_iff.1 hf).1
  have h1 := hfl i f hf
  rw [List.getElem?_eq_getElem (by omega)] at h1
  obtain ⟨_, a, hg, ha⟩ := hr.read H enc w n _ _ h1
  refine ⟨a, hg, fun j v hj hv => ha j v ?_⟩
  rw [List.getElem?_take, hr.cells, if_pos hj, List.getElem?_drop]
  exact hv

/-- An argument: a structure stands as a row of cells, all else in one. -/
def argV {α : Type} [Enc α] (a : α) : V := bif Enc.agg α then .agg ((List.range (Enc.size α)).map fun j => .d (Enc.cells a j)) else .d (Enc.cells a 0)

theorem VSs.of_cells {w : World} {own : Nat → Prop} {φ : List (Nat × Nat)} {f : Nat → D} : ∀ (n k : Nat) (cs : List Value), cs.length = n → (∀ j v, cs[j]? = some v → DS w own (f (k + j)) v) → VSs w own φ ((List.range' k n).map fun j => V.d (f j)) cs
  | 0, k, cs, hl, h => by
    obtain rfl : cs = [] := List.eq_nil_of_length_eq_zero hl
    simp [VSs]
  | n + 1, k, cs, hl, h => by
    match cs, hl with
    | c :: cs, hl =>
      simp only [List.range'_succ, List.map_cons, VSs]
      refine ⟨c, cs, rfl, h 0 c (by simp), VSs.of_cells n (k + 1) cs (by simpa using hl) fun j v hv => ?_⟩
      have := h (j + 1) v (by simpa using hv)
      rwa [show k + (j + 1) = k + 1 + j by omega] at this

theorem arg_of {H : Type} {enc : TypeId × Value → H} {P : Program} {w : World} {r : Reach} {b0 : Nat} {t : TypeId} {v : Value} {d : DataW H} {ps : List MemPlace} {α : Type} [Enc α] (hr : Reads P t α)
    (hval : Value.okWide P w r b0 t v) (hd : DataW.Trod enc P w 0 (fun _ => true) true t v d ps) : ∃ a : α, Enc.good a ∧ VS w (fun _ => False) [] (argV a) v := by
  obtain ⟨fuel, hd⟩ := hd
  obtain ⟨hl, a, hg, ha⟩ := hr.read H enc w fuel _ _ hd
  refine ⟨a, hg, ?_⟩
  have hk := hr.kind
  unfold Value.okWide at hval
  split at hk
  · rename_i fs hu
    rw [hu] at hval
    obtain ⟨cs, rfl, _, _⟩ := hval
    simp only [argV, hk, cond_true, VS]
    refine ⟨cs, rfl, ?_⟩
    have := VSs.of_cells (w := w) (own := fun _ => False) (φ := []) (f := Enc.cells a) (Enc.size α) 0 cs.toList hl fun j v hv => by rw [Nat.zero_add]; exact ha j v hv
    rwa [← List.range_eq_range'] at this
  · exact hk.elim
  · obtain ⟨h1, h2⟩ := hk
    simp only [argV, h1, cond_false, VS]
    have : v.cells = #[v] := by
      cases v with
      | agg cs =>
        exfalso
        split at hval
        · rename_i hu _; simp_all
        · rename_i hu _; simp_all
        · rename_i h3 h4 h5
          unfold Cell.okWide at hval
          split at hval <;> simp_all [Cell.ok]
      | _ => rfl
    refine ha 0 v ?_
    rw [this]
    rfl

theorem below_of_fr {w w' : World} (h : Fr w (fun _ => False) w') : Below w.heap.size w w' := ⟨h.os, h.tape, h.output, h.size, fun b hb => h.block b hb fun h => h⟩

/-- A call that answers with a datum, seen from outside. -/
theorem PureP.run {P : Program} {f : FuncId} {vs : List V} {Q : V → Prop} (h : PureP P f vs Q) {w : World} {args : Array Value} (hv : VSs w (fun _ => False) [] vs args.toList) :
    Calls P f args w fun e w' => ∃ v r, e = .returned v ∧ Q r ∧ VS w' (fun _ => False) [] r v ∧ Below w.heap.size w w' := by
  have hno : ownOf ([] : List (Nat × Nat)) [] = fun _ => False := by
    funext g
    apply propext
    constructor
    · rintro ⟨id, e, es, o, h, _⟩; simp at h
    · exact False.elim
  have hno' : owned (fun _ => False) ([] : List (Nat × Nat)) [] = fun _ => False := by
    funext g
    simp [owned, hno]
  refine (h.2 (fun _ => False) w [] args (fun g h => h.elim) (HS.nil _ w) (by rw [hno']; exact hv)).mono ?_
  rintro e w' ⟨v, r, φ', H', rfl, ⟨rfl, hq⟩, hs', hv', hfr, _, _, _⟩
  have hφ' : φ' = [] := List.eq_nil_of_length_eq_zero (by rw [hs'.len]; rfl)
  subst hφ'
  rw [hno'] at hv'
  rw [hno] at hfr
  exact ⟨v, r, rfl, hq, hv', below_of_fr hfr⟩

theorem trodAll_stays {H : Type} {enc : TypeId × Value → H} {P : Program} (hl : laidOutB P = true) {W W' : World} (hb : Below W.heap.size W W') : ∀ (ts : List TypeId) (vs : List Value) (ds : List (DataW H)) (ps : List MemPlace),
    (ts.all fun t => P.readableRec t && decide (t < P.types.size)) = true → DataW.TrodAll enc P W 0 (fun _ => true) true ts vs ds ps → DataW.TrodAll enc P W' 0 (fun b => decide (b < W.heap.size)) true ts vs ds ps := by
  intro ts
  induction ts with
  | nil =>
    intro vs ds ps _ h
    match vs, ds, h with
    | [], [], h => exact h
  | cons t ts ih =>
    intro vs ds ps ha h
    match vs, ds, h with
    | v :: vs, d :: ds, h =>
      have hlt := DataW.TrodAll.lt (ts := t :: ts) (vs := v :: vs) (ds := d :: ds) h
      obtain ⟨p, q, h1, h2, rfl⟩ := h
      simp only [List.all_cons, Bool.and_eq_true, decide_eq_true_eq] at ha
      exact ⟨p, q, Below.trod hl ha.1.1 ha.1.2 h1 hb fun x hx => hlt x (by simp [hx]), ih vs ds q ha.2 h2, rfl⟩

/-- The row's end: a law that answers true and writes nothing. -/
theorem row_end {H : Type} {enc : TypeId × Value → H} {P : Program} {fn : Func} {s : ChangeSpec} {apart : Bool} {f : FuncId} {W : World} {args : Array Value} {ds gs : List (DataW H)} {before : List MemPlace} {vs : List V} {t : TypeId}
    (hl : laidOutB P = true) (hp : (fn.params.toList.all fun t => P.readableRec t && decide (t < P.types.size)) = true) (hr : fn.resultTypes = #[t]) (ht : P.underlying t = some .bool)
    (hW : DataW.Whole enc P fn.params.toList s.vars apart W args.toList ds gs before) (hs : s.vars = []) (h1 : (s.fn H (ds ++ gs)).results = [.lit (.bool true)]) (h2 : (s.fn H (ds ++ gs)).args = ds) (h3 : (s.fn H (ds ++ gs)).vars = [])
    (hv : VSs W (fun _ => False) [] vs args.toList) (h : PureP P f vs (· = .d (.bool true))) :
    Calls P f args W fun e W' => ∃ v, e = .returned v ∧ s.post enc P fn apart true false false W args v W' := by
  refine (h.run hv).mono ?_
  rintro e W' ⟨v, r, rfl, rfl, hvr, bel⟩
  have hvr' : v = .bool true := hvr
  subst hvr'
  have hW' := hW
  obtain ⟨p, q, hA, hV, rfl, _, _⟩ := hW'
  have hgs : gs = [] ∧ q = [] := by
    rw [hs] at hV
    exact trodVars_none hV
  obtain ⟨rfl, rfl⟩ := hgs
  refine ⟨_, rfl, ds, [], _, [], p, [], hW, ?_, ?_, ?_, bel.frame _, fun h => by cases h⟩
  · rw [h1, hr]
    exact trodAll_mk1 (shut_bool ht _)
  · rw [h2]
    exact trodAll_stays hl bel _ _ _ _ hp hA
  · rw [hs, h3]
    rfl

end Go.Proofs.Ytpakdkiceoknjaa
