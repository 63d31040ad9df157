/- The abstract machine, part 0: abstract values, places, and what it means that they stand for Go values in a world. No condition. -/
import Derived.Calls
import Derived.Orders
import Derived.Below
import Derived.Laws.World
import Derived.Laws.Rows
import Derived.Laws.Tables
import Derived.Laws.CopyRow
import Derived.Laws.Append
import Derived.Laws.AppendOwn
import Derived.Laws.MakeOwn
import Derived.ArgAppend
namespace Go.Proofs.Ytpakdkiceoknjaa
set_option linter.unusedVariables false

/-- A closed datum: it refers to no place that is written. -/
inductive D where
  | undef
  | int (k : IntKind) (n : Int)
  | bool (b : Bool)
  | str (s : ByteArray)
  | nilp
  | rp (n : Nat) (f : Nat → D)
  | nilsl
  | ro (e n : Nat) (f : Nat → Nat → D)
  | clo (fn : FuncId) (n : Nat) (c : Nat → D)
  | nilf
  | nili
  | iface (t : TypeId) (x : D)
  deriving Inhabited

def DS (w : World) (own : Nat → Prop) : D → Value → Prop
  | .undef, _ => True
  | .int k n, v => v = .int k n
  | .bool b, v => v = .bool b
  | .str s, v => v = .string s
  | .nilp, v => v = .pointer none
  | .rp n f, v => ∃ a, v = .pointer (some a) ∧ ∀ j, j < n → ¬ own a.block ∧ ∃ c, w.cell? (a.add j) = some c ∧ DS w own (f j) c
  | .nilsl, v => v = .slice none 0 0
  | .ro e n f, v => ∃ A cap, v = .slice A n cap ∧ n ≤ cap ∧ ∀ i j, i < n → j < e → ∃ a, A = some a ∧ ¬ own a.block ∧ ∃ c, w.cell? (a.add (i * e + j)) = some c ∧ DS w own (f i j) c
  | .clo fn n c, v => ∃ cs : Array Value, v = .func (.func fn) #[] cs ∧ cs.size = n ∧ ∀ j, j < n → ∃ x, cs[j]? = some x ∧ DS w own (c j) x
  | .nilf, v => v = .nilFunc
  | .nili, v => v = .nilIface
  | .iface t x, v => ∃ y, v = .iface t y ∧ DS w own x y

/-- What is not owned in the first world stands in the second, not owned. -/
def Keeps (w : World) (own : Nat → Prop) (w' : World) (own' : Nat → Prop) : Prop :=
  ∀ b, b < w.heap.size → ¬ own b → w'.heap[b]? = w.heap[b]? ∧ ¬ own' b

theorem Keeps.cell {w w' : World} {own own' : Nat → Prop} (h : Keeps w own w' own') {a : Addr} (hn : ¬ own a.block) {c : Value} (hc : w.cell? a = some c) :
    w'.cell? a = some c ∧ ¬ own' a.block := by
  have hlt : a.block < w.heap.size := by
    unfold World.cell? at hc
    split at hc
    · rename_i hh
      exact (Array.getElem?_eq_some_iff.1 hh).1
    · simp at hc
  obtain ⟨h1, h2⟩ := h a.block hlt hn
  refine ⟨?_, h2⟩
  unfold World.cell? at hc ⊢
  rw [h1]
  exact hc

theorem add_block (a : Addr) (n : Nat) : (a.add n).block = a.block := by
  unfold Addr.add
  split <;> rfl

theorem DS.keeps {w w' : World} {own own' : Nat → Prop} (h : Keeps w own w' own') : ∀ (d : D) (v : Value), DS w own d v → DS w' own' d v := by
  intro d
  induction d with
  | rp n f ih =>
    rintro v ⟨a, rfl, hf⟩
    refine ⟨a, rfl, fun j hj => ?_⟩
    obtain ⟨hn, c, hc, hd⟩ := hf j hj
    have := h.cell (a := a.add j) (by rw [add_block]; exact hn) hc
    exact ⟨by have := this.2; rwa [add_block] at this, c, this.1, ih j c hd⟩
  | ro e n f ih =>
    rintro v ⟨A, cap, rfl, hcap, hf⟩
    refine ⟨A, cap, rfl, hcap, fun i j hi hj => ?_⟩
    obtain ⟨a, rfl, hn, c, hc, hd⟩ := hf i j hi hj
    have := h.cell (a := a.add (i * e + j)) (by rw [add_block]; exact hn) hc
    exact ⟨a, rfl, by have := this.2; rwa [add_block] at this, c, this.1, ih i j c hd⟩
  | clo fn n c ih =>
    rintro v ⟨cs, rfl, hs, hf⟩
    refine ⟨cs, rfl, hs, fun j hj => ?_⟩
    obtain ⟨x, hx, hd⟩ := hf j hj
    exact ⟨x, hx, ih j x hd⟩
  | iface t x ih =>
    rintro v ⟨y, rfl, hd⟩
    exact ⟨y, rfl, ih y hd⟩
  | _ => intro v hv; exact hv

/-- An abstract value: a datum, or something that refers to places. -/
inductive V where
  | d (x : D)
  | ptr (id e i j : Nat)
  | sl (id e off n : Nat)
  | agg (l : List V)
  | tup (l : List V)
  | clo (fn : FuncId) (l : List V)
  deriving Inhabited

def roomy (w : World) (g m : Nat) : Prop := ∃ cs t fr, w.heap[g]? = some (.cells cs t fr) ∧ m ≤ cs.size

mutual
def VS (w : World) (own : Nat → Prop) (φ : List (Nat × Nat)) : V → Value → Prop
  | .d x, v => DS w own x v
  | .ptr id e i j, v => ∃ g o, φ[id]? = some (g, o) ∧ v = .pointer (some ⟨g, o + i * e + j, none⟩)
  | .sl id e off n, v => ∃ g o A cap, φ[id]? = some (g, o) ∧ v = .slice (some A) n cap ∧ n ≤ cap ∧ (cap = 0 ∨ A = ⟨g, o + off * e, none⟩) ∧ roomy w g (o + (off + cap) * e)
  | .agg l, v => ∃ cs : Array Value, v = .agg cs ∧ VSs w own φ l cs.toList
  | .tup l, v => ∃ cs : Array Value, v = .tuple cs ∧ VSs w own φ l cs.toList
  | .clo fn l, v => ∃ cs : Array Value, v = .func (.func fn) #[] cs ∧ VSs w own φ l cs.toList
def VSs (w : World) (own : Nat → Prop) (φ : List (Nat × Nat)) : List V → List Value → Prop
  | [], vs => vs = []
  | x :: l, vs => ∃ v vs', vs = v :: vs' ∧ VS w own φ x v ∧ VSs w own φ l vs'
end

/-- May the value stand in one cell? -/
def V.one : V → Bool
  | .d .undef | .agg _ | .tup _ => false
  | _ => true

theorem VS.one {w : World} {own : Nat → Prop} {φ : List (Nat × Nat)} {x : V} {v : Value} (h : VS w own φ x v) (ho : x.one = true) : v.oneCell' = true := by
  cases x with
  | d x => cases x <;> simp [V.one] at ho <;> simp only [VS, DS] at h
           all_goals first
             | (subst h; rfl)
             | (obtain ⟨_, rfl, _⟩ := h; rfl)
             | (obtain ⟨_, _, rfl, _⟩ := h; rfl)
  | ptr id e i j => simp only [VS] at h; obtain ⟨_, _, _, rfl⟩ := h; rfl
  | sl id e off n => simp only [VS] at h; obtain ⟨_, _, _, _, _, rfl, _⟩ := h; rfl
  | clo fn l => simp only [VS] at h; obtain ⟨_, rfl, _⟩ := h; rfl
  | _ => simp [V.one] at ho

/-- All rows of cells keep their sizes. -/
def Sizes (w w' : World) : Prop := ∀ (g : Nat) (cs : Array Value) (t : TypeId) (fr : Nat × Nat), w.heap[g]? = some (.cells cs t fr) → ∃ (cs' : Array Value) (fr' : Nat × Nat), w'.heap[g]? = some (.cells cs' t fr') ∧ cs'.size = cs.size

theorem Sizes.roomy {w w' : World} (h : Sizes w w') {g m : Nat} (hr : roomy w g m) : roomy w' g m := by
  obtain ⟨cs, t, fr, hh, hm⟩ := hr
  obtain ⟨cs', fr', h1, h2⟩ := h g cs t fr hh
  exact ⟨cs', t, fr', h1, by omega⟩

def Ext (φ φ' : List (Nat × Nat)) : Prop := ∀ id, id < φ.length → φ'[id]? = φ[id]?

theorem Ext.refl (φ : List (Nat × Nat)) : Ext φ φ := fun _ _ => rfl
theorem Ext.trans {a b c : List (Nat × Nat)} (h : Ext a b) (k : Ext b c) (hl : a.length ≤ b.length) : Ext a c := fun id hi => (k id (by omega)).trans (h id hi)
theorem Ext.append (φ l : List (Nat × Nat)) : Ext φ (φ ++ l) := fun id hi => by rw [List.getElem?_append_left hi]
theorem Ext.some {φ φ' : List (Nat × Nat)} (h : Ext φ φ') {id : Nat} {x : Nat × Nat} (hx : φ[id]? = some x) : φ'[id]? = some x := by
  have : id < φ.length := (List.getElem?_eq_some_iff.1 hx).1
  rw [h id this, hx]

mutual
theorem VS.keeps {w w' : World} {own own' : Nat → Prop} {φ φ' : List (Nat × Nat)} (h : Keeps w own w' own') (hs : Sizes w w') (he : Ext φ φ') :
    ∀ (x : V) (v : Value), VS w own φ x v → VS w' own' φ' x v
  | .d x, v, hv => DS.keeps h x v hv
  | .ptr id e i j, v, hv => by
    obtain ⟨g, o, h1, h2⟩ := hv
    exact ⟨g, o, he.some h1, h2⟩
  | .sl id e off n, v, hv => by
    obtain ⟨g, o, A, cap, h1, h2, h3, h4, h5⟩ := hv
    exact ⟨g, o, A, cap, he.some h1, h2, h3, h4, hs.roomy h5⟩
  | .agg l, v, hv => by
    obtain ⟨cs, h1, h2⟩ := hv
    exact ⟨cs, h1, VSs.keeps h hs he l _ h2⟩
  | .tup l, v, hv => by
    obtain ⟨cs, h1, h2⟩ := hv
    exact ⟨cs, h1, VSs.keeps h hs he l _ h2⟩
  | .clo fn l, v, hv => by
    obtain ⟨cs, h1, h2⟩ := hv
    exact ⟨cs, h1, VSs.keeps h hs he l _ h2⟩
theorem VSs.keeps {w w' : World} {own own' : Nat → Prop} {φ φ' : List (Nat × Nat)} (h : Keeps w own w' own') (hs : Sizes w w') (he : Ext φ φ') :
    ∀ (l : List V) (vs : List Value), VSs w own φ l vs → VSs w' own' φ' l vs
  | [], vs, hv => hv
  | x :: l, vs, hv => by
    obtain ⟨v, vs', h1, h2, h3⟩ := hv
    exact ⟨v, vs', h1, VS.keeps h hs he x v h2, VSs.keeps h hs he l vs' h3⟩
end

/-- A place: a row of elements, each of e cells; or one that is given up. -/
inductive Place where
  | dead
  | row (e : Nat) (es : List (List V))
  deriving Inhabited

abbrev Heap := List Place

/-- The blocks that live places own. -/
def ownOf (φ : List (Nat × Nat)) (H : Heap) (g : Nat) : Prop := ∃ (id e : Nat) (es : List (List V)) (o : Nat), H[id]? = some (Place.row e es) ∧ φ[id]? = some (g, o)

/-- What must not be read as closed: the blocks X of whoever called, and those of live places. -/
def owned (X : Nat → Prop) (φ : List (Nat × Nat)) (H : Heap) (g : Nat) : Prop := X g ∨ ownOf φ H g

structure HS (X : Nat → Prop) (w : World) (φ : List (Nat × Nat)) (H : Heap) : Prop where
  len : φ.length = H.length
  inj : ∀ (i j e : Nat) (es : List (List V)) (e' : Nat) (es' : List (List V)) (g o o' : Nat), H[i]? = some (.row e es) → H[j]? = some (.row e' es') → φ[i]? = some (g, o) → φ[j]? = some (g, o') → i = j
  disj : ∀ g, ownOf φ H g → ¬ X g
  live : ∀ (id e : Nat) (es : List (List V)), H[id]? = some (.row e es) → ∃ (g o : Nat) (cs : Array Value) (t : TypeId), φ[id]? = some (g, o) ∧ w.heap[g]? = some (.cells cs t (0, 0)) ∧ o + es.length * e ≤ cs.size ∧
    ∀ (i : Nat) (l : List V), es[i]? = some l → l.length = e ∧ ∀ (j : Nat) (c : V), l[j]? = some c → c.one = true ∧ ∃ x, cs[o + i * e + j]? = some x ∧ VS w (owned X φ H) φ c x

/-- The frame of a call: what the call may have done to the world in which it began. -/
structure Fr (w0 : World) (own0 : Nat → Prop) (w : World) : Prop where
  os : w.os = w0.os
  tape : w.tape = w0.tape
  output : w.output = w0.output
  size : w0.heap.size ≤ w.heap.size
  block : ∀ b, b < w0.heap.size → ¬ own0 b → w.heap[b]? = w0.heap[b]?
  sizes : Sizes w0 w

theorem Sizes.refl (w : World) : Sizes w w := fun g cs t fr h => ⟨cs, fr, h, rfl⟩
theorem Sizes.trans {a b c : World} (h : Sizes a b) (k : Sizes b c) : Sizes a c := fun g cs t fr hg => by
  obtain ⟨cs1, fr1, h1, h2⟩ := h g cs t fr hg
  obtain ⟨cs2, fr2, h3, h4⟩ := k g cs1 t fr1 h1
  exact ⟨cs2, fr2, h3, by omega⟩
theorem Fr.refl (w : World) (own : Nat → Prop) : Fr w own w := ⟨rfl, rfl, rfl, Nat.le_refl _, fun _ _ _ => rfl, Sizes.refl w⟩
theorem Fr.trans {a b c : World} {oa ob : Nat → Prop} (h : Fr a oa b) (k : Fr b ob c) (ho : ∀ g, g < a.heap.size → ob g → oa g) : Fr a oa c :=
  ⟨k.os.trans h.os, k.tape.trans h.tape, k.output.trans h.output, Nat.le_trans h.size k.size,
    fun g hg hn => by rw [k.block g (Nat.lt_of_lt_of_le hg h.size) (fun hb => hn (ho g hg hb)), h.block g hg hn], h.sizes.trans k.sizes⟩
theorem Fr.keeps {w w' : World} {own own' : Nat → Prop} (h : Fr w own w') (ho : ∀ g, g < w.heap.size → own' g → own g) : Keeps w own w' own' :=
  fun b hb hn => ⟨h.block b hb hn, fun h' => hn (ho b hb h')⟩
/-- A frame that owned nothing. -/
theorem Fr.below {w w' : World} (h : Fr w (fun _ => False) w') : Go.RowKit.Below w.heap.size w w' :=
  ⟨h.os, h.tape, h.output, h.size, fun i hi => h.block i hi (fun h => h)⟩

end Go.Proofs.Ytpakdkiceoknjaa
