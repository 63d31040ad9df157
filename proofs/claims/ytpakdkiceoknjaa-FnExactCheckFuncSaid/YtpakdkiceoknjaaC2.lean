/- The abstract machine, part 22: what an operation does to abstract values, as data that a walk reckons from the inside out. No condition. -/
import Derived.Test.YtpakdkiceoknjaaC0
import Derived.Test.YtpakdkiceoknjaaB7
namespace Go.Proofs.Ytpakdkiceoknjaa
set_option linter.unusedVariables false
set_option linter.unusedSimpArgs false

inductive R where
  | ok (v : V) (H : Heap)
  | both (a b : R)
  | call (g : FuncId) (vs : List V) (H : Heap)
  | bad
def R.holds (P : Program) : R → (V → Heap → Prop) → Prop
  | .ok v H, k => k v H
  | .both a b, k => a.holds P k ∧ b.holds P k
  | .call g vs H, k => CallsD P g vs H k
  | .bad, _ => False
open Classical in
noncomputable def brR (p : Prop) (a b : R) : R := if p then a else b
noncomputable def guardR (p : Prop) (r : R) : R := brR p r .bad
theorem brR_true {a b : R} : brR True a b = a := by simp [brR]
theorem brR_false {a b : R} : brR False a b = b := by simp [brR]
theorem guardR_true {r : R} : guardR True r = r := by simp [guardR, brR]
theorem guardR_false {r : R} : guardR False r = .bad := by simp [guardR, brR]
theorem brR_holds {P : Program} {p : Prop} {a b : R} {k : V → Heap → Prop} : (brR p a b).holds P k ↔ (p → a.holds P k) ∧ (¬ p → b.holds P k) := by
  unfold brR
  split
  · rename_i h; exact ⟨fun q => ⟨fun _ => q, fun n => absurd h n⟩, fun q => q.1 h⟩
  · rename_i h; exact ⟨fun q => ⟨fun n => absurd n h, fun _ => q⟩, fun q => q.2 h⟩
theorem guardR_holds {P : Program} {p : Prop} {r : R} {k : V → Heap → Prop} : (guardR p r).holds P k ↔ p ∧ r.holds P k := by
  unfold guardR
  rw [brR_holds]
  exact ⟨fun q => Classical.byContradiction fun n => (by
    by_cases hp : p
    · exact n ⟨hp, q.1 hp⟩
    · exact q.2 hp), fun q => ⟨fun _ => q.2, fun n => absurd q.1 n⟩⟩
theorem guardR_congr {p p' : Prop} {r r' : R} (h : p ↔ p') (h' : p → r = r') : guardR p r = guardR p' r' := by
  obtain rfl : p = p' := propext h
  unfold guardR brR
  split
  · rename_i hp; exact h' hp
  · rfl

section
variable (P : Program)
noncomputable def elR (es : List (List V)) (i e e' j size : Nat) (agg : Bool) (H : Heap) : R :=
  guardR (i < es.length ∧ e' = e ∧ j + size ≤ e ∧ (agg = true ∨ size = 1)) (.ok (asVal agg (((es[i]?.getD []).drop j).take size)) H)
noncomputable def loadR (ti : Option TI) (a : V) (H : Heap) : R :=
  match ti with
  | none => .bad
  | some ti => match a with
    | .d (.rp n f) => guardR (ti.size ≤ n ∧ (ti.agg = true ∨ ti.size = 1)) (.ok (asVal ti.agg (upto ti.size fun j => .d (f j))) H)
    | .ptr id e i j => match H[id]? with
      | some (.row e' es) => elR es i e e' j ti.size ti.agg H
      | _ => .bad
    | _ => .bad
noncomputable def setR (es : List (List V)) (id i e e' j size : Nat) (l : List V) (H : Heap) : R :=
  guardR (i < es.length ∧ e' = e ∧ l.length = size ∧ j + size ≤ e ∧ ones l = true) (.ok (.tup []) (H.set id (.row e (es.set i (setMany (es[i]?.getD []) j l)))))
noncomputable def storeR (ti : Option TI) (a c : V) (H : Heap) : R :=
  match ti with
  | none => .bad
  | some ti => match a with
    | .ptr id e i j => match H[id]? with
      | some (.row e' es) => setR es id i e e' j ti.size c.flat H
      | _ => .bad
    | _ => .bad
noncomputable def boxR (ti : Option TI) (c : V) (H : Heap) : R :=
  match ti with
  | none => .bad
  | some ti => guardR (ones c.flat = true) (.ok (.ptr H.length c.flat.length 0 0) (H ++ [.row c.flat.length [c.flat]]))
noncomputable def allocR (ti : Option TI) (H : Heap) : R :=
  match ti with
  | none => .bad
  | some ti => guardR (ones (ti.zero.map .d) = true) (.ok (.ptr H.length ti.zero.length 0 0) (H ++ [.row ti.zero.length [ti.zero.map .d]]))
noncomputable def buildR (ti : Option TI) (parts : List (Nat × V)) (H : Heap) : R :=
  match ti with
  | none => .bad
  | some ti => match ti.kind with
    | .struct flds => match fillV (fun i => (flds[i]?).map fun f => (f.1, f.2.2)) (ti.zero.map .d) parts with
      | some l => guardR (flds.all (fun f => f.2.2 != 0) = true) (.ok (.agg l) H)
      | none => .bad
    | _ => .bad
noncomputable def buildSliceR (t : TypeId) (len : Nat) (parts : List (Nat × V)) (H : Heap) : R :=
  match tinfo P t with
  | some ⟨_, _, _, _, .slice et⟩ => match tinfo P et with
    | some te => guardR (len = parts.length ∧ inOrder te.size 0 parts = true ∧ 0 < te.size ∧ te.zero.length = te.size ∧ len * te.size ≤ 16777216)
        (.ok (.sl H.length te.size 0 len) (H ++ [.row te.size (parts.map fun p => p.2.flat)]))
    | none => .bad
  | _ => .bad
noncomputable def makeSliceR (t : TypeId) (len cap : V) (H : Heap) : R :=
  match tinfo P t with
  | some ⟨_, _, _, _, .slice et⟩ => match tinfo P et with
    | some te => match len, cap with
      | .d (.int _ l), .d (.int _ c) => guardR (0 ≤ l ∧ l ≤ c ∧ c * te.bytes ≤ 140737488355328 ∧ c ≤ 140737488355328 ∧ 0 < te.size ∧ te.zero.length = te.size ∧ ones (te.zero.map .d) = true)
          (.ok (.sl H.length te.size 0 l.toNat) (H ++ [.row te.size (List.replicate l.toNat (te.zero.map .d))]))
      | _, _ => .bad
    | none => .bad
  | _ => .bad
def nilCheckR (x : V) (H : Heap) : R :=
  match x with
  | .ptr id e i j => .ok (.ptr id e i j) H
  | .d (.rp n f) => .ok (.d (.rp n f)) H
  | .clo f l => .ok (.clo f l) H
  | .d (.clo f n c) => .ok (.d (.clo f n c)) H
  | _ => .bad
def optR (o : Option D) (H : Heap) : R :=
  match o with
  | some d => .ok (.d d) H
  | none => .bad
noncomputable def binR (dr : Bool) (op : BinOp) (t : TypeId) (x y : V) (H : Heap) : R :=
  match x, y with
  | .d (.int kx a), .d (.int ky b) =>
    (match op with
    | .shl => optR (shiftI .shl kx a b) H
    | .shr => optR (shiftI .shr kx a b) H
    | op => guardR (kx = ky) (optR (binI op kx a b) H))
  | .d (.str a), .d (.str b) => (match op with
    | .add => guardR (a.size + b.size ≤ 9223372036854775807) (.ok (.d (.str (a ++ b))) H)
    | op => optR (eqOp op (decide (a = b))) H)
  | .d (.bool a), .d (.bool b) => (match tinfo P t with
    | some ⟨_, _, _, _, .bool⟩ => optR (eqOp op (a == b)) H
    | _ => .bad)
  | x, .d .nilp => (match tinfo P t with
    | some ⟨_, _, _, _, .ptr⟩ => (match x with
      | .d .nilp => optR (eqOp op true) H
      | .ptr .. | .d (.rp ..) => optR (eqOp op false) H
      | _ => .bad)
    | _ => .bad)
  | x, .d .nilsl => (match tinfo P t with
    | some ⟨_, _, _, _, .slice _⟩ => (match x with
      | .d .nilsl => optR (eqOp op true) H
      | .sl .. => optR (eqOp op false) H
      | .d (.ro e n f) => bif dr then .bad else brR (0 < n ∧ 0 < e) (optR (eqOp op false) H) (.both (optR (eqOp op true) H) (optR (eqOp op false) H))
      | _ => .bad)
    | _ => .bad)
  | _, _ => .bad
def unR (op : UnOp) (x : V) (H : Heap) : R :=
  match op, x with
  | .neg, .d (.int kx n) => .ok (.d (.int kx (kx.wrap (0 - n)))) H
  | .not, .d (.bool b) => .ok (.d (.bool (!b))) H
  | _, _ => .bad
def convertR (src dst : TypeId) (x : V) (H : Heap) : R :=
  match tinfo P src, tinfo P dst with
  | some _, some td => (match td.kind, x with
    | .int kd, .d (.int _ n) => .ok (.d (.int kd (kd.wrap n))) H
    | .str, .d (.str s) => .ok (.d (.str s)) H
    | _, _ => .bad)
  | _, _ => .bad
noncomputable def pickR (c a b : V) (H : Heap) : R :=
  match c with
  | .d (.bool t) => (match a, b with
    | .d (.bool p), .d (.bool q) => .ok (.d (.bool (bif t then p else q))) H
    | _, _ => brR (t = true) (.ok a H) (.ok b H))
  | _ => .bad
noncomputable def fieldAddrR (s : TypeId) (x : V) (f : Nat) (H : Heap) : R :=
  match tinfo P s with
  | some ⟨_, _, _, _, .struct flds⟩ => (match flds[f]? with
    | some (off, _, size) => guardR (size ≠ 0) (match x with
      | .d (.rp n g) => guardR (off < n) (.ok (.d (.rp (n - off) (fun j => g (off + j)))) H)
      | .ptr id e i j => .ok (.ptr id e i (j + off)) H
      | _ => .bad)
    | none => .bad)
  | _ => .bad
noncomputable def fieldR (s : TypeId) (x : V) (f : Nat) (H : Heap) : R :=
  match tinfo P s with
  | some ⟨_, _, _, _, .struct flds⟩ => (match flds[f]? with
    | some (off, ft, _) => (match tinfo P ft, x with
      | some tf, .agg l => guardR (off + tf.size ≤ l.length ∧ (tf.agg = true ∨ tf.size = 1)) (.ok (asVal tf.agg ((l.drop off).take tf.size)) H)
      | _, _ => .bad)
    | none => .bad)
  | _ => .bad
noncomputable def indexAddrR (t : TypeId) (x ix : V) (H : Heap) : R :=
  match tinfo P t with
  | some ⟨_, _, _, _, .slice et⟩ => (match tinfo P et, ix with
    | some te, .d (.int _ i) => (match x with
      | .d (.ro e n f) => guardR (e = te.size ∧ 0 < e) (guardR (0 ≤ i ∧ i < n) (.ok (.d (.rp e (f i.toNat))) H))
      | .sl id e off n => guardR (e = te.size) (guardR (0 ≤ i ∧ i < n) (.ok (.ptr id e (off + i.toNat) 0) H))
      | _ => .bad)
    | _, _ => .bad)
  | _ => .bad
noncomputable def indexR (t : TypeId) (x ix : V) (H : Heap) : R :=
  match tinfo P t with
  | some ⟨_, _, _, _, .str⟩ => (match x, ix with
    | .d (.str s), .d (.int _ i) => guardR (0 ≤ i ∧ i < s.size) (.ok (.d (.int .u8 (s[i.toNat]!).toNat)) H)
    | _, _ => .bad)
  | _ => .bad
def extractR (x : V) (i : Nat) (H : Heap) : R :=
  match x with
  | .tup l => match l[i]? with
    | some v => .ok v H
    | none => .bad
  | _ => .bad
/-- A bound of a slice expression, and what it must keep. -/
def boundR (v : Option V) (dflt : Nat) : Option (Prop × Nat) :=
  match v with
  | none => some (True, dflt)
  | some (.d (.int _ i)) => some (0 ≤ i, i.toNat)
  | _ => none
noncomputable def cutR (hi lo : Option (Prop × Nat)) (n : Nat) (F : Nat → Nat → V) (H : Heap) : R :=
  match hi, lo with
  | some (ph, h), some (pl, l) => guardR ph (guardR pl (guardR (l ≤ h ∧ h ≤ n) (.ok (F h l) H)))
  | _, _ => .bad
noncomputable def sliceR (t : TypeId) (x : V) (lo hi mx : Option V) (H : Heap) : R :=
  match tinfo P t, mx with
  | some ⟨_, _, _, _, .slice et⟩, none => (match tinfo P et with
    | some te => (match x with
      | .d (.ro e n f) => guardR (e = te.size) (cutR (boundR hi n) (boundR lo 0) n (fun h l => .d (.ro e (h - l) (fun i j => f (l + i) j))) H)
      | .sl id e off n => guardR (e = te.size) (cutR (boundR hi n) (boundR lo 0) n (fun h l => .sl id e (off + l) (h - l)) H)
      | .d .nilsl => cutR (boundR hi 0) (boundR lo 0) 0 (fun h l => .d .nilsl) H
      | _ => .bad)
    | none => .bad)
  | some ⟨_, _, _, _, .str⟩, none => (match x with
    | .d (.str s) => cutR (boundR hi s.size) (boundR lo 0) s.size (fun h l => .d (.str (s.extract l h))) H
    | _ => .bad)
  | _, _ => .bad
def lenR (t : TypeId) (x : V) (H : Heap) : R :=
  match tinfo P t, x with
  | some ⟨_, _, _, _, .str⟩, .d (.str s) => .ok (.d (.int .i64 s.size)) H
  | some ⟨_, _, _, _, .slice _⟩, .sl _ _ _ n => .ok (.d (.int .i64 n)) H
  | some ⟨_, _, _, _, .slice _⟩, .d (.ro _ n _) => .ok (.d (.int .i64 n)) H
  | some ⟨_, _, _, _, .slice _⟩, .d .nilsl => .ok (.d (.int .i64 0)) H
  | _, _ => .bad
/-- What a source of append holds, and what must be shown of it. -/
def elemsR (e : Nat) (x : V) (H : Heap) : Option (Prop × List (List V)) :=
  match x with
  | .sl id e' off n => (match H[id]? with
    | some (.row e'' es) => some ((e' = e ∧ e'' = e) ∧ off + n ≤ es.length, (es.drop off).take n)
    | _ => none)
  | .d (.ro e' n f) => some (e' = e ∧ (∀ i j, i < n → j < e → (V.d (f i j)).one = true), upto n fun i => upto e fun j => .d (f i j))
  | .d .nilsl => some (True, [])
  | _ => none
noncomputable def putOnR (te : TI) (s : V) (news : List (List V)) (H : Heap) : R :=
  match s with
  | .sl id e off n => (match H[id]? with
    | some (.row e' es) => guardR ((e = te.size ∧ e' = e) ∧ off + n ≤ es.length ∧ (n + news.length) * te.bytes ≤ 140737488355328 ∧ n + news.length ≤ 140737488355328)
        (.ok (.sl H.length e 0 (n + news.length)) (H.set id .dead ++ [.row e ((es.drop off).take n ++ news)]))
    | _ => .bad)
  | .d .nilsl => guardR (news.length * te.bytes ≤ 140737488355328 ∧ news.length ≤ 140737488355328) (brR (news = []) (.ok (.d .nilsl) H) (.ok (.sl H.length te.size 0 news.length) (H ++ [.row te.size news])))
  | _ => .bad
noncomputable def appendR (t : TypeId) (s x : V) (H : Heap) : R :=
  match tinfo P t with
  | some ⟨_, _, _, _, .slice et⟩ => (match tinfo P et with
    | some te => match elemsR te.size x H with
      | some (p, news) => guardR (0 < te.size ∧ te.zero.length = te.size) (guardR p (putOnR te s news H))
      | none => .bad
    | none => .bad)
  | _ => .bad
noncomputable def copyOnR (te : TI) (s : V) (news : List (List V)) (H : Heap) : R :=
  match s with
  | .sl id e off n => (match H[id]? with
    | some (.row e' es) => guardR ((e = te.size ∧ e' = e) ∧ off + n ≤ es.length)
        (.ok (.d (.int .i64 (min news.length n : Nat))) (H.set id (.row e (es.take off ++ news.take n ++ es.drop (off + min news.length n)))))
    | _ => .bad)
  | .d .nilsl => .ok (.d (.int .i64 0)) H
  | _ => .bad
noncomputable def copyR (t : TypeId) (s x : V) (H : Heap) : R :=
  match tinfo P t with
  | some ⟨_, _, _, _, .slice et⟩ => (match tinfo P et with
    | some te => match elemsR te.size x H with
      | some (p, news) => guardR (0 < te.size) (guardR p (copyOnR te s news H))
      | none => .bad
    | none => .bad)
  | _ => .bad
end

section
variable {P : Program} {k : V → Heap → Prop} {H : Heap}
theorem getD_get {α : Type} {l : List α} {i : Nat} {d : α} (h : i < l.length) : l[i]? = some (l[i]?.getD d) := by rw [List.getElem?_eq_getElem h]; rfl
theorem loadR_ok {ti : Option TI} {a : V} (h : (loadR ti a H).holds P k) : loadD ti a H (fun v => k v H) := by
  unfold loadR at h
  unfold loadD
  split at h
  · exact h
  · simp only []
    split at h
    · rw [guardR_holds] at h
      exact ⟨h.1.1, h.1.2, h.2⟩
    · simp only []
      split at h
      · rename_i hid
        simp only [hid]
        unfold elR at h
        rw [guardR_holds] at h
        exact ⟨h.1.2.1, _, getD_get h.1.1, h.1.2.2.1, h.1.2.2.2, h.2⟩
      · exact h.elim
    · exact h.elim
theorem storeR_ok {ti : Option TI} {a c : V} (h : (storeR ti a c H).holds P k) : storeD ti a c H (fun H' => k (.tup []) H') := by
  unfold storeR at h
  unfold storeD
  split at h
  · exact h
  · simp only []
    split at h
    · simp only []
      split at h
      · rename_i hid
        simp only [hid]
        unfold setR at h
        rw [guardR_holds] at h
        exact ⟨h.1.2.1, _, getD_get h.1.1, h.1.2.2.1, h.1.2.2.2.1, h.1.2.2.2.2, h.2⟩
      · exact h.elim
    · exact h.elim
theorem boxR_ok {ti : Option TI} {c : V} (h : (boxR ti c H).holds P k) : boxD ti c H k := by
  unfold boxR at h
  unfold boxD
  split at h
  · exact h
  · rw [guardR_holds] at h; exact h
theorem allocR_ok {ti : Option TI} (h : (allocR ti H).holds P k) : allocD ti H k := by
  unfold allocR at h
  unfold allocD
  split at h
  · exact h
  · rw [guardR_holds] at h; exact h
theorem buildR_ok {ti : Option TI} {parts : List (Nat × V)} (h : (buildR ti parts H).holds P k) : buildD ti parts (fun v => k v H) := by
  unfold buildR at h
  unfold buildD
  split at h
  · exact h
  · simp only []
    split at h
    · rename_i hk
      simp only [hk]
      split at h
      · rename_i l hl
        rw [guardR_holds] at h
        exact ⟨h.1, l, hl, h.2⟩
      · exact h.elim
    · exact h.elim
theorem buildSliceR_ok {t : TypeId} {len : Nat} {parts : List (Nat × V)} (h : (buildSliceR P t len parts H).holds P k) : buildSliceD P t len parts H k := by
  unfold buildSliceR at h
  unfold buildSliceD
  split at h
  · rename_i e1
    simp only [e1]
    split at h
    · rename_i e2
      simp only [e2]
      rw [guardR_holds] at h
      exact h
    · exact h.elim
  · exact h.elim
theorem makeSliceR_ok {t : TypeId} {len cap : V} (h : (makeSliceR P t len cap H).holds P k) : makeSliceD P t len cap H k := by
  unfold makeSliceR at h
  unfold makeSliceD
  split at h
  · rename_i e1
    simp only [e1]
    split at h
    · rename_i e2
      simp only [e2]
      split at h
      · rw [guardR_holds] at h
        exact h
      · exact h.elim
    · exact h.elim
  · exact h.elim
theorem nilCheckR_ok {x : V} (h : (nilCheckR x H).holds P k) : nilCheckD x (fun v => k v H) := by
  unfold nilCheckR at h
  split at h <;> first | exact h.elim | exact h
theorem optR_ok {o : Option D} (h : (optR o H).holds P k) : optK o (fun v => k v H) := by
  cases o <;> exact h
theorem binR_ok {dr : Bool} {op : BinOp} {t : TypeId} {x y : V} (h : (binR P dr op t x y H).holds P k) : (bif dr then binT P op t x y (fun v => k v H) else binD P op t x y (fun v => k v H)) := by
  have plain : (∀ e n f, ¬ (x = .d (.ro e n f) ∧ y = .d .nilsl)) → binD P op t x y (fun v => k v H) → (bif dr then binT P op t x y (fun v => k v H) else binD P op t x y (fun v => k v H)) := by
    intro hn hb
    cases dr with
    | false => exact hb
    | true =>
      show binT P op t x y _
      unfold binT
      split
      · exact hn _ _ _ ⟨rfl, rfl⟩
      · exact hb
  unfold binR at h
  split at h
  · refine plain (fun e n f hh => by simp at hh) ?_
    unfold binD
    simp only []
    cases op <;> first
      | exact optR_ok h
      | (simp only [] at h; rw [guardR_holds] at h; exact ⟨h.1, optR_ok h.2⟩)
  · refine plain (fun e n f hh => by simp at hh) ?_
    unfold binD
    simp only []
    cases op <;> first
      | exact optR_ok h
      | (simp only [] at h; rw [guardR_holds] at h; exact h)
  · refine plain (fun e n f hh => by simp at hh) ?_
    unfold binD
    simp only []
    split at h
    · rename_i e1
      simp only [e1]
      exact optR_ok h
    · exact h.elim
  · refine plain (fun e n f hh => by simp at hh) ?_
    split at h
    · rename_i e1
      split at h
      · simp only [binD, e1]; exact optR_ok h
      · simp only [binD, e1]; exact optR_ok h
      · simp only [binD, e1]; exact optR_ok h
      · exact h.elim
    · exact h.elim
  · split at h
    · rename_i e1
      split at h
      · refine plain (fun e n f hh => by simp at hh) ?_
        simp only [binD, e1]; exact optR_ok h
      · refine plain (fun e n f hh => by simp at hh) ?_
        simp only [binD, e1]; exact optR_ok h
      · cases dr with
        | true => exact h.elim
        | false =>
          simp only [cond_false] at h ⊢
          rw [brR_holds] at h
          rename_i e n f
          simp only [binD, e1]
          intro b hb
          by_cases hp : 0 < n ∧ 0 < e
          · rw [hb hp]
            exact optR_ok (h.1 hp)
          · have := h.2 hp
            cases b with
            | true => exact optR_ok this.1
            | false => exact optR_ok this.2
      · exact h.elim
    · exact h.elim
  · exact h.elim
theorem unR_ok {op : UnOp} {x : V} (h : (unR op x H).holds P k) : unD op x (fun v => k v H) := by
  unfold unR at h
  split at h
  · exact h
  · exact h
  · exact h.elim
theorem convertR_ok {src dst : TypeId} {x : V} (h : (convertR P src dst x H).holds P k) : convertD P src dst x (fun v => k v H) := by
  unfold convertR at h
  unfold convertD
  split at h
  · rename_i e1 e2
    simp only [e1, e2]
    split at h
    · rename_i e3; simp only [e3]; exact h
    · rename_i e3; simp only [e3]; exact h
    · exact h.elim
  · exact h.elim
theorem pickR_ok {c a b : V} (h : (pickR c a b H).holds P k) : pickD c a b (fun v => k v H) := by
  unfold pickR at h
  unfold pickD
  split at h
  · simp only []
    split at h
    · exact h
    · rename_i t _ _ hn
      rw [brR_holds] at h
      split
      · exact absurd rfl (hn _ _ rfl)
      · exact ⟨fun e => h.1 e, fun e => h.2 (by rw [e]; decide)⟩
  · exact h.elim
theorem fieldAddrR_ok {s : TypeId} {x : V} {f : Nat} (h : (fieldAddrR P s x f H).holds P k) : fieldAddrD P s x f (fun v => k v H) := by
  unfold fieldAddrR at h
  unfold fieldAddrD
  split at h
  · rename_i e1
    simp only [e1]
    split at h
    · rename_i e2
      simp only [e2]
      rw [guardR_holds] at h
      refine ⟨h.1, ?_⟩
      have h := h.2
      split at h
      · rw [guardR_holds] at h; exact h
      · exact h
      · exact h.elim
    · exact h.elim
  · exact h.elim
theorem fieldR_ok {s : TypeId} {x : V} {f : Nat} (h : (fieldR P s x f H).holds P k) : fieldD P s x f (fun v => k v H) := by
  unfold fieldR at h
  unfold fieldD
  split at h
  · rename_i e1
    simp only [e1]
    split at h
    · rename_i e2
      simp only [e2]
      split at h
      · rename_i e3
        simp only [e3]
        rw [guardR_holds] at h
        exact ⟨h.1.1, h.1.2, h.2⟩
      · exact h.elim
    · exact h.elim
  · exact h.elim
theorem indexAddrR_ok {t : TypeId} {x ix : V} (h : (indexAddrR P t x ix H).holds P k) : indexAddrD P t x ix (fun v => k v H) := by
  unfold indexAddrR at h
  unfold indexAddrD
  split at h
  · rename_i e1
    simp only [e1]
    split at h
    · rename_i e2
      simp only [e2]
      split at h
      · rw [guardR_holds, guardR_holds] at h; exact h
      · rw [guardR_holds, guardR_holds] at h; exact h
      · exact h.elim
    · exact h.elim
  · exact h.elim
theorem indexR_ok {t : TypeId} {x ix : V} (h : (indexR P t x ix H).holds P k) : indexD P t x ix (fun v => k v H) := by
  unfold indexR at h
  unfold indexD
  split at h
  · rename_i e1
    simp only [e1]
    split at h
    · rw [guardR_holds] at h; exact h
    · exact h.elim
  · exact h.elim
theorem extractR_ok {x : V} {i : Nat} (h : (extractR x i H).holds P k) : extractD x i (fun v => k v H) := by
  unfold extractR at h
  unfold extractD
  split at h
  · simp only []
    split at h
    · rename_i v e; exact ⟨v, e, h⟩
    · exact h.elim
  · exact h.elim
theorem boundR_ok {v : Option V} {d : Nat} {p : Prop} {n : Nat} {F : Nat → Prop} (e : boundR v d = some (p, n)) (hp : p) (h : F n) : boundD v d F := by
  unfold boundR at e
  unfold boundD
  split at e
  · cases e; exact h
  · cases e; exact ⟨hp, h⟩
  · cases e
theorem cutR_ok {hi lo : Option V} {dh n : Nat} {F : Nat → Nat → V} (h : (cutR (boundR hi dh) (boundR lo 0) n F H).holds P k) : boundD hi dh fun h => boundD lo 0 fun l => (l ≤ h ∧ h ≤ n) ∧ k (F h l) H := by
  unfold cutR at h
  split at h
  · rename_i e1 e2
    rw [guardR_holds, guardR_holds, guardR_holds] at h
    exact boundR_ok e1 h.1 (boundR_ok e2 h.2.1 h.2.2)
  · exact h.elim
theorem sliceR_ok {t : TypeId} {x : V} {lo hi mx : Option V} (h : (sliceR P t x lo hi mx H).holds P k) : sliceD P t x lo hi mx (fun v => k v H) := by
  unfold sliceR at h
  unfold sliceD
  split at h
  · rename_i e1
    simp only [e1]
    split at h
    · rename_i e2
      simp only [e2]
      split at h
      · rw [guardR_holds] at h; exact ⟨h.1, cutR_ok h.2⟩
      · rw [guardR_holds] at h; exact ⟨h.1, cutR_ok h.2⟩
      · exact cutR_ok h
      · exact h.elim
    · exact h.elim
  · rename_i e1
    simp only [e1]
    split at h
    · exact cutR_ok h
    · exact h.elim
  · exact h.elim
theorem lenR_ok {t : TypeId} {x : V} (h : (lenR P t x H).holds P k) : lenD P t x (fun v => k v H) := by
  unfold lenR at h
  unfold lenD
  split at h
  all_goals first
    | exact h.elim
    | (rename_i e1; simp only [e1]; exact h)
theorem elemsR_ok {e : Nat} {x : V} {p : Prop} {news : List (List V)} {F : List (List V) → Prop} (he : elemsR e x H = some (p, news)) (hp : p) (h : F news) : elemsD e x H F := by
  unfold elemsR at he
  unfold elemsD
  split at he
  · simp only []
    split at he
    · rename_i e1
      cases he
      simp only [e1]
      exact ⟨hp.1.1, hp.1.2, hp.2, h⟩
    · cases he
  · cases he; exact ⟨hp.1, hp.2, h⟩
  · cases he; exact h
  · cases he
theorem appendR_ok {t : TypeId} {s x : V} (h : (appendR P t s x H).holds P k) : appendD P t s x H k := by
  unfold appendR at h
  unfold appendD
  split at h
  · rename_i e1
    simp only [e1]
    split at h
    · rename_i e2
      simp only [e2]
      split at h
      · rename_i e3
        rw [guardR_holds, guardR_holds] at h
        refine ⟨h.1, elemsR_ok e3 h.2.1 ?_⟩
        have h := h.2.2
        unfold putOnR at h
        split at h
        · simp only []
          split at h
          · rename_i e4
            rw [guardR_holds] at h
            simp only [e4]
            exact ⟨h.1.1.1, h.1.1.2, h.1.2.1, h.1.2.2.1, h.1.2.2.2, h.2⟩
          · exact h.elim
        · rw [guardR_holds, brR_holds] at h
          exact ⟨h.1, h.2.1, h.2.2⟩
        · exact h.elim
      · exact h.elim
    · exact h.elim
  · exact h.elim
theorem copyR_ok {t : TypeId} {s x : V} (h : (copyR P t s x H).holds P k) : copyD P t s x H k := by
  unfold copyR at h
  unfold copyD
  split at h
  · rename_i e1
    simp only [e1]
    split at h
    · rename_i e2
      simp only [e2]
      split at h
      · rename_i e3
        rw [guardR_holds, guardR_holds] at h
        refine ⟨h.1, elemsR_ok e3 h.2.1 ?_⟩
        have h := h.2.2
        unfold copyOnR at h
        split at h
        · simp only []
          split at h
          · rename_i e4
            rw [guardR_holds] at h
            simp only [e4]
            exact ⟨h.1.1.1, h.1.1.2, h.1.2, h.2⟩
          · exact h.elim
        · exact h
        · exact h.elim
      · exact h.elim
    · exact h.elim
  · exact h.elim
end
end Go.Proofs.Ytpakdkiceoknjaa
