/- Functions of the same shape: what is told of the shape alone, and when such a function is good. No condition. -/
import Derived.Test.YtbmloeahcdneaaaGreatQE6
import Derived.Test.YtbmloeahcdneaaaGreatQS41
import Derived.Test.YtbmloeahcdneaaaGreatQS48
section
namespace Go.Proofs.YtbmloeahcdneaaaGreat
set_option linter.unusedVariables false
set_option linter.unusedSimpArgs false
def isBS : Op → Bool
  | .buildSlice .. => true
  | _ => false
def sideZ (i0 : Nat) (env : Env) (H : Heap) (o : Op) : Prop := sideA i0 env o ∧ (isBS o = true → i0 < H.length)
def opZ (P : Program) (Γ : Table) (own : List FuncId) (i0 : Nat) (env : Env) (H : Heap) (o : Op) (k : V → Heap → Prop) : Prop := sideZ i0 env H o ∧ opT P Γ own env H o k
def stepZ (P : Program) (Γ : Table) (own : List FuncId) (i0 : Nat) (all : List (Option Nat)) (o : SOp) (env : Env) (H : Heap) (K : Env → Heap → Prop) : Prop :=
  match o.guard with
  | none => opZ P Γ own i0 env H o.op fun v H' => K (updO env o.dst v) H'
  | some _ => False
def opsZ (P : Program) (Γ : Table) (own : List FuncId) (i0 : Nat) (all : List (Option Nat)) : List SOp → Env → Heap → (Env → Heap → Prop) → Prop
  | [], env, H, k => k env H
  | o :: rest, env, H, k => stepZ P Γ own i0 all o env H fun e h => opsZ P Γ own i0 all rest e h k
section
variable {P : Program} {Γ : Table} {own : List FuncId} {i0 : Nat} {all : List (Option Nat)}
end
section
variable {P : Program} {Γ : Table} {own : List FuncId} {x : Ctx} {N i0 : Nat}
end
attribute [simp] isBS sideZ opZ stepZ opsZ
end Go.Proofs.YtbmloeahcdneaaaGreat
end

section
namespace Go.Proofs.YtbmloeahcdneaaaGreat
set_option maxRecDepth 100000
set_option linter.unusedSimpArgs false
set_option linter.unusedVariables false
def foldB (F : Func) (b : Block) : Block :=
  if b.end_ = 3 ∧ nuB F b.value_ = true then ⟨b.params_, b.insts_, 2, 0, [b.jumps_[if nuN F b.value_ = 0 then 1 else 0]?.getD default]⟩ else b
def foldK (F : Func) (b : Block) : Int := if b.end_ = 3 ∧ nuB F b.value_ = true then 1 else 0
theorem OwnL.put {α β : Type} [Enc β] [Dec β] [Inhabited β] [Tr α β] {H H' : Heap} {p r : List α} {a a' : α} (h : OwnL H (p ++ a :: r)) (ha : Own H' a') (hi : ∀ j ∈ ids a', j ∈ ids a ∨ H.length ≤ j) (hs : ∀ j ∈ p.flatMap ids ++ r.flatMap ids, H'[j]? = H[j]?) : OwnL H' (p ++ a' :: r) := by
  have hnd : (p.flatMap ids ++ (ids a ++ r.flatMap ids)).Nodup := by have := h.nd; simpa [List.flatMap_append, List.flatMap_cons] using this
  obtain ⟨n1, n2, n3⟩ := List.nodup_append.1 hnd
  obtain ⟨n4, n5, n6⟩ := List.nodup_append.1 n2
  have lt : ∀ j ∈ p.flatMap ids ++ r.flatMap ids, j < H.length := fun j hj => h.lt (by
    rw [List.flatMap_append, List.flatMap_cons]
    rcases List.mem_append.1 hj with q | q
    · exact List.mem_append_left _ q
    · exact List.mem_append_right _ (List.mem_append_right _ q))
  refine ⟨fun b hb => ?_, fun q hq => ?_, ?_⟩
  · rcases List.mem_append.1 hb with hb | hb
    · exact h.ok b (List.mem_append_left _ hb)
    · rcases List.mem_cons.1 hb with rfl | hb
      · exact ha.ok
      · exact h.ok b (List.mem_append_right _ (List.mem_cons_of_mem _ hb))
  · simp only [List.flatMap_append, List.flatMap_cons] at hq
    rcases List.mem_append.1 hq with hq | hq
    · have hm : q.1 ∈ p.flatMap ids := by rw [← ids_flat]; exact List.mem_map.2 ⟨q, hq, rfl⟩
      rw [hs q.1 (List.mem_append_left _ hm)]
      exact h.at_ q (by simp only [List.flatMap_append]; exact List.mem_append_left _ hq)
    · rcases List.mem_append.1 hq with hq | hq
      · exact ha.at_ q hq
      · have hm : q.1 ∈ r.flatMap ids := by rw [← ids_flat]; exact List.mem_map.2 ⟨q, hq, rfl⟩
        rw [hs q.1 (List.mem_append_right _ hm)]
        exact h.at_ q (by simp only [List.flatMap_append, List.flatMap_cons]; exact List.mem_append_right _ (List.mem_append_right _ hq))
  · rw [List.flatMap_append, List.flatMap_cons]
    refine List.nodup_append.2 ⟨n1, List.nodup_append.2 ⟨ha.nd, n5, fun x hx y hy e => ?_⟩, fun x hx y hy e => ?_⟩
    · subst e
      rcases hi x hx with q | q
      · exact n6 x q x hy rfl
      · have := lt x (List.mem_append_right _ hy); omega
    · subst e
      rcases List.mem_append.1 hy with hy | hy
      · rcases hi x hy with q | q
        · exact n3 x hx x (List.mem_append_left _ q) rfl
        · have := lt x (List.mem_append_left _ hx); omega
      · exact n3 x hx x (List.mem_append_right _ hy) rfl
theorem Rd1.tup {H : Heap} {l l' : List V} (h : Rds H l l') : Rd1 H (.tup l) (.tup l') := fun X w φ v hs hv => by
  simp only [VS] at hv ⊢
  obtain ⟨cs, rfl, h2⟩ := hv
  exact ⟨cs, rfl, Rd1.list h X w φ _ hs h2⟩
end Go.Proofs.YtbmloeahcdneaaaGreat
end

section
namespace Go.Proofs.YtbmloeahcdneaaaGreat
set_option maxRecDepth 100000
set_option linter.unusedSimpArgs false
set_option linter.unusedVariables false
def shp (bs : List Block) : List (Int × Nat) := bs.map fun b => (b.params_, b.insts_.length)
theorem shp_len {bs bs' : List Block} (h : shp bs = shp bs') : bs.length = bs'.length := by
  have := congrArg List.length h
  simpa [shp] using this
theorem shp_cons {b b' : Block} {bs bs' : List Block} (h : shp (b :: bs) = shp (b' :: bs')) : b.params_ = b'.params_ ∧ b.insts_.length = b'.insts_.length ∧ shp bs = shp bs' := by
  simp only [shp, List.map_cons, List.cons.injEq, Prod.mk.injEq] at h
  exact ⟨h.1.1, h.1.2, h.2⟩
theorem shp_get {bs bs' : List Block} (h : shp bs = shp bs') (i : Nat) : (bs[i]?.getD default).params_ = (bs'[i]?.getD default).params_ ∧ (bs[i]?.getD default).insts_.length = (bs'[i]?.getD default).insts_.length := by
  have := congrArg (fun l => l[i]?) h
  simp only [shp, List.getElem?_map] at this
  cases h1 : bs[i]? <;> cases h2 : bs'[i]? <;> rw [h1, h2] at this
  · exact ⟨rfl, rfl⟩
  · cases this
  · cases this
  · simp only [Option.map_some, Option.some.injEq, Prod.mk.injEq] at this
    exact this
theorem cntB_shp : ∀ {bs bs' : List Block}, shp bs = shp bs' → ∀ n, cntB bs n = cntB bs' n
  | [], [], _, _ => rfl
  | [], b' :: bs', h, _ => by cases h
  | b :: bs, [], h, _ => by cases h
  | b :: bs, b' :: bs', h, n => by
    obtain ⟨h1, h2, h3⟩ := shp_cons h
    rw [cntB_cons, cntB_cons, h1, h2]
    exact cntB_shp h3 _
theorem firsts_shp : ∀ {bs bs' : List Block}, shp bs = shp bs' → ∀ n, firsts bs n = firsts bs' n
  | [], [], _, _ => rfl
  | [], b' :: bs', h, _ => by cases h
  | b :: bs, [], h, _ => by cases h
  | b :: bs, b' :: bs', h, n => by
    obtain ⟨h1, h2, h3⟩ := shp_cons h
    simp only [firsts, h1, h2, firsts_shp h3]
theorem blkOf_shp : ∀ {bs bs' : List Block}, shp bs = shp bs' → ∀ n, blkOf bs n = blkOf bs' n
  | [], [], _, _ => rfl
  | [], b' :: bs', h, _ => by cases h
  | b :: bs, [], h, _ => by cases h
  | b :: bs, b' :: bs', h, n => by
    obtain ⟨h1, h2, h3⟩ := shp_cons h
    simp only [blkOf, h1, h2, blkOf_shp h3]
theorem jumpOk_shp {bs bs' : List Block} (h : shp bs = shp bs') (m : Int) : jumpOk bs m = jumpOk bs' m := by
  funext j
  unfold jumpOk
  rw [shp_len h, (shp_get h _).1]
theorem endsOk_shp {bs bs' : List Block} (h : shp bs = shp bs') (b : Block) (m : Int) : endsOk bs b m = endsOk bs' b m := by
  unfold endsOk jumpsOk
  rw [jumpOk_shp h]
theorem many_shp {F F' : Func} (hp : F'.params_ = F.params_) (h : shp F'.blocks_ = shp F.blocks_) : many F' = many F := by
  unfold many
  rw [cntB_shp h, hp]
theorem headOk_shp : ∀ {bs bs' : List Block}, shp bs = shp bs' → bs.all headOk = bs'.all headOk
  | [], [], _ => rfl
  | [], b' :: bs', h => by cases h
  | b :: bs, [], h => by cases h
  | b :: bs, b' :: bs', h => by
    obtain ⟨h1, h2, h3⟩ := shp_cons h
    have e : headOk b = headOk b' := by unfold headOk; rw [h1, h2]
    rw [List.all_cons, List.all_cons, e, headOk_shp h3]
theorem goodF_shp {F F' : Func} (h : goodF F = true) (hp : F'.params_ = F.params_) (hs : shp F'.blocks_ = shp F.blocks_) (hb : ∀ b ∈ F'.blocks_, b.insts_.all (instOk (many F)) = true ∧ endsOk F.blocks_ b (many F) = true) : goodF F' = true := by
  unfold goodF at h ⊢
  rw [hp, shp_len hs, (shp_get hs 0).1, headOk_shp hs, many_shp hp hs]
  simp only [Bool.and_eq_true] at h ⊢
  refine ⟨h.1, h.2.1, h.2.2.1, h.2.2.2.1, h.2.2.2.2.1, List.all_eq_true.2 fun b hm => ?_⟩
  unfold bodyOk
  rw [endsOk_shp hs, (hb b hm).1, (hb b hm).2]; rfl
theorem goodF_body {F : Func} (h : goodF F = true) {b : Block} (hb : b ∈ F.blocks_) : b.insts_.all (instOk (many F)) = true ∧ endsOk F.blocks_ b (many F) = true := by
  obtain ⟨_, _, _, _, _, _, hbo⟩ := goodF_spec h
  have h1 := List.all_eq_true.1 hbo _ hb
  simp only [bodyOk, Bool.and_eq_true] at h1
  exact h1
def setB (b : Block) (i : Nat) (x : Inst) : Block := ⟨b.params_, b.insts_.set i x, b.end_, b.value_, b.jumps_⟩
def setI (F : Func) (k i : Nat) (x : Inst) : Func := ⟨F.params_, F.blocks_.set k (setB (F.blocks_[k]?.getD default) i x)⟩
theorem setI_shp (F : Func) (k i : Nat) (x : Inst) : shp (setI F k i x).blocks_ = shp F.blocks_ := by
  refine List.ext_getElem? fun j => ?_
  simp only [shp, setI, List.getElem?_map, List.getElem?_set]
  by_cases e : k = j
  · subst e
    by_cases hl : k < F.blocks_.length
    · simp [hl, setB]
    · simp [hl]
  · simp [e]
theorem setI_good {F : Func} (h : goodF F = true) {k i : Nat} {x : Inst} (hx : instOk (many F) x = true) : goodF (setI F k i x) = true := by
  by_cases hk : k < F.blocks_.length
  · refine goodF_shp h rfl (setI_shp F k i x) fun b hb => ?_
    rcases List.mem_or_eq_of_mem_set hb with q | rfl
    · exact goodF_body h q
    · have hm : F.blocks_[k]?.getD default ∈ F.blocks_ := by rw [List.getElem?_eq_getElem hk]; exact List.getElem_mem hk
      obtain ⟨h1, h2⟩ := goodF_body h hm
      refine ⟨List.all_eq_true.2 fun y hy => ?_, h2⟩
      rcases List.mem_or_eq_of_mem_set hy with q | rfl
      · exact List.all_eq_true.1 h1 _ q
      · exact hx
  · have e : setI F k i x = F := by
      unfold setI
      rw [List.set_eq_of_length_le (by omega)]
    rw [e]; exact h
theorem setI_enc {F : Func} (h : Enc.good F) {k i : Nat} {x : Inst} (hx : Enc.good x) : Enc.good (setI F k i x) := by
  refine ⟨h.1, by show (F.blocks_.set _ _).length ≤ _; rw [List.length_set]; exact h.2.1, fun b hb => ?_⟩
  rcases List.mem_or_eq_of_mem_set hb with q | rfl
  · exact h.2.2 b q
  · have hg : Enc.good (F.blocks_[k]?.getD default) := good_get h.2 k
    refine ⟨hg.1, ⟨by show (List.set _ _ _).length ≤ _; rw [List.length_set]; exact hg.2.1.1, fun y hy => ?_⟩, hg.2.2⟩
    rcases List.mem_or_eq_of_mem_set hy with q | rfl
    · exact hg.2.1.2 y q
    · exact hx
def opTr (op : Int) (x : List Int) : Bool := decide (op = 8) && decide (x[1]?.getD 0 = 0)
def opNr (op : Int) (x : List Int) : Int :=
  let a := x[0]?.getD 0
  let b := x[1]?.getD 0
  if op = 3 then IntKind.i64.wrap (-a) else if op = 4 then IntKind.i64.wrap (a + b) else if op = 5 then IntKind.i64.wrap (a - b) else if op = 6 then IntKind.i64.wrap (a * b)
  else if op = 7 then IntKind.i64.wrap (a * 2 ^ (b % 64).toNat) else if op = 8 then (if b = 0 then 0 else IntKind.i64.wrap (a.tdiv b)) else if op = 9 then (if a = b then 1 else 0)
  else if op = 10 then (if a < b then 1 else 0) else if a = 0 then x[2]?.getD 0 else b
def canI (F : Func) (x : Inst) : Bool := decide (3 ≤ x.op_) && (decide (x.op_ ≤ 11) && (x.args_.all (nuB F) && !opTr x.op_ (x.args_.map (nuN F))))
def insOf (F : Func) (k i : Nat) : Inst := (F.blocks_[k]?.getD default).insts_[i]?.getD default
def numI (F : Func) (x : Inst) : Inst := ⟨1, opNr x.op_ (x.args_.map (nuN F)), []⟩
def stepI (k : Nat) (p : Func × Int) (i : Nat) : Func × Int := if canI p.1 (insOf p.1 k i) = true then (setI p.1 k i (numI p.1 (insOf p.1 k i)), p.2 + 1) else p
def stepB (p : Func × Int) (k : Nat) : Func × Int := (List.range (p.1.blocks_[k]?.getD default).insts_.length).foldl (stepI k) p
def fnN (F : Func) : Func × Int := (List.range F.blocks_.length).foldl stepB (F, 0)
end Go.Proofs.YtbmloeahcdneaaaGreat
end
