/- Functions of the same shape: what is told of the shape alone, and when such a function is good. No condition. -/
import Derived.Test.YtbmloeahcdneaaaGreatQS39
import Derived.Test.YtbmloeahcdneaaaGreatQS37
import Derived.Test.YtbmloeahcdneaaaGreatQS65
import Derived.Test.YtbmloeahcdneaaaGreatQS46
section
namespace Go.Proofs.YtbmloeahcdneaaaGreat
set_option maxRecDepth 100000
set_option linter.unusedSimpArgs false
set_option linter.unusedVariables false
theorem dec_of {α β : Type} [Enc β] [Dec β] [Inhabited β] [Tr α β] {H : Heap} {a : α} (h : Own H a) : Dec.dec (α := β) H (Tr.cells a) = (True, Tr.era a) := Prod.ext (eq_true h.dec.1) h.dec.2
theorem dec_ints {H : Heap} {f : Nat} {l : List Int} (h : H[f]? = some (.row 1 (rI l))) : Dec.dec (α := List Int) H [.sl f 1 0 l.length] = (True, l) := by
  have := dec_of (own_row h)
  rw [era_AS_ints] at this
  exact this
theorem VW.dec {n0 : Nat} {A : AFunc} {F : Func} {w f b : Nat} {G : Heap} (h : VW n0 A F w f b G) (hO : Own G A) (hs : solF A) (hF : Tr.era A = F) : Dec.dec (α := Ptr View) G [.ptr w 5 0 0] = (True, ⟨viewD F⟩) := by
  have q1 : Dec.dec (α := List Block) G [.sl A.blocks_.id 5 0 A.blocks_.l.length] = (True, F.blocks_) := by
    have := dec_of (AFunc.own_blocks_ hO)
    rw [cells_AS, hs.1] at this
    rw [this, ← hF]; rfl
  have q2 := dec_ints h.fr
  have q3 := dec_ints h.br
  have hp : A.params_ = F.params_ := by rw [← hF]; rfl
  rw [dec_ptr, h.view]
  show ((5 = 5 ∧ 0 + 5 ≤ 5) ∧ 0 < 1 ∧ (Dec.dec (α := View) G [_, _, _, _, _]).1, (⟨(Dec.dec (α := View) G [_, _, _, _, _]).2⟩ : Ptr View)) = _
  rw [dec_View, q1, q2, q3, dec_int, dec_int, hp]
  simp
  rfl
theorem VW.decA {n0 : Nat} {A : AFunc} {F : Func} {w f b : Nat} {G : Heap} (h : VW n0 A F w f b G) (hO : Own G A) (hs : solF A) (hF : Tr.era A = F) : decA (α := Ptr View) G (.ptr w 5 0 0) = (True, ⟨viewD F⟩) := by
  have := h.dec hO hs hF
  unfold Go.Proofs.YtbmloeahcdneaaaGreat.decA
  rw [show (V.ptr w 5 0 0).flat = [.ptr w 5 0 0] from rfl, this]
  exact Prod.ext (eq_true ⟨rfl, trivial⟩) rfl
theorem VW.keep {n0 : Nat} {A : AFunc} {F : Func} {w f b : Nat} {G G' : Heap} {S : List Nat} (h : VW n0 A F w f b G) (ho : Only S G G') (h1 : w ∉ S) (h2 : f ∉ S) (h3 : b ∉ S) : VW n0 A F w f b G' :=
  ⟨(ho.at_ _ (List.getElem?_eq_some_iff.1 h.view).1 h1).trans h.view, (ho.at_ _ (List.getElem?_eq_some_iff.1 h.fr).1 h2).trans h.fr, (ho.at_ _ (List.getElem?_eq_some_iff.1 h.br).1 h3).trans h.br, h.ge⟩
theorem viewOf_own (H : Heap) (A : AFunc) (hO : Own H A) (hs : solF A) (hg : goodF (Tr.era A) = true) (hF : Enc.good (Tr.era A)) : CallsD Tryz.prog 84 [.agg (Tr.cells A)] H fun r H' => ∃ w f b, r = .ptr w 5 0 0 ∧ VW H.length A (Tr.era A) w f b H' ∧ Only [] H H' := by
  have hv := hs.1
  have hO1 : Own (H ++ [.row 2 [[.d (.int .i64 A.params_), .sl A.blocks_.id 5 0 A.blocks_.l.length]]]) A := hO.frame (Only.app [] _ _) fun j _ hj => absurd hj List.not_mem_nil
  have hnum := numbered_own _ A hO1 hs hg
  rw [cells_AFunc, hv] at hnum ⊢
  refine calls_of Tryz.func84 en_84 rfl (of_decide_eq_true rfl) (W_run mixed ⟨[], [K_blocksh], [138, 1000139], 19, H.length, [0, 1, 2, 3, 4, 17], [12, 17]⟩ (fun _ => []) (by kernel_rfl) ?_)
  simp only [Tryz.f84, stripX, stripOps, pickOps]
  simp [K_blocksh_f, K_blocksh_e, K_blocksh_g, -V.flat, -V.one, one_int, one_bool, one_str, one_nilp, one_rp, one_nilsl, one_ro, one_cl, one_nilf, one_nili, one_ifc, one_ptr, one_sl, one_clo, flat_d, flat_ptr, flat_sl, flat_clo, flat_agg, -decA, decA_int, decA_bool, decA_str]
  refine hnum.mono ?_
  rintro r H1 ⟨w, f, b, rfl, hw, ho⟩
  generalize hE : Tr.era A = F at hg hF hw ⊢
  have hl1 : H.length + 1 ≤ H1.length := by have := ho.len; simp at this; omega
  have gb : ∀ R : Heap, (H1 ++ R)[H.length]? = some (.row 2 [[.d (.int .i64 A.params_), .sl A.blocks_.id 5 0 A.blocks_.l.length]]) := fun R => (List.getElem?_append_left (by omega)).trans ((ho.at_ _ (by simp) List.not_mem_nil).trans List.getElem?_concat_length)
  have hO2 : Own (H1 ++ [.row 1 [[.ptr w 5 0 0]]]) A := (hO1.frame ho fun j _ hj => absurd hj List.not_mem_nil).frame (Only.app [] _ _) fun j _ hj => absurd hj List.not_mem_nil
  have hw2 := hw.keep (Only.app [] H1 [.row 1 [[.ptr w 5 0 0]]]) List.not_mem_nil List.not_mem_nil List.not_mem_nil
  have dL : decA (α := List Block) (H1 ++ [.row 1 [[.ptr w 5 0 0]]]) (.sl A.blocks_.id 5 0 A.blocks_.l.length) = (True, F.blocks_) := by
    have := decA_S (AFunc.own_blocks_ hO2)
    rw [hv] at this
    rw [this, ← hE]; rfl
  have dC : decA (α := Clo1 140 (Ptr (Ptr View))) (H1 ++ [.row 1 [[.ptr w 5 0 0]]]) (.clo 140 [.ptr H1.length 1 0 0]) = (True, ⟨⟨⟨viewD F⟩⟩⟩) := by
    have hd := hw2.dec hO2 hs hE
    unfold decA
    rw [show (V.clo 140 [.ptr H1.length 1 0 0]).flat = [.clo 140 [.ptr H1.length 1 0 0]] from rfl, dec_clo1, dec_ptr, List.getElem?_concat_length]
    show ((Enc.agg (Clo1 140 (Ptr (Ptr View))) = false ∧ _ ∧ (1 = 1 ∧ 0 + 1 ≤ 1) ∧ 0 < 1 ∧ (Dec.dec (α := Ptr View) (H1 ++ [.row 1 [[.ptr w 5 0 0]]]) [.ptr w 5 0 0]).1), (⟨⟨(Dec.dec (α := Ptr View) (H1 ++ [.row 1 [[.ptr w 5 0 0]]]) [.ptr w 5 0 0]).2⟩⟩ : Clo1 140 (Ptr (Ptr View)))) = _
    rw [hd]
    exact Prod.ext (eq_true ⟨rfl, rfl, ⟨rfl, by omega⟩, by omega, trivial⟩) rfl
  have hany : (F.blocks_.any fun x => !bodyOk F.blocks_ (many F) x) = false := by
    obtain ⟨_, _, _, _, _, _, hb⟩ := goodF_spec hg
    refine List.any_eq_false.2 fun x hx => ?_
    rw [List.all_eq_true.1 hb x hx]; simp
  have hbs : Enc.good F.blocks_ := hF.2
  simp [K_138_f, K_138_e, K_blocks_f, K_blocks_e, K_138h_f, K_138h_e, K_blocksh_f, K_blocksh_e, K_138h_g, K_blocksh_g, -V.flat, -V.one, one_int, one_bool, one_str, one_nilp, one_rp, one_nilsl, one_ro, one_cl, one_nilf, one_nili, one_ifc, one_ptr, one_sl, one_clo, flat_d, flat_ptr, flat_sl, flat_clo, flat_agg, -decA, decA_int, decA_bool, decA_str, retQ, gb, dL, dC, hany, hbs, viewD_blocks, viewD_total]
  refine ⟨_, _, Fin.same (by simp; omega), w, rfl, ⟨f, b, hw2.view, hw2.fr, hw2.br, ?_⟩, ?_⟩
  · have := hw2.ge
    simp only [List.length_append, List.length_singleton] at this
    omega
  · exact (only_more (R := [.row 1 [[.ptr w 5 0 0]]]) ((Only.app [] H _).trans ho (fun j hj => hj) fun j hj _ => hj))
end Go.Proofs.YtbmloeahcdneaaaGreat
end

section
namespace Go.Proofs.YtbmloeahcdneaaaGreat
set_option maxRecDepth 100000
set_option linter.unusedSimpArgs false
set_option linter.unusedVariables false
def nuB (F : Func) (n : Int) : Bool := decide (0 ≤ (instS F n F.blocks_ 0).1) && decide ((insAt F n).op_ = 1)
def nuN (F : Func) (n : Int) : Int := if nuB F n = true then (insAt F n).n_ else 0
end Go.Proofs.YtbmloeahcdneaaaGreat
end

section
namespace Go.Proofs.YtbmloeahcdneaaaGreat
set_option maxRecDepth 100000
set_option linter.unusedSimpArgs false
set_option linter.unusedVariables false
def foldB (F : Func) (b : Block) : Block :=
  if b.end_ = 3 ∧ nuB F b.value_ = true then ⟨b.params_, b.insts_, 2, 0, [b.jumps_[if nuN F b.value_ = 0 then 1 else 0]?.getD default]⟩ else b
def foldK (F : Func) (b : Block) : Int := if b.end_ = 3 ∧ nuB F b.value_ = true then 1 else 0
end Go.Proofs.YtbmloeahcdneaaaGreat
end

section
namespace Go.Proofs.YtbmloeahcdneaaaGreat
set_option maxRecDepth 100000
set_option linter.unusedSimpArgs false
set_option linter.unusedVariables false
def shp (bs : List Block) : List (Int × Nat) := bs.map fun b => (b.params_, b.insts_.length)
theorem shp_len {bs bs' : List Block} (h : shp bs = shp bs') : bs.length = bs'.length := by
  have := congrArg List.length h
  simpa [shp] using this
theorem shp_cons {b b' : Block} {bs bs' : List Block} (h : shp (b :: bs) = shp (b' :: bs')) : b.params_ = b'.params_ ∧ b.insts_.length = b'.insts_.length ∧ shp bs = shp bs' := by
  simp only [shp, List.map_cons, List.cons.injEq, Prod.mk.injEq] at h
  exact ⟨h.1.1, h.1.2, h.2⟩
theorem shp_get {bs bs' : List Block} (h : shp bs = shp bs') (i : Nat) : (bs[i]?.getD default).params_ = (bs'[i]?.getD default).params_ ∧ (bs[i]?.getD default).insts_.length = (bs'[i]?.getD default).insts_.length := by
  have := congrArg (fun l => l[i]?) h
  simp only [shp, List.getElem?_map] at this
  cases h1 : bs[i]? <;> cases h2 : bs'[i]? <;> rw [h1, h2] at this
  · exact ⟨rfl, rfl⟩
  · cases this
  · cases this
  · simp only [Option.map_some, Option.some.injEq, Prod.mk.injEq] at this
    exact this
theorem cntB_shp : ∀ {bs bs' : List Block}, shp bs = shp bs' → ∀ n, cntB bs n = cntB bs' n
  | [], [], _, _ => rfl
  | [], b' :: bs', h, _ => by cases h
  | b :: bs, [], h, _ => by cases h
  | b :: bs, b' :: bs', h, n => by
    obtain ⟨h1, h2, h3⟩ := shp_cons h
    rw [cntB_cons, cntB_cons, h1, h2]
    exact cntB_shp h3 _
theorem blkOf_shp : ∀ {bs bs' : List Block}, shp bs = shp bs' → ∀ n, blkOf bs n = blkOf bs' n
  | [], [], _, _ => rfl
  | [], b' :: bs', h, _ => by cases h
  | b :: bs, [], h, _ => by cases h
  | b :: bs, b' :: bs', h, n => by
    obtain ⟨h1, h2, h3⟩ := shp_cons h
    simp only [blkOf, h1, h2, blkOf_shp h3]
theorem jumpOk_shp {bs bs' : List Block} (h : shp bs = shp bs') (m : Int) : jumpOk bs m = jumpOk bs' m := by
  funext j
  unfold jumpOk
  rw [shp_len h, (shp_get h _).1]
theorem endsOk_shp {bs bs' : List Block} (h : shp bs = shp bs') (b : Block) (m : Int) : endsOk bs b m = endsOk bs' b m := by
  unfold endsOk jumpsOk
  rw [jumpOk_shp h]
theorem many_shp {F F' : Func} (hp : F'.params_ = F.params_) (h : shp F'.blocks_ = shp F.blocks_) : many F' = many F := by
  unfold many
  rw [cntB_shp h, hp]
theorem headOk_shp : ∀ {bs bs' : List Block}, shp bs = shp bs' → bs.all headOk = bs'.all headOk
  | [], [], _ => rfl
  | [], b' :: bs', h => by cases h
  | b :: bs, [], h => by cases h
  | b :: bs, b' :: bs', h => by
    obtain ⟨h1, h2, h3⟩ := shp_cons h
    have e : headOk b = headOk b' := by unfold headOk; rw [h1, h2]
    rw [List.all_cons, List.all_cons, e, headOk_shp h3]
theorem goodF_shp {F F' : Func} (h : goodF F = true) (hp : F'.params_ = F.params_) (hs : shp F'.blocks_ = shp F.blocks_) (hb : ∀ b ∈ F'.blocks_, b.insts_.all (instOk (many F)) = true ∧ endsOk F.blocks_ b (many F) = true) : goodF F' = true := by
  unfold goodF at h ⊢
  rw [hp, shp_len hs, (shp_get hs 0).1, headOk_shp hs, many_shp hp hs]
  simp only [Bool.and_eq_true] at h ⊢
  refine ⟨h.1, h.2.1, h.2.2.1, h.2.2.2.1, h.2.2.2.2.1, List.all_eq_true.2 fun b hm => ?_⟩
  unfold bodyOk
  rw [endsOk_shp hs, (hb b hm).1, (hb b hm).2]; rfl
theorem goodF_body {F : Func} (h : goodF F = true) {b : Block} (hb : b ∈ F.blocks_) : b.insts_.all (instOk (many F)) = true ∧ endsOk F.blocks_ b (many F) = true := by
  obtain ⟨_, _, _, _, _, _, hbo⟩ := goodF_spec h
  have h1 := List.all_eq_true.1 hbo _ hb
  simp only [bodyOk, Bool.and_eq_true] at h1
  exact h1
def setB (b : Block) (i : Nat) (x : Inst) : Block := ⟨b.params_, b.insts_.set i x, b.end_, b.value_, b.jumps_⟩
def setI (F : Func) (k i : Nat) (x : Inst) : Func := ⟨F.params_, F.blocks_.set k (setB (F.blocks_[k]?.getD default) i x)⟩
def opTr (op : Int) (x : List Int) : Bool := decide (op = 8) && decide (x[1]?.getD 0 = 0)
def opNr (op : Int) (x : List Int) : Int :=
  let a := x[0]?.getD 0
  let b := x[1]?.getD 0
  if op = 3 then IntKind.i64.wrap (-a) else if op = 4 then IntKind.i64.wrap (a + b) else if op = 5 then IntKind.i64.wrap (a - b) else if op = 6 then IntKind.i64.wrap (a * b)
  else if op = 7 then IntKind.i64.wrap (a * 2 ^ (b % 64).toNat) else if op = 8 then (if b = 0 then 0 else IntKind.i64.wrap (a.tdiv b)) else if op = 9 then (if a = b then 1 else 0)
  else if op = 10 then (if a < b then 1 else 0) else if a = 0 then x[2]?.getD 0 else b
def canI (F : Func) (x : Inst) : Bool := decide (3 ≤ x.op_) && (decide (x.op_ ≤ 11) && (x.args_.all (nuB F) && !opTr x.op_ (x.args_.map (nuN F))))
def insOf (F : Func) (k i : Nat) : Inst := (F.blocks_[k]?.getD default).insts_[i]?.getD default
def numI (F : Func) (x : Inst) : Inst := ⟨1, opNr x.op_ (x.args_.map (nuN F)), []⟩
def stepI (k : Nat) (p : Func × Int) (i : Nat) : Func × Int := if canI p.1 (insOf p.1 k i) = true then (setI p.1 k i (numI p.1 (insOf p.1 k i)), p.2 + 1) else p
end Go.Proofs.YtbmloeahcdneaaaGreat
end
