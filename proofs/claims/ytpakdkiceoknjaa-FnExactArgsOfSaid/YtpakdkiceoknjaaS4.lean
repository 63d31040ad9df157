/- Contracts of the program's small functions over numbers, of slices' search functions, and of what a view says of values. No condition. -/
import Derived.Test.YtpakdkiceoknjaaS1
namespace Go.Proofs.Ytpakdkiceoknjaa
set_option maxRecDepth 100000
set_option linter.unusedSimpArgs false
set_option linter.unusedVariables false
theorem isOp_c (op : Int) : PureP Try.prog 143 [.d (.int .i64 op)] (· = .d (.bool (inR op 1 11))) := by
  refine pure_of Try.func143 en_143 rfl rfl (W_run mixed ⟨[K_41], [K_41h], [], 5, 0, [0, 2], []⟩ (fun _ => []) (by kernel_rfl) ?_)
  simp only [Try.f143, stripX, stripOps, pickOps]
  simp [K_41_f, K_41_e, K_41h_f, K_41h_e, K_41h_g]
noncomputable def K_143 : Ent Try.prog := Ent.p1 (α := Int) 143 (fun a => True) (fun a => .d (.bool (inR a 1 11))) (fun a hc => isOp_c a)
theorem K_143_f : K_143.f = 143 := rfl
theorem K_143_e (a : Int) : K_143.e [.d (.int .i64 a)] = some (True, .d (.bool (inR a 1 11)), []) := by unfold K_143; exact Ent.p1_eq (α := Int) a
noncomputable def K_143h : EntH Try.prog := EntH.pk1 (α := Int) 143 (fun a => True) (fun a => .d (.bool (inR a 1 11))) (fun a => []) (fun a hc => PureP.ans (isOp_c a))
theorem K_143h_f : K_143h.f = 143 := rfl
theorem K_143h_g : K_143h.gro = true := rfl
theorem K_143h_e {x1 : V} {H : Heap} : K_143h.e [x1] H = guardR ((decA (α := Int) H x1).1) (peekR (True) (.d (.bool (inR (decA (α := Int) H x1).2 1 11))) ([]) H) := rfl
def arityI (op : Int) : Int := if op = 1 ∨ op = 2 then 0 else if op = 3 then 1 else if op = 11 then 3 else 2
theorem arityI_c (op : Int) : PureP Try.prog 144 [.d (.int .i64 op)] (· = .d (.int .i64 (arityI op))) := by
  refine pure_of Try.func144 en_144 rfl rfl (W_run mixed ⟨[], [], [], 11, 0, [0, 2, 3, 4, 7, 9], [4, 7, 9]⟩ (fun _ => []) (by kernel_rfl) ?_)
  simp only [Try.f144, stripX, stripOps, pickOps]
  simp []
  repeat' first | apply And.intro | intro _
  all_goals simp [arityI, *]
noncomputable def K_144 : Ent Try.prog := Ent.p1 (α := Int) 144 (fun a => True) (fun a => .d (.int .i64 (arityI a))) (fun a hc => arityI_c a)
theorem K_144_f : K_144.f = 144 := rfl
theorem K_144_e (a : Int) : K_144.e [.d (.int .i64 a)] = some (True, .d (.int .i64 (arityI a)), []) := by unfold K_144; exact Ent.p1_eq (α := Int) a
noncomputable def K_144h : EntH Try.prog := EntH.pk1 (α := Int) 144 (fun a => True) (fun a => .d (.int .i64 (arityI a))) (fun a => []) (fun a hc => PureP.ans (arityI_c a))
theorem K_144h_f : K_144h.f = 144 := rfl
theorem K_144h_g : K_144h.gro = true := rfl
theorem K_144h_e {x1 : V} {H : Heap} : K_144h.e [x1] H = guardR ((decA (α := Int) H x1).1) (peekR (True) (.d (.int .i64 (arityI (decA (α := Int) H x1).2))) ([]) H) := rfl
theorem argsOf_c (op : Int) : PureP Try.prog 135 [.d (.int .i64 op)] (· = .d (.int .i64 (arity op))) := by
  refine pure_of Try.func135 en_135 rfl rfl (W_run mixed ⟨[K_143, K_144], [K_143h, K_144h], [], 18, 0, [0, 2, 3, 6, 9], [3, 6, 9, 12]⟩ (fun _ => []) (by kernel_rfl) ?_)
  simp only [Try.f135, stripX, stripOps, pickOps]
  simp [K_143_f, K_143_e, K_144_f, K_144_e, K_143h_f, K_143h_e, K_144h_f, K_144h_e, K_143h_g, K_144h_g]
  repeat' first | apply And.intro | intro _
  all_goals try simp only [inR_t, inR_f] at *
  all_goals simp [arity, arity1, arityI, inR, *]
  all_goals (repeat' split) <;> omega
noncomputable def K_135 : Ent Try.prog := Ent.p1 (α := Int) 135 (fun a => True) (fun a => .d (.int .i64 (arity a))) (fun a hc => argsOf_c a)
theorem K_135_f : K_135.f = 135 := rfl
theorem K_135_e (a : Int) : K_135.e [.d (.int .i64 a)] = some (True, .d (.int .i64 (arity a)), []) := by unfold K_135; exact Ent.p1_eq (α := Int) a
noncomputable def K_135h : EntH Try.prog := EntH.pk1 (α := Int) 135 (fun a => True) (fun a => .d (.int .i64 (arity a))) (fun a => []) (fun a hc => PureP.ans (argsOf_c a))
theorem K_135h_f : K_135h.f = 135 := rfl
theorem K_135h_g : K_135h.gro = true := rfl
theorem K_135h_e {x1 : V} {H : Heap} : K_135h.e [x1] H = guardR ((decA (α := Int) H x1).1) (peekR (True) (.d (.int .i64 (arity (decA (α := Int) H x1).2))) ([]) H) := rfl
@[simp] theorem closedL_upto (n : Nat) (f : Nat → D) : closedL (upto n fun j => .d (f j)) = true := by
  induction n generalizing f with
  | zero => rfl
  | succ n ih => simp [upto, ih]
/-- The index of the first one, counted from i. -/
def idxP {α : Type} (p : α → Bool) : List α → Int → Int
  | [], _ => -1
  | x :: l, i => if p x then i else idxP p l (i + 1)
theorem idxP_ge {α : Type} (p : α → Bool) : ∀ (l : List α) (i : Int), 0 ≤ i → (decide (0 ≤ idxP p l i) = l.any p)
  | [], i, h => by simp [idxP]
  | x :: l, i, h => by
    simp only [idxP, List.any_cons]
    by_cases hp : p x = true
    · simp [hp, h]
    · simp only [Bool.not_eq_true] at hp
      simp only [hp, Bool.false_eq_true, if_false, Bool.false_or]
      exact idxP_ge p l (i + 1) (by omega)
theorem indexFuncInt_c {g n : Nat} {cap : Nat → D} (p : Int → Bool) (l : List Int) (hl : Enc.good l) (hg : ∀ i, i < l.length → PureP Try.prog g ((fun x : Int => .d (.int .i64 x)) (l[i]?.getD default) :: upto n fun j => .d (cap j)) (· = .d (.bool (p (l[i]?.getD default))))) :
    PureP Try.prog 127 [.d (dIntS l), .d (.clo g n cap)] (· = .d (.int .i64 (idxP p l 0))) := by
  have hlen := good_len hl
  refine pure_of Try.func127 en_127 rfl rfl (W_run mixed ⟨[], [], [], 19, 0, [0, 1, 4, 5, 7, 8, 9, 16], [9, 16]⟩ (fun _ => []) (by kernel_rfl) ?_)
  simp only [Try.f127, stripX, stripOps, pickOps]
  simp []
  refine W_loopA (fun i : Nat => [(0, .d (dIntS l)), (1, .d (.clo g n cap)), (7, .d (.int .i64 l.length)), (8, .d (.int .i64 i))]) (fun _ => []) (fun i => i ≤ l.length ∧ idxP p (l.drop i) i = idxP p l 0) (fun i => l.length - i) 0 ?_ ?_ ?_
  · simp
  · simp
  rintro i ⟨hi, hm⟩
  refine W_run mixed ⟨[], [], [], 19, 0, [0, 1, 4, 5, 7, 8, 9, 16], [9, 16]⟩ (fun _ => []) (by kernel_rfl) ?_
  simp only [stripX, stripOps, pickOps]
  simp []
  refine ⟨fun h => ⟨h, ?_⟩, fun h => ?_⟩
  · rw [drop_cons h] at hm
    simp only [idxP] at hm
    refine ((hg i h).calls (by simp [closedL, V.closed])).mono ?_
    rintro r H' ⟨rfl, rfl⟩
    simp
    refine ⟨fun q => ?_, fun q => ⟨i + 1, ⟨by omega, ?_⟩, by omega, by rw [wrap_id] <;> omega⟩⟩
    · rw [if_pos (by exact q)] at hm; exact hm
    · rw [if_neg (by intro q'; have := q.symm.trans q'; cases this)] at hm; exact hm
  · rw [List.drop_eq_nil_of_le h] at hm; simpa [idxP] using hm
theorem containsFuncInt_c {g n : Nat} {cap : Nat → D} (p : Int → Bool) (l : List Int) (hl : Enc.good l) (hg : ∀ i, i < l.length → PureP Try.prog g ((fun x : Int => .d (.int .i64 x)) (l[i]?.getD default) :: upto n fun j => .d (cap j)) (· = .d (.bool (p (l[i]?.getD default))))) :
    PureP Try.prog 89 [.d (dIntS l), .d (.clo g n cap)] (· = .d (.bool (l.any p))) := by
  refine pure_of Try.func89 en_89 rfl rfl (W_run mixed ⟨[], [], [127], 9, 0, [0, 1, 4], []⟩ (fun _ => []) (by kernel_rfl) ?_)
  simp only [Try.f89, stripX, stripOps, pickOps]
  simp []
  refine ((indexFuncInt_c p l hl hg).calls (by simp)).mono ?_
  rintro r H' ⟨rfl, rfl⟩
  simp
  exact idxP_ge p l 0 (by omega)
theorem indexFuncInst_c {g n : Nat} {cap : Nat → D} (p : Inst → Bool) (l : List Inst) (hl : Enc.good l) (hg : ∀ i, i < l.length → PureP Try.prog g ((fun x : Inst => vInst x) (l[i]?.getD default) :: upto n fun j => .d (cap j)) (· = .d (.bool (p (l[i]?.getD default))))) :
    PureP Try.prog 134 [.d (dInstS l), .d (.clo g n cap)] (· = .d (.int .i64 (idxP p l 0))) := by
  have hlen := good_len hl
  refine pure_of Try.func134 en_134 rfl rfl (W_run mixed ⟨[], [], [], 19, 0, [0, 1, 4, 5, 7, 8, 9, 16], [9, 16]⟩ (fun _ => []) (by kernel_rfl) ?_)
  simp only [Try.f134, stripX, stripOps, pickOps]
  simp []
  refine W_loopA (fun i : Nat => [(0, .d (dInstS l)), (1, .d (.clo g n cap)), (7, .d (.int .i64 l.length)), (8, .d (.int .i64 i))]) (fun _ => []) (fun i => i ≤ l.length ∧ idxP p (l.drop i) i = idxP p l 0) (fun i => l.length - i) 0 ?_ ?_ ?_
  · simp
  · simp
  rintro i ⟨hi, hm⟩
  refine W_run mixed ⟨[], [], [], 19, 0, [0, 1, 4, 5, 7, 8, 9, 16], [9, 16]⟩ (fun _ => []) (by kernel_rfl) ?_
  simp only [stripX, stripOps, pickOps]
  simp []
  refine ⟨fun h => ⟨h, ?_⟩, fun h => ?_⟩
  · rw [drop_cons h] at hm
    simp only [idxP] at hm
    refine ((hg i h).calls (by simp [closedL, V.closed])).mono ?_
    rintro r H' ⟨rfl, rfl⟩
    simp
    refine ⟨fun q => ?_, fun q => ⟨i + 1, ⟨by omega, ?_⟩, by omega, by rw [wrap_id] <;> omega⟩⟩
    · rw [if_pos (by exact q)] at hm; exact hm
    · rw [if_neg (by intro q'; have := q.symm.trans q'; cases this)] at hm; exact hm
  · rw [List.drop_eq_nil_of_le h] at hm; simpa [idxP] using hm
theorem containsFuncInst_c {g n : Nat} {cap : Nat → D} (p : Inst → Bool) (l : List Inst) (hl : Enc.good l) (hg : ∀ i, i < l.length → PureP Try.prog g ((fun x : Inst => vInst x) (l[i]?.getD default) :: upto n fun j => .d (cap j)) (· = .d (.bool (p (l[i]?.getD default))))) :
    PureP Try.prog 119 [.d (dInstS l), .d (.clo g n cap)] (· = .d (.bool (l.any p))) := by
  refine pure_of Try.func119 en_119 rfl rfl (W_run mixed ⟨[], [], [134], 9, 0, [0, 1, 4], []⟩ (fun _ => []) (by kernel_rfl) ?_)
  simp only [Try.f119, stripX, stripOps, pickOps]
  simp []
  refine ((indexFuncInst_c p l hl hg).calls (by simp)).mono ?_
  rintro r H' ⟨rfl, rfl⟩
  simp
  exact idxP_ge p l 0 (by omega)
theorem indexFuncJump_c {g n : Nat} {cap : Nat → D} (p : Jump → Bool) (l : List Jump) (hl : Enc.good l) (hg : ∀ i, i < l.length → PureP Try.prog g ((fun x : Jump => vJump x) (l[i]?.getD default) :: upto n fun j => .d (cap j)) (· = .d (.bool (p (l[i]?.getD default))))) :
    PureP Try.prog 136 [.d (dJumpS l), .d (.clo g n cap)] (· = .d (.int .i64 (idxP p l 0))) := by
  have hlen := good_len hl
  refine pure_of Try.func136 en_136 rfl rfl (W_run mixed ⟨[], [], [], 19, 0, [0, 1, 4, 5, 7, 8, 9, 16], [9, 16]⟩ (fun _ => []) (by kernel_rfl) ?_)
  simp only [Try.f136, stripX, stripOps, pickOps]
  simp []
  refine W_loopA (fun i : Nat => [(0, .d (dJumpS l)), (1, .d (.clo g n cap)), (7, .d (.int .i64 l.length)), (8, .d (.int .i64 i))]) (fun _ => []) (fun i => i ≤ l.length ∧ idxP p (l.drop i) i = idxP p l 0) (fun i => l.length - i) 0 ?_ ?_ ?_
  · simp
  · simp
  rintro i ⟨hi, hm⟩
  refine W_run mixed ⟨[], [], [], 19, 0, [0, 1, 4, 5, 7, 8, 9, 16], [9, 16]⟩ (fun _ => []) (by kernel_rfl) ?_
  simp only [stripX, stripOps, pickOps]
  simp []
  refine ⟨fun h => ⟨h, ?_⟩, fun h => ?_⟩
  · rw [drop_cons h] at hm
    simp only [idxP] at hm
    refine ((hg i h).calls (by simp [closedL, V.closed])).mono ?_
    rintro r H' ⟨rfl, rfl⟩
    simp
    refine ⟨fun q => ?_, fun q => ⟨i + 1, ⟨by omega, ?_⟩, by omega, by rw [wrap_id] <;> omega⟩⟩
    · rw [if_pos (by exact q)] at hm; exact hm
    · rw [if_neg (by intro q'; have := q.symm.trans q'; cases this)] at hm; exact hm
  · rw [List.drop_eq_nil_of_le h] at hm; simpa [idxP] using hm
theorem containsFuncJump_c {g n : Nat} {cap : Nat → D} (p : Jump → Bool) (l : List Jump) (hl : Enc.good l) (hg : ∀ i, i < l.length → PureP Try.prog g ((fun x : Jump => vJump x) (l[i]?.getD default) :: upto n fun j => .d (cap j)) (· = .d (.bool (p (l[i]?.getD default))))) :
    PureP Try.prog 122 [.d (dJumpS l), .d (.clo g n cap)] (· = .d (.bool (l.any p))) := by
  refine pure_of Try.func122 en_122 rfl rfl (W_run mixed ⟨[], [], [136], 9, 0, [0, 1, 4], []⟩ (fun _ => []) (by kernel_rfl) ?_)
  simp only [Try.f122, stripX, stripOps, pickOps]
  simp []
  refine ((indexFuncJump_c p l hl hg).calls (by simp)).mono ?_
  rintro r H' ⟨rfl, rfl⟩
  simp
  exact idxP_ge p l 0 (by omega)
theorem indexFuncBlock_c {g n : Nat} {cap : Nat → D} (p : Block → Bool) (l : List Block) (hl : Enc.good l) (hg : ∀ i, i < l.length → PureP Try.prog g ((fun x : Block => vBlock x) (l[i]?.getD default) :: upto n fun j => .d (cap j)) (· = .d (.bool (p (l[i]?.getD default))))) :
    PureP Try.prog 118 [.d (dBlockS l), .d (.clo g n cap)] (· = .d (.int .i64 (idxP p l 0))) := by
  have hlen := good_len hl
  refine pure_of Try.func118 en_118 rfl rfl (W_run mixed ⟨[], [], [], 19, 0, [0, 1, 4, 5, 7, 8, 9, 16], [9, 16]⟩ (fun _ => []) (by kernel_rfl) ?_)
  simp only [Try.f118, stripX, stripOps, pickOps]
  simp []
  refine W_loopA (fun i : Nat => [(0, .d (dBlockS l)), (1, .d (.clo g n cap)), (7, .d (.int .i64 l.length)), (8, .d (.int .i64 i))]) (fun _ => []) (fun i => i ≤ l.length ∧ idxP p (l.drop i) i = idxP p l 0) (fun i => l.length - i) 0 ?_ ?_ ?_
  · simp
  · simp
  rintro i ⟨hi, hm⟩
  refine W_run mixed ⟨[], [], [], 19, 0, [0, 1, 4, 5, 7, 8, 9, 16], [9, 16]⟩ (fun _ => []) (by kernel_rfl) ?_
  simp only [stripX, stripOps, pickOps]
  simp []
  refine ⟨fun h => ⟨h, ?_⟩, fun h => ?_⟩
  · rw [drop_cons h] at hm
    simp only [idxP] at hm
    refine ((hg i h).calls (by simp [closedL, V.closed])).mono ?_
    rintro r H' ⟨rfl, rfl⟩
    simp
    refine ⟨fun q => ?_, fun q => ⟨i + 1, ⟨by omega, ?_⟩, by omega, by rw [wrap_id] <;> omega⟩⟩
    · rw [if_pos (by exact q)] at hm; exact hm
    · rw [if_neg (by intro q'; have := q.symm.trans q'; cases this)] at hm; exact hm
  · rw [List.drop_eq_nil_of_le h] at hm; simpa [idxP] using hm
theorem containsFuncBlock_c {g n : Nat} {cap : Nat → D} (p : Block → Bool) (l : List Block) (hl : Enc.good l) (hg : ∀ i, i < l.length → PureP Try.prog g ((fun x : Block => vBlock x) (l[i]?.getD default) :: upto n fun j => .d (cap j)) (· = .d (.bool (p (l[i]?.getD default))))) :
    PureP Try.prog 84 [.d (dBlockS l), .d (.clo g n cap)] (· = .d (.bool (l.any p))) := by
  refine pure_of Try.func84 en_84 rfl rfl (W_run mixed ⟨[], [], [118], 9, 0, [0, 1, 4], []⟩ (fun _ => []) (by kernel_rfl) ?_)
  simp only [Try.f84, stripX, stripOps, pickOps]
  simp []
  refine ((indexFuncBlock_c p l hl hg).calls (by simp)).mono ?_
  rintro r H' ⟨rfl, rfl⟩
  simp
  exact idxP_ge p l 0 (by omega)
end Go.Proofs.Ytpakdkiceoknjaa
