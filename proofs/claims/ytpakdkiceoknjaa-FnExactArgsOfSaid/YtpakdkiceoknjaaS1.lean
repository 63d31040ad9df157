/- Contracts of small functions of the specification and of the program that work on numbers. No condition. -/
import Derived.Test.YtpakdkiceoknjaaCpy
namespace Go.Proofs.Ytpakdkiceoknjaa
set_option maxRecDepth 100000
set_option linter.unusedSimpArgs false
set_option linter.unusedVariables false
def inR (n lo hi : Int) : Bool := decide (lo ≤ n ∧ n ≤ hi)
theorem inR_t {n lo hi : Int} : inR n lo hi = true ↔ lo ≤ n ∧ n ≤ hi := by simp [inR]
theorem inR_f {n lo hi : Int} : inR n lo hi = false ↔ ¬ (lo ≤ n ∧ n ≤ hi) := by simp [inR]
theorem l1In_c (n lo hi : Int) : PureP Try.prog 45 [.d (.int .i64 n), .d (.int .i64 lo), .d (.int .i64 hi)] (· = .d (.bool (inR n lo hi))) := by
  refine pure_of Try.func45 en_45 rfl rfl (W_run mixed ⟨[], [], [], 15, 0, [0, 1, 2, 6], [10]⟩ (fun _ => []) (by kernel_rfl) ?_)
  simp only [Try.f45, stripX, stripOps, pickOps]
  simp []
  refine ⟨fun h => ?_, fun h => ?_⟩ <;> simp [inR] <;> omega
theorem within_c (n lo hi : Int) : PureP Try.prog 41 [.d (.int .i64 n), .d (.int .i64 lo), .d (.int .i64 hi)] (· = .d (.bool (inR n lo hi))) := by
  refine pure_of Try.func41 en_41 rfl rfl (W_run mixed ⟨[], [], [], 15, 0, [0, 1, 2, 6], [10]⟩ (fun _ => []) (by kernel_rfl) ?_)
  simp only [Try.f41, stripX, stripOps, pickOps]
  simp []
  refine ⟨fun h => ?_, fun h => ?_⟩ <;> simp [inR] <;> omega
noncomputable def K_45 : Ent Try.prog := Ent.p3 (α := Int) (β := Int) (γ := Int) 45 (fun a b c => True) (fun a b c => .d (.bool (inR a b c))) (fun a b c hc => l1In_c a b c)
theorem K_45_f : K_45.f = 45 := rfl
theorem K_45_e (a : Int) (b : Int) (c : Int) : K_45.e [.d (.int .i64 a), .d (.int .i64 b), .d (.int .i64 c)] = some (True, .d (.bool (inR a b c)), []) := by unfold K_45; exact Ent.p3_eq (α := Int) (β := Int) (γ := Int) a b c
noncomputable def K_45h : EntH Try.prog := EntH.pk3 (α := Int) (β := Int) (γ := Int) 45 (fun a b c => True) (fun a b c => .d (.bool (inR a b c))) (fun a b c => []) (fun a b c hc => PureP.ans (l1In_c a b c))
theorem K_45h_f : K_45h.f = 45 := rfl
theorem K_45h_g : K_45h.gro = true := rfl
theorem K_45h_e {x1 x2 x3 : V} {H : Heap} : K_45h.e [x1, x2, x3] H = guardR ((decA (α := Int) H x1).1 ∧ (decA (α := Int) H x2).1 ∧ (decA (α := Int) H x3).1) (peekR (True) (.d (.bool (inR (decA (α := Int) H x1).2 (decA (α := Int) H x2).2 (decA (α := Int) H x3).2))) ([]) H) := rfl
noncomputable def K_41 : Ent Try.prog := Ent.p3 (α := Int) (β := Int) (γ := Int) 41 (fun a b c => True) (fun a b c => .d (.bool (inR a b c))) (fun a b c hc => within_c a b c)
theorem K_41_f : K_41.f = 41 := rfl
theorem K_41_e (a : Int) (b : Int) (c : Int) : K_41.e [.d (.int .i64 a), .d (.int .i64 b), .d (.int .i64 c)] = some (True, .d (.bool (inR a b c)), []) := by unfold K_41; exact Ent.p3_eq (α := Int) (β := Int) (γ := Int) a b c
noncomputable def K_41h : EntH Try.prog := EntH.pk3 (α := Int) (β := Int) (γ := Int) 41 (fun a b c => True) (fun a b c => .d (.bool (inR a b c))) (fun a b c => []) (fun a b c hc => PureP.ans (within_c a b c))
theorem K_41h_f : K_41h.f = 41 := rfl
theorem K_41h_g : K_41h.gro = true := rfl
theorem K_41h_e {x1 x2 x3 : V} {H : Heap} : K_41h.e [x1, x2, x3] H = guardR ((decA (α := Int) H x1).1 ∧ (decA (α := Int) H x2).1 ∧ (decA (α := Int) H x3).1) (peekR (True) (.d (.bool (inR (decA (α := Int) H x1).2 (decA (α := Int) H x2).2 (decA (α := Int) H x3).2))) ([]) H) := rfl
def arity1 (op : Int) : Int := if op = 1 ∨ op = 2 then 0 else if op = 3 then 1 else if op = 11 then 3 else if inR op 4 10 then 2 else -1
theorem l1Arity_c (op : Int) : PureP Try.prog 128 [.d (.int .i64 op)] (· = .d (.int .i64 (arity1 op))) := by
  refine pure_of Try.func128 en_128 rfl rfl (W_run mixed ⟨[K_45], [K_45h], [], 19, 0, [0, 2, 3, 10, 13, 16], [3, 6, 10, 13, 16]⟩ (fun _ => []) (by kernel_rfl) ?_)
  simp only [Try.f128, stripX, stripOps, pickOps]
  simp [K_45_f, K_45_e, K_45h_f, K_45h_e, K_45h_g]
  repeat' first | apply And.intro | intro _
  all_goals simp [arity1, *]
noncomputable def K_128 : Ent Try.prog := Ent.p1 (α := Int) 128 (fun a => True) (fun a => .d (.int .i64 (arity1 a))) (fun a hc => l1Arity_c a)
theorem K_128_f : K_128.f = 128 := rfl
theorem K_128_e (a : Int) : K_128.e [.d (.int .i64 a)] = some (True, .d (.int .i64 (arity1 a)), []) := by unfold K_128; exact Ent.p1_eq (α := Int) a
noncomputable def K_128h : EntH Try.prog := EntH.pk1 (α := Int) 128 (fun a => True) (fun a => .d (.int .i64 (arity1 a))) (fun a => []) (fun a hc => PureP.ans (l1Arity_c a))
theorem K_128h_f : K_128h.f = 128 := rfl
theorem K_128h_g : K_128h.gro = true := rfl
theorem K_128h_e {x1 : V} {H : Heap} : K_128h.e [x1] H = guardR ((decA (α := Int) H x1).1) (peekR (True) (.d (.int .i64 (arity1 (decA (α := Int) H x1).2))) ([]) H) := rfl
def arity (op : Int) : Int := if op = 12 then 1 else if op = 13 then 2 else if op = 2 then -1 else arity1 op
theorem l12Arity_c (op : Int) : PureP Try.prog 91 [.d (.int .i64 op)] (· = .d (.int .i64 (arity op))) := by
  refine pure_of Try.func91 en_91 rfl rfl (W_run mixed ⟨[K_128], [K_128h], [], 12, 0, [0, 2, 3, 4, 6, 8], [4, 6, 8]⟩ (fun _ => []) (by kernel_rfl) ?_)
  simp only [Try.f91, stripX, stripOps, pickOps]
  simp [K_128_f, K_128_e, K_128h_f, K_128h_e, K_128h_g]
  repeat' first | apply And.intro | intro _
  all_goals simp [arity, *]
noncomputable def K_91 : Ent Try.prog := Ent.p1 (α := Int) 91 (fun a => True) (fun a => .d (.int .i64 (arity a))) (fun a hc => l12Arity_c a)
theorem K_91_f : K_91.f = 91 := rfl
theorem K_91_e (a : Int) : K_91.e [.d (.int .i64 a)] = some (True, .d (.int .i64 (arity a)), []) := by unfold K_91; exact Ent.p1_eq (α := Int) a
noncomputable def K_91h : EntH Try.prog := EntH.pk1 (α := Int) 91 (fun a => True) (fun a => .d (.int .i64 (arity a))) (fun a => []) (fun a hc => PureP.ans (l12Arity_c a))
theorem K_91h_f : K_91h.f = 91 := rfl
theorem K_91h_g : K_91h.gro = true := rfl
theorem K_91h_e {x1 : V} {H : Heap} : K_91h.e [x1] H = guardR ((decA (α := Int) H x1).1) (peekR (True) (.d (.int .i64 (arity (decA (α := Int) H x1).2))) ([]) H) := rfl
/-- Is each number of a list within bounds? -/
def allIn (l : List Int) (lo hi : Int) : Bool := l.all fun n => inR n lo hi
theorem allIn_cons (x : Int) (l : List Int) (lo hi : Int) : allIn (x :: l) lo hi = (inR x lo hi && allIn l lo hi) := by simp [allIn]
theorem l1All_c (l : List Int) (lo hi : Int) (hl : Enc.good l) : PureP Try.prog 92 [.d (dIntS l), .d (.int .i64 lo), .d (.int .i64 hi)] (· = .d (.bool (allIn l lo hi))) := by
  have hlen := good_len hl
  refine pure_of Try.func92 en_92 rfl rfl (W_run mixed ⟨[K_45], [K_45h], [], 21, 0, [0, 1, 2, 6, 8, 9, 10, 11, 12, 19], [12, 19]⟩ (fun _ => []) (by kernel_rfl) ?_)
  simp only [Try.f92, stripX, stripOps, pickOps]
  simp [K_45_f, K_45_e, K_45h_f, K_45h_e, K_45h_g]
  refine W_loopA (fun i : Nat => [(1, .d (.int .i64 lo)), (2, .d (.int .i64 hi)), (9, .d (dIntS l)), (10, .d (.int .i64 l.length)), (11, .d (.int .i64 i))]) (fun _ => []) (fun i => i ≤ l.length ∧ allIn l lo hi = allIn (l.drop i) lo hi) (fun i => l.length - i) 0 ?_ ?_ ?_
  · simp
  · simp
  · rintro i ⟨hi, hm⟩
    refine W_run mixed ⟨[K_45], [K_45h], [], 21, 0, [0, 1, 2, 6, 8, 9, 10, 11, 12, 19], [12, 19]⟩ (fun _ => []) (by kernel_rfl) ?_
    simp only [stripX, stripOps, pickOps]
    simp [K_45_f, K_45_e, K_45h_f, K_45h_e, K_45h_g]
    refine ⟨fun h => ?_, fun h => ?_⟩
    · rw [drop_cons h] at hm
      refine ⟨h, fun h1 => ?_, fun h1 => ⟨i + 1, ⟨by omega, ?_⟩, by omega, by rw [wrap_id] <;> omega⟩⟩
      · rw [hm]; simp [allIn_cons, h1]
      · rw [hm]; simp [allIn_cons, h1]
    · rw [hm, List.drop_eq_nil_of_le h]; rfl
noncomputable def K_92 : Ent Try.prog := Ent.p3 (α := List Int) (β := Int) (γ := Int) 92 (fun l lo hi => Enc.good l) (fun l lo hi => .d (.bool (allIn l lo hi))) (fun l lo hi hc => l1All_c l lo hi hc)
theorem K_92_f : K_92.f = 92 := rfl
theorem K_92_e (l : List Int) (lo : Int) (hi : Int) : K_92.e [.d (dIntS l), .d (.int .i64 lo), .d (.int .i64 hi)] = some (Enc.good l, .d (.bool (allIn l lo hi)), []) := by unfold K_92; exact Ent.p3_eq (α := List Int) (β := Int) (γ := Int) l lo hi
noncomputable def K_92h : EntH Try.prog := EntH.pk3 (α := List Int) (β := Int) (γ := Int) 92 (fun l lo hi => Enc.good l) (fun l lo hi => .d (.bool (allIn l lo hi))) (fun l lo hi => []) (fun l lo hi hc => PureP.ans (l1All_c l lo hi hc))
theorem K_92h_f : K_92h.f = 92 := rfl
theorem K_92h_g : K_92h.gro = true := rfl
theorem K_92h_e {x1 x2 x3 : V} {H : Heap} : K_92h.e [x1, x2, x3] H = guardR ((decA (α := List Int) H x1).1 ∧ (decA (α := Int) H x2).1 ∧ (decA (α := Int) H x3).1) (peekR (Enc.good (decA (α := List Int) H x1).2) (.d (.bool (allIn (decA (α := List Int) H x1).2 (decA (α := Int) H x2).2 (decA (α := Int) H x3).2))) ([]) H) := rfl
end Go.Proofs.Ytpakdkiceoknjaa
