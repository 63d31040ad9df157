/- Contracts of the laws' helpers that weigh, copy and compare what is handed over. Written by a program. No condition. -/
import Derived.Test.YtpakdkiceoknjaaDat
import Derived.Test.YtpakdkiceoknjaaTy
import Derived.KernelRfl
namespace Go.Proofs.Ytpakdkiceoknjaa
set_option maxRecDepth 100000
set_option linter.unusedSimpArgs false
set_option linter.unusedVariables false
theorem mixed : Try.prog.follows .mixedOrders = true := by kernel_rfl
def szIntS (l : List Int) (left : Int) : Int := chk (IntKind.i64.wrap (left - l.length)) fun m => m
theorem szIntS_c (l : List Int) (left : Int) : PureP Try.prog 139 [.d (dIntS l), .d (.int .i64 left)] (· = .d (.int .i64 (szIntS l left))) := by
  refine pure_of Try.func139 en_139 rfl rfl (W_run mixed ⟨[], [], [], 12, 0, [0, 1, 4, 10], [10]⟩ (fun _ => []) (by kernel_rfl) ?_)
  simp only [Try.f139, stripX, stripOps, pickOps]
  simp []
  exact ⟨fun h => by simp only [szIntS, chk_neg h], fun h => by simp only [szIntS, chk_pos h]⟩
noncomputable def K_139 : Ent Try.prog := Ent.p2 (α := List Int) (β := Int) 139 (fun a b => Enc.good a) (fun a b => .d (.int .i64 (szIntS a b))) (fun a b hc => szIntS_c a b)
theorem K_139_f : K_139.f = 139 := rfl
theorem K_139_e (a : List Int) (b : Int) : K_139.e [.d (dIntS a), .d (.int .i64 b)] = some (Enc.good a, .d (.int .i64 (szIntS a b)), []) := by unfold K_139; exact Ent.p2_eq (α := List Int) (β := Int) a b
noncomputable def K_139h : EntH Try.prog := EntH.pk2 (α := List Int) (β := Int) 139 (fun a b => Enc.good a) (fun a b => .d (.int .i64 (szIntS a b))) (fun a b => []) (fun a b hc => PureP.ans (szIntS_c a b))
theorem K_139h_f : K_139h.f = 139 := rfl
theorem K_139h_g : K_139h.gro = true := rfl
theorem K_139h_e {x1 x2 : V} {H : Heap} : K_139h.e [x1, x2] H = guardR ((decA (α := List Int) H x1).1 ∧ (decA (α := Int) H x2).1) (peekR (Enc.good (decA (α := List Int) H x1).2) (.d (.int .i64 (szIntS (decA (α := List Int) H x1).2 (decA (α := Int) H x2).2))) ([]) H) := rfl
def szInst (x : Inst) (left : Int) : Int := chk (szIntS x.args_ left) fun m0 => m0
theorem szInst_c (x : Inst) (left : Int) (hx : Enc.good x) : PureP Try.prog 129 [vInst x, .d (.int .i64 left)] (· = .d (.int .i64 (szInst x left))) := by
  have q2 : Enc.good x.args_ := hx.2.2
  refine pure_of Try.func129 en_129 rfl rfl (W_run mixed ⟨[K_139], [K_139h], [], 12, 0, [0, 1, 2, 4, 10], [10]⟩ (fun _ => []) (by kernel_rfl) ?_)
  simp only [Try.f129, stripX, stripOps, pickOps]
  simp [K_139_f, K_139_e, K_139h_f, K_139h_e, K_139h_g, q2]
  refine ⟨fun h0 => by simp only [szInst, chk_neg h0], fun h0 => ?_⟩
  simp only [szInst, chk_pos h0]
noncomputable def K_129 : Ent Try.prog := Ent.p2 (α := Inst) (β := Int) 129 (fun a b => Enc.good a) (fun a b => .d (.int .i64 (szInst a b))) (fun a b hc => szInst_c a b hc)
theorem K_129_f : K_129.f = 129 := rfl
theorem K_129_e (a0 : Int) (a1 : Int) (a2 : List Int) (b : Int) : K_129.e [.agg [.d (.int .i64 a0), .d (.int .i64 a1), .d (dIntS a2)], .d (.int .i64 b)] = some (Enc.good (Inst.mk a0 a1 a2), .d (.int .i64 (szInst (Inst.mk a0 a1 a2) b)), []) := by unfold K_129; exact Ent.p2_eq (α := Inst) (β := Int) (Inst.mk a0 a1 a2) b
noncomputable def K_129h : EntH Try.prog := EntH.pk2 (α := Inst) (β := Int) 129 (fun a b => Enc.good a) (fun a b => .d (.int .i64 (szInst a b))) (fun a b => []) (fun a b hc => PureP.ans (szInst_c a b hc))
theorem K_129h_f : K_129h.f = 129 := rfl
theorem K_129h_g : K_129h.gro = true := rfl
theorem K_129h_e {x1 x2 : V} {H : Heap} : K_129h.e [x1, x2] H = guardR ((decA (α := Inst) H x1).1 ∧ (decA (α := Int) H x2).1) (peekR (Enc.good (decA (α := Inst) H x1).2) (.d (.int .i64 (szInst (decA (α := Inst) H x1).2 (decA (α := Int) H x2).2))) ([]) H) := rfl
def szInstSL : List Inst → Int → Int
  | [], left => left
  | x :: l, left => chk (szInst x left) fun m => szInstSL l m
def szInstS (l : List Inst) (left : Int) : Int := chk (IntKind.i64.wrap (left - l.length)) fun m => szInstSL l m
theorem szInstS_c (l : List Inst) (left : Int) (hl : Enc.good l) : PureP Try.prog 113 [.d (dInstS l), .d (.int .i64 left)] (· = .d (.int .i64 (szInstS l left))) := by
  have hlen := good_len hl
  have hg := good_get hl
  refine pure_of Try.func113 en_113 rfl rfl (W_run mixed ⟨[K_129], [K_129h], [], 27, 0, [0, 1, 4, 5, 11, 15, 25], [11, 15, 25]⟩ (fun _ => []) (by kernel_rfl) ?_)
  simp only [Try.f113, stripX, stripOps, pickOps]
  simp [K_129_f, K_129_e, K_129h_f, K_129h_e, K_129h_g]
  refine ⟨fun h => by simp only [szInstS, chk_neg h], fun h => ?_⟩
  refine W_loopA (fun a : Nat × Int => [(0, .d (dInstS l)), (1, .d (.int .i64 a.2)), (5, .d (.int .i64 a.1))]) (fun _ => []) (fun a => a.1 ≤ l.length ∧ szInstSL (l.drop a.1) a.2 = szInstS l left) (fun a => l.length - a.1) (0, IntKind.i64.wrap (left - l.length)) ?_ ?_ ?_
  · simp
  · simp [szInstS, chk_pos h]
  · rintro ⟨i, m⟩ ⟨hi, hm⟩
    refine W_run mixed ⟨[K_129], [K_129h], [], 27, 0, [0, 1, 4, 5, 11, 15, 25], [11, 15, 25]⟩ (fun _ => []) (by kernel_rfl) ?_
    simp only [stripX, stripOps, pickOps]
    simp [K_129_f, K_129_e, K_129h_f, K_129h_e, K_129h_g, hg]
    simp only [] at hi hm
    refine ⟨fun h => ?_, fun h => ?_⟩
    · rw [drop_cons h] at hm
      simp only [szInstSL] at hm
      refine ⟨h, fun h1 => ?_, fun h1 => ⟨i + 1, _, ⟨by omega, ?_⟩, by omega, rfl, by rw [wrap_id] <;> omega⟩⟩
      · rw [chk_neg h1] at hm; exact hm
      · rw [chk_pos h1] at hm; exact hm
    · rw [List.drop_eq_nil_of_le h] at hm; exact hm
noncomputable def K_113 : Ent Try.prog := Ent.p2 (α := List Inst) (β := Int) 113 (fun a b => Enc.good a) (fun a b => .d (.int .i64 (szInstS a b))) (fun a b hc => szInstS_c a b hc)
theorem K_113_f : K_113.f = 113 := rfl
theorem K_113_e (a : List Inst) (b : Int) : K_113.e [.d (dInstS a), .d (.int .i64 b)] = some (Enc.good a, .d (.int .i64 (szInstS a b)), []) := by unfold K_113; exact Ent.p2_eq (α := List Inst) (β := Int) a b
noncomputable def K_113h : EntH Try.prog := EntH.pk2 (α := List Inst) (β := Int) 113 (fun a b => Enc.good a) (fun a b => .d (.int .i64 (szInstS a b))) (fun a b => []) (fun a b hc => PureP.ans (szInstS_c a b hc))
theorem K_113h_f : K_113h.f = 113 := rfl
theorem K_113h_g : K_113h.gro = true := rfl
theorem K_113h_e {x1 x2 : V} {H : Heap} : K_113h.e [x1, x2] H = guardR ((decA (α := List Inst) H x1).1 ∧ (decA (α := Int) H x2).1) (peekR (Enc.good (decA (α := List Inst) H x1).2) (.d (.int .i64 (szInstS (decA (α := List Inst) H x1).2 (decA (α := Int) H x2).2))) ([]) H) := rfl
def szJump (x : Jump) (left : Int) : Int := chk (szIntS x.args_ left) fun m0 => m0
theorem szJump_c (x : Jump) (left : Int) (hx : Enc.good x) : PureP Try.prog 130 [vJump x, .d (.int .i64 left)] (· = .d (.int .i64 (szJump x left))) := by
  have q1 : Enc.good x.args_ := hx.2
  refine pure_of Try.func130 en_130 rfl rfl (W_run mixed ⟨[K_139], [K_139h], [], 12, 0, [0, 1, 2, 4, 10], [10]⟩ (fun _ => []) (by kernel_rfl) ?_)
  simp only [Try.f130, stripX, stripOps, pickOps]
  simp [K_139_f, K_139_e, K_139h_f, K_139h_e, K_139h_g, q1]
  refine ⟨fun h0 => by simp only [szJump, chk_neg h0], fun h0 => ?_⟩
  simp only [szJump, chk_pos h0]
noncomputable def K_130 : Ent Try.prog := Ent.p2 (α := Jump) (β := Int) 130 (fun a b => Enc.good a) (fun a b => .d (.int .i64 (szJump a b))) (fun a b hc => szJump_c a b hc)
theorem K_130_f : K_130.f = 130 := rfl
theorem K_130_e (a0 : Int) (a1 : List Int) (b : Int) : K_130.e [.agg [.d (.int .i64 a0), .d (dIntS a1)], .d (.int .i64 b)] = some (Enc.good (Jump.mk a0 a1), .d (.int .i64 (szJump (Jump.mk a0 a1) b)), []) := by unfold K_130; exact Ent.p2_eq (α := Jump) (β := Int) (Jump.mk a0 a1) b
noncomputable def K_130h : EntH Try.prog := EntH.pk2 (α := Jump) (β := Int) 130 (fun a b => Enc.good a) (fun a b => .d (.int .i64 (szJump a b))) (fun a b => []) (fun a b hc => PureP.ans (szJump_c a b hc))
theorem K_130h_f : K_130h.f = 130 := rfl
theorem K_130h_g : K_130h.gro = true := rfl
theorem K_130h_e {x1 x2 : V} {H : Heap} : K_130h.e [x1, x2] H = guardR ((decA (α := Jump) H x1).1 ∧ (decA (α := Int) H x2).1) (peekR (Enc.good (decA (α := Jump) H x1).2) (.d (.int .i64 (szJump (decA (α := Jump) H x1).2 (decA (α := Int) H x2).2))) ([]) H) := rfl
def szJumpSL : List Jump → Int → Int
  | [], left => left
  | x :: l, left => chk (szJump x left) fun m => szJumpSL l m
def szJumpS (l : List Jump) (left : Int) : Int := chk (IntKind.i64.wrap (left - l.length)) fun m => szJumpSL l m
theorem szJumpS_c (l : List Jump) (left : Int) (hl : Enc.good l) : PureP Try.prog 114 [.d (dJumpS l), .d (.int .i64 left)] (· = .d (.int .i64 (szJumpS l left))) := by
  have hlen := good_len hl
  have hg := good_get hl
  refine pure_of Try.func114 en_114 rfl rfl (W_run mixed ⟨[K_130], [K_130h], [], 27, 0, [0, 1, 4, 5, 11, 15, 25], [11, 15, 25]⟩ (fun _ => []) (by kernel_rfl) ?_)
  simp only [Try.f114, stripX, stripOps, pickOps]
  simp [K_130_f, K_130_e, K_130h_f, K_130h_e, K_130h_g]
  refine ⟨fun h => by simp only [szJumpS, chk_neg h], fun h => ?_⟩
  refine W_loopA (fun a : Nat × Int => [(0, .d (dJumpS l)), (1, .d (.int .i64 a.2)), (5, .d (.int .i64 a.1))]) (fun _ => []) (fun a => a.1 ≤ l.length ∧ szJumpSL (l.drop a.1) a.2 = szJumpS l left) (fun a => l.length - a.1) (0, IntKind.i64.wrap (left - l.length)) ?_ ?_ ?_
  · simp
  · simp [szJumpS, chk_pos h]
  · rintro ⟨i, m⟩ ⟨hi, hm⟩
    refine W_run mixed ⟨[K_130], [K_130h], [], 27, 0, [0, 1, 4, 5, 11, 15, 25], [11, 15, 25]⟩ (fun _ => []) (by kernel_rfl) ?_
    simp only [stripX, stripOps, pickOps]
    simp [K_130_f, K_130_e, K_130h_f, K_130h_e, K_130h_g, hg]
    simp only [] at hi hm
    refine ⟨fun h => ?_, fun h => ?_⟩
    · rw [drop_cons h] at hm
      simp only [szJumpSL] at hm
      refine ⟨h, fun h1 => ?_, fun h1 => ⟨i + 1, _, ⟨by omega, ?_⟩, by omega, rfl, by rw [wrap_id] <;> omega⟩⟩
      · rw [chk_neg h1] at hm; exact hm
      · rw [chk_pos h1] at hm; exact hm
    · rw [List.drop_eq_nil_of_le h] at hm; exact hm
noncomputable def K_114 : Ent Try.prog := Ent.p2 (α := List Jump) (β := Int) 114 (fun a b => Enc.good a) (fun a b => .d (.int .i64 (szJumpS a b))) (fun a b hc => szJumpS_c a b hc)
theorem K_114_f : K_114.f = 114 := rfl
theorem K_114_e (a : List Jump) (b : Int) : K_114.e [.d (dJumpS a), .d (.int .i64 b)] = some (Enc.good a, .d (.int .i64 (szJumpS a b)), []) := by unfold K_114; exact Ent.p2_eq (α := List Jump) (β := Int) a b
noncomputable def K_114h : EntH Try.prog := EntH.pk2 (α := List Jump) (β := Int) 114 (fun a b => Enc.good a) (fun a b => .d (.int .i64 (szJumpS a b))) (fun a b => []) (fun a b hc => PureP.ans (szJumpS_c a b hc))
theorem K_114h_f : K_114h.f = 114 := rfl
theorem K_114h_g : K_114h.gro = true := rfl
theorem K_114h_e {x1 x2 : V} {H : Heap} : K_114h.e [x1, x2] H = guardR ((decA (α := List Jump) H x1).1 ∧ (decA (α := Int) H x2).1) (peekR (Enc.good (decA (α := List Jump) H x1).2) (.d (.int .i64 (szJumpS (decA (α := List Jump) H x1).2 (decA (α := Int) H x2).2))) ([]) H) := rfl
def szBlock (x : Block) (left : Int) : Int := chk (szInstS x.insts_ left) fun m0 => chk (szJumpS x.jumps_ m0) fun m1 => m1
theorem szBlock_c (x : Block) (left : Int) (hx : Enc.good x) : PureP Try.prog 81 [vBlock x, .d (.int .i64 left)] (· = .d (.int .i64 (szBlock x left))) := by
  have q1 : Enc.good x.insts_ := hx.2.1
  have q4 : Enc.good x.jumps_ := hx.2.2.2.2
  refine pure_of Try.func81 en_81 rfl rfl (W_run mixed ⟨[K_113, K_114], [K_113h, K_114h], [], 18, 0, [0, 1, 2, 4, 10, 16], [10, 16]⟩ (fun _ => []) (by kernel_rfl) ?_)
  simp only [Try.f81, stripX, stripOps, pickOps]
  simp [K_113_f, K_113_e, K_114_f, K_114_e, K_113h_f, K_113h_e, K_114h_f, K_114h_e, K_113h_g, K_114h_g, q1, q4]
  refine ⟨fun h0 => by simp only [szBlock, chk_neg h0], fun h0 => ?_⟩
  refine ⟨fun h1 => by simp only [szBlock, chk_pos h0, chk_neg h1], fun h1 => ?_⟩
  simp only [szBlock, chk_pos h0, chk_pos h1]
noncomputable def K_81 : Ent Try.prog := Ent.p2 (α := Block) (β := Int) 81 (fun a b => Enc.good a) (fun a b => .d (.int .i64 (szBlock a b))) (fun a b hc => szBlock_c a b hc)
theorem K_81_f : K_81.f = 81 := rfl
theorem K_81_e (a0 : Int) (a1 : List Inst) (a2 : Int) (a3 : Int) (a4 : List Jump) (b : Int) : K_81.e [.agg [.d (.int .i64 a0), .d (dInstS a1), .d (.int .i64 a2), .d (.int .i64 a3), .d (dJumpS a4)], .d (.int .i64 b)] = some (Enc.good (Block.mk a0 a1 a2 a3 a4), .d (.int .i64 (szBlock (Block.mk a0 a1 a2 a3 a4) b)), []) := by unfold K_81; exact Ent.p2_eq (α := Block) (β := Int) (Block.mk a0 a1 a2 a3 a4) b
noncomputable def K_81h : EntH Try.prog := EntH.pk2 (α := Block) (β := Int) 81 (fun a b => Enc.good a) (fun a b => .d (.int .i64 (szBlock a b))) (fun a b => []) (fun a b hc => PureP.ans (szBlock_c a b hc))
theorem K_81h_f : K_81h.f = 81 := rfl
theorem K_81h_g : K_81h.gro = true := rfl
theorem K_81h_e {x1 x2 : V} {H : Heap} : K_81h.e [x1, x2] H = guardR ((decA (α := Block) H x1).1 ∧ (decA (α := Int) H x2).1) (peekR (Enc.good (decA (α := Block) H x1).2) (.d (.int .i64 (szBlock (decA (α := Block) H x1).2 (decA (α := Int) H x2).2))) ([]) H) := rfl
def szBlockSL : List Block → Int → Int
  | [], left => left
  | x :: l, left => chk (szBlock x left) fun m => szBlockSL l m
def szBlockS (l : List Block) (left : Int) : Int := chk (IntKind.i64.wrap (left - l.length)) fun m => szBlockSL l m
theorem szBlockS_c (l : List Block) (left : Int) (hl : Enc.good l) : PureP Try.prog 43 [.d (dBlockS l), .d (.int .i64 left)] (· = .d (.int .i64 (szBlockS l left))) := by
  have hlen := good_len hl
  have hg := good_get hl
  refine pure_of Try.func43 en_43 rfl rfl (W_run mixed ⟨[K_81], [K_81h], [], 27, 0, [0, 1, 4, 5, 11, 15, 25], [11, 15, 25]⟩ (fun _ => []) (by kernel_rfl) ?_)
  simp only [Try.f43, stripX, stripOps, pickOps]
  simp [K_81_f, K_81_e, K_81h_f, K_81h_e, K_81h_g]
  refine ⟨fun h => by simp only [szBlockS, chk_neg h], fun h => ?_⟩
  refine W_loopA (fun a : Nat × Int => [(0, .d (dBlockS l)), (1, .d (.int .i64 a.2)), (5, .d (.int .i64 a.1))]) (fun _ => []) (fun a => a.1 ≤ l.length ∧ szBlockSL (l.drop a.1) a.2 = szBlockS l left) (fun a => l.length - a.1) (0, IntKind.i64.wrap (left - l.length)) ?_ ?_ ?_
  · simp
  · simp [szBlockS, chk_pos h]
  · rintro ⟨i, m⟩ ⟨hi, hm⟩
    refine W_run mixed ⟨[K_81], [K_81h], [], 27, 0, [0, 1, 4, 5, 11, 15, 25], [11, 15, 25]⟩ (fun _ => []) (by kernel_rfl) ?_
    simp only [stripX, stripOps, pickOps]
    simp [K_81_f, K_81_e, K_81h_f, K_81h_e, K_81h_g, hg]
    simp only [] at hi hm
    refine ⟨fun h => ?_, fun h => ?_⟩
    · rw [drop_cons h] at hm
      simp only [szBlockSL] at hm
      refine ⟨h, fun h1 => ?_, fun h1 => ⟨i + 1, _, ⟨by omega, ?_⟩, by omega, rfl, by rw [wrap_id] <;> omega⟩⟩
      · rw [chk_neg h1] at hm; exact hm
      · rw [chk_pos h1] at hm; exact hm
    · rw [List.drop_eq_nil_of_le h] at hm; exact hm
noncomputable def K_43 : Ent Try.prog := Ent.p2 (α := List Block) (β := Int) 43 (fun a b => Enc.good a) (fun a b => .d (.int .i64 (szBlockS a b))) (fun a b hc => szBlockS_c a b hc)
theorem K_43_f : K_43.f = 43 := rfl
theorem K_43_e (a : List Block) (b : Int) : K_43.e [.d (dBlockS a), .d (.int .i64 b)] = some (Enc.good a, .d (.int .i64 (szBlockS a b)), []) := by unfold K_43; exact Ent.p2_eq (α := List Block) (β := Int) a b
noncomputable def K_43h : EntH Try.prog := EntH.pk2 (α := List Block) (β := Int) 43 (fun a b => Enc.good a) (fun a b => .d (.int .i64 (szBlockS a b))) (fun a b => []) (fun a b hc => PureP.ans (szBlockS_c a b hc))
theorem K_43h_f : K_43h.f = 43 := rfl
theorem K_43h_g : K_43h.gro = true := rfl
theorem K_43h_e {x1 x2 : V} {H : Heap} : K_43h.e [x1, x2] H = guardR ((decA (α := List Block) H x1).1 ∧ (decA (α := Int) H x2).1) (peekR (Enc.good (decA (α := List Block) H x1).2) (.d (.int .i64 (szBlockS (decA (α := List Block) H x1).2 (decA (α := Int) H x2).2))) ([]) H) := rfl
def szFunc (x : Func) (left : Int) : Int := chk (szBlockS x.blocks_ left) fun m0 => m0
theorem szFunc_c (x : Func) (left : Int) (hx : Enc.good x) : PureP Try.prog 15 [vFunc x, .d (.int .i64 left)] (· = .d (.int .i64 (szFunc x left))) := by
  have q1 : Enc.good x.blocks_ := hx.2
  refine pure_of Try.func15 en_15 rfl rfl (W_run mixed ⟨[K_43], [K_43h], [], 12, 0, [0, 1, 2, 4, 10], [10]⟩ (fun _ => []) (by kernel_rfl) ?_)
  simp only [Try.f15, stripX, stripOps, pickOps]
  simp [K_43_f, K_43_e, K_43h_f, K_43h_e, K_43h_g, q1]
  refine ⟨fun h0 => by simp only [szFunc, chk_neg h0], fun h0 => ?_⟩
  simp only [szFunc, chk_pos h0]
noncomputable def K_15 : Ent Try.prog := Ent.p2 (α := Func) (β := Int) 15 (fun a b => Enc.good a) (fun a b => .d (.int .i64 (szFunc a b))) (fun a b hc => szFunc_c a b hc)
theorem K_15_f : K_15.f = 15 := rfl
theorem K_15_e (a0 : Int) (a1 : List Block) (b : Int) : K_15.e [.agg [.d (.int .i64 a0), .d (dBlockS a1)], .d (.int .i64 b)] = some (Enc.good (Func.mk a0 a1), .d (.int .i64 (szFunc (Func.mk a0 a1) b)), []) := by unfold K_15; exact Ent.p2_eq (α := Func) (β := Int) (Func.mk a0 a1) b
noncomputable def K_15h : EntH Try.prog := EntH.pk2 (α := Func) (β := Int) 15 (fun a b => Enc.good a) (fun a b => .d (.int .i64 (szFunc a b))) (fun a b => []) (fun a b hc => PureP.ans (szFunc_c a b hc))
theorem K_15h_f : K_15h.f = 15 := rfl
theorem K_15h_g : K_15h.gro = true := rfl
theorem K_15h_e {x1 x2 : V} {H : Heap} : K_15h.e [x1, x2] H = guardR ((decA (α := Func) H x1).1 ∧ (decA (α := Int) H x2).1) (peekR (Enc.good (decA (α := Func) H x1).2) (.d (.int .i64 (szFunc (decA (α := Func) H x1).2 (decA (α := Int) H x2).2))) ([]) H) := rfl
theorem toIntS_c (l : List Int) (hl : Sm.sm l) : PureP Try.prog 140 [.d (dIntS l)] (· = .d (dIntS l)) := by
  have hlen := small_len hl
  have hg := small_get hl
  refine PureP.ro (pure_of Try.func140 en_140 rfl rfl (W_run mixed ⟨[], [], [], 22, 0, [0, 2, 3, 4, 11], [11]⟩ (fun _ => []) (by kernel_rfl) ?_))
  simp only [Try.f140, stripX, stripOps, pickOps]
  simp []
  rw [fillR_zero _ (fun j => [.d (.int .i64 (l[j]?.getD default))])]
  refine ⟨by omega, W_loopA (fun a : Nat => [(0, .d (dIntS l)), (3, .sl 0 1 0 l.length), (4, .d (.int .i64 a))]) (fun a => [.row 1 (fillR l.length a (fun j => [.d (.int .i64 (l[j]?.getD default))]) [.d (.int .i64 0)])]) (fun a => a ≤ l.length) (fun a => l.length - a) 0 ?_ ?_ ?_⟩
  · simp
    exact fillR_under (by simp) (by simp)
  · simp
  · intro i hi
    refine W_run mixed ⟨[], [], [], 22, 0, [0, 2, 3, 4, 11], [11]⟩ (fun _ => []) (by kernel_rfl) ?_
    simp only [stripX, stripOps, pickOps]
    simp [hg]
    refine ⟨fun h => ⟨h, i + 1, by omega, by omega, ?_, fillR_under (by simp) (by simp), by rw [wrap_id] <;> omega⟩, fun h j hj => ?_⟩
    · exact fillR_set _ _ _ _ h
    · have e : i = l.length := by omega
      subst e
      rw [fillR_done _ _ _ hj]
      simp
noncomputable def K_140 : Ent Try.prog := Ent.p1 (α := List Int) 140 (fun a => Sm.sm a) (fun a => .d (dIntS a)) (fun a hc => toIntS_c a hc)
theorem K_140_f : K_140.f = 140 := rfl
theorem K_140_e (a : List Int) : K_140.e [.d (dIntS a)] = some (Sm.sm a, .d (dIntS a), []) := by unfold K_140; exact Ent.p1_eq (α := List Int) a
noncomputable def K_140h : EntH Try.prog := EntH.pk1 (α := List Int) 140 (fun a => Sm.sm a) (fun a => .d (dIntS a)) (fun a => []) (fun a hc => PureP.ans (toIntS_c a hc))
theorem K_140h_f : K_140h.f = 140 := rfl
theorem K_140h_g : K_140h.gro = true := rfl
theorem K_140h_e {x1 : V} {H : Heap} : K_140h.e [x1] H = guardR ((decA (α := List Int) H x1).1) (peekR (Sm.sm (decA (α := List Int) H x1).2) (.d (dIntS (decA (α := List Int) H x1).2)) ([]) H) := rfl
theorem toInst_c (x : Inst) (hx : Sm.sm x) : PureP Try.prog 131 [vInst x] (· = vInst x) := by
  have q2 : Sm.sm x.args_ := hx.2.2
  refine pure_of Try.func131 en_131 rfl rfl (W_run mixed ⟨[K_140], [K_140h], [], 15, 0, [0, 1, 2, 3], []⟩ (fun _ => []) (by kernel_rfl) ?_)
  simp only [Try.f131, stripX, stripOps, pickOps]
  simp [K_140_f, K_140_e, K_140h_f, K_140h_e, K_140h_g, q2]
noncomputable def K_131 : Ent Try.prog := Ent.p1 (α := Inst) 131 (fun a => Sm.sm a) (fun a => vInst a) (fun a hc => toInst_c a hc)
theorem K_131_f : K_131.f = 131 := rfl
theorem K_131_e (a0 : Int) (a1 : Int) (a2 : List Int) : K_131.e [.agg [.d (.int .i64 a0), .d (.int .i64 a1), .d (dIntS a2)]] = some (Sm.sm (Inst.mk a0 a1 a2), vInst (Inst.mk a0 a1 a2), []) := by unfold K_131; exact Ent.p1_eq (α := Inst) (Inst.mk a0 a1 a2)
noncomputable def K_131h : EntH Try.prog := EntH.pk1 (α := Inst) 131 (fun a => Sm.sm a) (fun a => vInst a) (fun a => []) (fun a hc => PureP.ans (toInst_c a hc))
theorem K_131h_f : K_131h.f = 131 := rfl
theorem K_131h_g : K_131h.gro = true := rfl
theorem K_131h_e {x1 : V} {H : Heap} : K_131h.e [x1] H = guardR ((decA (α := Inst) H x1).1) (peekR (Sm.sm (decA (α := Inst) H x1).2) (vInst (decA (α := Inst) H x1).2) ([]) H) := rfl
theorem toInstS_c (l : List Inst) (hl : Sm.sm l) : PureP Try.prog 115 [.d (dInstS l)] (· = .d (dInstS l)) := by
  have hlen := small_len hl
  have hg := small_get hl
  refine PureP.ro (pure_of Try.func115 en_115 rfl rfl (W_run mixed ⟨[K_131], [K_131h], [], 23, 0, [0, 2, 3, 4, 11], [11]⟩ (fun _ => []) (by kernel_rfl) ?_))
  simp only [Try.f115, stripX, stripOps, pickOps]
  simp [K_131_f, K_131_e, K_131h_f, K_131h_e, K_131h_g]
  rw [fillR_zero _ (fun j => [.d (.int .i64 (l[j]?.getD default).op_), .d (.int .i64 (l[j]?.getD default).n_), .d (dIntS (l[j]?.getD default).args_)])]
  refine ⟨by omega, W_loopA (fun a : Nat => [(0, .d (dInstS l)), (3, .sl 0 3 0 l.length), (4, .d (.int .i64 a))]) (fun a => [.row 3 (fillR l.length a (fun j => [.d (.int .i64 (l[j]?.getD default).op_), .d (.int .i64 (l[j]?.getD default).n_), .d (dIntS (l[j]?.getD default).args_)]) [.d (.int .i64 0), .d (.int .i64 0), .d .nilsl])]) (fun a => a ≤ l.length) (fun a => l.length - a) 0 ?_ ?_ ?_⟩
  · simp
    exact fillR_under (by simp) (by simp)
  · simp
  · intro i hi
    refine W_run mixed ⟨[K_131], [K_131h], [], 23, 0, [0, 2, 3, 4, 11], [11]⟩ (fun _ => []) (by kernel_rfl) ?_
    simp only [stripX, stripOps, pickOps]
    simp [K_131_f, K_131_e, K_131h_f, K_131h_e, K_131h_g, hg]
    refine ⟨fun h => ⟨h, i + 1, by omega, by omega, ?_, fillR_under (by simp) (by simp), by rw [wrap_id] <;> omega⟩, fun h j k hj hk => ?_⟩
    · exact fillR_set _ _ _ _ h
    · have e : i = l.length := by omega
      subst e
      rw [fillR_done _ _ _ hj]
      rcases (by omega : k = 0 ∨ k = 1 ∨ k = 2) with rfl | rfl | rfl <;> simp
noncomputable def K_115 : Ent Try.prog := Ent.p1 (α := List Inst) 115 (fun a => Sm.sm a) (fun a => .d (dInstS a)) (fun a hc => toInstS_c a hc)
theorem K_115_f : K_115.f = 115 := rfl
theorem K_115_e (a : List Inst) : K_115.e [.d (dInstS a)] = some (Sm.sm a, .d (dInstS a), []) := by unfold K_115; exact Ent.p1_eq (α := List Inst) a
noncomputable def K_115h : EntH Try.prog := EntH.pk1 (α := List Inst) 115 (fun a => Sm.sm a) (fun a => .d (dInstS a)) (fun a => []) (fun a hc => PureP.ans (toInstS_c a hc))
theorem K_115h_f : K_115h.f = 115 := rfl
theorem K_115h_g : K_115h.gro = true := rfl
theorem K_115h_e {x1 : V} {H : Heap} : K_115h.e [x1] H = guardR ((decA (α := List Inst) H x1).1) (peekR (Sm.sm (decA (α := List Inst) H x1).2) (.d (dInstS (decA (α := List Inst) H x1).2)) ([]) H) := rfl
theorem toJump_c (x : Jump) (hx : Sm.sm x) : PureP Try.prog 132 [vJump x] (· = vJump x) := by
  have q1 : Sm.sm x.args_ := hx.2
  refine pure_of Try.func132 en_132 rfl rfl (W_run mixed ⟨[K_140], [K_140h], [], 12, 0, [0, 1, 2, 3], []⟩ (fun _ => []) (by kernel_rfl) ?_)
  simp only [Try.f132, stripX, stripOps, pickOps]
  simp [K_140_f, K_140_e, K_140h_f, K_140h_e, K_140h_g, q1]
noncomputable def K_132 : Ent Try.prog := Ent.p1 (α := Jump) 132 (fun a => Sm.sm a) (fun a => vJump a) (fun a hc => toJump_c a hc)
theorem K_132_f : K_132.f = 132 := rfl
theorem K_132_e (a0 : Int) (a1 : List Int) : K_132.e [.agg [.d (.int .i64 a0), .d (dIntS a1)]] = some (Sm.sm (Jump.mk a0 a1), vJump (Jump.mk a0 a1), []) := by unfold K_132; exact Ent.p1_eq (α := Jump) (Jump.mk a0 a1)
noncomputable def K_132h : EntH Try.prog := EntH.pk1 (α := Jump) 132 (fun a => Sm.sm a) (fun a => vJump a) (fun a => []) (fun a hc => PureP.ans (toJump_c a hc))
theorem K_132h_f : K_132h.f = 132 := rfl
theorem K_132h_g : K_132h.gro = true := rfl
theorem K_132h_e {x1 : V} {H : Heap} : K_132h.e [x1] H = guardR ((decA (α := Jump) H x1).1) (peekR (Sm.sm (decA (α := Jump) H x1).2) (vJump (decA (α := Jump) H x1).2) ([]) H) := rfl
theorem toJumpS_c (l : List Jump) (hl : Sm.sm l) : PureP Try.prog 116 [.d (dJumpS l)] (· = .d (dJumpS l)) := by
  have hlen := small_len hl
  have hg := small_get hl
  refine PureP.ro (pure_of Try.func116 en_116 rfl rfl (W_run mixed ⟨[K_132], [K_132h], [], 23, 0, [0, 2, 3, 4, 11], [11]⟩ (fun _ => []) (by kernel_rfl) ?_))
  simp only [Try.f116, stripX, stripOps, pickOps]
  simp [K_132_f, K_132_e, K_132h_f, K_132h_e, K_132h_g]
  rw [fillR_zero _ (fun j => [.d (.int .i64 (l[j]?.getD default).to_), .d (dIntS (l[j]?.getD default).args_)])]
  refine ⟨by omega, W_loopA (fun a : Nat => [(0, .d (dJumpS l)), (3, .sl 0 2 0 l.length), (4, .d (.int .i64 a))]) (fun a => [.row 2 (fillR l.length a (fun j => [.d (.int .i64 (l[j]?.getD default).to_), .d (dIntS (l[j]?.getD default).args_)]) [.d (.int .i64 0), .d .nilsl])]) (fun a => a ≤ l.length) (fun a => l.length - a) 0 ?_ ?_ ?_⟩
  · simp
    exact fillR_under (by simp) (by simp)
  · simp
  · intro i hi
    refine W_run mixed ⟨[K_132], [K_132h], [], 23, 0, [0, 2, 3, 4, 11], [11]⟩ (fun _ => []) (by kernel_rfl) ?_
    simp only [stripX, stripOps, pickOps]
    simp [K_132_f, K_132_e, K_132h_f, K_132h_e, K_132h_g, hg]
    refine ⟨fun h => ⟨h, i + 1, by omega, by omega, ?_, fillR_under (by simp) (by simp), by rw [wrap_id] <;> omega⟩, fun h j k hj hk => ?_⟩
    · exact fillR_set _ _ _ _ h
    · have e : i = l.length := by omega
      subst e
      rw [fillR_done _ _ _ hj]
      rcases (by omega : k = 0 ∨ k = 1) with rfl | rfl <;> simp
noncomputable def K_116 : Ent Try.prog := Ent.p1 (α := List Jump) 116 (fun a => Sm.sm a) (fun a => .d (dJumpS a)) (fun a hc => toJumpS_c a hc)
theorem K_116_f : K_116.f = 116 := rfl
theorem K_116_e (a : List Jump) : K_116.e [.d (dJumpS a)] = some (Sm.sm a, .d (dJumpS a), []) := by unfold K_116; exact Ent.p1_eq (α := List Jump) a
noncomputable def K_116h : EntH Try.prog := EntH.pk1 (α := List Jump) 116 (fun a => Sm.sm a) (fun a => .d (dJumpS a)) (fun a => []) (fun a hc => PureP.ans (toJumpS_c a hc))
theorem K_116h_f : K_116h.f = 116 := rfl
theorem K_116h_g : K_116h.gro = true := rfl
theorem K_116h_e {x1 : V} {H : Heap} : K_116h.e [x1] H = guardR ((decA (α := List Jump) H x1).1) (peekR (Sm.sm (decA (α := List Jump) H x1).2) (.d (dJumpS (decA (α := List Jump) H x1).2)) ([]) H) := rfl
theorem toBlock_c (x : Block) (hx : Sm.sm x) : PureP Try.prog 82 [vBlock x] (· = vBlock x) := by
  have q1 : Sm.sm x.insts_ := hx.2.1
  have q4 : Sm.sm x.jumps_ := hx.2.2.2.2
  refine pure_of Try.func82 en_82 rfl rfl (W_run mixed ⟨[K_115, K_116], [K_115h, K_116h], [], 22, 0, [0, 1, 2, 3], []⟩ (fun _ => []) (by kernel_rfl) ?_)
  simp only [Try.f82, stripX, stripOps, pickOps]
  simp [K_115_f, K_115_e, K_116_f, K_116_e, K_115h_f, K_115h_e, K_116h_f, K_116h_e, K_115h_g, K_116h_g, q1, q4]
noncomputable def K_82 : Ent Try.prog := Ent.p1 (α := Block) 82 (fun a => Sm.sm a) (fun a => vBlock a) (fun a hc => toBlock_c a hc)
theorem K_82_f : K_82.f = 82 := rfl
theorem K_82_e (a0 : Int) (a1 : List Inst) (a2 : Int) (a3 : Int) (a4 : List Jump) : K_82.e [.agg [.d (.int .i64 a0), .d (dInstS a1), .d (.int .i64 a2), .d (.int .i64 a3), .d (dJumpS a4)]] = some (Sm.sm (Block.mk a0 a1 a2 a3 a4), vBlock (Block.mk a0 a1 a2 a3 a4), []) := by unfold K_82; exact Ent.p1_eq (α := Block) (Block.mk a0 a1 a2 a3 a4)
noncomputable def K_82h : EntH Try.prog := EntH.pk1 (α := Block) 82 (fun a => Sm.sm a) (fun a => vBlock a) (fun a => []) (fun a hc => PureP.ans (toBlock_c a hc))
theorem K_82h_f : K_82h.f = 82 := rfl
theorem K_82h_g : K_82h.gro = true := rfl
theorem K_82h_e {x1 : V} {H : Heap} : K_82h.e [x1] H = guardR ((decA (α := Block) H x1).1) (peekR (Sm.sm (decA (α := Block) H x1).2) (vBlock (decA (α := Block) H x1).2) ([]) H) := rfl
theorem toBlockS_c (l : List Block) (hl : Sm.sm l) : PureP Try.prog 47 [.d (dBlockS l)] (· = .d (dBlockS l)) := by
  have hlen := small_len hl
  have hg := small_get hl
  refine PureP.ro (pure_of Try.func47 en_47 rfl rfl (W_run mixed ⟨[K_82], [K_82h], [], 23, 0, [0, 2, 3, 4, 11], [11]⟩ (fun _ => []) (by kernel_rfl) ?_))
  simp only [Try.f47, stripX, stripOps, pickOps]
  simp [K_82_f, K_82_e, K_82h_f, K_82h_e, K_82h_g]
  rw [fillR_zero _ (fun j => [.d (.int .i64 (l[j]?.getD default).params_), .d (dInstS (l[j]?.getD default).insts_), .d (.int .i64 (l[j]?.getD default).end_), .d (.int .i64 (l[j]?.getD default).value_), .d (dJumpS (l[j]?.getD default).jumps_)])]
  refine ⟨by omega, W_loopA (fun a : Nat => [(0, .d (dBlockS l)), (3, .sl 0 5 0 l.length), (4, .d (.int .i64 a))]) (fun a => [.row 5 (fillR l.length a (fun j => [.d (.int .i64 (l[j]?.getD default).params_), .d (dInstS (l[j]?.getD default).insts_), .d (.int .i64 (l[j]?.getD default).end_), .d (.int .i64 (l[j]?.getD default).value_), .d (dJumpS (l[j]?.getD default).jumps_)]) [.d (.int .i64 0), .d .nilsl, .d (.int .i64 0), .d (.int .i64 0), .d .nilsl])]) (fun a => a ≤ l.length) (fun a => l.length - a) 0 ?_ ?_ ?_⟩
  · simp
    exact fillR_under (by simp) (by simp)
  · simp
  · intro i hi
    refine W_run mixed ⟨[K_82], [K_82h], [], 23, 0, [0, 2, 3, 4, 11], [11]⟩ (fun _ => []) (by kernel_rfl) ?_
    simp only [stripX, stripOps, pickOps]
    simp [K_82_f, K_82_e, K_82h_f, K_82h_e, K_82h_g, hg]
    refine ⟨fun h => ⟨h, i + 1, by omega, by omega, ?_, fillR_under (by simp) (by simp), by rw [wrap_id] <;> omega⟩, fun h j k hj hk => ?_⟩
    · exact fillR_set _ _ _ _ h
    · have e : i = l.length := by omega
      subst e
      rw [fillR_done _ _ _ hj]
      rcases (by omega : k = 0 ∨ k = 1 ∨ k = 2 ∨ k = 3 ∨ k = 4) with rfl | rfl | rfl | rfl | rfl <;> simp
noncomputable def K_47 : Ent Try.prog := Ent.p1 (α := List Block) 47 (fun a => Sm.sm a) (fun a => .d (dBlockS a)) (fun a hc => toBlockS_c a hc)
theorem K_47_f : K_47.f = 47 := rfl
theorem K_47_e (a : List Block) : K_47.e [.d (dBlockS a)] = some (Sm.sm a, .d (dBlockS a), []) := by unfold K_47; exact Ent.p1_eq (α := List Block) a
noncomputable def K_47h : EntH Try.prog := EntH.pk1 (α := List Block) 47 (fun a => Sm.sm a) (fun a => .d (dBlockS a)) (fun a => []) (fun a hc => PureP.ans (toBlockS_c a hc))
theorem K_47h_f : K_47h.f = 47 := rfl
theorem K_47h_g : K_47h.gro = true := rfl
theorem K_47h_e {x1 : V} {H : Heap} : K_47h.e [x1] H = guardR ((decA (α := List Block) H x1).1) (peekR (Sm.sm (decA (α := List Block) H x1).2) (.d (dBlockS (decA (α := List Block) H x1).2)) ([]) H) := rfl
theorem toFunc_c (x : Func) (hx : Sm.sm x) : PureP Try.prog 17 [vFunc x] (· = vFunc x) := by
  have q1 : Sm.sm x.blocks_ := hx.2
  refine pure_of Try.func17 en_17 rfl rfl (W_run mixed ⟨[K_47], [K_47h], [], 12, 0, [0, 1, 2, 3], []⟩ (fun _ => []) (by kernel_rfl) ?_)
  simp only [Try.f17, stripX, stripOps, pickOps]
  simp [K_47_f, K_47_e, K_47h_f, K_47h_e, K_47h_g, q1]
noncomputable def K_17 : Ent Try.prog := Ent.p1 (α := Func) 17 (fun a => Sm.sm a) (fun a => vFunc a) (fun a hc => toFunc_c a hc)
theorem K_17_f : K_17.f = 17 := rfl
theorem K_17_e (a0 : Int) (a1 : List Block) : K_17.e [.agg [.d (.int .i64 a0), .d (dBlockS a1)]] = some (Sm.sm (Func.mk a0 a1), vFunc (Func.mk a0 a1), []) := by unfold K_17; exact Ent.p1_eq (α := Func) (Func.mk a0 a1)
noncomputable def K_17h : EntH Try.prog := EntH.pk1 (α := Func) 17 (fun a => Sm.sm a) (fun a => vFunc a) (fun a => []) (fun a hc => PureP.ans (toFunc_c a hc))
theorem K_17h_f : K_17h.f = 17 := rfl
theorem K_17h_g : K_17h.gro = true := rfl
theorem K_17h_e {x1 : V} {H : Heap} : K_17h.e [x1] H = guardR ((decA (α := Func) H x1).1) (peekR (Sm.sm (decA (α := Func) H x1).2) (vFunc (decA (α := Func) H x1).2) ([]) H) := rfl
theorem eqIntS_c (l : List Int) (hl : Sm.sm l) : PureP Try.prog 24 [.d (dIntS l), .d (dIntS l)] (· = .d (.bool true)) := by
  have hlen := small_len hl
  have hg := small_get hl
  refine pure_of Try.func24 en_24 rfl rfl (W_run mixed ⟨[], [], [], 26, 0, [0, 1, 4, 5, 10, 14, 25], [10, 14, 25]⟩ (fun | 6 => [0, 1, 2, 4, 5, 6, 3, 7, 8] | _ => []) (by kernel_rfl) ?_)
  simp only [Try.f24, stripX, stripOps, pickOps]
  simp []
  refine W_loopA (fun a : Nat => [(0, .d (dIntS l)), (1, .d (dIntS l)), (5, .d (.int .i64 a))]) (fun _ => []) (fun a => a ≤ l.length) (fun a => l.length - a) 0 ?_ ?_ ?_
  · simp
  · simp
  · intro i hi
    refine W_run mixed ⟨[], [], [], 26, 0, [0, 1, 4, 5, 10, 14, 25], [10, 14, 25]⟩ (fun | 6 => [0, 1, 2, 4, 5, 6, 3, 7, 8] | _ => []) (by kernel_rfl) ?_
    simp only [stripX, stripOps, pickOps]
    simp [hg]
    intro h
    exact ⟨h, i + 1, by omega, by omega, by rw [wrap_id] <;> omega⟩
noncomputable def K_24 : Ent Try.prog := Ent.p2 (α := List Int) (β := List Int) 24 (fun a b => Sm.sm a ∧ a = b) (fun a b => .d (.bool true)) (fun a b hc => (by obtain ⟨h1, rfl⟩ := hc; exact eqIntS_c a h1))
theorem K_24_f : K_24.f = 24 := rfl
theorem K_24_e (a : List Int) (b : List Int) : K_24.e [.d (dIntS a), .d (dIntS b)] = some (Sm.sm a ∧ a = b, .d (.bool true), []) := by unfold K_24; exact Ent.p2_eq (α := List Int) (β := List Int) a b
noncomputable def K_24h : EntH Try.prog := EntH.pk2 (α := List Int) (β := List Int) 24 (fun a b => Sm.sm a ∧ a = b) (fun a b => .d (.bool true)) (fun a b => []) (fun a b hc => PureP.ans ((by obtain ⟨h1, rfl⟩ := hc; exact eqIntS_c a h1)))
theorem K_24h_f : K_24h.f = 24 := rfl
theorem K_24h_g : K_24h.gro = true := rfl
theorem K_24h_e {x1 x2 : V} {H : Heap} : K_24h.e [x1, x2] H = guardR ((decA (α := List Int) H x1).1 ∧ (decA (α := List Int) H x2).1) (peekR (Sm.sm (decA (α := List Int) H x1).2 ∧ (decA (α := List Int) H x1).2 = (decA (α := List Int) H x2).2) (.d (.bool true)) ([]) H) := rfl
theorem eqInst_c (x : Inst) (hx : Sm.sm x) : PureP Try.prog 137 [vInst x, vInst x] (· = .d (.bool true)) := by
  have q2 : Sm.sm x.args_ := hx.2.2
  refine pure_of Try.func137 en_137 rfl rfl (W_run mixed ⟨[K_24], [K_24h], [], 21, 0, [0, 1, 2, 3, 4, 9, 14, 20], [9, 14, 20]⟩ (fun _ => []) (by kernel_rfl) ?_)
  simp only [Try.f137, stripX, stripOps, pickOps]
  simp [K_24_f, K_24_e, K_24h_f, K_24h_e, K_24h_g, q2]
noncomputable def K_137 : Ent Try.prog := Ent.p2 (α := Inst) (β := Inst) 137 (fun a b => Sm.sm a ∧ a = b) (fun a b => .d (.bool true)) (fun a b hc => (by obtain ⟨h1, rfl⟩ := hc; exact eqInst_c a h1))
theorem K_137_f : K_137.f = 137 := rfl
theorem K_137_e (a0 : Int) (a1 : Int) (a2 : List Int) (b0 : Int) (b1 : Int) (b2 : List Int) : K_137.e [.agg [.d (.int .i64 a0), .d (.int .i64 a1), .d (dIntS a2)], .agg [.d (.int .i64 b0), .d (.int .i64 b1), .d (dIntS b2)]] = some (Sm.sm (Inst.mk a0 a1 a2) ∧ (Inst.mk a0 a1 a2) = (Inst.mk b0 b1 b2), .d (.bool true), []) := by unfold K_137; exact Ent.p2_eq (α := Inst) (β := Inst) (Inst.mk a0 a1 a2) (Inst.mk b0 b1 b2)
noncomputable def K_137h : EntH Try.prog := EntH.pk2 (α := Inst) (β := Inst) 137 (fun a b => Sm.sm a ∧ a = b) (fun a b => .d (.bool true)) (fun a b => []) (fun a b hc => PureP.ans ((by obtain ⟨h1, rfl⟩ := hc; exact eqInst_c a h1)))
theorem K_137h_f : K_137h.f = 137 := rfl
theorem K_137h_g : K_137h.gro = true := rfl
theorem K_137h_e {x1 x2 : V} {H : Heap} : K_137h.e [x1, x2] H = guardR ((decA (α := Inst) H x1).1 ∧ (decA (α := Inst) H x2).1) (peekR (Sm.sm (decA (α := Inst) H x1).2 ∧ (decA (α := Inst) H x1).2 = (decA (α := Inst) H x2).2) (.d (.bool true)) ([]) H) := rfl
theorem eqInstS_c (l : List Inst) (hl : Sm.sm l) : PureP Try.prog 125 [.d (dInstS l), .d (dInstS l)] (· = .d (.bool true)) := by
  have hlen := small_len hl
  have hg := small_get hl
  refine pure_of Try.func125 en_125 rfl rfl (W_run mixed ⟨[K_137], [K_137h], [], 27, 0, [0, 1, 4, 5, 10, 14, 26], [10, 14, 26]⟩ (fun | 6 => [0, 1, 2, 4, 5, 6, 3, 7, 8, 9] | _ => []) (by kernel_rfl) ?_)
  simp only [Try.f125, stripX, stripOps, pickOps]
  simp [K_137_f, K_137_e, K_137h_f, K_137h_e, K_137h_g]
  refine W_loopA (fun a : Nat => [(0, .d (dInstS l)), (1, .d (dInstS l)), (5, .d (.int .i64 a))]) (fun _ => []) (fun a => a ≤ l.length) (fun a => l.length - a) 0 ?_ ?_ ?_
  · simp
  · simp
  · intro i hi
    refine W_run mixed ⟨[K_137], [K_137h], [], 27, 0, [0, 1, 4, 5, 10, 14, 26], [10, 14, 26]⟩ (fun | 6 => [0, 1, 2, 4, 5, 6, 3, 7, 8, 9] | _ => []) (by kernel_rfl) ?_
    simp only [stripX, stripOps, pickOps]
    simp [K_137_f, K_137_e, K_137h_f, K_137h_e, K_137h_g, hg]
    intro h
    exact ⟨h, i + 1, by omega, by omega, by rw [wrap_id] <;> omega⟩
noncomputable def K_125 : Ent Try.prog := Ent.p2 (α := List Inst) (β := List Inst) 125 (fun a b => Sm.sm a ∧ a = b) (fun a b => .d (.bool true)) (fun a b hc => (by obtain ⟨h1, rfl⟩ := hc; exact eqInstS_c a h1))
theorem K_125_f : K_125.f = 125 := rfl
theorem K_125_e (a : List Inst) (b : List Inst) : K_125.e [.d (dInstS a), .d (dInstS b)] = some (Sm.sm a ∧ a = b, .d (.bool true), []) := by unfold K_125; exact Ent.p2_eq (α := List Inst) (β := List Inst) a b
noncomputable def K_125h : EntH Try.prog := EntH.pk2 (α := List Inst) (β := List Inst) 125 (fun a b => Sm.sm a ∧ a = b) (fun a b => .d (.bool true)) (fun a b => []) (fun a b hc => PureP.ans ((by obtain ⟨h1, rfl⟩ := hc; exact eqInstS_c a h1)))
theorem K_125h_f : K_125h.f = 125 := rfl
theorem K_125h_g : K_125h.gro = true := rfl
theorem K_125h_e {x1 x2 : V} {H : Heap} : K_125h.e [x1, x2] H = guardR ((decA (α := List Inst) H x1).1 ∧ (decA (α := List Inst) H x2).1) (peekR (Sm.sm (decA (α := List Inst) H x1).2 ∧ (decA (α := List Inst) H x1).2 = (decA (α := List Inst) H x2).2) (.d (.bool true)) ([]) H) := rfl
theorem eqJump_c (x : Jump) (hx : Sm.sm x) : PureP Try.prog 138 [vJump x, vJump x] (· = .d (.bool true)) := by
  have q1 : Sm.sm x.args_ := hx.2
  refine pure_of Try.func138 en_138 rfl rfl (W_run mixed ⟨[K_24], [K_24h], [], 16, 0, [0, 1, 2, 3, 4, 9, 15], [9, 15]⟩ (fun _ => []) (by kernel_rfl) ?_)
  simp only [Try.f138, stripX, stripOps, pickOps]
  simp [K_24_f, K_24_e, K_24h_f, K_24h_e, K_24h_g, q1]
noncomputable def K_138 : Ent Try.prog := Ent.p2 (α := Jump) (β := Jump) 138 (fun a b => Sm.sm a ∧ a = b) (fun a b => .d (.bool true)) (fun a b hc => (by obtain ⟨h1, rfl⟩ := hc; exact eqJump_c a h1))
theorem K_138_f : K_138.f = 138 := rfl
theorem K_138_e (a0 : Int) (a1 : List Int) (b0 : Int) (b1 : List Int) : K_138.e [.agg [.d (.int .i64 a0), .d (dIntS a1)], .agg [.d (.int .i64 b0), .d (dIntS b1)]] = some (Sm.sm (Jump.mk a0 a1) ∧ (Jump.mk a0 a1) = (Jump.mk b0 b1), .d (.bool true), []) := by unfold K_138; exact Ent.p2_eq (α := Jump) (β := Jump) (Jump.mk a0 a1) (Jump.mk b0 b1)
noncomputable def K_138h : EntH Try.prog := EntH.pk2 (α := Jump) (β := Jump) 138 (fun a b => Sm.sm a ∧ a = b) (fun a b => .d (.bool true)) (fun a b => []) (fun a b hc => PureP.ans ((by obtain ⟨h1, rfl⟩ := hc; exact eqJump_c a h1)))
theorem K_138h_f : K_138h.f = 138 := rfl
theorem K_138h_g : K_138h.gro = true := rfl
theorem K_138h_e {x1 x2 : V} {H : Heap} : K_138h.e [x1, x2] H = guardR ((decA (α := Jump) H x1).1 ∧ (decA (α := Jump) H x2).1) (peekR (Sm.sm (decA (α := Jump) H x1).2 ∧ (decA (α := Jump) H x1).2 = (decA (α := Jump) H x2).2) (.d (.bool true)) ([]) H) := rfl
theorem eqJumpS_c (l : List Jump) (hl : Sm.sm l) : PureP Try.prog 126 [.d (dJumpS l), .d (dJumpS l)] (· = .d (.bool true)) := by
  have hlen := small_len hl
  have hg := small_get hl
  refine pure_of Try.func126 en_126 rfl rfl (W_run mixed ⟨[K_138], [K_138h], [], 27, 0, [0, 1, 4, 5, 10, 14, 26], [10, 14, 26]⟩ (fun | 6 => [0, 1, 2, 4, 5, 6, 3, 7, 8, 9] | _ => []) (by kernel_rfl) ?_)
  simp only [Try.f126, stripX, stripOps, pickOps]
  simp [K_138_f, K_138_e, K_138h_f, K_138h_e, K_138h_g]
  refine W_loopA (fun a : Nat => [(0, .d (dJumpS l)), (1, .d (dJumpS l)), (5, .d (.int .i64 a))]) (fun _ => []) (fun a => a ≤ l.length) (fun a => l.length - a) 0 ?_ ?_ ?_
  · simp
  · simp
  · intro i hi
    refine W_run mixed ⟨[K_138], [K_138h], [], 27, 0, [0, 1, 4, 5, 10, 14, 26], [10, 14, 26]⟩ (fun | 6 => [0, 1, 2, 4, 5, 6, 3, 7, 8, 9] | _ => []) (by kernel_rfl) ?_
    simp only [stripX, stripOps, pickOps]
    simp [K_138_f, K_138_e, K_138h_f, K_138h_e, K_138h_g, hg]
    intro h
    exact ⟨h, i + 1, by omega, by omega, by rw [wrap_id] <;> omega⟩
noncomputable def K_126 : Ent Try.prog := Ent.p2 (α := List Jump) (β := List Jump) 126 (fun a b => Sm.sm a ∧ a = b) (fun a b => .d (.bool true)) (fun a b hc => (by obtain ⟨h1, rfl⟩ := hc; exact eqJumpS_c a h1))
theorem K_126_f : K_126.f = 126 := rfl
theorem K_126_e (a : List Jump) (b : List Jump) : K_126.e [.d (dJumpS a), .d (dJumpS b)] = some (Sm.sm a ∧ a = b, .d (.bool true), []) := by unfold K_126; exact Ent.p2_eq (α := List Jump) (β := List Jump) a b
noncomputable def K_126h : EntH Try.prog := EntH.pk2 (α := List Jump) (β := List Jump) 126 (fun a b => Sm.sm a ∧ a = b) (fun a b => .d (.bool true)) (fun a b => []) (fun a b hc => PureP.ans ((by obtain ⟨h1, rfl⟩ := hc; exact eqJumpS_c a h1)))
theorem K_126h_f : K_126h.f = 126 := rfl
theorem K_126h_g : K_126h.gro = true := rfl
theorem K_126h_e {x1 x2 : V} {H : Heap} : K_126h.e [x1, x2] H = guardR ((decA (α := List Jump) H x1).1 ∧ (decA (α := List Jump) H x2).1) (peekR (Sm.sm (decA (α := List Jump) H x1).2 ∧ (decA (α := List Jump) H x1).2 = (decA (α := List Jump) H x2).2) (.d (.bool true)) ([]) H) := rfl
theorem eqBlock_c (x : Block) (hx : Sm.sm x) : PureP Try.prog 87 [vBlock x, vBlock x] (· = .d (.bool true)) := by
  have q1 : Sm.sm x.insts_ := hx.2.1
  have q4 : Sm.sm x.jumps_ := hx.2.2.2.2
  refine pure_of Try.func87 en_87 rfl rfl (W_run mixed ⟨[K_125, K_126], [K_125h, K_126h], [], 32, 0, [0, 1, 2, 3, 4, 9, 15, 20, 25, 31], [9, 15, 20, 25, 31]⟩ (fun _ => []) (by kernel_rfl) ?_)
  simp only [Try.f87, stripX, stripOps, pickOps]
  simp [K_125_f, K_125_e, K_126_f, K_126_e, K_125h_f, K_125h_e, K_126h_f, K_126h_e, K_125h_g, K_126h_g, q1, q4]
noncomputable def K_87 : Ent Try.prog := Ent.p2 (α := Block) (β := Block) 87 (fun a b => Sm.sm a ∧ a = b) (fun a b => .d (.bool true)) (fun a b hc => (by obtain ⟨h1, rfl⟩ := hc; exact eqBlock_c a h1))
theorem K_87_f : K_87.f = 87 := rfl
theorem K_87_e (a0 : Int) (a1 : List Inst) (a2 : Int) (a3 : Int) (a4 : List Jump) (b0 : Int) (b1 : List Inst) (b2 : Int) (b3 : Int) (b4 : List Jump) : K_87.e [.agg [.d (.int .i64 a0), .d (dInstS a1), .d (.int .i64 a2), .d (.int .i64 a3), .d (dJumpS a4)], .agg [.d (.int .i64 b0), .d (dInstS b1), .d (.int .i64 b2), .d (.int .i64 b3), .d (dJumpS b4)]] = some (Sm.sm (Block.mk a0 a1 a2 a3 a4) ∧ (Block.mk a0 a1 a2 a3 a4) = (Block.mk b0 b1 b2 b3 b4), .d (.bool true), []) := by unfold K_87; exact Ent.p2_eq (α := Block) (β := Block) (Block.mk a0 a1 a2 a3 a4) (Block.mk b0 b1 b2 b3 b4)
noncomputable def K_87h : EntH Try.prog := EntH.pk2 (α := Block) (β := Block) 87 (fun a b => Sm.sm a ∧ a = b) (fun a b => .d (.bool true)) (fun a b => []) (fun a b hc => PureP.ans ((by obtain ⟨h1, rfl⟩ := hc; exact eqBlock_c a h1)))
theorem K_87h_f : K_87h.f = 87 := rfl
theorem K_87h_g : K_87h.gro = true := rfl
theorem K_87h_e {x1 x2 : V} {H : Heap} : K_87h.e [x1, x2] H = guardR ((decA (α := Block) H x1).1 ∧ (decA (α := Block) H x2).1) (peekR (Sm.sm (decA (α := Block) H x1).2 ∧ (decA (α := Block) H x1).2 = (decA (α := Block) H x2).2) (.d (.bool true)) ([]) H) := rfl
theorem eqBlockS_c (l : List Block) (hl : Sm.sm l) : PureP Try.prog 51 [.d (dBlockS l), .d (dBlockS l)] (· = .d (.bool true)) := by
  have hlen := small_len hl
  have hg := small_get hl
  refine pure_of Try.func51 en_51 rfl rfl (W_run mixed ⟨[K_87], [K_87h], [], 27, 0, [0, 1, 4, 5, 10, 14, 26], [10, 14, 26]⟩ (fun | 6 => [0, 1, 2, 4, 5, 6, 3, 7, 8, 9] | _ => []) (by kernel_rfl) ?_)
  simp only [Try.f51, stripX, stripOps, pickOps]
  simp [K_87_f, K_87_e, K_87h_f, K_87h_e, K_87h_g]
  refine W_loopA (fun a : Nat => [(0, .d (dBlockS l)), (1, .d (dBlockS l)), (5, .d (.int .i64 a))]) (fun _ => []) (fun a => a ≤ l.length) (fun a => l.length - a) 0 ?_ ?_ ?_
  · simp
  · simp
  · intro i hi
    refine W_run mixed ⟨[K_87], [K_87h], [], 27, 0, [0, 1, 4, 5, 10, 14, 26], [10, 14, 26]⟩ (fun | 6 => [0, 1, 2, 4, 5, 6, 3, 7, 8, 9] | _ => []) (by kernel_rfl) ?_
    simp only [stripX, stripOps, pickOps]
    simp [K_87_f, K_87_e, K_87h_f, K_87h_e, K_87h_g, hg]
    intro h
    exact ⟨h, i + 1, by omega, by omega, by rw [wrap_id] <;> omega⟩
noncomputable def K_51 : Ent Try.prog := Ent.p2 (α := List Block) (β := List Block) 51 (fun a b => Sm.sm a ∧ a = b) (fun a b => .d (.bool true)) (fun a b hc => (by obtain ⟨h1, rfl⟩ := hc; exact eqBlockS_c a h1))
theorem K_51_f : K_51.f = 51 := rfl
theorem K_51_e (a : List Block) (b : List Block) : K_51.e [.d (dBlockS a), .d (dBlockS b)] = some (Sm.sm a ∧ a = b, .d (.bool true), []) := by unfold K_51; exact Ent.p2_eq (α := List Block) (β := List Block) a b
noncomputable def K_51h : EntH Try.prog := EntH.pk2 (α := List Block) (β := List Block) 51 (fun a b => Sm.sm a ∧ a = b) (fun a b => .d (.bool true)) (fun a b => []) (fun a b hc => PureP.ans ((by obtain ⟨h1, rfl⟩ := hc; exact eqBlockS_c a h1)))
theorem K_51h_f : K_51h.f = 51 := rfl
theorem K_51h_g : K_51h.gro = true := rfl
theorem K_51h_e {x1 x2 : V} {H : Heap} : K_51h.e [x1, x2] H = guardR ((decA (α := List Block) H x1).1 ∧ (decA (α := List Block) H x2).1) (peekR (Sm.sm (decA (α := List Block) H x1).2 ∧ (decA (α := List Block) H x1).2 = (decA (α := List Block) H x2).2) (.d (.bool true)) ([]) H) := rfl
theorem eqFunc_c (x : Func) (hx : Sm.sm x) : PureP Try.prog 19 [vFunc x, vFunc x] (· = .d (.bool true)) := by
  have q1 : Sm.sm x.blocks_ := hx.2
  refine pure_of Try.func19 en_19 rfl rfl (W_run mixed ⟨[K_51], [K_51h], [], 16, 0, [0, 1, 2, 3, 4, 9, 15], [9, 15]⟩ (fun _ => []) (by kernel_rfl) ?_)
  simp only [Try.f19, stripX, stripOps, pickOps]
  simp [K_51_f, K_51_e, K_51h_f, K_51h_e, K_51h_g, q1]
noncomputable def K_19 : Ent Try.prog := Ent.p2 (α := Func) (β := Func) 19 (fun a b => Sm.sm a ∧ a = b) (fun a b => .d (.bool true)) (fun a b hc => (by obtain ⟨h1, rfl⟩ := hc; exact eqFunc_c a h1))
theorem K_19_f : K_19.f = 19 := rfl
theorem K_19_e (a0 : Int) (a1 : List Block) (b0 : Int) (b1 : List Block) : K_19.e [.agg [.d (.int .i64 a0), .d (dBlockS a1)], .agg [.d (.int .i64 b0), .d (dBlockS b1)]] = some (Sm.sm (Func.mk a0 a1) ∧ (Func.mk a0 a1) = (Func.mk b0 b1), .d (.bool true), []) := by unfold K_19; exact Ent.p2_eq (α := Func) (β := Func) (Func.mk a0 a1) (Func.mk b0 b1)
noncomputable def K_19h : EntH Try.prog := EntH.pk2 (α := Func) (β := Func) 19 (fun a b => Sm.sm a ∧ a = b) (fun a b => .d (.bool true)) (fun a b => []) (fun a b hc => PureP.ans ((by obtain ⟨h1, rfl⟩ := hc; exact eqFunc_c a h1)))
theorem K_19h_f : K_19h.f = 19 := rfl
theorem K_19h_g : K_19h.gro = true := rfl
theorem K_19h_e {x1 x2 : V} {H : Heap} : K_19h.e [x1, x2] H = guardR ((decA (α := Func) H x1).1 ∧ (decA (α := Func) H x2).1) (peekR (Sm.sm (decA (α := Func) H x1).2 ∧ (decA (α := Func) H x1).2 = (decA (α := Func) H x2).2) (.d (.bool true)) ([]) H) := rfl
end Go.Proofs.Ytpakdkiceoknjaa
