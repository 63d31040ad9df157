/- What ops make of numbers, in both programs, and what an instruction makes of numbers that are known. No condition. -/
import Derived.Test.YtbmloeahcdneaaaGreatQS41
import Derived.Test.YtbmloeahcdneaaaGreatQS57
section
namespace Go.Proofs.YtbmloeahcdneaaaGreat
set_option linter.unusedVariables false
set_option linter.unusedSimpArgs false
structure HLe (G H : Heap) : Prop where
  len : G.length = H.length
  at_ : ∀ i : Nat, G[i]? = H[i]? ∨ ∃ (e : Nat) (es es' : List (List V)), G[i]? = some (Place.row e es) ∧ H[i]? = some (Place.row e es') ∧ es.length = es'.length ∧
    ∀ (k : Nat) (l' : List V), es'[k]? = some l' → ∃ l : List V, es[k]? = some l ∧ l.length = l'.length ∧ ∀ (j : Nat) (c' : V), l'[j]? = some c' → ∃ c : V, l[j]? = some c ∧ (c = c' ∨ (VLe c c' ∧ c'.one = true))
theorem HLe.refl (H : Heap) : HLe H H := ⟨rfl, fun _ => .inl rfl⟩
theorem HLe.row {G H : Heap} (h : HLe G H) {i e : Nat} {es : List (List V)} : H[i]? = some (.row e es) → ∃ es', G[i]? = some (.row e es') := fun hi => by
  rcases h.at_ i with q | ⟨e', es1, es2, q1, q2, _⟩
  · exact ⟨es, q.trans hi⟩
  · rw [q2] at hi
    obtain ⟨rfl, rfl⟩ := Place.row.inj (Option.some.inj hi)
    exact ⟨es1, q1⟩
theorem HLe.row' {G H : Heap} (h : HLe G H) {i e : Nat} {es : List (List V)} : G[i]? = some (.row e es) → ∃ es', H[i]? = some (.row e es') := fun hi => by
  rcases h.at_ i with q | ⟨e', es1, es2, q1, q2, _⟩
  · exact ⟨es, q.symm.trans hi⟩
  · rw [q1] at hi
    obtain ⟨rfl, rfl⟩ := Place.row.inj (Option.some.inj hi)
    exact ⟨es2, q2⟩
theorem HLe.ownOf {G H : Heap} (h : HLe G H) (φ : List (Nat × Nat)) : Go.Proofs.YtbmloeahcdneaaaGreat.ownOf φ G = Go.Proofs.YtbmloeahcdneaaaGreat.ownOf φ H := by
  funext g
  apply propext
  constructor
  · rintro ⟨id, e, es, o, h1, h2⟩
    obtain ⟨es', q⟩ := h.row' h1
    exact ⟨id, e, es', o, q, h2⟩
  · rintro ⟨id, e, es, o, h1, h2⟩
    obtain ⟨es', q⟩ := h.row h1
    exact ⟨id, e, es', o, q, h2⟩
theorem HLe.hs {G H : Heap} (h : HLe G H) {X : Nat → Prop} {w : World} {φ : List (Nat × Nat)} (hs : HS X w φ G) : HS X w φ H := by
  have ho : owned X φ H = owned X φ G := by funext g; unfold owned; rw [h.ownOf φ]
  refine ⟨hs.len.trans h.len, fun i j e es e' es' g o o' hi hj => ?_, fun g hg => hs.disj g (by rw [h.ownOf]; exact hg), fun id e es hid => ?_⟩
  · obtain ⟨_, q1⟩ := h.row hi
    obtain ⟨_, q2⟩ := h.row hj
    exact hs.inj i j _ _ _ _ g o o' q1 q2
  · rw [ho]
    rcases h.at_ id with q | ⟨e', es1, es2, q1, q2, q3, q4⟩
    · exact hs.live id e es (q.trans hid)
    · rw [q2] at hid
      obtain ⟨rfl, rfl⟩ := Place.row.inj (Option.some.inj hid)
      obtain ⟨g, o, cs, t, r1, r2, r3, r4⟩ := hs.live id _ _ q1
      refine ⟨g, o, cs, t, r1, r2, by rw [← q3]; exact r3, fun i l hl => ?_⟩
      obtain ⟨l0, p1, p2, p3⟩ := q4 i l hl
      obtain ⟨p4, p5⟩ := r4 i l0 p1
      refine ⟨p2.symm.trans p4, fun j c hc => ?_⟩
      obtain ⟨c0, p6, p7⟩ := p3 j c hc
      obtain ⟨p8, x, p9, p10⟩ := p5 j c0 p6
      rcases p7 with rfl | ⟨p7, p11⟩
      · exact ⟨p8, x, p9, p10⟩
      · exact ⟨p11, x, p9, VS.le _ _ _ p7 p10⟩
theorem HLe.weak {G H : Heap} (h : HLe G H) {n0 : Nat} {env : Env} : Weak n0 ⟨env, G⟩ ⟨env, H⟩ := by
  intro x N φ a w hx hs
  have ho : owned x.X φ H = owned x.X φ G := by funext g; unfold owned; rw [h.ownOf φ]
  exact ⟨φ, ⟨h.hs hs.hs, fun t => by show VS w (owned x.X φ H) φ (env t) _; rw [ho]; exact hs.env t, hs.low, hs.defers, hs.size, hs.fr, fun g hg hn => hs.old g hg (by show Go.Proofs.YtbmloeahcdneaaaGreat.ownOf φ G g; rw [h.ownOf]; exact hn), hs.ext, by show x.H0.length ≤ H.length; rw [← h.len]; exact hs.long, hs.len0⟩⟩
theorem HLe.set {G : Heap} {id e : Nat} {es es' : List (List V)} {k : Nat} {l l' : List V} (h1 : G[id]? = some (.row e es)) (h2 : es[k]? = some l) (h3 : es' = es.set k l') (h4 : l.length = l'.length) (h5 : ∀ (j : Nat) (c' : V), l'[j]? = some c' → ∃ c : V, l[j]? = some c ∧ (c = c' ∨ (VLe c c' ∧ c'.one = true))) : HLe G (G.set id (.row e es')) := by
  refine ⟨by simp, fun i => ?_⟩
  by_cases e1 : id = i
  · subst e1
    refine .inr ⟨e, es, es', h1, List.getElem?_set_self (List.getElem?_eq_some_iff.1 h1).1, by rw [h3]; simp, fun k' l1 hk => ?_⟩
    rw [h3, List.getElem?_set] at hk
    split at hk
    · rename_i e2; subst e2
      rw [if_pos (List.getElem?_eq_some_iff.1 h2).1] at hk
      obtain rfl := Option.some.inj hk
      exact ⟨l, h2, h4, h5⟩
    · exact ⟨l1, hk, rfl, fun j c hc => ⟨c, hc, .inl rfl⟩⟩
  · exact .inl (List.getElem?_set_ne e1).symm
def IntoW (s : St) (l : List (Nat × V)) (H : Heap) : Prop := HLe s.H H ∧ intoQ s.env l
theorem IntoW.weak {n0 : Nat} {s : St} {l : List (Nat × V)} {H : Heap} (h : IntoW s l H) : Weak n0 s ⟨mk l, H⟩ := by
  obtain ⟨env, G⟩ := s
  exact (HLe.weak h.1).trans (IntoH.weak ⟨rfl, h.2⟩)
theorem W_loopW {P : Program} {N n0 : Nat} {c : Code} {Q : Exit → St → Prop} {s : St} {α : Type} (E : α → List (Nat × V)) (Hp : α → Heap) (Inv : α → Prop) (μ : α → Nat) (a0 : α)
    (h0 : IntoH s (E a0) (Hp a0)) (hI : Inv a0)
    (round : ∀ a, Inv a → W P N n0 c (seqQ (fun s' => ∃ b, Inv b ∧ μ b < μ a ∧ IntoW s' (E b) (Hp b)) Q) ⟨mk (E a), Hp a⟩) : W P N n0 (.loop c) Q s := by
  refine W_weak h0.weak (W_loop (fun n s => ∃ a, μ a = n ∧ Inv a ∧ s = ⟨mk (E a), Hp a⟩) (μ a0) ⟨a0, rfl, hI, rfl⟩ ?_)
  rintro n s ⟨a, rfl, hI, rfl⟩
  refine W_mono (round a hI) ?_
  intro e s' hq
  cases e with
  | normal =>
    obtain ⟨b, hb, hlt, hi⟩ := hq
    exact ⟨μ b, _, hlt, hi.weak, b, rfl, hb, rfl⟩
  | _ => exact hq
attribute [simp] IntoW
end Go.Proofs.YtbmloeahcdneaaaGreat
end

section
namespace Go.Proofs.YtbmloeahcdneaaaGreat
set_option maxRecDepth 100000
set_option linter.unusedSimpArgs false
set_option linter.unusedVariables false
theorem u64_wrap (b : Int) : IntKind.u64.wrap b = b % 18446744073709551616 := rfl
theorem u64_mod (b : Int) : (IntKind.u64.wrap b).tmod 64 = b % 64 := by
  rw [u64_wrap, Int.tmod_eq_emod_of_nonneg (Int.emod_nonneg _ (by decide)), Int.emod_emod_of_dvd _ (by decide)]
theorem and63 (b : Int) : IntKind.u64.wrap (IntKind.i64.wrap (((b % 2 ^ IntKind.i64.bits).toNat &&& 63 % 2 ^ IntKind.i64.bits : Nat) : Int)) = b % 64 := by
  have h : ((b % 2 ^ IntKind.i64.bits).toNat &&& 63 % 2 ^ IntKind.i64.bits : Nat) = (b % 64).toNat := by
    rw [show (63 % 2 ^ IntKind.i64.bits : Nat) = 2 ^ 6 - 1 from rfl, Nat.and_two_pow_sub_one_eq_mod, show (2 : Int) ^ IntKind.i64.bits = 18446744073709551616 from rfl]
    omega
  rw [h, wrap_id (by omega) (by omega), u64_wrap]
  omega
theorem oneIf_c (b : Bool) : PureP Tryz.prog 155 [.d (.bool b)] (· = .d (.int .i64 (if b = true then 1 else 0))) := by
  cases b
  · refine pure_of Tryz.func155 en_155 rfl rfl (W_run mixed ⟨[], [], [], 4, 0, [0, 2, 3], [3]⟩ (fun _ => []) (by kernel_rfl) ?_)
    simp only [Tryz.f155, stripX, stripOps, pickOps]
    simp []
  · refine pure_of Tryz.func155 en_155 rfl rfl (W_run mixed ⟨[], [], [], 4, 0, [0, 2, 3], [3]⟩ (fun _ => []) (by kernel_rfl) ?_)
    simp only [Tryz.f155, stripX, stripOps, pickOps]
    simp []
noncomputable def K_155 : Ent Tryz.prog := Ent.p1 (α := Bool) 155 (fun b => True) (fun b => .d (.int .i64 (if b = true then 1 else 0))) (fun b hc => oneIf_c b)
theorem K_155_f : K_155.f = 155 := rfl
theorem K_155_e (b : Bool) : K_155.e [.d (.bool b)] = some (True, .d (.int .i64 (if b = true then 1 else 0)), []) := by unfold K_155; exact Ent.p1_eq (α := Bool) b
noncomputable def K_155h : EntH Tryz.prog := EntH.pk1 (α := Bool) 155 (fun b => True) (fun b => .d (.int .i64 (if b = true then 1 else 0))) (fun b => []) (fun b hc => PureP.ans (oneIf_c b))
theorem K_155h_f : K_155h.f = 155 := rfl
theorem K_155h_g : K_155h.gro = true := rfl
theorem K_155h_e {x1 : V} {H : Heap} : K_155h.e [x1] H = guardR ((decA (α := Bool) H x1).1) (peekR (True) (.d (.int .i64 (if (decA (α := Bool) H x1).2 = true then 1 else 0))) ([]) H) := rfl
theorem l1Bool_c (b : Bool) : PureP Tryz.prog 184 [.d (.bool b)] (· = .d (.int .i64 (if b = true then 1 else 0))) := by
  cases b
  · refine pure_of Tryz.func184 en_184 rfl rfl (W_run mixed ⟨[], [], [], 4, 0, [0, 2, 3], [3]⟩ (fun _ => []) (by kernel_rfl) ?_)
    simp only [Tryz.f184, stripX, stripOps, pickOps]
    simp []
  · refine pure_of Tryz.func184 en_184 rfl rfl (W_run mixed ⟨[], [], [], 4, 0, [0, 2, 3], [3]⟩ (fun _ => []) (by kernel_rfl) ?_)
    simp only [Tryz.f184, stripX, stripOps, pickOps]
    simp []
noncomputable def K_184 : Ent Tryz.prog := Ent.p1 (α := Bool) 184 (fun b => True) (fun b => .d (.int .i64 (if b = true then 1 else 0))) (fun b hc => l1Bool_c b)
theorem K_184_f : K_184.f = 184 := rfl
theorem K_184_e (b : Bool) : K_184.e [.d (.bool b)] = some (True, .d (.int .i64 (if b = true then 1 else 0)), []) := by unfold K_184; exact Ent.p1_eq (α := Bool) b
noncomputable def K_184h : EntH Tryz.prog := EntH.pk1 (α := Bool) 184 (fun b => True) (fun b => .d (.int .i64 (if b = true then 1 else 0))) (fun b => []) (fun b hc => PureP.ans (l1Bool_c b))
theorem K_184h_f : K_184h.f = 184 := rfl
theorem K_184h_g : K_184h.gro = true := rfl
theorem K_184h_e {x1 : V} {H : Heap} : K_184h.e [x1] H = guardR ((decA (α := Bool) H x1).1) (peekR (True) (.d (.int .i64 (if (decA (α := Bool) H x1).2 = true then 1 else 0))) ([]) H) := rfl
theorem l1Div_c (a b : Int) (h : b ≠ 0) : PureP Tryz.prog 183 [.d (.int .i64 a), .d (.int .i64 b)] (· = .d (.int .i64 (IntKind.i64.wrap (a.tdiv b)))) := by
  by_cases h1 : b = -1
  · subst h1
    refine pure_of Tryz.func183 en_183 rfl rfl (W_run mixed ⟨[], [], [], 12, 0, [0, 1, 4, 6], [6]⟩ (fun _ => []) (by kernel_rfl) ?_)
    simp only [Tryz.f183, stripX, stripOps, pickOps]
    simp []
  · refine pure_of Tryz.func183 en_183 rfl rfl (W_run mixed ⟨[], [], [], 12, 0, [0, 1, 4, 6], [6]⟩ (fun _ => []) (by kernel_rfl) ?_)
    simp only [Tryz.f183, stripX, stripOps, pickOps]
    simp [h, h1]
noncomputable def K_183 : Ent Tryz.prog := Ent.p2 (α := Int) (β := Int) 183 (fun a b => b ≠ 0) (fun a b => .d (.int .i64 (IntKind.i64.wrap (a.tdiv b)))) (fun a b hc => l1Div_c a b hc)
theorem K_183_f : K_183.f = 183 := rfl
theorem K_183_e (a : Int) (b : Int) : K_183.e [.d (.int .i64 a), .d (.int .i64 b)] = some (b ≠ 0, .d (.int .i64 (IntKind.i64.wrap (a.tdiv b))), []) := by unfold K_183; exact Ent.p2_eq (α := Int) (β := Int) a b
noncomputable def K_183h : EntH Tryz.prog := EntH.pk2 (α := Int) (β := Int) 183 (fun a b => b ≠ 0) (fun a b => .d (.int .i64 (IntKind.i64.wrap (a.tdiv b)))) (fun a b => []) (fun a b hc => PureP.ans (l1Div_c a b hc))
theorem K_183h_f : K_183h.f = 183 := rfl
theorem K_183h_g : K_183h.gro = true := rfl
theorem K_183h_e {x1 x2 : V} {H : Heap} : K_183h.e [x1, x2] H = guardR ((decA (α := Int) H x1).1 ∧ (decA (α := Int) H x2).1) (peekR ((decA (α := Int) H x2).2 ≠ 0) (.d (.int .i64 (IntKind.i64.wrap ((decA (α := Int) H x1).2.tdiv (decA (α := Int) H x2).2)))) ([]) H) := rfl
def okOp (op : Int) (x : List Int) : Prop := (op = 3 ∧ x.length = 1) ∨ ((op = 4 ∨ op = 5 ∨ op = 6 ∨ op = 7 ∨ op = 8 ∨ op = 9 ∨ op = 10) ∧ x.length = 2) ∨ (op = 11 ∧ x.length = 3)
theorem len2 {x : List Int} (h : x.length = 2) : ∃ a b, x = [a, b] := by
  match x, h with
  | [a, b], _ => exact ⟨a, b, rfl⟩
theorem len3 {x : List Int} (h : x.length = 3) : ∃ a b c, x = [a, b, c] := by
  match x, h with
  | [a, b, c], _ => exact ⟨a, b, c, rfl⟩
theorem doOp_c (op : Int) (x : List Int) (h : okOp op x) : PureP Tryz.prog 102 [.d (.int .i64 op), .d (dIntS x)] (· = .tup [.d (.int .i64 (opNr op x)), .d (.bool (opTr op x))]) := by
  rcases h with ⟨rfl, hx⟩ | ⟨ho, hx⟩ | ⟨rfl, hx⟩
  · obtain ⟨a, rfl⟩ := List.length_eq_one_iff.1 hx
    refine pure_of Tryz.func102 en_102 rfl rfl (W_run mixed ⟨[K_155], [K_155h], [], 94, 0, [0, 1, 4, 5, 6, 7, 13, 22, 31, 40, 51, 56, 64, 74, 87], [7, 13, 22, 31, 40, 51, 56, 64, 74, 87]⟩ (fun | 5 => [0, 1, 3, 4, 2, 5, 6, 7, 8] | 7 => [0, 1, 3, 4, 2, 5, 6, 7, 8] | 9 => [0, 1, 3, 4, 2, 5, 6, 7, 8] | 11 => [0, 1, 3, 4, 2, 5, 6, 7, 8, 9, 10] | 15 => [0, 1, 3, 4, 2, 5, 6, 7, 8] | 17 => [0, 1, 3, 4, 2, 5, 6, 7, 8, 9] | 19 => [0, 1, 3, 4, 2, 5, 6, 7, 8, 9] | _ => []) (by kernel_rfl) ?_)
    simp only [Tryz.f102, stripX, stripOps, pickOps]
    simp [K_155_f, K_155_e, K_155h_f, K_155h_e, K_155h_g]
    simp [opNr, opTr]
  · obtain ⟨a, b, rfl⟩ := len2 hx
    rcases ho with rfl | rfl | rfl | rfl | rfl | rfl | rfl
    · refine pure_of Tryz.func102 en_102 rfl rfl (W_run mixed ⟨[K_155], [K_155h], [], 94, 0, [0, 1, 4, 5, 6, 7, 13, 22, 31, 40, 51, 56, 64, 74, 87], [7, 13, 22, 31, 40, 51, 56, 64, 74, 87]⟩ (fun | 5 => [0, 1, 3, 4, 2, 5, 6, 7, 8] | 7 => [0, 1, 3, 4, 2, 5, 6, 7, 8] | 9 => [0, 1, 3, 4, 2, 5, 6, 7, 8] | 11 => [0, 1, 3, 4, 2, 5, 6, 7, 8, 9, 10] | 15 => [0, 1, 3, 4, 2, 5, 6, 7, 8] | 17 => [0, 1, 3, 4, 2, 5, 6, 7, 8, 9] | 19 => [0, 1, 3, 4, 2, 5, 6, 7, 8, 9] | _ => []) (by kernel_rfl) ?_)
      simp only [Tryz.f102, stripX, stripOps, pickOps]
      simp [K_155_f, K_155_e, K_155h_f, K_155h_e, K_155h_g]
      simp [opNr, opTr]
    · refine pure_of Tryz.func102 en_102 rfl rfl (W_run mixed ⟨[K_155], [K_155h], [], 94, 0, [0, 1, 4, 5, 6, 7, 13, 22, 31, 40, 51, 56, 64, 74, 87], [7, 13, 22, 31, 40, 51, 56, 64, 74, 87]⟩ (fun | 5 => [0, 1, 3, 4, 2, 5, 6, 7, 8] | 7 => [0, 1, 3, 4, 2, 5, 6, 7, 8] | 9 => [0, 1, 3, 4, 2, 5, 6, 7, 8] | 11 => [0, 1, 3, 4, 2, 5, 6, 7, 8, 9, 10] | 15 => [0, 1, 3, 4, 2, 5, 6, 7, 8] | 17 => [0, 1, 3, 4, 2, 5, 6, 7, 8, 9] | 19 => [0, 1, 3, 4, 2, 5, 6, 7, 8, 9] | _ => []) (by kernel_rfl) ?_)
      simp only [Tryz.f102, stripX, stripOps, pickOps]
      simp [K_155_f, K_155_e, K_155h_f, K_155h_e, K_155h_g]
      simp [opNr, opTr]
    · refine pure_of Tryz.func102 en_102 rfl rfl (W_run mixed ⟨[K_155], [K_155h], [], 94, 0, [0, 1, 4, 5, 6, 7, 13, 22, 31, 40, 51, 56, 64, 74, 87], [7, 13, 22, 31, 40, 51, 56, 64, 74, 87]⟩ (fun | 5 => [0, 1, 3, 4, 2, 5, 6, 7, 8] | 7 => [0, 1, 3, 4, 2, 5, 6, 7, 8] | 9 => [0, 1, 3, 4, 2, 5, 6, 7, 8] | 11 => [0, 1, 3, 4, 2, 5, 6, 7, 8, 9, 10] | 15 => [0, 1, 3, 4, 2, 5, 6, 7, 8] | 17 => [0, 1, 3, 4, 2, 5, 6, 7, 8, 9] | 19 => [0, 1, 3, 4, 2, 5, 6, 7, 8, 9] | _ => []) (by kernel_rfl) ?_)
      simp only [Tryz.f102, stripX, stripOps, pickOps]
      simp [K_155_f, K_155_e, K_155h_f, K_155h_e, K_155h_g]
      simp [opNr, opTr]
    · have h0 : ¬ b % 64 < 0 := by omega
      have h1 : min (b % 64).toNat IntKind.i64.bits = (b % 64).toNat := by show min _ 64 = _; omega
      refine pure_of Tryz.func102 en_102 rfl rfl (W_run mixed ⟨[K_155], [K_155h], [], 94, 0, [0, 1, 4, 5, 6, 7, 13, 22, 31, 40, 51, 56, 64, 74, 87], [7, 13, 22, 31, 40, 51, 56, 64, 74, 87]⟩ (fun | 5 => [0, 1, 3, 4, 2, 5, 6, 7, 8] | 7 => [0, 1, 3, 4, 2, 5, 6, 7, 8] | 9 => [0, 1, 3, 4, 2, 5, 6, 7, 8] | 11 => [0, 1, 3, 4, 2, 5, 6, 7, 8, 9, 10] | 15 => [0, 1, 3, 4, 2, 5, 6, 7, 8] | 17 => [0, 1, 3, 4, 2, 5, 6, 7, 8, 9] | 19 => [0, 1, 3, 4, 2, 5, 6, 7, 8, 9] | _ => []) (by kernel_rfl) ?_)
      simp only [Tryz.f102, stripX, stripOps, pickOps]
      simp [K_155_f, K_155_e, K_155h_f, K_155h_e, K_155h_g, u64_mod, and63, h0, h1]
      simp [opNr, opTr]
    · by_cases hb : b = 0
      · refine pure_of Tryz.func102 en_102 rfl rfl (W_run mixed ⟨[K_155], [K_155h], [], 94, 0, [0, 1, 4, 5, 6, 7, 13, 22, 31, 40, 51, 56, 64, 74, 87], [7, 13, 22, 31, 40, 51, 56, 64, 74, 87]⟩ (fun | 5 => [0, 1, 3, 4, 2, 5, 6, 7, 8] | 7 => [0, 1, 3, 4, 2, 5, 6, 7, 8] | 9 => [0, 1, 3, 4, 2, 5, 6, 7, 8] | 11 => [0, 1, 3, 4, 2, 5, 6, 7, 8, 9, 10] | 15 => [0, 1, 3, 4, 2, 5, 6, 7, 8] | 17 => [0, 1, 3, 4, 2, 5, 6, 7, 8, 9] | 19 => [0, 1, 3, 4, 2, 5, 6, 7, 8, 9] | _ => []) (by kernel_rfl) ?_)
        simp only [Tryz.f102, stripX, stripOps, pickOps]
        simp [K_155_f, K_155_e, K_155h_f, K_155h_e, K_155h_g, hb]
        simp [opNr, opTr, hb]
      · refine pure_of Tryz.func102 en_102 rfl rfl (W_run mixed ⟨[K_155], [K_155h], [], 94, 0, [0, 1, 4, 5, 6, 7, 13, 22, 31, 40, 51, 56, 64, 74, 87], [7, 13, 22, 31, 40, 51, 56, 64, 74, 87]⟩ (fun | 5 => [0, 1, 3, 4, 2, 5, 6, 7, 8] | 7 => [0, 1, 3, 4, 2, 5, 6, 7, 8] | 9 => [0, 1, 3, 4, 2, 5, 6, 7, 8] | 11 => [0, 1, 3, 4, 2, 5, 6, 7, 8, 9, 10] | 15 => [0, 1, 3, 4, 2, 5, 6, 7, 8] | 17 => [0, 1, 3, 4, 2, 5, 6, 7, 8, 9] | 19 => [0, 1, 3, 4, 2, 5, 6, 7, 8, 9] | _ => []) (by kernel_rfl) ?_)
        simp only [Tryz.f102, stripX, stripOps, pickOps]
        simp [K_155_f, K_155_e, K_155h_f, K_155h_e, K_155h_g, hb]
        simp [opNr, opTr, hb]
    · by_cases hb : a = b
      · refine pure_of Tryz.func102 en_102 rfl rfl (W_run mixed ⟨[K_155], [K_155h], [], 94, 0, [0, 1, 4, 5, 6, 7, 13, 22, 31, 40, 51, 56, 64, 74, 87], [7, 13, 22, 31, 40, 51, 56, 64, 74, 87]⟩ (fun | 5 => [0, 1, 3, 4, 2, 5, 6, 7, 8] | 7 => [0, 1, 3, 4, 2, 5, 6, 7, 8] | 9 => [0, 1, 3, 4, 2, 5, 6, 7, 8] | 11 => [0, 1, 3, 4, 2, 5, 6, 7, 8, 9, 10] | 15 => [0, 1, 3, 4, 2, 5, 6, 7, 8] | 17 => [0, 1, 3, 4, 2, 5, 6, 7, 8, 9] | 19 => [0, 1, 3, 4, 2, 5, 6, 7, 8, 9] | _ => []) (by kernel_rfl) ?_)
        simp only [Tryz.f102, stripX, stripOps, pickOps]
        simp [K_155_f, K_155_e, K_155h_f, K_155h_e, K_155h_g, hb]
        simp [opNr, opTr, hb]
      · refine pure_of Tryz.func102 en_102 rfl rfl (W_run mixed ⟨[K_155], [K_155h], [], 94, 0, [0, 1, 4, 5, 6, 7, 13, 22, 31, 40, 51, 56, 64, 74, 87], [7, 13, 22, 31, 40, 51, 56, 64, 74, 87]⟩ (fun | 5 => [0, 1, 3, 4, 2, 5, 6, 7, 8] | 7 => [0, 1, 3, 4, 2, 5, 6, 7, 8] | 9 => [0, 1, 3, 4, 2, 5, 6, 7, 8] | 11 => [0, 1, 3, 4, 2, 5, 6, 7, 8, 9, 10] | 15 => [0, 1, 3, 4, 2, 5, 6, 7, 8] | 17 => [0, 1, 3, 4, 2, 5, 6, 7, 8, 9] | 19 => [0, 1, 3, 4, 2, 5, 6, 7, 8, 9] | _ => []) (by kernel_rfl) ?_)
        simp only [Tryz.f102, stripX, stripOps, pickOps]
        simp [K_155_f, K_155_e, K_155h_f, K_155h_e, K_155h_g, hb]
        simp [opNr, opTr, hb]
    · by_cases hb : a < b
      · refine pure_of Tryz.func102 en_102 rfl rfl (W_run mixed ⟨[K_155], [K_155h], [], 94, 0, [0, 1, 4, 5, 6, 7, 13, 22, 31, 40, 51, 56, 64, 74, 87], [7, 13, 22, 31, 40, 51, 56, 64, 74, 87]⟩ (fun | 5 => [0, 1, 3, 4, 2, 5, 6, 7, 8] | 7 => [0, 1, 3, 4, 2, 5, 6, 7, 8] | 9 => [0, 1, 3, 4, 2, 5, 6, 7, 8] | 11 => [0, 1, 3, 4, 2, 5, 6, 7, 8, 9, 10] | 15 => [0, 1, 3, 4, 2, 5, 6, 7, 8] | 17 => [0, 1, 3, 4, 2, 5, 6, 7, 8, 9] | 19 => [0, 1, 3, 4, 2, 5, 6, 7, 8, 9] | _ => []) (by kernel_rfl) ?_)
        simp only [Tryz.f102, stripX, stripOps, pickOps]
        simp [K_155_f, K_155_e, K_155h_f, K_155h_e, K_155h_g, hb]
        simp [opNr, opTr, hb]
      · refine pure_of Tryz.func102 en_102 rfl rfl (W_run mixed ⟨[K_155], [K_155h], [], 94, 0, [0, 1, 4, 5, 6, 7, 13, 22, 31, 40, 51, 56, 64, 74, 87], [7, 13, 22, 31, 40, 51, 56, 64, 74, 87]⟩ (fun | 5 => [0, 1, 3, 4, 2, 5, 6, 7, 8] | 7 => [0, 1, 3, 4, 2, 5, 6, 7, 8] | 9 => [0, 1, 3, 4, 2, 5, 6, 7, 8] | 11 => [0, 1, 3, 4, 2, 5, 6, 7, 8, 9, 10] | 15 => [0, 1, 3, 4, 2, 5, 6, 7, 8] | 17 => [0, 1, 3, 4, 2, 5, 6, 7, 8, 9] | 19 => [0, 1, 3, 4, 2, 5, 6, 7, 8, 9] | _ => []) (by kernel_rfl) ?_)
        simp only [Tryz.f102, stripX, stripOps, pickOps]
        simp [K_155_f, K_155_e, K_155h_f, K_155h_e, K_155h_g, hb]
        simp [opNr, opTr, hb]
  · obtain ⟨a, b, c, rfl⟩ := len3 hx
    by_cases ha : a = 0
    · refine pure_of Tryz.func102 en_102 rfl rfl (W_run mixed ⟨[K_155], [K_155h], [], 94, 0, [0, 1, 4, 5, 6, 7, 13, 22, 31, 40, 51, 56, 64, 74, 87], [7, 13, 22, 31, 40, 51, 56, 64, 74, 87]⟩ (fun | 5 => [0, 1, 3, 4, 2, 5, 6, 7, 8] | 7 => [0, 1, 3, 4, 2, 5, 6, 7, 8] | 9 => [0, 1, 3, 4, 2, 5, 6, 7, 8] | 11 => [0, 1, 3, 4, 2, 5, 6, 7, 8, 9, 10] | 15 => [0, 1, 3, 4, 2, 5, 6, 7, 8] | 17 => [0, 1, 3, 4, 2, 5, 6, 7, 8, 9] | 19 => [0, 1, 3, 4, 2, 5, 6, 7, 8, 9] | _ => []) (by kernel_rfl) ?_)
      simp only [Tryz.f102, stripX, stripOps, pickOps]
      simp [K_155_f, K_155_e, K_155h_f, K_155h_e, K_155h_g, ha]
      simp [opNr, opTr, ha]
    · refine pure_of Tryz.func102 en_102 rfl rfl (W_run mixed ⟨[K_155], [K_155h], [], 94, 0, [0, 1, 4, 5, 6, 7, 13, 22, 31, 40, 51, 56, 64, 74, 87], [7, 13, 22, 31, 40, 51, 56, 64, 74, 87]⟩ (fun | 5 => [0, 1, 3, 4, 2, 5, 6, 7, 8] | 7 => [0, 1, 3, 4, 2, 5, 6, 7, 8] | 9 => [0, 1, 3, 4, 2, 5, 6, 7, 8] | 11 => [0, 1, 3, 4, 2, 5, 6, 7, 8, 9, 10] | 15 => [0, 1, 3, 4, 2, 5, 6, 7, 8] | 17 => [0, 1, 3, 4, 2, 5, 6, 7, 8, 9] | 19 => [0, 1, 3, 4, 2, 5, 6, 7, 8, 9] | _ => []) (by kernel_rfl) ?_)
      simp only [Tryz.f102, stripX, stripOps, pickOps]
      simp [K_155_f, K_155_e, K_155h_f, K_155h_e, K_155h_g, ha]
      simp [opNr, opTr, ha]
noncomputable def K_102 : Ent Tryz.prog := Ent.p2 (α := Int) (β := List Int) 102 (fun op x => okOp op x) (fun op x => .tup [.d (.int .i64 (opNr op x)), .d (.bool (opTr op x))]) (fun op x hc => doOp_c op x hc)
theorem K_102_f : K_102.f = 102 := rfl
theorem K_102_e (op : Int) (x : List Int) : K_102.e [.d (.int .i64 op), .d (dIntS x)] = some (okOp op x, .tup [.d (.int .i64 (opNr op x)), .d (.bool (opTr op x))], []) := by unfold K_102; exact Ent.p2_eq (α := Int) (β := List Int) op x
noncomputable def K_102h : EntH Tryz.prog := EntH.pk2 (α := Int) (β := List Int) 102 (fun op x => okOp op x) (fun op x => .tup [.d (.int .i64 (opNr op x)), .d (.bool (opTr op x))]) (fun op x => []) (fun op x hc => PureP.ans (doOp_c op x hc))
theorem K_102h_f : K_102h.f = 102 := rfl
theorem K_102h_g : K_102h.gro = true := rfl
theorem K_102h_e {x1 x2 : V} {H : Heap} : K_102h.e [x1, x2] H = guardR ((decA (α := Int) H x1).1 ∧ (decA (α := List Int) H x2).1) (peekR (okOp (decA (α := Int) H x1).2 (decA (α := List Int) H x2).2) (.tup [.d (.int .i64 (opNr (decA (α := Int) H x1).2 (decA (α := List Int) H x2).2)), .d (.bool (opTr (decA (α := Int) H x1).2 (decA (α := List Int) H x2).2))]) ([]) H) := rfl
theorem l1Do_c (op : Int) (x : List Int) (h : okOp op x) : PureP Tryz.prog 154 [.d (.int .i64 op), .d (dIntS x)] (· = .tup [.d (.int .i64 (opNr op x)), .d (.bool (opTr op x))]) := by
  rcases h with ⟨rfl, hx⟩ | ⟨ho, hx⟩ | ⟨rfl, hx⟩
  · obtain ⟨a, rfl⟩ := List.length_eq_one_iff.1 hx
    refine pure_of Tryz.func154 en_154 rfl rfl (W_run mixed ⟨[K_183, K_184], [K_183h, K_184h], [], 94, 0, [0, 1, 4, 5, 6, 7, 13, 22, 31, 40, 51, 56, 64, 74, 87], [7, 13, 22, 31, 40, 51, 56, 64, 74, 87]⟩ (fun | 5 => [0, 1, 3, 4, 2, 5, 6, 7, 8] | 7 => [0, 1, 3, 4, 2, 5, 6, 7, 8] | 9 => [0, 1, 3, 4, 2, 5, 6, 7, 8] | 11 => [0, 1, 3, 4, 2, 5, 6, 7, 8, 9, 10] | 15 => [0, 1, 3, 4, 2, 5, 6, 7, 8] | 17 => [0, 1, 3, 4, 2, 5, 6, 7, 8, 9] | 19 => [0, 1, 3, 4, 2, 5, 6, 7, 8, 9] | _ => []) (by kernel_rfl) ?_)
    simp only [Tryz.f154, stripX, stripOps, pickOps]
    simp [K_183_f, K_183_e, K_184_f, K_184_e, K_183h_f, K_183h_e, K_184h_f, K_184h_e, K_183h_g, K_184h_g]
    simp [opNr, opTr]
  · obtain ⟨a, b, rfl⟩ := len2 hx
    rcases ho with rfl | rfl | rfl | rfl | rfl | rfl | rfl
    · refine pure_of Tryz.func154 en_154 rfl rfl (W_run mixed ⟨[K_183, K_184], [K_183h, K_184h], [], 94, 0, [0, 1, 4, 5, 6, 7, 13, 22, 31, 40, 51, 56, 64, 74, 87], [7, 13, 22, 31, 40, 51, 56, 64, 74, 87]⟩ (fun | 5 => [0, 1, 3, 4, 2, 5, 6, 7, 8] | 7 => [0, 1, 3, 4, 2, 5, 6, 7, 8] | 9 => [0, 1, 3, 4, 2, 5, 6, 7, 8] | 11 => [0, 1, 3, 4, 2, 5, 6, 7, 8, 9, 10] | 15 => [0, 1, 3, 4, 2, 5, 6, 7, 8] | 17 => [0, 1, 3, 4, 2, 5, 6, 7, 8, 9] | 19 => [0, 1, 3, 4, 2, 5, 6, 7, 8, 9] | _ => []) (by kernel_rfl) ?_)
      simp only [Tryz.f154, stripX, stripOps, pickOps]
      simp [K_183_f, K_183_e, K_184_f, K_184_e, K_183h_f, K_183h_e, K_184h_f, K_184h_e, K_183h_g, K_184h_g]
      simp [opNr, opTr]
    · refine pure_of Tryz.func154 en_154 rfl rfl (W_run mixed ⟨[K_183, K_184], [K_183h, K_184h], [], 94, 0, [0, 1, 4, 5, 6, 7, 13, 22, 31, 40, 51, 56, 64, 74, 87], [7, 13, 22, 31, 40, 51, 56, 64, 74, 87]⟩ (fun | 5 => [0, 1, 3, 4, 2, 5, 6, 7, 8] | 7 => [0, 1, 3, 4, 2, 5, 6, 7, 8] | 9 => [0, 1, 3, 4, 2, 5, 6, 7, 8] | 11 => [0, 1, 3, 4, 2, 5, 6, 7, 8, 9, 10] | 15 => [0, 1, 3, 4, 2, 5, 6, 7, 8] | 17 => [0, 1, 3, 4, 2, 5, 6, 7, 8, 9] | 19 => [0, 1, 3, 4, 2, 5, 6, 7, 8, 9] | _ => []) (by kernel_rfl) ?_)
      simp only [Tryz.f154, stripX, stripOps, pickOps]
      simp [K_183_f, K_183_e, K_184_f, K_184_e, K_183h_f, K_183h_e, K_184h_f, K_184h_e, K_183h_g, K_184h_g]
      simp [opNr, opTr]
    · refine pure_of Tryz.func154 en_154 rfl rfl (W_run mixed ⟨[K_183, K_184], [K_183h, K_184h], [], 94, 0, [0, 1, 4, 5, 6, 7, 13, 22, 31, 40, 51, 56, 64, 74, 87], [7, 13, 22, 31, 40, 51, 56, 64, 74, 87]⟩ (fun | 5 => [0, 1, 3, 4, 2, 5, 6, 7, 8] | 7 => [0, 1, 3, 4, 2, 5, 6, 7, 8] | 9 => [0, 1, 3, 4, 2, 5, 6, 7, 8] | 11 => [0, 1, 3, 4, 2, 5, 6, 7, 8, 9, 10] | 15 => [0, 1, 3, 4, 2, 5, 6, 7, 8] | 17 => [0, 1, 3, 4, 2, 5, 6, 7, 8, 9] | 19 => [0, 1, 3, 4, 2, 5, 6, 7, 8, 9] | _ => []) (by kernel_rfl) ?_)
      simp only [Tryz.f154, stripX, stripOps, pickOps]
      simp [K_183_f, K_183_e, K_184_f, K_184_e, K_183h_f, K_183h_e, K_184h_f, K_184h_e, K_183h_g, K_184h_g]
      simp [opNr, opTr]
    · have h0 : ¬ b % 64 < 0 := by omega
      have h1 : min (b % 64).toNat IntKind.i64.bits = (b % 64).toNat := by show min _ 64 = _; omega
      refine pure_of Tryz.func154 en_154 rfl rfl (W_run mixed ⟨[K_183, K_184], [K_183h, K_184h], [], 94, 0, [0, 1, 4, 5, 6, 7, 13, 22, 31, 40, 51, 56, 64, 74, 87], [7, 13, 22, 31, 40, 51, 56, 64, 74, 87]⟩ (fun | 5 => [0, 1, 3, 4, 2, 5, 6, 7, 8] | 7 => [0, 1, 3, 4, 2, 5, 6, 7, 8] | 9 => [0, 1, 3, 4, 2, 5, 6, 7, 8] | 11 => [0, 1, 3, 4, 2, 5, 6, 7, 8, 9, 10] | 15 => [0, 1, 3, 4, 2, 5, 6, 7, 8] | 17 => [0, 1, 3, 4, 2, 5, 6, 7, 8, 9] | 19 => [0, 1, 3, 4, 2, 5, 6, 7, 8, 9] | _ => []) (by kernel_rfl) ?_)
      simp only [Tryz.f154, stripX, stripOps, pickOps]
      simp [K_183_f, K_183_e, K_184_f, K_184_e, K_183h_f, K_183h_e, K_184h_f, K_184h_e, K_183h_g, K_184h_g, u64_mod, and63, h0, h1]
      simp [opNr, opTr]
    · by_cases hb : b = 0
      · refine pure_of Tryz.func154 en_154 rfl rfl (W_run mixed ⟨[K_183, K_184], [K_183h, K_184h], [], 94, 0, [0, 1, 4, 5, 6, 7, 13, 22, 31, 40, 51, 56, 64, 74, 87], [7, 13, 22, 31, 40, 51, 56, 64, 74, 87]⟩ (fun | 5 => [0, 1, 3, 4, 2, 5, 6, 7, 8] | 7 => [0, 1, 3, 4, 2, 5, 6, 7, 8] | 9 => [0, 1, 3, 4, 2, 5, 6, 7, 8] | 11 => [0, 1, 3, 4, 2, 5, 6, 7, 8, 9, 10] | 15 => [0, 1, 3, 4, 2, 5, 6, 7, 8] | 17 => [0, 1, 3, 4, 2, 5, 6, 7, 8, 9] | 19 => [0, 1, 3, 4, 2, 5, 6, 7, 8, 9] | _ => []) (by kernel_rfl) ?_)
        simp only [Tryz.f154, stripX, stripOps, pickOps]
        simp [K_183_f, K_183_e, K_184_f, K_184_e, K_183h_f, K_183h_e, K_184h_f, K_184h_e, K_183h_g, K_184h_g, hb]
        simp [opNr, opTr, hb]
      · refine pure_of Tryz.func154 en_154 rfl rfl (W_run mixed ⟨[K_183, K_184], [K_183h, K_184h], [], 94, 0, [0, 1, 4, 5, 6, 7, 13, 22, 31, 40, 51, 56, 64, 74, 87], [7, 13, 22, 31, 40, 51, 56, 64, 74, 87]⟩ (fun | 5 => [0, 1, 3, 4, 2, 5, 6, 7, 8] | 7 => [0, 1, 3, 4, 2, 5, 6, 7, 8] | 9 => [0, 1, 3, 4, 2, 5, 6, 7, 8] | 11 => [0, 1, 3, 4, 2, 5, 6, 7, 8, 9, 10] | 15 => [0, 1, 3, 4, 2, 5, 6, 7, 8] | 17 => [0, 1, 3, 4, 2, 5, 6, 7, 8, 9] | 19 => [0, 1, 3, 4, 2, 5, 6, 7, 8, 9] | _ => []) (by kernel_rfl) ?_)
        simp only [Tryz.f154, stripX, stripOps, pickOps]
        simp [K_183_f, K_183_e, K_184_f, K_184_e, K_183h_f, K_183h_e, K_184h_f, K_184h_e, K_183h_g, K_184h_g, hb]
        simp [opNr, opTr, hb]
    · by_cases hb : a = b
      · refine pure_of Tryz.func154 en_154 rfl rfl (W_run mixed ⟨[K_183, K_184], [K_183h, K_184h], [], 94, 0, [0, 1, 4, 5, 6, 7, 13, 22, 31, 40, 51, 56, 64, 74, 87], [7, 13, 22, 31, 40, 51, 56, 64, 74, 87]⟩ (fun | 5 => [0, 1, 3, 4, 2, 5, 6, 7, 8] | 7 => [0, 1, 3, 4, 2, 5, 6, 7, 8] | 9 => [0, 1, 3, 4, 2, 5, 6, 7, 8] | 11 => [0, 1, 3, 4, 2, 5, 6, 7, 8, 9, 10] | 15 => [0, 1, 3, 4, 2, 5, 6, 7, 8] | 17 => [0, 1, 3, 4, 2, 5, 6, 7, 8, 9] | 19 => [0, 1, 3, 4, 2, 5, 6, 7, 8, 9] | _ => []) (by kernel_rfl) ?_)
        simp only [Tryz.f154, stripX, stripOps, pickOps]
        simp [K_183_f, K_183_e, K_184_f, K_184_e, K_183h_f, K_183h_e, K_184h_f, K_184h_e, K_183h_g, K_184h_g, hb]
        simp [opNr, opTr, hb]
      · refine pure_of Tryz.func154 en_154 rfl rfl (W_run mixed ⟨[K_183, K_184], [K_183h, K_184h], [], 94, 0, [0, 1, 4, 5, 6, 7, 13, 22, 31, 40, 51, 56, 64, 74, 87], [7, 13, 22, 31, 40, 51, 56, 64, 74, 87]⟩ (fun | 5 => [0, 1, 3, 4, 2, 5, 6, 7, 8] | 7 => [0, 1, 3, 4, 2, 5, 6, 7, 8] | 9 => [0, 1, 3, 4, 2, 5, 6, 7, 8] | 11 => [0, 1, 3, 4, 2, 5, 6, 7, 8, 9, 10] | 15 => [0, 1, 3, 4, 2, 5, 6, 7, 8] | 17 => [0, 1, 3, 4, 2, 5, 6, 7, 8, 9] | 19 => [0, 1, 3, 4, 2, 5, 6, 7, 8, 9] | _ => []) (by kernel_rfl) ?_)
        simp only [Tryz.f154, stripX, stripOps, pickOps]
        simp [K_183_f, K_183_e, K_184_f, K_184_e, K_183h_f, K_183h_e, K_184h_f, K_184h_e, K_183h_g, K_184h_g, hb]
        simp [opNr, opTr, hb]
    · by_cases hb : a < b
      · refine pure_of Tryz.func154 en_154 rfl rfl (W_run mixed ⟨[K_183, K_184], [K_183h, K_184h], [], 94, 0, [0, 1, 4, 5, 6, 7, 13, 22, 31, 40, 51, 56, 64, 74, 87], [7, 13, 22, 31, 40, 51, 56, 64, 74, 87]⟩ (fun | 5 => [0, 1, 3, 4, 2, 5, 6, 7, 8] | 7 => [0, 1, 3, 4, 2, 5, 6, 7, 8] | 9 => [0, 1, 3, 4, 2, 5, 6, 7, 8] | 11 => [0, 1, 3, 4, 2, 5, 6, 7, 8, 9, 10] | 15 => [0, 1, 3, 4, 2, 5, 6, 7, 8] | 17 => [0, 1, 3, 4, 2, 5, 6, 7, 8, 9] | 19 => [0, 1, 3, 4, 2, 5, 6, 7, 8, 9] | _ => []) (by kernel_rfl) ?_)
        simp only [Tryz.f154, stripX, stripOps, pickOps]
        simp [K_183_f, K_183_e, K_184_f, K_184_e, K_183h_f, K_183h_e, K_184h_f, K_184h_e, K_183h_g, K_184h_g, hb]
        simp [opNr, opTr, hb]
      · refine pure_of Tryz.func154 en_154 rfl rfl (W_run mixed ⟨[K_183, K_184], [K_183h, K_184h], [], 94, 0, [0, 1, 4, 5, 6, 7, 13, 22, 31, 40, 51, 56, 64, 74, 87], [7, 13, 22, 31, 40, 51, 56, 64, 74, 87]⟩ (fun | 5 => [0, 1, 3, 4, 2, 5, 6, 7, 8] | 7 => [0, 1, 3, 4, 2, 5, 6, 7, 8] | 9 => [0, 1, 3, 4, 2, 5, 6, 7, 8] | 11 => [0, 1, 3, 4, 2, 5, 6, 7, 8, 9, 10] | 15 => [0, 1, 3, 4, 2, 5, 6, 7, 8] | 17 => [0, 1, 3, 4, 2, 5, 6, 7, 8, 9] | 19 => [0, 1, 3, 4, 2, 5, 6, 7, 8, 9] | _ => []) (by kernel_rfl) ?_)
        simp only [Tryz.f154, stripX, stripOps, pickOps]
        simp [K_183_f, K_183_e, K_184_f, K_184_e, K_183h_f, K_183h_e, K_184h_f, K_184h_e, K_183h_g, K_184h_g, hb]
        simp [opNr, opTr, hb]
  · obtain ⟨a, b, c, rfl⟩ := len3 hx
    by_cases ha : a = 0
    · refine pure_of Tryz.func154 en_154 rfl rfl (W_run mixed ⟨[K_183, K_184], [K_183h, K_184h], [], 94, 0, [0, 1, 4, 5, 6, 7, 13, 22, 31, 40, 51, 56, 64, 74, 87], [7, 13, 22, 31, 40, 51, 56, 64, 74, 87]⟩ (fun | 5 => [0, 1, 3, 4, 2, 5, 6, 7, 8] | 7 => [0, 1, 3, 4, 2, 5, 6, 7, 8] | 9 => [0, 1, 3, 4, 2, 5, 6, 7, 8] | 11 => [0, 1, 3, 4, 2, 5, 6, 7, 8, 9, 10] | 15 => [0, 1, 3, 4, 2, 5, 6, 7, 8] | 17 => [0, 1, 3, 4, 2, 5, 6, 7, 8, 9] | 19 => [0, 1, 3, 4, 2, 5, 6, 7, 8, 9] | _ => []) (by kernel_rfl) ?_)
      simp only [Tryz.f154, stripX, stripOps, pickOps]
      simp [K_183_f, K_183_e, K_184_f, K_184_e, K_183h_f, K_183h_e, K_184h_f, K_184h_e, K_183h_g, K_184h_g, ha]
      simp [opNr, opTr, ha]
    · refine pure_of Tryz.func154 en_154 rfl rfl (W_run mixed ⟨[K_183, K_184], [K_183h, K_184h], [], 94, 0, [0, 1, 4, 5, 6, 7, 13, 22, 31, 40, 51, 56, 64, 74, 87], [7, 13, 22, 31, 40, 51, 56, 64, 74, 87]⟩ (fun | 5 => [0, 1, 3, 4, 2, 5, 6, 7, 8] | 7 => [0, 1, 3, 4, 2, 5, 6, 7, 8] | 9 => [0, 1, 3, 4, 2, 5, 6, 7, 8] | 11 => [0, 1, 3, 4, 2, 5, 6, 7, 8, 9, 10] | 15 => [0, 1, 3, 4, 2, 5, 6, 7, 8] | 17 => [0, 1, 3, 4, 2, 5, 6, 7, 8, 9] | 19 => [0, 1, 3, 4, 2, 5, 6, 7, 8, 9] | _ => []) (by kernel_rfl) ?_)
      simp only [Tryz.f154, stripX, stripOps, pickOps]
      simp [K_183_f, K_183_e, K_184_f, K_184_e, K_183h_f, K_183h_e, K_184h_f, K_184h_e, K_183h_g, K_184h_g, ha]
      simp [opNr, opTr, ha]
noncomputable def K_154 : Ent Tryz.prog := Ent.p2 (α := Int) (β := List Int) 154 (fun op x => okOp op x) (fun op x => .tup [.d (.int .i64 (opNr op x)), .d (.bool (opTr op x))]) (fun op x hc => l1Do_c op x hc)
theorem K_154_f : K_154.f = 154 := rfl
theorem K_154_e (op : Int) (x : List Int) : K_154.e [.d (.int .i64 op), .d (dIntS x)] = some (okOp op x, .tup [.d (.int .i64 (opNr op x)), .d (.bool (opTr op x))], []) := by unfold K_154; exact Ent.p2_eq (α := Int) (β := List Int) op x
noncomputable def K_154h : EntH Tryz.prog := EntH.pk2 (α := Int) (β := List Int) 154 (fun op x => okOp op x) (fun op x => .tup [.d (.int .i64 (opNr op x)), .d (.bool (opTr op x))]) (fun op x => []) (fun op x hc => PureP.ans (l1Do_c op x hc))
theorem K_154h_f : K_154h.f = 154 := rfl
theorem K_154h_g : K_154h.gro = true := rfl
theorem K_154h_e {x1 x2 : V} {H : Heap} : K_154h.e [x1, x2] H = guardR ((decA (α := Int) H x1).1 ∧ (decA (α := List Int) H x2).1) (peekR (okOp (decA (α := Int) H x1).2 (decA (α := List Int) H x2).2) (.tup [.d (.int .i64 (opNr (decA (α := Int) H x1).2 (decA (α := List Int) H x2).2)), .d (.bool (opTr (decA (α := Int) H x1).2 (decA (α := List Int) H x2).2))]) ([]) H) := rfl
theorem arity_ok {op : Int} {x : List Int} (h0 : 3 ≤ op) (h1 : op ≤ 11) (h : (x.length : Int) = arity op) : okOp op x := by
  unfold okOp
  have : op = 3 ∨ op = 4 ∨ op = 5 ∨ op = 6 ∨ op = 7 ∨ op = 8 ∨ op = 9 ∨ op = 10 ∨ op = 11 := by omega
  rcases this with rfl | rfl | rfl | rfl | rfl | rfl | rfl | rfl | rfl <;> simp [arity, arity1, inR] at h <;> omega
def knwB (F : Func) (x : Inst) : Bool := decide (3 ≤ x.op_) && (decide (x.op_ ≤ 11) && x.args_.all (nuB F))
def knwN (F : Func) (x : Inst) : Int := if knwB F x = true then opNr x.op_ (x.args_.map (nuN F)) else 0
theorem canI_eq (F : Func) (x : Inst) : canI F x = (knwB F x && !opTr x.op_ (x.args_.map (nuN F))) := by
  simp [canI, knwB, Bool.and_assoc]
def nuL (F : Func) (l : List Int) (k : Nat) : List Int := (l.map (nuN F)).take k
theorem nuL_len {F : Func} {l : List Int} {k : Nat} (h : k ≤ l.length) : (nuL F l k).length = k := by simp [nuL]; omega
theorem nuL_succ {F : Func} {l : List Int} {k : Nat} (h : k < l.length) : nuL F l (k + 1) = nuL F l k ++ [nuN F (l[k]?.getD 0)] := by
  unfold nuL
  rw [List.take_succ_eq_append_getElem (by simpa using h), List.getElem?_eq_getElem h]; simp
theorem l15Known_c (F : Func) (x : Inst) (hF : Enc.good F) (hx : Enc.good x) (hl : x.args_.length ≤ 1000) (ho : 3 ≤ x.op_ → x.op_ ≤ 11 → okOp x.op_ x.args_) (hn : ∀ v ∈ x.args_, okI F v) :
    PureP Tryz.prog 101 [vFunc F, vInst x] (· = .tup [.d (.int .i64 (knwN F x)), .d (.bool (canI F x))]) := by
  by_cases h0 : 3 ≤ x.op_ ∧ x.op_ ≤ 11
  · have hop := ho h0.1 h0.2
    have hr : inR x.op_ 3 11 = true := by simp [inR, h0]
    have hk0 : ∀ b : Bool, knwB F x = b → x.args_.all (nuB F) = b := fun b hb => by simpa [knwB, h0] using hb
    refine PureP.of_own (CallsD.mono (Q := fun r H' => r = .tup [.d (.int .i64 (knwN F x)), .d (.bool (canI F x))]) ?_ ?_)
    · refine calls_of Tryz.func101 en_101 rfl (of_decide_eq_true rfl) (W_run mixed ⟨[K_79, K_99, K_154], [K_79h, K_99h, K_154h], [], 47, 0, [0, 1, 2, 3, 4, 5, 6, 8, 9, 10, 11, 12, 16, 18, 19, 20, 21, 31], [16, 21, 31]⟩ (fun _ => []) (by kernel_rfl) ?_)
      simp only [Tryz.f101, stripX, stripOps, pickOps]
      simp [K_79_f, K_79_e, K_99_f, K_99_e, K_154_f, K_154_e, K_79h_f, K_79h_e, K_99h_f, K_99h_e, K_154h_f, K_154h_e, K_79h_g, K_99h_g, K_154h_g, -V.flat, -V.one, one_int, one_bool, one_str, one_nilp, one_rp, one_nilsl, one_ro, one_cl, one_nilf, one_nili, one_ifc, one_ptr, one_sl, one_clo, flat_d, flat_ptr, flat_sl, flat_clo, flat_agg, hF, hx, hr]
      refine W_loopH (α := Nat × V × Heap) (fun a => [(2, .ptr 0 2 0 0), (3, .ptr 1 3 0 0), (6, a.2.1), (18, .d (dIntS x.args_)), (19, .d (.int .i64 x.args_.length)), (20, .d (.int .i64 a.1))]) (fun a => a.2.2)
        (fun a => a.1 ≤ x.args_.length ∧ (x.args_.take a.1).all (nuB F) = true ∧ Gr 2 (nuL F x.args_ a.1) a.2.1 a.2.2 ∧ Only [] [.row 2 [[.d (.int .i64 F.params_), .d (dBlockS F.blocks_)]], .row 3 [[.d (.int .i64 x.op_), .d (.int .i64 x.n_), .d (dIntS x.args_)]]] a.2.2) (fun a => x.args_.length - a.1) (0, .d .nilsl, _) ?_ ⟨Nat.zero_le _, rfl, .inl ⟨rfl, rfl⟩, Only.refl _ _⟩ ?_
      · simp
      rintro ⟨k, v, H1⟩ ⟨hk, ha, hg, ho1⟩
      simp only [] at hk ha hg ho1
      have hol := ho1.len
      simp only [List.length_cons, List.length_nil] at hol
      have b0 : ∀ R : Heap, (H1 ++ R)[0]? = some (.row 2 [[.d (.int .i64 F.params_), .d (dBlockS F.blocks_)]]) := fun R => (List.getElem?_append_left (by omega)).trans (ho1.at_ 0 (by simp) List.not_mem_nil)
      have b1 : ∀ R : Heap, (H1 ++ R)[1]? = some (.row 3 [[.d (.int .i64 x.op_), .d (.int .i64 x.n_), .d (dIntS x.args_)]]) := fun R => (List.getElem?_append_left (by omega)).trans (ho1.at_ 1 (by simp) List.not_mem_nil)
      have c0 := b0 []
      have c1 := b1 []
      rw [List.append_nil] at c0 c1
      by_cases hlt : k < x.args_.length
      · have oI := hn (x.args_[k]?.getD 0) (by rw [List.getElem?_eq_getElem hlt]; exact List.getElem_mem hlt)
        have wk : IntKind.i64.wrap ((k : Int) + 1) = ((k + 1 : Nat) : Int) := by rw [wrap_id] <;> omega
        have hx0 : x.args_[k]?.getD 0 ∈ x.args_ := by rw [List.getElem?_eq_getElem hlt]; exact List.getElem_mem hlt
        have hts : (x.args_.take (k + 1)).all (nuB F) = nuB F (x.args_[k]?.getD 0) := by
          rw [List.take_succ_eq_append_getElem hlt, List.all_append, ha, List.getElem?_eq_getElem hlt]; simp
        generalize hxk : x.args_[k]?.getD 0 = xk at oI hx0 hts
        have hxk' : ∀ h : k < x.args_.length, x.args_[k] = xk := fun h => by rw [← hxk, List.getElem?_eq_getElem h]; rfl
        cases hb : nuB F xk with
        | false =>
          have hf : knwB F x = false := by
            have : x.args_.all (nuB F) = false := List.all_eq_false.2 ⟨xk, hx0, by rw [hb]; decide⟩
            simp [knwB, this]
          have e1 : knwN F x = 0 := by simp [knwN, hf]
          have e2 : canI F x = false := by rw [canI_eq, hf]; rfl
          refine W_run mixed ⟨[K_79, K_99, K_154], [K_79h, K_99h, K_154h], [], 47, 0, [0, 1, 2, 3, 4, 5, 6, 8, 9, 10, 11, 12, 16, 18, 19, 20, 21, 31], [16, 21, 31]⟩ (fun _ => []) (by kernel_rfl) ?_
          simp only [stripX, stripOps, pickOps]
          simp [K_79_f, K_79_e, K_99_f, K_99_e, K_154_f, K_154_e, K_79h_f, K_79h_e, K_99h_f, K_99h_e, K_154h_f, K_154h_e, K_79h_g, K_99h_g, K_154h_g, -V.flat, -V.one, one_int, one_bool, one_str, one_nilp, one_rp, one_nilsl, one_ro, one_cl, one_nilf, one_nili, one_ifc, one_ptr, one_sl, one_clo, flat_d, flat_ptr, flat_sl, flat_clo, flat_agg, retQ, hF, c0, c1, b0, b1, hlt, hxk, hxk', oI, hb, e1, e2]
          exact ⟨_, Fin.same (Nat.zero_le _)⟩
        | true =>
          rw [hb] at hts
          have e1 : nuL F x.args_ (k + 1) = nuL F x.args_ k ++ [nuN F xk] := by rw [nuL_succ hlt, hxk]
          have hlk := nuL_len (F := F) (l := x.args_) hk
          have hlk1 := nuL_len (F := F) (l := x.args_) (k := k + 1) hlt
          rcases hg with ⟨q, rfl⟩ | ⟨id, rfl, hp, hi, hr1⟩
          · have k0 : k = 0 := by rw [q] at hlk; exact hlk.symm
            refine W_run mixed ⟨[K_79, K_99, K_154], [K_79h, K_99h, K_154h], [], 47, 0, [0, 1, 2, 3, 4, 5, 6, 8, 9, 10, 11, 12, 16, 18, 19, 20, 21, 31], [16, 21, 31]⟩ (fun _ => []) (by kernel_rfl) ?_
            simp only [stripX, stripOps, pickOps]
            simp [K_79_f, K_79_e, K_99_f, K_99_e, K_154_f, K_154_e, K_79h_f, K_79h_e, K_99h_f, K_99h_e, K_154h_f, K_154h_e, K_79h_g, K_99h_g, K_154h_g, -V.flat, -V.one, one_int, one_bool, one_str, one_nilp, one_rp, one_nilsl, one_ro, one_cl, one_nilf, one_nili, one_ifc, one_ptr, one_sl, one_clo, flat_d, flat_ptr, flat_sl, flat_clo, flat_agg, retQ, hF, c0, c1, b0, b1, hlt, hxk, hxk', oI, hb]
            exact ⟨k + 1, _, _, ⟨hlt, List.all_eq_true.1 hts, Gr.new hol (by omega) (by omega) (by rw [e1, q]; rfl), only_more ho1⟩, by omega, rfl, rfl, wk⟩
          · have hid := (List.getElem?_eq_some_iff.1 hr1).1
            have hr' : ∀ R : Heap, (H1 ++ R)[id]? = some (.row 1 (rI (nuL F x.args_ k))) := fun R => (List.getElem?_append_left hid).trans hr1
            have hset : ∀ (R : Heap) p, (H1 ++ R).set id p = H1.set id p ++ R := fun R p => List.set_append_left _ _ hid
            rw [hlk] at hp ⊢
            refine W_run mixed ⟨[K_79, K_99, K_154], [K_79h, K_99h, K_154h], [], 47, 0, [0, 1, 2, 3, 4, 5, 6, 8, 9, 10, 11, 12, 16, 18, 19, 20, 21, 31], [16, 21, 31]⟩ (fun _ => []) (by kernel_rfl) ?_
            simp only [stripX, stripOps, pickOps]
            simp [K_79_f, K_79_e, K_99_f, K_99_e, K_154_f, K_154_e, K_79h_f, K_79h_e, K_99h_f, K_99h_e, K_154h_f, K_154h_e, K_79h_g, K_99h_g, K_154h_g, -V.flat, -V.one, one_int, one_bool, one_str, one_nilp, one_rp, one_nilsl, one_ro, one_cl, one_nilf, one_nili, one_ifc, one_ptr, one_sl, one_clo, flat_d, flat_ptr, flat_sl, flat_clo, flat_agg, retQ, hF, c0, c1, b0, b1, hlt, hxk, hxk', oI, hb, hr', hset, hlk]
            exact ⟨by omega, k + 1, _, _, ⟨hlt, List.all_eq_true.1 hts, Gr.new2 hol (by omega) (by omega) (by rw [rI_snoc hlk.symm, e1]), only_dead ho1 hi⟩, by omega, rfl, rfl, wk⟩
      · have e : k = x.args_.length := by omega
        subst e
        have ha' : x.args_.all (nuB F) = true := by rwa [List.take_of_length_le (Nat.le_refl _)] at ha
        have hlk := nuL_len (F := F) (l := x.args_) hk
        have hfull : nuL F x.args_ x.args_.length = x.args_.map (nuN F) := by unfold nuL; rw [List.take_of_length_le (by simp)]
        have hkw : knwB F x = true := by simp only [knwB, ha', h0.1, h0.2, decide_true, Bool.and_self]
        have e1 : knwN F x = opNr x.op_ (x.args_.map (nuN F)) := if_pos hkw
        have e2 : canI F x = !opTr x.op_ (x.args_.map (nuN F)) := by rw [canI_eq, hkw]; rfl
        have hop2 : okOp x.op_ (x.args_.map (nuN F)) := by unfold okOp; rw [List.length_map]; exact hop
        have hpos : 0 < x.args_.length := by unfold okOp at hop; omega
        rcases hg with ⟨q, rfl⟩ | ⟨id, rfl, hp, hi, hr1⟩
        · rw [q] at hlk; exact absurd hlk (by simp; omega)
        · rw [hfull] at hr1 ⊢
          have dL := decA_S (own_row hr1)
          rw [era_AS_ints] at dL
          simp only [] at dL
          generalize x.args_.map (nuN F) = xs at hop2 e1 e2 hr1 dL ⊢
          refine W_run mixed ⟨[K_79, K_99, K_154], [K_79h, K_99h, K_154h], [], 47, 0, [0, 1, 2, 3, 4, 5, 6, 8, 9, 10, 11, 12, 16, 18, 19, 20, 21, 31], [16, 21, 31]⟩ (fun _ => []) (by kernel_rfl) ?_
          simp only [stripX, stripOps, pickOps]
          simp [K_79_f, K_79_e, K_99_f, K_99_e, K_154_f, K_154_e, K_79h_f, K_79h_e, K_99h_f, K_99h_e, K_154h_f, K_154h_e, K_79h_g, K_99h_g, K_154h_g, -V.flat, -V.one, one_int, one_bool, one_str, one_nilp, one_rp, one_nilsl, one_ro, one_cl, one_nilf, one_nili, one_ifc, one_ptr, one_sl, one_clo, flat_d, flat_ptr, flat_sl, flat_clo, flat_agg, -decA, decA_int, decA_bool, decA_str, retQ, c0, c1, b0, b1, dL, hop2, e1, e2]
          exact ⟨_, Fin.same (Nat.zero_le _)⟩
    · rintro r H' rfl
      exact Rd1.tup ⟨Rd1.d, Rd1.d, trivial⟩
  · have hr : inR x.op_ 3 11 = false := by simp [inR]; omega
    have hf : knwB F x = false := by simp [knwB]; omega
    have e1 : knwN F x = 0 := by simp [knwN, hf]
    have e2 : canI F x = false := by rw [canI_eq, hf]; rfl
    refine pure_of Tryz.func101 en_101 rfl rfl (W_run mixed ⟨[K_79, K_99, K_154], [K_79h, K_99h, K_154h], [], 47, 0, [0, 1, 2, 3, 4, 5, 6, 8, 9, 10, 11, 12, 16, 18, 19, 20, 21, 31], [16, 21, 31]⟩ (fun _ => []) (by kernel_rfl) ?_)
    simp only [Tryz.f101, stripX, stripOps, pickOps]
    simp [K_79_f, K_79_e, K_99_f, K_99_e, K_154_f, K_154_e, K_79h_f, K_79h_e, K_99h_f, K_99h_e, K_154h_f, K_154h_e, K_79h_g, K_99h_g, K_154h_g, hF, hx, hr]
    simp [e1, e2]
noncomputable def K_101 : Ent Tryz.prog := Ent.p2 (α := Func) (β := Inst) 101 (fun F x => Enc.good F ∧ Enc.good x ∧ x.args_.length ≤ 1000 ∧ (3 ≤ x.op_ → x.op_ ≤ 11 → okOp x.op_ x.args_) ∧ ∀ v ∈ x.args_, okI F v) (fun F x => .tup [.d (.int .i64 (knwN F x)), .d (.bool (canI F x))]) (fun F x hc => l15Known_c F x hc.1 hc.2.1 hc.2.2.1 hc.2.2.2.1 hc.2.2.2.2)
theorem K_101_f : K_101.f = 101 := rfl
theorem K_101_e (F0 : Int) (F1 : List Block) (x0 : Int) (x1 : Int) (x2 : List Int) : K_101.e [.agg [.d (.int .i64 F0), .d (dBlockS F1)], .agg [.d (.int .i64 x0), .d (.int .i64 x1), .d (dIntS x2)]] = some (Enc.good (Func.mk F0 F1) ∧ Enc.good (Inst.mk x0 x1 x2) ∧ (Inst.mk x0 x1 x2).args_.length ≤ 1000 ∧ (3 ≤ (Inst.mk x0 x1 x2).op_ → (Inst.mk x0 x1 x2).op_ ≤ 11 → okOp (Inst.mk x0 x1 x2).op_ (Inst.mk x0 x1 x2).args_) ∧ ∀ v ∈ (Inst.mk x0 x1 x2).args_, okI (Func.mk F0 F1) v, .tup [.d (.int .i64 (knwN (Func.mk F0 F1) (Inst.mk x0 x1 x2))), .d (.bool (canI (Func.mk F0 F1) (Inst.mk x0 x1 x2)))], []) := by unfold K_101; exact Ent.p2_eq (α := Func) (β := Inst) (Func.mk F0 F1) (Inst.mk x0 x1 x2)
noncomputable def K_101h : EntH Tryz.prog := EntH.pk2 (α := Func) (β := Inst) 101 (fun F x => Enc.good F ∧ Enc.good x ∧ x.args_.length ≤ 1000 ∧ (3 ≤ x.op_ → x.op_ ≤ 11 → okOp x.op_ x.args_) ∧ ∀ v ∈ x.args_, okI F v) (fun F x => .tup [.d (.int .i64 (knwN F x)), .d (.bool (canI F x))]) (fun F x => []) (fun F x hc => PureP.ans (l15Known_c F x hc.1 hc.2.1 hc.2.2.1 hc.2.2.2.1 hc.2.2.2.2))
theorem K_101h_f : K_101h.f = 101 := rfl
theorem K_101h_g : K_101h.gro = true := rfl
theorem K_101h_e {x1 x2 : V} {H : Heap} : K_101h.e [x1, x2] H = guardR ((decA (α := Func) H x1).1 ∧ (decA (α := Inst) H x2).1) (peekR (Enc.good (decA (α := Func) H x1).2 ∧ Enc.good (decA (α := Inst) H x2).2 ∧ (decA (α := Inst) H x2).2.args_.length ≤ 1000 ∧ (3 ≤ (decA (α := Inst) H x2).2.op_ → (decA (α := Inst) H x2).2.op_ ≤ 11 → okOp (decA (α := Inst) H x2).2.op_ (decA (α := Inst) H x2).2.args_) ∧ ∀ v ∈ (decA (α := Inst) H x2).2.args_, okI (decA (α := Func) H x1).2 v) (.tup [.d (.int .i64 (knwN (decA (α := Func) H x1).2 (decA (α := Inst) H x2).2)), .d (.bool (canI (decA (α := Func) H x1).2 (decA (α := Inst) H x2).2))]) ([]) H) := rfl
theorem wrap_range (n : Int) : -9223372036854775808 ≤ IntKind.i64.wrap n ∧ IntKind.i64.wrap n ≤ 9223372036854775807 := by
  have e1 : (2 : Int) ^ 64 = 18446744073709551616 := rfl
  have e2 : (2 : Int) ^ (64 - 1) = 9223372036854775808 := rfl
  unfold IntKind.wrap
  simp only [IntKind.bits, IntKind.signed, Bool.true_and, decide_eq_true_eq, e1, e2]
  split <;> omega
theorem good_inst {F : Func} (h : goodF F = true) {b : Block} (hb : b ∈ F.blocks_) {x : Inst} (hx : x ∈ b.insts_) : (x.args_.length : Int) = arity x.op_ ∧ ∀ n ∈ x.args_, 0 ≤ n ∧ n < many F := by
  have h1 := List.all_eq_true.1 (goodF_body h hb).1 x hx
  simp only [instOk, Bool.and_eq_true, decide_eq_true_eq] at h1
  exact ⟨h1.2.1, ((good_vals h hb).2.1 x hx).2⟩
theorem opN_good {op : Int} {x : List Int} (h : Enc.good x) : -9223372036854775808 ≤ opNr op x ∧ opNr op x ≤ 9223372036854775807 := by
  have g : ∀ i : Nat, -9223372036854775808 ≤ x[i]?.getD 0 ∧ x[i]?.getD 0 ≤ 9223372036854775807 := fun i => good_get h i
  have w : ∀ n : Int, -9223372036854775808 ≤ IntKind.i64.wrap n ∧ IntKind.i64.wrap n ≤ 9223372036854775807 := fun n => wrap_range n
  unfold opNr
  simp only []
  repeat' split
  all_goals first | exact w _ | exact g _ | omega
theorem nu_good {F : Func} (h : Enc.good F) (n : Int) : -9223372036854775808 ≤ nuN F n ∧ nuN F n ≤ 9223372036854775807 := by
  unfold nuN
  split
  · exact (good_get (good_get h.2 _).2.1 _).2.1
  · omega
def allK (F : Func) (l : List Int) (k : Nat) : Bool := (l.take k).all (nuB F)
theorem num_ok {F : Func} (m : Int) (n : Int) : instOk m ⟨1, n, []⟩ = true := by simp [instOk, arity, arity1, allIn]
end Go.Proofs.YtbmloeahcdneaaaGreat
end
