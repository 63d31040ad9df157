/- Values that are known to be numbers, of both programs. No condition. -/
import Derived.Test.YtbmloeahcdneaaaGreatQS37
import Derived.Test.YtbmloeahcdneaaaGreatQS46
section
namespace Go.Proofs.YtbmloeahcdneaaaGreat
set_option maxRecDepth 100000
set_option linter.unusedSimpArgs false
set_option linter.unusedVariables false
theorem dec_of {α β : Type} [Enc β] [Dec β] [Inhabited β] [Tr α β] {H : Heap} {a : α} (h : Own H a) : Dec.dec (α := β) H (Tr.cells a) = (True, Tr.era a) := Prod.ext (eq_true h.dec.1) h.dec.2
theorem dec_ints {H : Heap} {f : Nat} {l : List Int} (h : H[f]? = some (.row 1 (rI l))) : Dec.dec (α := List Int) H [.sl f 1 0 l.length] = (True, l) := by
  have := dec_of (own_row h)
  rw [era_AS_ints] at this
  exact this
theorem VW.dec {n0 : Nat} {A : AFunc} {F : Func} {w f b : Nat} {G : Heap} (h : VW n0 A F w f b G) (hO : Own G A) (hs : solF A) (hF : Tr.era A = F) : Dec.dec (α := Ptr View) G [.ptr w 5 0 0] = (True, ⟨viewD F⟩) := by
  have q1 : Dec.dec (α := List Block) G [.sl A.blocks_.id 5 0 A.blocks_.l.length] = (True, F.blocks_) := by
    have := dec_of (AFunc.own_blocks_ hO)
    rw [cells_AS, hs.1] at this
    rw [this, ← hF]; rfl
  have q2 := dec_ints h.fr
  have q3 := dec_ints h.br
  have hp : A.params_ = F.params_ := by rw [← hF]; rfl
  rw [dec_ptr, h.view]
  show ((5 = 5 ∧ 0 + 5 ≤ 5) ∧ 0 < 1 ∧ (Dec.dec (α := View) G [_, _, _, _, _]).1, (⟨(Dec.dec (α := View) G [_, _, _, _, _]).2⟩ : Ptr View)) = _
  rw [dec_View, q1, q2, q3, dec_int, dec_int, hp]
  simp
  rfl
theorem VW.decA {n0 : Nat} {A : AFunc} {F : Func} {w f b : Nat} {G : Heap} (h : VW n0 A F w f b G) (hO : Own G A) (hs : solF A) (hF : Tr.era A = F) : decA (α := Ptr View) G (.ptr w 5 0 0) = (True, ⟨viewD F⟩) := by
  have := h.dec hO hs hF
  unfold Go.Proofs.YtbmloeahcdneaaaGreat.decA
  rw [show (V.ptr w 5 0 0).flat = [.ptr w 5 0 0] from rfl, this]
  exact Prod.ext (eq_true ⟨rfl, trivial⟩) rfl
theorem VW.keep {n0 : Nat} {A : AFunc} {F : Func} {w f b : Nat} {G G' : Heap} {S : List Nat} (h : VW n0 A F w f b G) (ho : Only S G G') (h1 : w ∉ S) (h2 : f ∉ S) (h3 : b ∉ S) : VW n0 A F w f b G' :=
  ⟨(ho.at_ _ (List.getElem?_eq_some_iff.1 h.view).1 h1).trans h.view, (ho.at_ _ (List.getElem?_eq_some_iff.1 h.fr).1 h2).trans h.fr, (ho.at_ _ (List.getElem?_eq_some_iff.1 h.br).1 h3).trans h.br, h.ge⟩
theorem viewOf_own (H : Heap) (A : AFunc) (hO : Own H A) (hs : solF A) (hg : goodF (Tr.era A) = true) (hF : Enc.good (Tr.era A)) : CallsD Tryz.prog 84 [.agg (Tr.cells A)] H fun r H' => ∃ w f b, r = .ptr w 5 0 0 ∧ VW H.length A (Tr.era A) w f b H' ∧ Only [] H H' := by
  have hv := hs.1
  have hO1 : Own (H ++ [.row 2 [[.d (.int .i64 A.params_), .sl A.blocks_.id 5 0 A.blocks_.l.length]]]) A := hO.frame (Only.app [] _ _) fun j _ hj => absurd hj List.not_mem_nil
  have hnum := numbered_own _ A hO1 hs hg
  rw [cells_AFunc, hv] at hnum ⊢
  refine calls_of Tryz.func84 en_84 rfl (of_decide_eq_true rfl) (W_run mixed ⟨[], [K_blocksh], [138, 1000139], 19, H.length, [0, 1, 2, 3, 4, 17], [12, 17]⟩ (fun _ => []) (by kernel_rfl) ?_)
  simp only [Tryz.f84, stripX, stripOps, pickOps]
  simp [K_blocksh_f, K_blocksh_e, K_blocksh_g, -V.flat, -V.one, one_int, one_bool, one_str, one_nilp, one_rp, one_nilsl, one_ro, one_cl, one_nilf, one_nili, one_ifc, one_ptr, one_sl, one_clo, flat_d, flat_ptr, flat_sl, flat_clo, flat_agg, -decA, decA_int, decA_bool, decA_str]
  refine hnum.mono ?_
  rintro r H1 ⟨w, f, b, rfl, hw, ho⟩
  generalize hE : Tr.era A = F at hg hF hw ⊢
  have hl1 : H.length + 1 ≤ H1.length := by have := ho.len; simp at this; omega
  have gb : ∀ R : Heap, (H1 ++ R)[H.length]? = some (.row 2 [[.d (.int .i64 A.params_), .sl A.blocks_.id 5 0 A.blocks_.l.length]]) := fun R => (List.getElem?_append_left (by omega)).trans ((ho.at_ _ (by simp) List.not_mem_nil).trans List.getElem?_concat_length)
  have hO2 : Own (H1 ++ [.row 1 [[.ptr w 5 0 0]]]) A := (hO1.frame ho fun j _ hj => absurd hj List.not_mem_nil).frame (Only.app [] _ _) fun j _ hj => absurd hj List.not_mem_nil
  have hw2 := hw.keep (Only.app [] H1 [.row 1 [[.ptr w 5 0 0]]]) List.not_mem_nil List.not_mem_nil List.not_mem_nil
  have dL : decA (α := List Block) (H1 ++ [.row 1 [[.ptr w 5 0 0]]]) (.sl A.blocks_.id 5 0 A.blocks_.l.length) = (True, F.blocks_) := by
    have := decA_S (AFunc.own_blocks_ hO2)
    rw [hv] at this
    rw [this, ← hE]; rfl
  have dC : decA (α := Clo1 140 (Ptr (Ptr View))) (H1 ++ [.row 1 [[.ptr w 5 0 0]]]) (.clo 140 [.ptr H1.length 1 0 0]) = (True, ⟨⟨⟨viewD F⟩⟩⟩) := by
    have hd := hw2.dec hO2 hs hE
    unfold decA
    rw [show (V.clo 140 [.ptr H1.length 1 0 0]).flat = [.clo 140 [.ptr H1.length 1 0 0]] from rfl, dec_clo1, dec_ptr, List.getElem?_concat_length]
    show ((Enc.agg (Clo1 140 (Ptr (Ptr View))) = false ∧ _ ∧ (1 = 1 ∧ 0 + 1 ≤ 1) ∧ 0 < 1 ∧ (Dec.dec (α := Ptr View) (H1 ++ [.row 1 [[.ptr w 5 0 0]]]) [.ptr w 5 0 0]).1), (⟨⟨(Dec.dec (α := Ptr View) (H1 ++ [.row 1 [[.ptr w 5 0 0]]]) [.ptr w 5 0 0]).2⟩⟩ : Clo1 140 (Ptr (Ptr View)))) = _
    rw [hd]
    exact Prod.ext (eq_true ⟨rfl, rfl, ⟨rfl, by omega⟩, by omega, trivial⟩) rfl
  have hany : (F.blocks_.any fun x => !bodyOk F.blocks_ (many F) x) = false := by
    obtain ⟨_, _, _, _, _, _, hb⟩ := goodF_spec hg
    refine List.any_eq_false.2 fun x hx => ?_
    rw [List.all_eq_true.1 hb x hx]; simp
  have hbs : Enc.good F.blocks_ := hF.2
  simp [K_138_f, K_138_e, K_blocks_f, K_blocks_e, K_138h_f, K_138h_e, K_blocksh_f, K_blocksh_e, K_138h_g, K_blocksh_g, -V.flat, -V.one, one_int, one_bool, one_str, one_nilp, one_rp, one_nilsl, one_ro, one_cl, one_nilf, one_nili, one_ifc, one_ptr, one_sl, one_clo, flat_d, flat_ptr, flat_sl, flat_clo, flat_agg, -decA, decA_int, decA_bool, decA_str, retQ, gb, dL, dC, hany, hbs, viewD_blocks, viewD_total]
  refine ⟨_, _, Fin.same (by simp; omega), w, rfl, ⟨f, b, hw2.view, hw2.fr, hw2.br, ?_⟩, ?_⟩
  · have := hw2.ge
    simp only [List.length_append, List.length_singleton] at this
    omega
  · exact (only_more (R := [.row 1 [[.ptr w 5 0 0]]]) ((Only.app [] H _).trans ho (fun j hj => hj) fun j hj _ => hj))
end Go.Proofs.YtbmloeahcdneaaaGreat
end

section
namespace Go.Proofs.YtbmloeahcdneaaaGreat
set_option maxRecDepth 100000
set_option linter.unusedSimpArgs false
set_option linter.unusedVariables false
def knB (v : View) (n : Int) : Bool := decide (0 ≤ bk v n) && (decide (0 ≤ atV v n) && decide ((instI v n).op_ = 1))
def knN (v : View) (n : Int) : Int := if knB v n = true then (instI v n).n_ else 0
theorem known_c (v : View) (n : Int) (h : okV v n) : PureP Tryz.prog 100 [.d (.rp 5 (dView v)), .d (.int .i64 n)] (· = .tup [.d (.int .i64 (knN v n)), .d (.bool (knB v n))]) := by
  by_cases b0 : bk v n < 0
  · have h1 : knB v n = false := by simp only [knB]; rw [decide_eq_false (by omega)]; rfl
    refine pure_of Tryz.func100 en_100 rfl rfl (W_run mixed ⟨[K_153], [K_153h], [], 29, 0, [0, 1, 4, 5, 6, 24], [18, 24]⟩ (fun _ => []) (by kernel_rfl) ?_)
    simp only [Tryz.f100, stripX, stripOps, pickOps]
    simp [K_153_f, K_153_e, K_153h_f, K_153h_e, K_153h_g, h, instV, b0]
    simp [h1, knN]
  by_cases a0 : atV v n < 0
  · have h1 : knB v n = false := by simp only [knB]; rw [decide_eq_false (p := 0 ≤ atV v n) (by omega)]; simp
    refine pure_of Tryz.func100 en_100 rfl rfl (W_run mixed ⟨[K_153], [K_153h], [], 29, 0, [0, 1, 4, 5, 6, 24], [18, 24]⟩ (fun _ => []) (by kernel_rfl) ?_)
    simp only [Tryz.f100, stripX, stripOps, pickOps]
    simp [K_153_f, K_153_e, K_153h_f, K_153h_e, K_153h_g, h, instV, b0, a0]
    simp [h1, knN]
  · have ei : instV v n = .tup [.d (.rp 3 (dInst (instI v n))), .d (.int .i64 (bk v n)), .d (.int .i64 (atV v n))] := by unfold instV; rw [if_neg b0, if_neg a0]
    have h1 : knB v n = decide ((instI v n).op_ = 1) := by simp only [knB]; rw [decide_eq_true (show 0 ≤ bk v n by omega), decide_eq_true (show 0 ≤ atV v n by omega)]; rfl
    refine pure_of Tryz.func100 en_100 rfl rfl (W_run mixed ⟨[K_153], [K_153h], [], 29, 0, [0, 1, 4, 5, 6, 24], [18, 24]⟩ (fun _ => []) (by kernel_rfl) ?_)
    simp only [Tryz.f100, stripX, stripOps, pickOps]
    simp [K_153_f, K_153_e, K_153h_f, K_153h_e, K_153h_g, h, ei]
    refine ⟨fun q => ?_, fun q => ?_⟩ <;> simp [h1, knN, q]
noncomputable def K_100 : Ent Tryz.prog := Ent.p2 (α := Ptr View) (β := Int) 100 (fun v n => okV v.v n) (fun v n => .tup [.d (.int .i64 (knN v.v n)), .d (.bool (knB v.v n))]) (fun v n hc => known_c v.v n hc)
theorem K_100_f : K_100.f = 100 := rfl
theorem K_100_e (v : View) (n : Int) : K_100.e [.d (.rp 5 (dView v)), .d (.int .i64 n)] = some (okV v n, .tup [.d (.int .i64 (knN v n)), .d (.bool (knB v n))], []) := by unfold K_100; exact Ent.p2_eq (α := Ptr View) (β := Int) (Ptr.mk v) n
noncomputable def K_100h : EntH Tryz.prog := EntH.pk2 (α := Ptr View) (β := Int) 100 (fun v n => okV v.v n) (fun v n => .tup [.d (.int .i64 (knN v.v n)), .d (.bool (knB v.v n))]) (fun v n => []) (fun v n hc => PureP.ans (known_c v.v n hc))
theorem K_100h_f : K_100h.f = 100 := rfl
theorem K_100h_g : K_100h.gro = true := rfl
theorem K_100h_e {x1 x2 : V} {H : Heap} : K_100h.e [x1, x2] H = guardR ((decA (α := Ptr View) H x1).1 ∧ (decA (α := Int) H x2).1) (peekR (okV (decA (α := Ptr View) H x1).2.v (decA (α := Int) H x2).2) (.tup [.d (.int .i64 (knN (decA (α := Ptr View) H x1).2.v (decA (α := Int) H x2).2)), .d (.bool (knB (decA (α := Ptr View) H x1).2.v (decA (α := Int) H x2).2))]) ([]) H) := rfl
def okI (F : Func) (n : Int) : Prop := 0 ≤ (instS F n F.blocks_ 0).1 → (instS F n F.blocks_ 0).1 < F.blocks_.length ∧ 0 ≤ (instS F n F.blocks_ 0).2 ∧ (instS F n F.blocks_ 0).2 < (F.blocks_[(instS F n F.blocks_ 0).1.toNat]?.getD default).insts_.length
def nuB (F : Func) (n : Int) : Bool := decide (0 ≤ (instS F n F.blocks_ 0).1) && decide ((insAt F n).op_ = 1)
def nuN (F : Func) (n : Int) : Int := if nuB F n = true then (insAt F n).n_ else 0
theorem l15Num_c (F : Func) (n : Int) (hF : Enc.good F) (h : okI F n) : PureP Tryz.prog 99 [vFunc F, .d (.int .i64 n)] (· = .tup [.d (.int .i64 (nuN F n)), .d (.bool (nuB F n))]) := by
  by_cases b0 : (instS F n F.blocks_ 0).1 < 0
  · have h1 : nuB F n = false := by simp only [nuB]; rw [decide_eq_false (by omega)]; rfl
    refine pure_of Tryz.func99 en_99 rfl rfl (W_run mixed ⟨[K_111], [K_111h], [], 39, 0, [0, 1, 2, 4, 5, 6, 7, 28], [16, 28]⟩ (fun _ => []) (by kernel_rfl) ?_)
    simp only [Tryz.f99, stripX, stripOps, pickOps]
    simp [K_111_f, K_111_e, K_111h_f, K_111h_e, K_111h_g, hF, b0]
    simp [h1, nuN]
  · have q := h (by omega)
    have h1 : nuB F n = decide ((insAt F n).op_ = 1) := by simp only [nuB]; rw [decide_eq_true (show 0 ≤ (instS F n F.blocks_ 0).1 by omega)]; rfl
    have e1 : ((F.blocks_[(instS F n F.blocks_ 0).1.toNat]?.getD default).insts_[(instS F n F.blocks_ 0).2.toNat]?.getD default) = insAt F n := rfl
    refine pure_of Tryz.func99 en_99 rfl rfl (W_run mixed ⟨[K_111], [K_111h], [], 39, 0, [0, 1, 2, 4, 5, 6, 7, 28], [16, 28]⟩ (fun _ => []) (by kernel_rfl) ?_)
    simp only [Tryz.f99, stripX, stripOps, pickOps]
    simp [K_111_f, K_111_e, K_111h_f, K_111h_e, K_111h_g, hF, b0, e1]
    have i0 : 0 ≤ (instS F n F.blocks_ 0).1 := by omega
    exact ⟨⟨i0, q.1⟩, q.2, fun z => by simp [h1, nuN, z], fun z => ⟨⟨i0, q.1⟩, q.2, by simp [nuN, h1, z], by simp [h1, z]⟩⟩
theorem kn_nu {F : Func} {n : Int} (h : goodF F = true) (h0 : 0 ≤ n) (h1 : n < many F) : okV (viewD F) n ∧ okI F n ∧ knB (viewD F) n = nuB F n ∧ knN (viewD F) n = nuN F n := by
  obtain ⟨hok, hvs⟩ := view_spec h h0 h1
  have hv := isVal_of h h0 h1
  refine ⟨hok, fun q => ?_, ?_⟩
  · have := instS_ok hv q
    exact ⟨this.1, this.2.1, this.2.2⟩
  by_cases hb : 0 ≤ bk (viewD F) n ∧ 0 ≤ atV (viewD F) n
  · obtain ⟨e1, e2⟩ := inst_same h h0 h1 hb.1 hb.2
    have hB : knB (viewD F) n = nuB F n := by
      simp only [knB, nuB, e1, e2]
      rw [decide_eq_true hb.1, decide_eq_true hb.2]; rfl
    exact ⟨hB, by simp only [knN, nuN, hB, e2]⟩
  · have hk : knB (viewD F) n = false := by
      simp only [knB]
      by_cases q : 0 ≤ bk (viewD F) n
      · rw [decide_eq_false (p := 0 ≤ atV (viewD F) n) (by omega)]; simp
      · rw [decide_eq_false q]; rfl
    have hn : nuB F n = false := by
      have : ¬ 0 ≤ (instS F n F.blocks_ 0).1 := by
        rcases hvs with ⟨_, _, e⟩ | ⟨_, _, _, _, _, e⟩
        · rw [e]; decide
        · rw [if_neg (by omega)] at e; rw [e]; decide
      simp only [nuB]; rw [decide_eq_false this]; rfl
    exact ⟨hk.trans hn.symm, by simp only [knN, nuN, hk, hn]; rfl⟩
noncomputable def K_99 : Ent Tryz.prog := Ent.p2 (α := Func) (β := Int) 99 (fun F n => Enc.good F ∧ okI F n) (fun F n => .tup [.d (.int .i64 (nuN F n)), .d (.bool (nuB F n))]) (fun F n hc => l15Num_c F n hc.1 hc.2)
theorem K_99_f : K_99.f = 99 := rfl
theorem K_99_e (F0 : Int) (F1 : List Block) (n : Int) : K_99.e [.agg [.d (.int .i64 F0), .d (dBlockS F1)], .d (.int .i64 n)] = some (Enc.good (Func.mk F0 F1) ∧ okI (Func.mk F0 F1) n, .tup [.d (.int .i64 (nuN (Func.mk F0 F1) n)), .d (.bool (nuB (Func.mk F0 F1) n))], []) := by unfold K_99; exact Ent.p2_eq (α := Func) (β := Int) (Func.mk F0 F1) n
noncomputable def K_99h : EntH Tryz.prog := EntH.pk2 (α := Func) (β := Int) 99 (fun F n => Enc.good F ∧ okI F n) (fun F n => .tup [.d (.int .i64 (nuN F n)), .d (.bool (nuB F n))]) (fun F n => []) (fun F n hc => PureP.ans (l15Num_c F n hc.1 hc.2))
theorem K_99h_f : K_99h.f = 99 := rfl
theorem K_99h_g : K_99h.gro = true := rfl
theorem K_99h_e {x1 x2 : V} {H : Heap} : K_99h.e [x1, x2] H = guardR ((decA (α := Func) H x1).1 ∧ (decA (α := Int) H x2).1) (peekR (Enc.good (decA (α := Func) H x1).2 ∧ okI (decA (α := Func) H x1).2 (decA (α := Int) H x2).2) (.tup [.d (.int .i64 (nuN (decA (α := Func) H x1).2 (decA (α := Int) H x2).2)), .d (.bool (nuB (decA (α := Func) H x1).2 (decA (α := Int) H x2).2))]) ([]) H) := rfl
end Go.Proofs.YtbmloeahcdneaaaGreat
end
