/- SkipCopies: the program's pass, and the reference's. No condition. -/
import Derived.Test.YtbmloeahcdneaaaGreatQS67
import Derived.Test.YtbmloeahcdneaaaGreatQS76
namespace Go.Proofs.YtbmloeahcdneaaaGreat
set_option maxRecDepth 100000
set_option linter.unusedSimpArgs false
set_option linter.unusedVariables false
theorem cpyS_ways (F : Func) (k : Int) (h : goodF F = true) (k0 : 0 ≤ k) (k1 : k < many F) : PureP Tryz.prog 120 [.d (.rp 3 (dWays (waysV (viewD F)))), .d (.int .i64 k)] (· = .d (.int .i64 (cpyS F k))) := handed_c F k h k0 k1
theorem skipCopies_pass : PassOwn 63 (raG cpyS) (raK cpyS) := fun H A idf q => by
  refine calls_of Tryz.func63 en_63 rfl (of_decide_eq_true rfl) (W_run mixed ⟨[], [], [119, 120], 5, H.length, [0, 2], []⟩ (fun _ => []) (by kernel_rfl) ?_)
  simp only [Tryz.f63, stripX, stripOps, pickOps]
  simp [-V.flat, -V.one, one_int, one_bool, one_str, one_nilp, one_rp, one_nilsl, one_ro, one_cl, one_nilf, one_nili, one_ifc, one_ptr, one_sl, one_clo, flat_d, flat_ptr, flat_sl, flat_clo, flat_agg, retQ]
  refine (redirectAll_own cpyS_ways cpyS_lt (by decide) _ A idf q).mono ?_
  rintro r H' ⟨A', rfl, e, pr⟩
  simp [-V.flat, -V.one, one_int, one_bool, one_str, one_nilp, one_rp, one_nilsl, one_ro, one_cl, one_nilf, one_nili, one_ifc, one_ptr, one_sl, one_clo, flat_d, flat_ptr, flat_sl, flat_clo, flat_agg, retQ]
  exact ⟨_, _, Fin.same pr.only.len, rfl, A', e, pr⟩
theorem cpyS_at {F : Func} (hg : goodF F = true) {k : Int} (hk : k ∈ fromL F 0 (-1)) (k0 : 0 < k) {i : Nat} (hi : (i : Int) < (F.blocks_[k.toNat]?.getD default).params_) : Ent0 F k i ∧ ownN F k i < many F ∧ cpyS F (ownN F k i) = cpC F k i := by
  have hL := lay hg
  obtain ⟨q0, q1, q2⟩ := (mem_from hg).1 hk
  have hm : fstN F k.toNat + i ∈ posN F := List.mem_flatMap.2 ⟨k, hk, mem_posK.2 ⟨k0, by omega, by omega⟩⟩
  rw [← posN_eq hg, List.mem_filter, List.mem_range] at hm
  obtain ⟨m1, m2⟩ := hm
  have hmm := many_rng hg
  have hsz := fstN_succ (F := F) (k := k.toNat) (by omega)
  have hh := blk_head hg (k := k.toNat) (by omega)
  unfold szN at hsz
  have hb := hL.bkB k.toNat (fstN F k.toNat + i) (by omega) (by omega) (by omega)
  have hb' : bk (viewD F) ((fstN F k.toNat + i : Nat) : Int) = k := by rw [hb]; omega
  refine ⟨⟨q0, q1, hi⟩, by unfold ownN; omega, ?_⟩
  unfold ownN
  rw [cpyS_q, if_pos m2, hb']
  congr 1
  omega
theorem l16Copies_c (F : Func) (hF : Enc.good F) (hg : goodF F = true) : PureP Tryz.prog 62 [vFunc F] (· = .tup [vFunc (raG cpyS F), .d (.int .i64 (raK cpyS F))]) := by
  obtain ⟨hf1, hf2, hf3⟩ := good_flow hg
  have h0l : (0 : Int) < F.blocks_.length := by omega
  have hL8 : (fromL F 0 (-1)).length ≤ 8 := fromL_len hf2 0 (-1)
  have hres : raP cpyS F = ((fromL F 0 (-1)).flatMap (posK F)).foldl (raS cpyS) (F, 0) := raP_pos hg
  have hLm : ∀ x ∈ fromL F 0 (-1), 0 ≤ x ∧ x < F.blocks_.length := fun x hx => from_mem hg hx
  refine pure_of Tryz.func62 en_62 rfl rfl (W_run mixed ⟨[K_98, K_103, K_118, K_104, K_44], [K_98h, K_103h, K_118h, K_104h, K_44h], [], 61, 0, [0, 1, 2, 3, 4, 5, 7, 8, 9, 13, 14, 15, 16, 30, 47], [16, 21, 30, 39, 47]⟩ (fun | 11 => [2, 4, 6, 0, 1, 3, 5, 7, 8] | _ => []) (by kernel_rfl) ?_)
  simp only [Tryz.f62, stripX, stripOps, pickOps]
  simp [K_98_f, K_98_e, K_103_f, K_103_e, K_118_f, K_118_e, K_104_f, K_104_e, K_44_f, K_44_e, K_98h_f, K_98h_e, K_103h_f, K_103h_e, K_118h_f, K_118h_e, K_104h_f, K_104h_e, K_44h_f, K_44h_e, K_98h_g, K_103h_g, K_118h_g, K_104h_g, K_44h_g, hF, hg, hf1, hf2, hf3, h0l]
  have hLL : ∀ {F1 : Func}, Alk F F1 → fromL F1 0 (-1) = fromL F 0 (-1) := fun h => h.frm
  generalize hLf : fromL F 0 (-1) = L at *
  refine W_loopA (fun a : Nat × Func × Int => [(2, .ptr 1 2 0 0), (4, .ptr 2 2 0 0), (5, .d (.int .i64 a.2.2)), (13, .d (dIntS L)), (14, .d (.int .i64 L.length)), (15, .d (.int .i64 a.1))]) (fun a => [.row 2 [[.d (.int .i64 F.params_), .d (dBlockS F.blocks_)]], .row 2 [[.d (.int .i64 0), .d .nilsl]], .row 2 [[.d (.int .i64 a.2.1.params_), .d (dBlockS a.2.1.blocks_)]]])
    (fun a => a.1 ≤ L.length ∧ (0 ≤ a.2.2 ∧ a.2.2 ≤ 4 * a.1) ∧ Enc.good a.2.1 ∧ goodF a.2.1 = true ∧ Alk F a.2.1 ∧ a.2 = ((L.take a.1).flatMap (posK F)).foldl (raS cpyS) (F, 0)) (fun a => L.length - a.1) (0, F, 0) ?_ ?_ ?_
  · simp
  · exact ⟨Nat.zero_le _, ⟨Int.le_refl 0, by simp⟩, hF, hg, Alk.rfl F, rfl⟩
  rintro ⟨x, F1, m1⟩ ⟨hx, hm1, hF1, g1, al1, he⟩
  simp only [] at hx hm1 hF1 g1 al1 he
  by_cases hin : x < L.length
  · have hf := hLm (L[x]?.getD default) (by rw [List.getElem?_eq_getElem hin]; exact List.getElem_mem hin)
    have hkm : L[x]?.getD default ∈ L := by rw [List.getElem?_eq_getElem hin]; exact List.getElem_mem hin
    have htk : L.take (x + 1) = L.take x ++ [L[x]?.getD default] := take_snocD hin
    have wx : IntKind.i64.wrap ((x : Int) + 1) = ((x + 1 : Nat) : Int) := by rw [wrap_id] <;> omega
    generalize hfx : L[x]?.getD default = k at *
    have hfx0 : L[x]?.getD 0 = k := hfx
    have hfx' : ∀ h : x < L.length, L[x] = k := fun h => by rw [← hfx, List.getElem?_eq_getElem h]; rfl
    have hh := blk_head hg (k := k.toNat) (by omega)
    refine W_run mixed ⟨[K_98, K_103, K_118, K_104, K_44], [K_98h, K_103h, K_118h, K_104h, K_44h], [], 61, 0, [0, 1, 2, 3, 4, 5, 7, 8, 9, 13, 14, 15, 16, 30, 47], [16, 21, 30, 39, 47]⟩ (fun | 11 => [2, 4, 6, 0, 1, 3, 5, 7, 8] | _ => []) (by kernel_rfl) ?_
    simp only [stripX, stripOps, pickOps]
    simp [K_98_f, K_98_e, K_103_f, K_103_e, K_118_f, K_118_e, K_104_f, K_104_e, K_44_f, K_44_e, K_98h_f, K_98h_e, K_103h_f, K_103h_e, K_118h_f, K_118h_e, K_104h_f, K_104h_e, K_44h_f, K_44h_e, K_98h_g, K_103h_g, K_118h_g, K_104h_g, K_44h_g, hin, hfx, hfx0, hfx']
    generalize hP0 : ((L.take x).flatMap (posK F)).foldl (raS cpyS) (F, 0) = P0 at *
    refine W_loopA (fun a : Nat × Func × Int => [(2, .ptr 1 2 0 0), (4, .ptr 2 2 0 0), (5, .d (.int .i64 a.2.2)), (7, .d (.int .i64 k)), (8, .d (.int .i64 a.1)), (13, .d (dIntS L)), (14, .d (.int .i64 L.length)), (15, .d (.int .i64 x))]) (fun a => [.row 2 [[.d (.int .i64 F.params_), .d (dBlockS F.blocks_)]], .row 2 [[.d (.int .i64 0), .d .nilsl]], .row 2 [[.d (.int .i64 a.2.1.params_), .d (dBlockS a.2.1.blocks_)]]])
      (fun a => (0 < k → (a.1 : Int) ≤ (F.blocks_[k.toNat]?.getD default).params_) ∧ (k ≤ 0 → a.1 = 0) ∧ (0 ≤ a.2.2 ∧ a.2.2 ≤ 4 * x + a.1) ∧ Enc.good a.2.1 ∧ goodF a.2.1 = true ∧ Alk F a.2.1 ∧ a.2 = ((List.range a.1).map (fstN F k.toNat + ·)).foldl (raS cpyS) P0) (fun a => (F.blocks_[k.toNat]?.getD default).params_.toNat - a.1) (0, F1, m1) ?_ ?_ ?_
    · simp
    · exact ⟨fun _ => by simp only []; omega, fun _ => rfl, ⟨hm1.1, by have := hm1.2; simp only []; omega⟩, hF1, g1, al1, he⟩
    rintro ⟨i, F2, m2⟩ ⟨hi, hi0, hm2, hF2, g2, al2, he2⟩
    simp only [] at hi hi0 hm2 hF2 g2 al2 he2
    have hpk := al2.pk k.toNat
    have hbl : (F2.blocks_.length : Int) = F.blocks_.length := by rw [shp_len al2.shp]
    have hk2 : k < (F2.blocks_.length : Int) := by omega
    have hpk' : ∀ h : k.toNat < F2.blocks_.length, F2.blocks_[k.toNat].params_ = (F.blocks_[k.toNat]?.getD default).params_ := fun h => by rw [← hpk, List.getElem?_eq_getElem h]; rfl
    generalize hpp : (F.blocks_[k.toNat]?.getD default).params_ = pk at *
    have done : (k ≤ 0 ∨ pk ≤ i) → (F2, m2) = ((L.take (x + 1)).flatMap (posK F)).foldl (raS cpyS) (F, 0) := fun h => by
      rw [htk, List.flatMap_append, List.foldl_append, hP0, he2, List.flatMap_cons, List.flatMap_nil, List.append_nil]
      congr 1
      unfold posK
      by_cases k0 : 0 < k
      · rw [if_pos k0, hpp]
        have := hi k0
        rw [show pk.toNat = i by omega]
      · rw [if_neg k0, hi0 (by omega)]; rfl
    by_cases k0 : 0 < k
    · by_cases hip : (i : Int) < pk
      · obtain ⟨ent, hol, hcy⟩ := cpyS_at g2 (k := k) (by rw [hLL al2]; exact hkm) k0 (i := i) (by rw [hpk]; exact hip)
        obtain ⟨c1, c2⟩ := cpC_lt g2 ent
        have hcf : cntB (F2.blocks_.take k.toNat) F2.params_ = (fstN F2 k.toNat : Int) := first_N g2 (by omega)
        have hfl80 := fstN_le g2 (k := k.toNat) (by omega)
        have hown : ownN F2 k i = (fstN F2 k.toNat : Int) + i := by unfold ownN; omega
        have hw : IntKind.i64.wrap ((fstN F2 k.toNat : Int) + (i : Int)) = ownN F2 k i := by rw [hown, wrap_id] <;> omega
        have ho0 : 0 ≤ ownN F2 k i := by omega
        have hktl : k.toNat ≤ F2.blocks_.length := by omega
        have hk00 : 0 ≤ k := by omega
        have wi : IntKind.i64.wrap ((i : Int) + 1) = ((i + 1 : Nat) : Int) := by rw [wrap_id] <;> omega
        have hvN : ((fstN F k.toNat + i : Nat) : Int) = ownN F2 k i := by unfold ownN; rw [al2.fst]
        have hst : ((List.range (i + 1)).map (fstN F k.toNat + ·)).foldl (raS cpyS) P0 = raS cpyS (F2, m2) (fstN F k.toNat + i) := by
          rw [List.range_succ, List.map_append, List.foldl_append, ← he2]; rfl
        have hsv : raS cpyS (F2, m2) (fstN F k.toNat + i) = if 0 ≤ cpC F2 k i then (mpF (rdG (ownN F2 k i) (cpC F2 k i)) F2, m2 + 1) else (F2, m2) := by
          unfold raS
          simp only []
          rw [hvN, hcy]
        have hsg := raS_good cpyS_lt (p := (F2, m2)) (k := fstN F k.toNat + i) g2 (by rw [hvN]; exact hol)
        have hsa := al2.ra (m := m2) (v := fstN F k.toNat + i) (to := cpyS)
        have wm : IntKind.i64.wrap (m2 + 1) = m2 + 1 := wrap_id (by omega) (by omega)
        generalize hcc : cpC F2 k i = cc at *
        have hit : ((i : Int)).toNat = i := Int.toNat_natCast i
        by_cases hc0 : 0 ≤ cc
        · have hne := c2 hc0
          rw [if_pos hc0] at hsv
          rw [hsv] at hsg hsa hst
          refine W_run mixed ⟨[K_98, K_103, K_118, K_104, K_44], [K_98h, K_103h, K_118h, K_104h, K_44h], [], 61, 0, [0, 1, 2, 3, 4, 5, 7, 8, 9, 13, 14, 15, 16, 30, 47], [16, 21, 30, 39, 47]⟩ (fun | 11 => [2, 4, 6, 0, 1, 3, 5, 7, 8] | _ => []) (by kernel_rfl) ?_
          simp only [stripX, stripOps, pickOps]
          simp [K_98_f, K_98_e, K_103_f, K_103_e, K_118_f, K_118_e, K_104_f, K_104_e, K_44_f, K_44_e, K_98h_f, K_98h_e, K_103h_f, K_103h_e, K_118h_f, K_118h_e, K_104h_f, K_104h_e, K_44h_f, K_44h_e, K_98h_g, K_103h_g, K_118h_g, K_104h_g, K_44h_g, k0, hk00, hk2, hpk', hip, hF2, g2, ent, hit, hcc, hc0, hne, hktl, hcf, hw, ho0, hol]
          exact ⟨i + 1, _, _, ⟨by omega, fun q => absurd k0 (by omega), ⟨by omega, by omega⟩, mpF_enc hF2 fun y hy => by unfold rdG; split; exact ⟨by omega, by have := many_rng g2; omega⟩; exact hy, hsg.1, hsa, hst.symm⟩, by omega, ⟨rfl, rfl, rfl⟩, wm, wi⟩
        · rw [if_neg hc0] at hsv
          rw [hsv] at hsg hsa hst
          refine W_run mixed ⟨[K_98, K_103, K_118, K_104, K_44], [K_98h, K_103h, K_118h, K_104h, K_44h], [], 61, 0, [0, 1, 2, 3, 4, 5, 7, 8, 9, 13, 14, 15, 16, 30, 47], [16, 21, 30, 39, 47]⟩ (fun | 11 => [2, 4, 6, 0, 1, 3, 5, 7, 8] | _ => []) (by kernel_rfl) ?_
          simp only [stripX, stripOps, pickOps]
          simp [K_98_f, K_98_e, K_103_f, K_103_e, K_118_f, K_118_e, K_104_f, K_104_e, K_44_f, K_44_e, K_98h_f, K_98h_e, K_103h_f, K_103h_e, K_118h_f, K_118h_e, K_104h_f, K_104h_e, K_44h_f, K_44h_e, K_98h_g, K_103h_g, K_118h_g, K_104h_g, K_44h_g, k0, hk00, hk2, hpk', hip, hF2, g2, ent, hit, hcc, hc0, hktl, hcf, hw, ho0, hol]
          exact ⟨i + 1, _, _, ⟨by omega, fun q => absurd k0 (by omega), ⟨by omega, by omega⟩, hF2, g2, al2, hst.symm⟩, by omega, ⟨rfl, rfl, rfl⟩, rfl, wi⟩
      · have hk00 : 0 ≤ k := by omega
        refine W_run mixed ⟨[K_98, K_103, K_118, K_104, K_44], [K_98h, K_103h, K_118h, K_104h, K_44h], [], 61, 0, [0, 1, 2, 3, 4, 5, 7, 8, 9, 13, 14, 15, 16, 30, 47], [16, 21, 30, 39, 47]⟩ (fun | 11 => [2, 4, 6, 0, 1, 3, 5, 7, 8] | _ => []) (by kernel_rfl) ?_
        simp only [stripX, stripOps, pickOps]
        simp [K_98_f, K_98_e, K_103_f, K_103_e, K_118_f, K_118_e, K_104_f, K_104_e, K_44_f, K_44_e, K_98h_f, K_98h_e, K_103h_f, K_103h_e, K_118h_f, K_118h_e, K_104h_f, K_104h_e, K_44h_f, K_44h_e, K_98h_g, K_103h_g, K_118h_g, K_104h_g, K_44h_g, k0, hk00, hk2, hpk', hip]
        have := hi k0
        exact ⟨x + 1, _, _, ⟨by omega, ⟨by omega, by omega⟩, hF2, g2, al2, done (.inr (by omega))⟩, by omega, ⟨rfl, rfl, rfl⟩, rfl, wx⟩
    · refine W_run mixed ⟨[K_98, K_103, K_118, K_104, K_44], [K_98h, K_103h, K_118h, K_104h, K_44h], [], 61, 0, [0, 1, 2, 3, 4, 5, 7, 8, 9, 13, 14, 15, 16, 30, 47], [16, 21, 30, 39, 47]⟩ (fun | 11 => [2, 4, 6, 0, 1, 3, 5, 7, 8] | _ => []) (by kernel_rfl) ?_
      simp only [stripX, stripOps, pickOps]
      simp [K_98_f, K_98_e, K_103_f, K_103_e, K_118_f, K_118_e, K_104_f, K_104_e, K_44_f, K_44_e, K_98h_f, K_98h_e, K_103h_f, K_103h_e, K_118h_f, K_118h_e, K_104h_f, K_104h_e, K_44h_f, K_44h_e, K_98h_g, K_103h_g, K_118h_g, K_104h_g, K_44h_g, k0]
      have := hi0 (by omega)
      exact ⟨x + 1, _, _, ⟨by omega, ⟨by omega, by omega⟩, hF2, g2, al2, done (.inl (by omega))⟩, by omega, ⟨rfl, rfl, rfl⟩, rfl, wx⟩
  · refine W_run mixed ⟨[K_98, K_103, K_118, K_104, K_44], [K_98h, K_103h, K_118h, K_104h, K_44h], [], 61, 0, [0, 1, 2, 3, 4, 5, 7, 8, 9, 13, 14, 15, 16, 30, 47], [16, 21, 30, 39, 47]⟩ (fun | 11 => [2, 4, 6, 0, 1, 3, 5, 7, 8] | _ => []) (by kernel_rfl) ?_
    simp only [stripX, stripOps, pickOps]
    simp [K_98_f, K_98_e, K_103_f, K_103_e, K_118_f, K_118_e, K_104_f, K_104_e, K_44_f, K_44_e, K_98h_f, K_98h_e, K_103h_f, K_103h_e, K_118h_f, K_118h_e, K_104h_f, K_104h_e, K_44h_f, K_44h_e, K_98h_g, K_103h_g, K_118h_g, K_104h_g, K_44h_g, hin]
    have e : x = L.length := by omega
    rw [e, List.take_length, ← hres] at he
    have e1 : F1 = raG cpyS F := congrArg Prod.fst he
    have e2 : m1 = raK cpyS F := congrArg Prod.snd he
    rw [e1, e2]
    exact ⟨⟨rfl, rfl, rfl⟩, rfl⟩
noncomputable def K_62 : Ent Tryz.prog := Ent.p1 (α := Func) 62 (fun F => Enc.good F ∧ goodF F = true) (fun F => .tup [vFunc (raG cpyS F), .d (.int .i64 (raK cpyS F))]) (fun F hc => l16Copies_c F hc.1 hc.2)
theorem K_62_f : K_62.f = 62 := rfl
theorem K_62_e (F0 : Int) (F1 : List Block) : K_62.e [.agg [.d (.int .i64 F0), .d (dBlockS F1)]] = some (Enc.good (Func.mk F0 F1) ∧ goodF (Func.mk F0 F1) = true, .tup [vFunc (raG cpyS (Func.mk F0 F1)), .d (.int .i64 (raK cpyS (Func.mk F0 F1)))], []) := by unfold K_62; exact Ent.p1_eq (α := Func) (Func.mk F0 F1)
noncomputable def K_62h : EntH Tryz.prog := EntH.pk1 (α := Func) 62 (fun F => Enc.good F ∧ goodF F = true) (fun F => .tup [vFunc (raG cpyS F), .d (.int .i64 (raK cpyS F))]) (fun F => []) (fun F hc => PureP.ans (l16Copies_c F hc.1 hc.2))
theorem K_62h_f : K_62h.f = 62 := rfl
theorem K_62h_g : K_62h.gro = true := rfl
theorem K_62h_e {x1 : V} {H : Heap} : K_62h.e [x1] H = guardR ((decA (α := Func) H x1).1) (peekR (Enc.good (decA (α := Func) H x1).2 ∧ goodF (decA (α := Func) H x1).2 = true) (.tup [vFunc (raG cpyS (decA (α := Func) H x1).2), .d (.int .i64 (raK cpyS (decA (α := Func) H x1).2))]) ([]) H) := rfl
end Go.Proofs.YtbmloeahcdneaaaGreat
