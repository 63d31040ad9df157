/- The one value that a parameter of a block always is: of the reference. No condition. -/
import Derived.Test.YtbmloeahcdneaaaGreatQS37
import Derived.Test.YtbmloeahcdneaaaGreatQS57
import Derived.Test.YtbmloeahcdneaaaGreatQS66
import Derived.Test.YtbmloeahcdneaaaGreatQS74
section
namespace Go.Proofs.YtbmloeahcdneaaaGreat
set_option maxRecDepth 100000
set_option linter.unusedSimpArgs false
set_option linter.unusedVariables false
end Go.Proofs.YtbmloeahcdneaaaGreat
end

section
namespace Go.Proofs.YtbmloeahcdneaaaGreat
set_option maxRecDepth 100000
set_option linter.unusedSimpArgs false
set_option linter.unusedVariables false
end Go.Proofs.YtbmloeahcdneaaaGreat
end

section
namespace Go.Proofs.YtbmloeahcdneaaaGreat
set_option maxRecDepth 100000
set_option linter.unusedSimpArgs false
set_option linter.unusedVariables false
structure FE (A : AFunc) (F : Func) (H0 : Heap) (m l : List ABlock) (k : Int) (H : Heap) : Prop where
  own : Own H (⟨A.blocks_.v, m ++ l⟩ : AS ABlock)
  left : l = A.blocks_.l.drop m.length
  sol : ∀ b ∈ m ++ l, solB b
  era : m.map Tr.era = (F.blocks_.take m.length).map (foldB F)
  cnt : k = ((F.blocks_.take m.length).map (foldK F)).sum
  ids : ∀ j ∈ ids (⟨A.blocks_.v, m ++ l⟩ : AS ABlock), j ∈ ids A.blocks_ ∨ H0.length ≤ j
  only : Only (Go.Proofs.YtbmloeahcdneaaaGreat.ids A.blocks_) H0 H
  le : m.length ≤ A.blocks_.l.length
end Go.Proofs.YtbmloeahcdneaaaGreat
end

section
namespace Go.Proofs.YtbmloeahcdneaaaGreat
set_option maxRecDepth 100000
set_option linter.unusedSimpArgs false
set_option linter.unusedVariables false
end Go.Proofs.YtbmloeahcdneaaaGreat
end

section
namespace Go.Proofs.YtbmloeahcdneaaaGreat
set_option maxRecDepth 100000
set_option linter.unusedSimpArgs false
set_option linter.unusedVariables false
theorem l11Single_c (n : Int) (h0 : 0 ≤ n) (h1 : n ≤ 1000) : PureP Tryz.prog 81 [.d (.int .i64 n)] (· = .d (dIntS (sgl n.toNat))) :=
  PureP.of_own ((l11Single_own [] n h0 h1).mono fun r H' ⟨s, e, hs, hn⟩ => by
    have := Rd1.slice hn.own
    rw [era_AS_ints, hs] at this
    rw [e]; exact this)
noncomputable def K_81 : Ent Tryz.prog := Ent.p1 (α := Int) 81 (fun n => 0 ≤ n ∧ n ≤ 1000) (fun n => .d (dIntS (sgl n.toNat))) (fun n hc => l11Single_c n hc.1 hc.2)
theorem K_81_f : K_81.f = 81 := rfl
theorem K_81_e (n : Int) : K_81.e [.d (.int .i64 n)] = some (0 ≤ n ∧ n ≤ 1000, .d (dIntS (sgl n.toNat)), []) := by unfold K_81; exact Ent.p1_eq (α := Int) n
noncomputable def K_81h : EntH Tryz.prog := EntH.pk1 (α := Int) 81 (fun n => 0 ≤ n ∧ n ≤ 1000) (fun n => .d (dIntS (sgl n.toNat))) (fun n => []) (fun n hc => PureP.ans (l11Single_c n hc.1 hc.2))
theorem K_81h_f : K_81h.f = 81 := rfl
theorem K_81h_g : K_81h.gro = true := rfl
theorem K_81h_e {x1 : V} {H : Heap} : K_81h.e [x1] H = guardR ((decA (α := Int) H x1).1) (peekR (0 ≤ (decA (α := Int) H x1).2 ∧ (decA (α := Int) H x1).2 ≤ 1000) (.d (dIntS (sgl (decA (α := Int) H x1).2.toNat))) ([]) H) := rfl
theorem mpF_id {g : Int → Int} {F : Func} (h : ∀ b ∈ F.blocks_, ∀ x ∈ allU b, g x = x) : mpF g F = F := by
  rw [mpF_congr (h := fun x => x) h]
  have e1 : ∀ l : List Int, l.map (fun x => x) = l := fun l => List.map_id' l
  have hI : ∀ x : Inst, mpI (fun x => x) x = x := fun x => by unfold mpI; rw [e1]
  have hJ : ∀ x : Jump, mpJ (fun x => x) x = x := fun x => by unfold mpJ; rw [e1]
  have hIl : ∀ l : List Inst, l.map (mpI fun x => x) = l := fun l => by rw [List.map_congr_left (g := fun x => x) fun x _ => hI x]; exact List.map_id' l
  have hJl : ∀ l : List Jump, l.map (mpJ fun x => x) = l := fun l => by rw [List.map_congr_left (g := fun x => x) fun x _ => hJ x]; exact List.map_id' l
  have hB : ∀ b : Block, mpB (fun x => x) b = b := fun b => by unfold mpB; rw [hIl, hJl]; simp
  unfold mpF
  rw [List.map_congr_left (g := fun x => x) fun b _ => hB b, List.map_id']
theorem l15Own_own (H : Heap) (F : Func) (hF : Enc.good F) (hg : goodF F = true) : CallsD Tryz.prog 98 [vFunc F] H fun r H' => ∃ A : CFunc, r = .agg (Tr.cells A) ∧ Own H' A ∧ Tr.era A = F ∧ Only [] H H' ∧ ∀ j ∈ ids A, H.length ≤ j := by
  obtain ⟨hp, hl, hh, hm, hc, hsu, _⟩ := goodF_spec hg
  have hmany : cntB F.blocks_ F.params_ = many F := rfl
  have h0 : 0 ≤ many F ∧ many F ≤ 1000 := by omega
  refine calls_of Tryz.func98 en_98 rfl (of_decide_eq_true rfl) (W_run mixed ⟨[K_80, K_81], [K_80h, K_81h], [82], 8, H.length, [0, 1, 2], []⟩ (fun | 1 => [0, 1, 2, 3, 4, 5] | _ => []) (by kernel_rfl) ?_)
  simp only [Tryz.f98, stripX, stripOps, pickOps]
  simp [K_80_f, K_80_e, K_81_f, K_81_e, K_80h_f, K_80h_e, K_81h_f, K_81h_e, K_80h_g, K_81h_g, -V.flat, -V.one, one_int, one_bool, one_str, one_nilp, one_rp, one_nilsl, one_ro, one_cl, one_nilf, one_nili, one_ifc, one_ptr, one_sl, one_clo, flat_d, flat_ptr, flat_sl, flat_clo, flat_agg, hF, hmany, h0]
  refine (l15Map_own _ F (sgl (many F).toNat) (by omega) (good_map hg (sgl_len _))).mono ?_
  rintro r H1 ⟨A, rfl, oA, eA, ho, iA⟩
  have hl1 := ho.len
  simp only [List.length_append, List.length_cons, List.length_nil] at hl1
  have iA' : ∀ j ∈ ids A, H.length + 2 ≤ j := fun j hj => by have := iA j hj; simp at this; omega
  have hfl := oA.ok.1.flat
  have hone := oA.ok.1.scl.2
  have k6 : H1[H.length + 1]? = some (.row 2 [[.d (.int .i64 0), .d .nilsl]]) := (ho.at_ _ (by simp) List.not_mem_nil).trans (by simp)
  have s6 : ∀ p, (H1.set (H.length + 1) p)[H.length + 1]? = some p := fun p => List.getElem?_set_self (by omega)
  simp [K_80_f, K_80_e, K_81_f, K_81_e, K_82_f, K_82_e, K_80h_f, K_80h_e, K_81h_f, K_81h_e, K_82h_f, K_82h_e, K_80h_g, K_81h_g, K_82h_g, -V.flat, -V.one, one_int, one_bool, one_str, one_nilp, one_rp, one_nilsl, one_ro, one_cl, one_nilf, one_nili, one_ifc, one_ptr, one_sl, one_clo, flat_d, flat_ptr, flat_sl, flat_clo, flat_agg, hfl, hone, k6, s6, retQ]
  refine ⟨_, _, Fin.same (by simp; omega), A, rfl, oA.frame (S := [H.length + 1]) Only.set fun j hj q => by have := iA' j hj; simp at q; omega, ?_, ⟨by simp; omega, fun j hj _ => ?_⟩, fun j hj => by have := iA' j hj; omega⟩
  · rw [eA]
    refine mpF_id fun b hb x hx => ?_
    have := good_all hg hb x hx
    unfold mapL
    rw [sgl_get (by omega)]
    show ((x.toNat : Nat) : Int) = x
    omega
  · rw [List.getElem?_set_ne (by omega)]
    exact (ho.at_ j (by simp; omega) List.not_mem_nil).trans (List.getElem?_append_left hj)
structure FS (A : CFunc) (F : Func) (H0 : Heap) (m l : List CBlock) (k : Int) (H : Heap) : Prop where
  own : Own H (⟨A.blocks_.v, m ++ l⟩ : AS CBlock)
  left : l = A.blocks_.l.drop m.length
  era : m.map Tr.era = (F.blocks_.take m.length).map (foldB F)
  cnt : k = ((F.blocks_.take m.length).map (foldK F)).sum
  only : Only (Go.Proofs.YtbmloeahcdneaaaGreat.ids A.blocks_) H0 H
  idv : A.blocks_.id ∈ Go.Proofs.YtbmloeahcdneaaaGreat.ids A.blocks_
  idl : ∀ j ∈ Go.Proofs.YtbmloeahcdneaaaGreat.ids (⟨A.blocks_.v, m ++ l⟩ : AS CBlock), j ∈ Go.Proofs.YtbmloeahcdneaaaGreat.ids A.blocks_ ∨ H0.length ≤ j
  le : m.length ≤ A.blocks_.l.length
end Go.Proofs.YtbmloeahcdneaaaGreat
end

section
namespace Go.Proofs.YtbmloeahcdneaaaGreat
set_option maxRecDepth 100000
set_option linter.unusedSimpArgs false
set_option linter.unusedVariables false
theorem l15Own_c (F : Func) (hF : Enc.good F) (hg : goodF F = true) : PureP Tryz.prog 98 [vFunc F] (· = vFunc F) :=
  PureP.of_own ((l15Own_own [] F hF hg).mono fun r H' ⟨A, e, oA, eA, _, _⟩ => by
    have := Rd1.aggs oA rfl
    rw [eA] at this
    rw [e]
    exact this)
noncomputable def K_98 : Ent Tryz.prog := Ent.p1 (α := Func) 98 (fun F => Enc.good F ∧ goodF F = true) (fun F => vFunc F) (fun F hc => l15Own_c F hc.1 hc.2)
theorem K_98_f : K_98.f = 98 := rfl
theorem K_98_e (F0 : Int) (F1 : List Block) : K_98.e [.agg [.d (.int .i64 F0), .d (dBlockS F1)]] = some (Enc.good (Func.mk F0 F1) ∧ goodF (Func.mk F0 F1) = true, vFunc (Func.mk F0 F1), []) := by unfold K_98; exact Ent.p1_eq (α := Func) (Func.mk F0 F1)
noncomputable def K_98h : EntH Tryz.prog := EntH.pk1 (α := Func) 98 (fun F => Enc.good F ∧ goodF F = true) (fun F => vFunc F) (fun F => []) (fun F hc => PureP.ans (l15Own_c F hc.1 hc.2))
theorem K_98h_f : K_98h.f = 98 := rfl
theorem K_98h_g : K_98h.gro = true := rfl
theorem K_98h_e {x1 : V} {H : Heap} : K_98h.e [x1] H = guardR ((decA (α := Func) H x1).1) (peekR (Enc.good (decA (α := Func) H x1).2 ∧ goodF (decA (α := Func) H x1).2 = true) (vFunc (decA (α := Func) H x1).2) ([]) H) := rfl
end Go.Proofs.YtbmloeahcdneaaaGreat
end

section
namespace Go.Proofs.YtbmloeahcdneaaaGreat
set_option maxRecDepth 100000
set_option linter.unusedSimpArgs false
set_option linter.unusedVariables false
theorem first_N {F : Func} (hg : goodF F = true) {k : Nat} (hk : k ≤ F.blocks_.length) : cntB (F.blocks_.take k) F.params_ = (fstN F k : Int) := by
  obtain ⟨hp, hl, hh, hm, hc, hs, _⟩ := goodF_spec hg
  have e : ((F.params_.toNat : Nat) : Int) = F.params_ := by omega
  have ht : (F.blocks_.take k).all headOk = true := List.all_eq_true.2 fun b hb => List.all_eq_true.1 hh b (List.mem_of_mem_take hb)
  have hlt : (F.blocks_.take k).length = k := by rw [List.length_take]; omega
  rw [← e, cntB_N _ _ ht (by omega), hlt]
  unfold fstN offN
  rw [List.take_take, Nat.min_self]
theorem fstN_le {F : Func} (hg : goodF F = true) {k : Nat} (hk : k ≤ F.blocks_.length) : fstN F k ≤ 80 := by
  have := (lay hg).many
  have := many_rng hg
  have := fstN_mono F hk
  omega
theorem l16Copy_c (F : Func) (k : Int) (i : Nat) (hF : Enc.good F) (hg : goodF F = true) (he : Ent0 F k i) : PureP Tryz.prog 118 [vFunc F, .d (.int .i64 k), .d (.int .i64 i)] (· = .d (.int .i64 (cpC F k i))) := by
  have hL := lay hg
  obtain ⟨m0, m80⟩ := many_rng hg
  have hf := good_flow hg
  obtain ⟨hf1, hf2, hf3⟩ := hf
  obtain ⟨a1, a2⟩ := allS_ok (good_flow hg)
  have h8 := hL.len.1
  have hk00 := he.k0
  have hkl := he.k1
  have hcf : cntB (F.blocks_.take k.toNat) F.params_ = (fstN F k.toNat : Int) := first_N hg (by omega)
  have hfl80 := fstN_le hg (k := k.toNat) (by omega)
  have hi4 : i ≤ 4 := by have := he.i1; have := blk_head hg (k := k.toNat) (by omega); omega
  have hown : ownN F k i = (fstN F k.toNat : Int) + i := by unfold ownN; omega
  have hw : IntKind.i64.wrap ((fstN F k.toNat : Int) + (i : Int)) = ownN F k i := by rw [hown, wrap_id] <;> omega
  have hktl : k.toNat ≤ F.blocks_.length := by omega
  have h0l : (0 : Int) < F.blocks_.length := by omega
  have hRn : cpC F k i = cpE F k (cpO F k i) := rfl
  have hR : cpO F k i = cpL F k i (ownN F k i) (fromL F 0 (-1)) (-1) := rfl
  rw [hRn]
  refine pure_of Tryz.func118 en_118 rfl rfl (W_run mixed ⟨[K_104, K_103, K_132, K_133], [K_104h, K_103h, K_132h, K_133h], [], 79, 0, [0, 1, 2, 3, 6, 7, 8, 10, 12, 19, 20, 21, 22, 30, 31, 32, 33, 57, 59, 77], [22, 33, 40, 49, 57, 59, 69, 77]⟩ (fun | 15 => [0, 1, 2, 6, 7, 3, 4, 5, 8, 9, 10] | _ => []) (by kernel_rfl) ?_)
  simp only [Tryz.f118, stripX, stripOps, pickOps]
  simp [K_104_f, K_104_e, K_103_f, K_103_e, K_132_f, K_132_e, K_133_f, K_133_e, K_104h_f, K_104h_e, K_103h_f, K_103h_e, K_132h_f, K_132h_e, K_133h_f, K_133h_e, K_104h_g, K_103h_g, K_132h_g, K_133h_g, hF, hk00, hkl, hktl, hcf, hw, hf1, hf2, hf3, h0l]
  generalize cpO F k i = R at hR ⊢
  generalize hvv : ownN F k i = v at *
  have hfm := fun x => from_mem (x := x) hg
  have hL8 : (fromL F 0 (-1)).length ≤ 8 := fromL_len hf2 0 (-1)
  generalize hLf : fromL F 0 (-1) = L at *
  refine W_loopH (α := Nat × Int × Heap) (fun a => [(1, .d (.int .i64 k)), (2, .d (.int .i64 i)), (3, .ptr 0 2 0 0), (7, .d (.int .i64 v)), (8, .d (.int .i64 a.2.1)), (19, .d (dIntS L)), (20, .d (.int .i64 L.length)), (21, .d (.int .i64 a.1))]) (fun a => a.2.2)
    (fun a => a.1 ≤ L.length ∧ one1 F a.2.1 ∧ cpL F k i v (L.drop a.1) a.2.1 = R ∧ Only [] [.row 2 [[.d (.int .i64 F.params_), .d (dBlockS F.blocks_)]]] a.2.2) (fun a => L.length - a.1) (0, -1, _) ?_ ⟨Nat.zero_le _, .inl rfl, hR.symm, Only.refl _ _⟩ ?_
  · simp
  rintro ⟨x, one, H1⟩ ⟨hx, h1, hcp, ho1⟩
  simp only [] at hx h1 hcp ho1
  have hol := ho1.len
  simp only [List.length_cons, List.length_nil] at hol
  have c0 : H1[0]? = some (.row 2 [[.d (.int .i64 F.params_), .d (dBlockS F.blocks_)]]) := ho1.at_ 0 (by simp) List.not_mem_nil
  by_cases hin : x < L.length
  · have hf := hfm (L[x]?.getD default) (by rw [List.getElem?_eq_getElem hin]; exact List.getElem_mem hin)
    rw [drop_cons hin, cpL] at hcp
    generalize hfx : L[x]?.getD default = f at *
    have hfx0 : L[x]?.getD 0 = f := hfx
    have hfx' : ∀ h : x < L.length, L[x] = f := fun h => by rw [← hfx, List.getElem?_eq_getElem h]; rfl
    have hfl : f < (F.blocks_.length : Int) := hf.2
    have hfb : F.blocks_[f.toNat]?.getD default ∈ F.blocks_ := by rw [List.getElem?_eq_getElem (by omega)]; exact List.getElem_mem _
    have hj2 : (jmps F f).length ≤ 2 := ((good_flow hg).1.2 _ hfb)
    have hjm : (F.blocks_[f.toNat]?.getD default).jumps_ = jmps F f := rfl
    have hjm' : ∀ h : f.toNat < F.blocks_.length, F.blocks_[f.toNat].jumps_ = jmps F f := fun h => by rw [← hjm, List.getElem?_eq_getElem h]; rfl
    have wx : IntKind.i64.wrap ((x : Int) + 1) = ((x + 1 : Nat) : Int) := by rw [wrap_id] <;> omega
    refine W_run mixed ⟨[K_104, K_103, K_132, K_133], [K_104h, K_103h, K_132h, K_133h], [], 79, 0, [0, 1, 2, 3, 6, 7, 8, 10, 12, 19, 20, 21, 22, 30, 31, 32, 33, 57, 59, 77], [22, 33, 40, 49, 57, 59, 69, 77]⟩ (fun | 15 => [0, 1, 2, 6, 7, 3, 4, 5, 8, 9, 10] | _ => []) (by kernel_rfl) ?_
    simp only [stripX, stripOps, pickOps]
    simp [K_104_f, K_104_e, K_103_f, K_103_e, K_132_f, K_132_e, K_133_f, K_133_e, K_104h_f, K_104h_e, K_103h_f, K_103h_e, K_132h_f, K_132h_e, K_133h_f, K_133h_e, K_104h_g, K_103h_g, K_132h_g, K_133h_g, hin, hfx, hfx0, hfx', hf, hfl, hjm, hjm', c0]
    generalize hjs : jmps F f = js at *
    have hjb : ∀ j ∈ js, j.to_ = k → i < j.args_.length ∧ 0 ≤ j.args_[i]?.getD 0 ∧ j.args_[i]?.getD 0 < many F := fun j hj ht => jump_arg hg he hfb (by rw [← hjs] at hj; exact hj) ht
    refine W_loopH (α := Nat × Int × Heap) (fun a => [(1, .d (.int .i64 k)), (2, .d (.int .i64 i)), (3, .ptr 0 2 0 0), (7, .d (.int .i64 v)), (8, .d (.int .i64 a.2.1)), (19, .d (dIntS L)), (20, .d (.int .i64 L.length)), (21, .d (.int .i64 x)), (30, .d (dJumpS js)), (31, .d (.int .i64 js.length)), (32, .d (.int .i64 a.1))]) (fun a => a.2.2)
      (fun a => a.1 ≤ js.length ∧ one1 F a.2.1 ∧ (cpJ k i v (js.drop a.1) a.2.1).bind (cpL F k i v (L.drop (x + 1))) = R ∧ Only [] [.row 2 [[.d (.int .i64 F.params_), .d (dBlockS F.blocks_)]]] a.2.2) (fun a => js.length - a.1) (0, one, H1) ?_ ⟨Nat.zero_le _, h1, hcp, ho1⟩ ?_
    · simp
    rintro ⟨y, one2, H2⟩ ⟨hy, h2, hcq, ho2⟩
    simp only [] at hy h2 hcq ho2
    by_cases hyn : y < js.length
    · have wy : IntKind.i64.wrap ((y : Int) + 1) = ((y + 1 : Nat) : Int) := by rw [wrap_id] <;> omega
      have hjm2 : js[y]?.getD default ∈ js := by rw [List.getElem?_eq_getElem hyn]; exact List.getElem_mem hyn
      have hjq := hjb _ hjm2
      rw [drop_cons hyn, cpJ] at hcq
      generalize hjy : js[y]?.getD default = j at *
      have hjy' : ∀ h : y < js.length, js[y] = j := fun h => by rw [← hjy, List.getElem?_eq_getElem h]; rfl
      by_cases hto : j.to_ = k
      · obtain ⟨ia, a0, a1⟩ := hjq hto
        generalize haa : j.args_[i]?.getD 0 = aa at *
        have haa' : ∀ h : i < j.args_.length, j.args_[i] = aa := fun h => by rw [← haa, List.getElem?_eq_getElem h]; rfl
        by_cases hav : aa = v
        · rw [if_neg fun q => q.2.1 hav] at hcq
          refine W_run mixed ⟨[K_104, K_103, K_132, K_133], [K_104h, K_103h, K_132h, K_133h], [], 79, 0, [0, 1, 2, 3, 6, 7, 8, 10, 12, 19, 20, 21, 22, 30, 31, 32, 33, 57, 59, 77], [22, 33, 40, 49, 57, 59, 69, 77]⟩ (fun | 15 => [0, 1, 2, 6, 7, 3, 4, 5, 8, 9, 10] | _ => []) (by kernel_rfl) ?_
          simp only [stripX, stripOps, pickOps]
          simp [K_104_f, K_104_e, K_103_f, K_103_e, K_132_f, K_132_e, K_133_f, K_133_e, K_104h_f, K_104h_e, K_103h_f, K_103h_e, K_132h_f, K_132h_e, K_133h_f, K_133h_e, K_104h_g, K_103h_g, K_132h_g, K_133h_g, hyn, hjy, hjy', hto, ia, haa, haa', hav]
          exact ⟨y + 1, one2, _, ⟨by omega, h2, hcq, only_more ho2⟩, by omega, rfl, rfl, wy⟩
        · by_cases hao : aa = one2
          · rw [if_neg fun q => q.2.2 hao] at hcq
            have hov : ¬ one2 = v := fun q => hav (hao.trans q)
            refine W_run mixed ⟨[K_104, K_103, K_132, K_133], [K_104h, K_103h, K_132h, K_133h], [], 79, 0, [0, 1, 2, 3, 6, 7, 8, 10, 12, 19, 20, 21, 22, 30, 31, 32, 33, 57, 59, 77], [22, 33, 40, 49, 57, 59, 69, 77]⟩ (fun | 15 => [0, 1, 2, 6, 7, 3, 4, 5, 8, 9, 10] | _ => []) (by kernel_rfl) ?_
            simp only [stripX, stripOps, pickOps]
            simp [K_104_f, K_104_e, K_103_f, K_103_e, K_132_f, K_132_e, K_133_f, K_133_e, K_104h_f, K_104h_e, K_103h_f, K_103h_e, K_132h_f, K_132h_e, K_133h_f, K_133h_e, K_104h_g, K_103h_g, K_132h_g, K_133h_g, hyn, hjy, hjy', hto, ia, haa, haa', hav, hao, hov]
            exact ⟨y + 1, one2, _, ⟨by omega, h2, hcq, only_more ho2⟩, by omega, rfl, rfl, wy⟩
          · rw [if_pos ⟨hto, hav, hao⟩] at hcq
            by_cases h0 : 0 ≤ one2
            · rw [if_pos h0] at hcq
              refine W_run mixed ⟨[K_104, K_103, K_132, K_133], [K_104h, K_103h, K_132h, K_133h], [], 79, 0, [0, 1, 2, 3, 6, 7, 8, 10, 12, 19, 20, 21, 22, 30, 31, 32, 33, 57, 59, 77], [22, 33, 40, 49, 57, 59, 69, 77]⟩ (fun | 15 => [0, 1, 2, 6, 7, 3, 4, 5, 8, 9, 10] | _ => []) (by kernel_rfl) ?_
              simp only [stripX, stripOps, pickOps]
              simp [K_104_f, K_104_e, K_103_f, K_103_e, K_132_f, K_132_e, K_133_f, K_133_e, K_104h_f, K_104h_e, K_103h_f, K_103h_e, K_132h_f, K_132h_e, K_133h_f, K_133h_e, K_104h_g, K_103h_g, K_132h_g, K_133h_g, hyn, hjy, hjy', hto, ia, haa, haa', hav, hao, h0]
              rw [← hcq]; rfl
            · rw [if_neg h0] at hcq
              refine W_run mixed ⟨[K_104, K_103, K_132, K_133], [K_104h, K_103h, K_132h, K_133h], [], 79, 0, [0, 1, 2, 3, 6, 7, 8, 10, 12, 19, 20, 21, 22, 30, 31, 32, 33, 57, 59, 77], [22, 33, 40, 49, 57, 59, 69, 77]⟩ (fun | 15 => [0, 1, 2, 6, 7, 3, 4, 5, 8, 9, 10] | _ => []) (by kernel_rfl) ?_
              simp only [stripX, stripOps, pickOps]
              simp [K_104_f, K_104_e, K_103_f, K_103_e, K_132_f, K_132_e, K_133_f, K_133_e, K_104h_f, K_104h_e, K_103h_f, K_103h_e, K_132h_f, K_132h_e, K_133h_f, K_133h_e, K_104h_g, K_103h_g, K_132h_g, K_133h_g, hyn, hjy, hjy', hto, ia, haa, haa', hav, hao, h0]
              exact ⟨y + 1, aa, _, ⟨by omega, .inr ⟨a0, a1⟩, hcq, only_more ho2⟩, by omega, rfl, rfl, wy⟩
      · rw [if_neg fun q => hto q.1] at hcq
        refine W_run mixed ⟨[K_104, K_103, K_132, K_133], [K_104h, K_103h, K_132h, K_133h], [], 79, 0, [0, 1, 2, 3, 6, 7, 8, 10, 12, 19, 20, 21, 22, 30, 31, 32, 33, 57, 59, 77], [22, 33, 40, 49, 57, 59, 69, 77]⟩ (fun | 15 => [0, 1, 2, 6, 7, 3, 4, 5, 8, 9, 10] | _ => []) (by kernel_rfl) ?_
        simp only [stripX, stripOps, pickOps]
        simp [K_104_f, K_104_e, K_103_f, K_103_e, K_132_f, K_132_e, K_133_f, K_133_e, K_104h_f, K_104h_e, K_103h_f, K_103h_e, K_132h_f, K_132h_e, K_133h_f, K_133h_e, K_104h_g, K_103h_g, K_132h_g, K_133h_g, hyn, hjy, hjy', hto]
        exact ⟨y + 1, one2, _, ⟨by omega, h2, hcq, only_more ho2⟩, by omega, rfl, rfl, wy⟩
    · have e : y = js.length := by omega
      rw [e, List.drop_length, cpJ] at hcq
      refine W_run mixed ⟨[K_104, K_103, K_132, K_133], [K_104h, K_103h, K_132h, K_133h], [], 79, 0, [0, 1, 2, 3, 6, 7, 8, 10, 12, 19, 20, 21, 22, 30, 31, 32, 33, 57, 59, 77], [22, 33, 40, 49, 57, 59, 69, 77]⟩ (fun | 15 => [0, 1, 2, 6, 7, 3, 4, 5, 8, 9, 10] | _ => []) (by kernel_rfl) ?_
      simp only [stripX, stripOps, pickOps]
      simp [K_104_f, K_104_e, K_103_f, K_103_e, K_132_f, K_132_e, K_133_f, K_133_e, K_104h_f, K_104h_e, K_103h_f, K_103h_e, K_132h_f, K_132h_e, K_133h_f, K_133h_e, K_104h_g, K_103h_g, K_132h_g, K_133h_g, hyn]
      exact ⟨x + 1, one2, H2, ⟨by omega, h2, hcq, ho2⟩, by omega, rfl, rfl, wx⟩
  · have e : x = L.length := by omega
    rw [e, List.drop_length, cpL] at hcp
    refine W_run mixed ⟨[K_104, K_103, K_132, K_133], [K_104h, K_103h, K_132h, K_133h], [], 79, 0, [0, 1, 2, 3, 6, 7, 8, 10, 12, 19, 20, 21, 22, 30, 31, 32, 33, 57, 59, 77], [22, 33, 40, 49, 57, 59, 69, 77]⟩ (fun | 15 => [0, 1, 2, 6, 7, 3, 4, 5, 8, 9, 10] | _ => []) (by kernel_rfl) ?_
    simp only [stripX, stripOps, pickOps]
    simp [K_104_f, K_104_e, K_103_f, K_103_e, K_132_f, K_132_e, K_133_f, K_133_e, K_104h_f, K_104h_e, K_103h_f, K_103h_e, K_132h_f, K_132h_e, K_133h_f, K_133h_e, K_104h_g, K_103h_g, K_132h_g, K_133h_g, hin, hF, hf1, hf2, hf3, a1, a2, hk00, hkl, c0]
    rw [← hcp]
    refine ⟨fun q => by simp only [cpE]; rw [if_neg fun w => by omega], fun q => ⟨good_flow hg, a2, fun w => by simp only [cpE]; rw [if_neg fun z => by rw [w] at z; exact absurd z.2 (by decide)], fun w => by simp only [cpE]; rw [if_pos ⟨q, w⟩]⟩⟩
noncomputable def K_118 : Ent Tryz.prog := Ent.p3 (α := Func) (β := Int) (γ := Int) 118 (fun F k i => Enc.good F ∧ goodF F = true ∧ 0 ≤ i ∧ Ent0 F k i.toNat) (fun F k i => .d (.int .i64 (cpC F k i.toNat))) (fun F k i hc => (by
    obtain ⟨c1, c2, c3, c4⟩ := hc
    have := l16Copy_c F k i.toNat c1 c2 c4
    rwa [Int.toNat_of_nonneg c3] at this))
theorem K_118_f : K_118.f = 118 := rfl
theorem K_118_e (F0 : Int) (F1 : List Block) (k : Int) (i : Int) : K_118.e [.agg [.d (.int .i64 F0), .d (dBlockS F1)], .d (.int .i64 k), .d (.int .i64 i)] = some (Enc.good (Func.mk F0 F1) ∧ goodF (Func.mk F0 F1) = true ∧ 0 ≤ i ∧ Ent0 (Func.mk F0 F1) k i.toNat, .d (.int .i64 (cpC (Func.mk F0 F1) k i.toNat)), []) := by unfold K_118; exact Ent.p3_eq (α := Func) (β := Int) (γ := Int) (Func.mk F0 F1) k i
noncomputable def K_118h : EntH Tryz.prog := EntH.pk3 (α := Func) (β := Int) (γ := Int) 118 (fun F k i => Enc.good F ∧ goodF F = true ∧ 0 ≤ i ∧ Ent0 F k i.toNat) (fun F k i => .d (.int .i64 (cpC F k i.toNat))) (fun F k i => []) (fun F k i hc => PureP.ans ((by
    obtain ⟨c1, c2, c3, c4⟩ := hc
    have := l16Copy_c F k i.toNat c1 c2 c4
    rwa [Int.toNat_of_nonneg c3] at this)))
theorem K_118h_f : K_118h.f = 118 := rfl
theorem K_118h_g : K_118h.gro = true := rfl
theorem K_118h_e {x1 x2 x3 : V} {H : Heap} : K_118h.e [x1, x2, x3] H = guardR ((decA (α := Func) H x1).1 ∧ (decA (α := Int) H x2).1 ∧ (decA (α := Int) H x3).1) (peekR (Enc.good (decA (α := Func) H x1).2 ∧ goodF (decA (α := Func) H x1).2 = true ∧ 0 ≤ (decA (α := Int) H x3).2 ∧ Ent0 (decA (α := Func) H x1).2 (decA (α := Int) H x2).2 (decA (α := Int) H x3).2.toNat) (.d (.int .i64 (cpC (decA (α := Func) H x1).2 (decA (α := Int) H x2).2 (decA (α := Int) H x3).2.toNat))) ([]) H) := rfl
end Go.Proofs.YtbmloeahcdneaaaGreat
end
