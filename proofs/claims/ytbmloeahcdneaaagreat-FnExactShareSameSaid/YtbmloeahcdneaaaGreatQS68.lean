/- What loads load and earlier values are values; a function made anew as it is. No condition. -/
import Derived.Test.YtbmloeahcdneaaaGreatQS23
import Derived.Test.YtbmloeahcdneaaaGreatQS24
import Derived.Test.YtbmloeahcdneaaaGreatQS57
import Derived.Test.YtbmloeahcdneaaaGreatQS66
section
namespace Go.Proofs.YtbmloeahcdneaaaGreat
set_option maxRecDepth 100000
set_option linter.unusedSimpArgs false
set_option linter.unusedVariables false
theorem place_facts {F : Func} {n : Int} (h : goodF F = true) (h0 : 0 ≤ n) (h1 : n < many F) (hb : 0 ≤ bk (viewD F) n) (ha : 0 ≤ atV (viewD F) n) :
    blkAt (viewD F) n ∈ F.blocks_ ∧ bk (viewD F) n < F.blocks_.length ∧ atV (viewD F) n < (blkAt (viewD F) n).insts_.length ∧ IntKind.i64.wrap (n - atV (viewD F) n) = fsV (viewD F) (bk (viewD F) n) := by
  obtain ⟨hp, hl, hh, hm, hc, hs, _⟩ := goodF_spec h
  obtain ⟨e1, e2⟩ := inst_same h h0 h1 hb ha
  obtain ⟨r1, r2, r3⟩ := instS_ok (isVal_of h h0 h1) (by rw [e1]; exact hb)
  rw [e1] at r1 r3
  have hbm : blkAt (viewD F) n ∈ F.blocks_ := by
    show F.blocks_[(bk (viewD F) n).toNat]?.getD default ∈ F.blocks_
    rw [List.getElem?_eq_getElem (by omega)]; exact List.getElem_mem _
  refine ⟨hbm, r1, r3, ?_⟩
  obtain ⟨p0, p1, p2, e, x1, x2⟩ := headOk_sz (List.all_eq_true.1 hh _ hbm)
  have hf : (viewD F).first_[(bk (viewD F) n).toNat]?.getD 0 = cntB (F.blocks_.take (bk (viewD F) n).toNat) F.params_ := by
    show (firsts F.blocks_ F.params_)[(bk (viewD F) n).toNat]?.getD 0 = _
    rw [firsts_get _ _ _ (by omega)]; rfl
  have htk : (F.blocks_.take (bk (viewD F) n).toNat).all headOk = true := List.all_eq_true.2 fun x hx => List.all_eq_true.1 hh x (List.mem_of_mem_take hx)
  have hlen : (F.blocks_.take (bk (viewD F) n).toNat).length ≤ 8 := by rw [List.length_take]; omega
  obtain ⟨c1, c2, c3⟩ := cntB_sum (F.blocks_.take (bk (viewD F) n).toNat) F.params_ htk hp.1 (by omega)
  have ea : atV (viewD F) n = IntKind.i64.wrap (IntKind.i64.wrap (n - (viewD F).first_[(bk (viewD F) n).toNat]?.getD 0) - (blkAt (viewD F) n).params_) := rfl
  have ef : fsV (viewD F) (bk (viewD F) n) = IntKind.i64.wrap ((viewD F).first_[(bk (viewD F) n).toNat]?.getD 0 + (blkAt (viewD F) n).params_) := rfl
  rw [hf] at ea ef
  generalize cntB (F.blocks_.take (bk (viewD F) n).toNat) F.params_ = c at *
  rw [wrap_sub (a := n) (by omega) (by omega), wrap_sub (by omega) (by omega)] at ea
  rw [wrap_id (n := c + _) (by omega) (by omega)] at ef
  rw [ef, wrap_sub (by omega) (by omega)]
  omega
theorem okM_good {F : Func} {n : Int} (h : goodF F = true) (h0 : 0 ≤ n) (h1 : n < many F) : OkM (viewD F) n := by
  refine ⟨(view_spec h h0 h1).1, fun hb ha => ?_⟩
  obtain ⟨q1, q2, q3, _⟩ := place_facts h h0 h1 hb ha
  refine ⟨?_, q2, q3, (good_vals h q1).1, good_mem h q1⟩
  show bk (viewD F) n < ((firsts F.blocks_ F.params_).length : Int)
  rw [firsts_len]; exact q2
theorem isOp_same {F : Func} {n op : Int} (h : goodF F = true) (h0 : 0 ≤ n) (h1 : n < many F) : isOpV (viewD F) n op = isOpS F n op := by
  unfold isOpV isOpS
  rcases (view_spec h h0 h1).2 with ⟨q1, _, q2⟩ | ⟨q1, _, _, q3, _, q2⟩
  · rw [q1, q2]; rfl
  · by_cases ha : 0 ≤ atV (viewD F) n
    · obtain ⟨e1, e2⟩ := inst_same h h0 h1 q1 ha
      rw [e2, e1]
      simp [ha]
    · rw [if_neg ha] at q2
      rw [q2]
      simp [ha]
theorem op_places {F : Func} {n op : Int} (h : goodF F = true) (h0 : 0 ≤ n) (h1 : n < many F) (ho : isOpV (viewD F) n op = true) :
    opPl F n op = atV (viewD F) n ∧ insL F n op = (blkAt (viewD F) n).insts_ ∧ arg0 F n op = (instI (viewD F) n).args_[0]?.getD 0 ∧ ∀ i, vfS F n op i = vfV (viewD F) n i := by
  have hs := isOp_same (op := op) h h0 h1
  rw [ho] at hs
  obtain ⟨b0, a0, _⟩ := isOpV_t ho
  obtain ⟨e1, e2⟩ := inst_same h h0 h1 b0 a0
  obtain ⟨q1, q2, q3, q4⟩ := place_facts h h0 h1 b0 a0
  have eb : opBl F n op = bk (viewD F) n := by unfold opBl; rw [if_pos hs.symm, e1]
  have ep : opPl F n op = atV (viewD F) n := by unfold opPl; rw [if_pos hs.symm, e1]
  have ei : insL F n op = (blkAt (viewD F) n).insts_ := by unfold insL; rw [eb]; rfl
  refine ⟨ep, ei, ?_, fun i => ?_⟩
  · unfold arg0; rw [ei, ep]; rfl
  · unfold vfS vfV; rw [ep, q4]
theorem src_same {F : Func} {n : Int} (h : goodF F = true) (h0 : 0 ≤ n) (h1 : n < many F) : srcV (viewD F) n = srcS F n := by
  have hs := isOp_same (op := 12) h h0 h1
  unfold srcV srcS
  cases ho : isOpV (viewD F) n 12 with
  | false => rw [ho] at hs; rw [← hs]; rfl
  | true =>
    obtain ⟨e1, e2, e3, e4⟩ := op_places h h0 h1 ho
    have ef : vfS F n 12 = vfV (viewD F) n := funext e4
    rw [ho] at hs
    rw [← hs, e1, e2, e3, ef]
end Go.Proofs.YtbmloeahcdneaaaGreat
end

section
namespace Go.Proofs.YtbmloeahcdneaaaGreat
set_option maxRecDepth 100000
set_option linter.unusedSimpArgs false
set_option linter.unusedVariables false
theorem many_small {F : Func} (h : goodF F = true) : 0 ≤ many F ∧ many F ≤ 80 := by
  obtain ⟨hp, hl, hh, hm, hc, hs, _⟩ := goodF_spec h
  omega
theorem pure_place {F : Func} {n : Int} (h : goodF F = true) (h0 : 0 ≤ n) (h1 : n < many F) (hp : pureV (viewD F) n = true) : (0 ≤ bk (viewD F) n ∧ bk (viewD F) n < F.blocks_.length) ∧ 0 ≤ atV (viewD F) n ∧ instS F n F.blocks_ 0 = (bk (viewD F) n, atV (viewD F) n) := by
  simp only [pureV, Bool.and_eq_true, decide_eq_true_eq] at hp
  obtain ⟨e1, e2⟩ := inst_same h h0 h1 hp.1 hp.2.1
  have := (instS_ok (isVal_of h h0 h1) (by rw [e1]; exact hp.1)).1
  rw [e1] at this
  exact ⟨⟨hp.1, this⟩, hp.2.1, e1⟩
theorem okE_good {F : Func} {n : Int} (h : goodF F = true) (h0 : 0 ≤ n) (h1 : n < many F) : OkE (waysV (viewD F)) n := by
  have hm := many_small h
  refine ⟨⟨h0, h1⟩, hm.2, fun k k0 k1 => ⟨(view_spec h k0 k1).1, pureV_args h k0 k1, fun hp => ?_⟩, fun hp => ?_⟩
  · obtain ⟨⟨q0, q1⟩, _⟩ := pure_place h h0 h1 hp
    exact okW_good h k0 k1 q0 q1
  · obtain ⟨⟨q0, q1⟩, _⟩ := pure_place h h0 h1 hp
    show bk (viewD F) n < ((rchB (nextL F.blocks_) 0 (-1)).length : Int)
    simpa [rchB, nextL] using q1
theorem allS_ne {F : Func} {b : Nat} (hb : b < F.blocks_.length) : (allS F)[b]?.getD default = [] ↔ hasL (allR F) b = false := by
  have key := allS_get (F := F) hb hb
  constructor
  · intro e
    cases hr : hasL (allR F) b with
    | false => rfl
    | true =>
      rw [← all_same hb, rchB_get (by simpa [nextL] using hb)] at hr
      have := key.2 ⟨hr, hr, fun q => q.ne rfl⟩
      rw [e] at this
      simp [hasL] at this
  · intro e
    have e' : ¬ (b : Int) ∈ allR F := fun q => by rw [hasL_iff.2 q] at e; cases e
    simp [allS, hb, e']
theorem ear_same {F : Func} {n : Int} (h : goodF F = true) (h0 : 0 ≤ n) (h1 : n < many F) : earW (waysV (viewD F)) n = earS F n := by
  have hp := pure_same h h0 h1
  have ev : (waysV (viewD F)).view_.v = viewD F := rfl
  unfold earW
  rw [ev]
  cases hq : pureV (viewD F) n with
  | false =>
    rw [if_neg (by decide)]
    rw [hq] at hp
    have hno : ∀ (k i : Nat), firstP (earP F n) i k = -1 := by
      intro k
      induction k with
      | zero => intro i; rfl
      | succ k ih =>
        intro i
        have : earP F n i = false := by simp [earP, sameS, ← hp]
        simp only [firstP]
        rw [if_neg (by rw [this]; decide), ih]
    unfold earS
    rw [hno]
    split
    · rfl
    · split <;> rfl
  | true =>
    obtain ⟨⟨q0, q1⟩, q2, q3⟩ := pure_place h h0 h1 hq
    have hm := many_small h
    have ea : (waysV (viewD F)).all_ = rchB (nextL F.blocks_) 0 (-1) := rfl
    have e3 : (((bk (viewD F) n).toNat : Nat) : Int) = bk (viewD F) n := by omega
    have hal := all_same (F := F) (b := (bk (viewD F) n).toNat) (by omega)
    have hne := allS_ne (F := F) (b := (bk (viewD F) n).toNat) (by omega)
    rw [if_pos rfl, ea, hal]
    have eS : earS F n = if (allS F)[(bk (viewD F) n).toNat]?.getD default = [] then -1 else firstP (earP F n) 0 (many F).toNat := by
      unfold earS
      rw [q3]
      exact if_neg (by show ¬ bk (viewD F) n < 0; omega)
    rw [eS]
    cases hr : hasL (allR F) ((bk (viewD F) n).toNat : Nat) with
    | false => rw [if_neg (by decide), if_pos (hne.2 hr)]
    | true =>
      rw [if_pos rfl, if_neg (fun e => by rw [hne.1 e] at hr; cases hr)]
      refine firstP_congr _ _ fun j hj1 hj2 => ?_
      have j1 : (j : Int) < many F := by
        have : (viewD F).total_ = many F := rfl
        rw [this] at hj2; omega
      unfold earQ earP
      rw [ev, q3, same_same h (by omega) j1 h0 h1, there_same h (by omega) j1 q0 q1]
end Go.Proofs.YtbmloeahcdneaaaGreat
end

section
namespace Go.Proofs.YtbmloeahcdneaaaGreat
set_option maxRecDepth 100000
set_option linter.unusedSimpArgs false
set_option linter.unusedVariables false
structure FE (A : AFunc) (F : Func) (H0 : Heap) (m l : List ABlock) (k : Int) (H : Heap) : Prop where
  own : Own H (⟨A.blocks_.v, m ++ l⟩ : AS ABlock)
  left : l = A.blocks_.l.drop m.length
  sol : ∀ b ∈ m ++ l, solB b
  era : m.map Tr.era = (F.blocks_.take m.length).map (foldB F)
  cnt : k = ((F.blocks_.take m.length).map (foldK F)).sum
  ids : ∀ j ∈ ids (⟨A.blocks_.v, m ++ l⟩ : AS ABlock), j ∈ ids A.blocks_ ∨ H0.length ≤ j
  only : Only (Go.Proofs.YtbmloeahcdneaaaGreat.ids A.blocks_) H0 H
  le : m.length ≤ A.blocks_.l.length
end Go.Proofs.YtbmloeahcdneaaaGreat
end

section
namespace Go.Proofs.YtbmloeahcdneaaaGreat
set_option maxRecDepth 100000
set_option linter.unusedSimpArgs false
set_option linter.unusedVariables false
end Go.Proofs.YtbmloeahcdneaaaGreat
end

section
namespace Go.Proofs.YtbmloeahcdneaaaGreat
set_option maxRecDepth 100000
set_option linter.unusedSimpArgs false
set_option linter.unusedVariables false
theorem l11Single_c (n : Int) (h0 : 0 ≤ n) (h1 : n ≤ 1000) : PureP Tryz.prog 81 [.d (.int .i64 n)] (· = .d (dIntS (sgl n.toNat))) :=
  PureP.of_own ((l11Single_own [] n h0 h1).mono fun r H' ⟨s, e, hs, hn⟩ => by
    have := Rd1.slice hn.own
    rw [era_AS_ints, hs] at this
    rw [e]; exact this)
noncomputable def K_81 : Ent Tryz.prog := Ent.p1 (α := Int) 81 (fun n => 0 ≤ n ∧ n ≤ 1000) (fun n => .d (dIntS (sgl n.toNat))) (fun n hc => l11Single_c n hc.1 hc.2)
theorem K_81_f : K_81.f = 81 := rfl
theorem K_81_e (n : Int) : K_81.e [.d (.int .i64 n)] = some (0 ≤ n ∧ n ≤ 1000, .d (dIntS (sgl n.toNat)), []) := by unfold K_81; exact Ent.p1_eq (α := Int) n
noncomputable def K_81h : EntH Tryz.prog := EntH.pk1 (α := Int) 81 (fun n => 0 ≤ n ∧ n ≤ 1000) (fun n => .d (dIntS (sgl n.toNat))) (fun n => []) (fun n hc => PureP.ans (l11Single_c n hc.1 hc.2))
theorem K_81h_f : K_81h.f = 81 := rfl
theorem K_81h_g : K_81h.gro = true := rfl
theorem K_81h_e {x1 : V} {H : Heap} : K_81h.e [x1] H = guardR ((decA (α := Int) H x1).1) (peekR (0 ≤ (decA (α := Int) H x1).2 ∧ (decA (α := Int) H x1).2 ≤ 1000) (.d (dIntS (sgl (decA (α := Int) H x1).2.toNat))) ([]) H) := rfl
theorem mpF_id {g : Int → Int} {F : Func} (h : ∀ b ∈ F.blocks_, ∀ x ∈ allU b, g x = x) : mpF g F = F := by
  rw [mpF_congr (h := fun x => x) h]
  have e1 : ∀ l : List Int, l.map (fun x => x) = l := fun l => List.map_id' l
  have hI : ∀ x : Inst, mpI (fun x => x) x = x := fun x => by unfold mpI; rw [e1]
  have hJ : ∀ x : Jump, mpJ (fun x => x) x = x := fun x => by unfold mpJ; rw [e1]
  have hIl : ∀ l : List Inst, l.map (mpI fun x => x) = l := fun l => by rw [List.map_congr_left (g := fun x => x) fun x _ => hI x]; exact List.map_id' l
  have hJl : ∀ l : List Jump, l.map (mpJ fun x => x) = l := fun l => by rw [List.map_congr_left (g := fun x => x) fun x _ => hJ x]; exact List.map_id' l
  have hB : ∀ b : Block, mpB (fun x => x) b = b := fun b => by unfold mpB; rw [hIl, hJl]; simp
  unfold mpF
  rw [List.map_congr_left (g := fun x => x) fun b _ => hB b, List.map_id']
theorem l15Own_own (H : Heap) (F : Func) (hF : Enc.good F) (hg : goodF F = true) : CallsD Tryz.prog 98 [vFunc F] H fun r H' => ∃ A : CFunc, r = .agg (Tr.cells A) ∧ Own H' A ∧ Tr.era A = F ∧ Only [] H H' ∧ ∀ j ∈ ids A, H.length ≤ j := by
  obtain ⟨hp, hl, hh, hm, hc, hsu, _⟩ := goodF_spec hg
  have hmany : cntB F.blocks_ F.params_ = many F := rfl
  have h0 : 0 ≤ many F ∧ many F ≤ 1000 := by omega
  refine calls_of Tryz.func98 en_98 rfl (of_decide_eq_true rfl) (W_run mixed ⟨[K_80, K_81], [K_80h, K_81h], [82], 8, H.length, [0, 1, 2], []⟩ (fun | 1 => [0, 1, 2, 3, 4, 5] | _ => []) (by kernel_rfl) ?_)
  simp only [Tryz.f98, stripX, stripOps, pickOps]
  simp [K_80_f, K_80_e, K_81_f, K_81_e, K_80h_f, K_80h_e, K_81h_f, K_81h_e, K_80h_g, K_81h_g, -V.flat, -V.one, one_int, one_bool, one_str, one_nilp, one_rp, one_nilsl, one_ro, one_cl, one_nilf, one_nili, one_ifc, one_ptr, one_sl, one_clo, flat_d, flat_ptr, flat_sl, flat_clo, flat_agg, hF, hmany, h0]
  refine (l15Map_own _ F (sgl (many F).toNat) (by omega) (good_map hg (sgl_len _))).mono ?_
  rintro r H1 ⟨A, rfl, oA, eA, ho, iA⟩
  have hl1 := ho.len
  simp only [List.length_append, List.length_cons, List.length_nil] at hl1
  have iA' : ∀ j ∈ ids A, H.length + 2 ≤ j := fun j hj => by have := iA j hj; simp at this; omega
  have hfl := oA.ok.1.flat
  have hone := oA.ok.1.scl.2
  have k6 : H1[H.length + 1]? = some (.row 2 [[.d (.int .i64 0), .d .nilsl]]) := (ho.at_ _ (by simp) List.not_mem_nil).trans (by simp)
  have s6 : ∀ p, (H1.set (H.length + 1) p)[H.length + 1]? = some p := fun p => List.getElem?_set_self (by omega)
  simp [K_80_f, K_80_e, K_81_f, K_81_e, K_82_f, K_82_e, K_80h_f, K_80h_e, K_81h_f, K_81h_e, K_82h_f, K_82h_e, K_80h_g, K_81h_g, K_82h_g, -V.flat, -V.one, one_int, one_bool, one_str, one_nilp, one_rp, one_nilsl, one_ro, one_cl, one_nilf, one_nili, one_ifc, one_ptr, one_sl, one_clo, flat_d, flat_ptr, flat_sl, flat_clo, flat_agg, hfl, hone, k6, s6, retQ]
  refine ⟨_, _, Fin.same (by simp; omega), A, rfl, oA.frame (S := [H.length + 1]) Only.set fun j hj q => by have := iA' j hj; simp at q; omega, ?_, ⟨by simp; omega, fun j hj _ => ?_⟩, fun j hj => by have := iA' j hj; omega⟩
  · rw [eA]
    refine mpF_id fun b hb x hx => ?_
    have := good_all hg hb x hx
    unfold mapL
    rw [sgl_get (by omega)]
    show ((x.toNat : Nat) : Int) = x
    omega
  · rw [List.getElem?_set_ne (by omega)]
    exact (ho.at_ j (by simp; omega) List.not_mem_nil).trans (List.getElem?_append_left hj)
structure FS (A : CFunc) (F : Func) (H0 : Heap) (m l : List CBlock) (k : Int) (H : Heap) : Prop where
  own : Own H (⟨A.blocks_.v, m ++ l⟩ : AS CBlock)
  left : l = A.blocks_.l.drop m.length
  era : m.map Tr.era = (F.blocks_.take m.length).map (foldB F)
  cnt : k = ((F.blocks_.take m.length).map (foldK F)).sum
  only : Only (Go.Proofs.YtbmloeahcdneaaaGreat.ids A.blocks_) H0 H
  idv : A.blocks_.id ∈ Go.Proofs.YtbmloeahcdneaaaGreat.ids A.blocks_
  idl : ∀ j ∈ Go.Proofs.YtbmloeahcdneaaaGreat.ids (⟨A.blocks_.v, m ++ l⟩ : AS CBlock), j ∈ Go.Proofs.YtbmloeahcdneaaaGreat.ids A.blocks_ ∨ H0.length ≤ j
  le : m.length ≤ A.blocks_.l.length
end Go.Proofs.YtbmloeahcdneaaaGreat
end

section
namespace Go.Proofs.YtbmloeahcdneaaaGreat
set_option maxRecDepth 100000
set_option linter.unusedSimpArgs false
set_option linter.unusedVariables false
theorem l15Own_c (F : Func) (hF : Enc.good F) (hg : goodF F = true) : PureP Tryz.prog 98 [vFunc F] (· = vFunc F) :=
  PureP.of_own ((l15Own_own [] F hF hg).mono fun r H' ⟨A, e, oA, eA, _, _⟩ => by
    have := Rd1.aggs oA rfl
    rw [eA] at this
    rw [e]
    exact this)
noncomputable def K_98 : Ent Tryz.prog := Ent.p1 (α := Func) 98 (fun F => Enc.good F ∧ goodF F = true) (fun F => vFunc F) (fun F hc => l15Own_c F hc.1 hc.2)
theorem K_98_f : K_98.f = 98 := rfl
theorem K_98_e (F0 : Int) (F1 : List Block) : K_98.e [.agg [.d (.int .i64 F0), .d (dBlockS F1)]] = some (Enc.good (Func.mk F0 F1) ∧ goodF (Func.mk F0 F1) = true, vFunc (Func.mk F0 F1), []) := by unfold K_98; exact Ent.p1_eq (α := Func) (Func.mk F0 F1)
noncomputable def K_98h : EntH Tryz.prog := EntH.pk1 (α := Func) 98 (fun F => Enc.good F ∧ goodF F = true) (fun F => vFunc F) (fun F => []) (fun F hc => PureP.ans (l15Own_c F hc.1 hc.2))
theorem K_98h_f : K_98h.f = 98 := rfl
theorem K_98h_g : K_98h.gro = true := rfl
theorem K_98h_e {x1 : V} {H : Heap} : K_98h.e [x1] H = guardR ((decA (α := Func) H x1).1) (peekR (Enc.good (decA (α := Func) H x1).2 ∧ goodF (decA (α := Func) H x1).2 = true) (vFunc (decA (α := Func) H x1).2) ([]) H) := rfl
theorem firstP_lt {p : Int → Bool} : ∀ (k i : Nat), firstP p i k < ((i + k : Nat) : Int)
  | 0, i => by simp only [firstP]; omega
  | k + 1, i => by
    simp only [firstP]
    split
    · omega
    · have := firstP_lt (p := p) k (i + 1); omega
theorem earS_lt : ToOk earS := fun F k h k0 k1 => by
  have hm := many_rng h
  unfold earS
  split
  · omega
  · split
    · omega
    · have := firstP_lt (p := earP F k) (many F).toNat 0; omega
theorem earS_ways (F : Func) (k : Int) (h : goodF F = true) (k0 : 0 ≤ k) (k1 : k < many F) : PureP Tryz.prog 124 [.d (.rp 3 (dWays (waysV (viewD F)))), .d (.int .i64 k)] (· = .d (.int .i64 (earS F k))) := by
  rw [← ear_same h k0 k1]
  exact earlier_c _ _ (okE_good h k0 k1)
theorem srcR_lt {l : List Inst} {a0 m : Int} {vf : Int → Int} (h0 : 0 < m) (hl : ∀ x ∈ l, ∀ n ∈ x.args_, 0 ≤ n ∧ n < m) : ∀ i : Nat, i ≤ l.length → (∀ j : Nat, j < i → vf j < m) → srcR l a0 vf i < m
  | 0, _, _ => by simp only [srcR]; omega
  | i + 1, hi, hv => by
    have ih := srcR_lt (a0 := a0) h0 hl i (by omega) fun j hj => hv j (by omega)
    have hx : (l[i]?.getD default).args_[1]?.getD 0 < m := by
      rw [List.getElem?_eq_getElem (by omega : i < l.length)]
      show l[i].args_[1]?.getD 0 < m
      cases e : l[i].args_[1]? with
      | none => exact h0
      | some n => exact (hl _ (List.getElem_mem (by omega)) n (List.mem_of_getElem? e)).2
    have hvi := hv i (by omega)
    simp only [srcR]
    repeat' split
    all_goals first | exact hx | exact hvi | exact ih | omega
theorem srcS_lt : ToOk srcS := fun F k h k0 k1 => by
  have hm := many_rng h
  unfold srcS
  split
  · rename_i ho
    obtain ⟨⟨b0, b1⟩, ⟨p0, p1⟩, _, _, g⟩ := op_ok (isVal_of h k0 k1) ho
    have hb : F.blocks_[(opBl F k 12).toNat]?.getD default ∈ F.blocks_ := by rw [List.getElem?_eq_getElem (by omega)]; exact List.getElem_mem _
    have h80 := (good_vals h hb).1
    have hl : (insL F k 12).length ≤ 80 := h80
    refine srcR_lt (l := insL F k 12) (by omega) (fun x hx n hn => ((good_vals h hb).2.1 x hx).2 n hn) _ (by omega) fun j hj => ?_
    unfold vfS
    rw [wrap_id (n := k - opPl F k 12) (by omega) (by omega), wrap_id (by omega) (by omega)]
    omega
  · omega
theorem srcS_ways (F : Func) (k : Int) (h : goodF F = true) (k0 : 0 ≤ k) (k1 : k < many F) : PureP Tryz.prog 122 [.d (.rp 3 (dWays (waysV (viewD F)))), .d (.int .i64 k)] (· = .d (.int .i64 (srcS F k))) := by
  rw [← src_same h k0 k1]
  exact source_c _ _ (okM_good h k0 k1)
end Go.Proofs.YtbmloeahcdneaaaGreat
end
