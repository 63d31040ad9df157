/- spec.l15Nums: the reference's folding of numbers. No condition. -/
import Derived.Test.YtbmloeahcdneaaaGreatQS57
import Derived.Test.YtbmloeahcdneaaaGreatQS58
import Derived.Test.YtbmloeahcdneaaaGreatQS59
import Derived.Test.YtbmloeahcdneaaaGreatQS60
section
namespace Go.Proofs.YtbmloeahcdneaaaGreat
set_option maxRecDepth 100000
set_option linter.unusedSimpArgs false
set_option linter.unusedVariables false
structure FE (A : AFunc) (F : Func) (H0 : Heap) (m l : List ABlock) (k : Int) (H : Heap) : Prop where
  own : Own H (⟨A.blocks_.v, m ++ l⟩ : AS ABlock)
  left : l = A.blocks_.l.drop m.length
  sol : ∀ b ∈ m ++ l, solB b
  era : m.map Tr.era = (F.blocks_.take m.length).map (foldB F)
  cnt : k = ((F.blocks_.take m.length).map (foldK F)).sum
  ids : ∀ j ∈ ids (⟨A.blocks_.v, m ++ l⟩ : AS ABlock), j ∈ ids A.blocks_ ∨ H0.length ≤ j
  only : Only (Go.Proofs.YtbmloeahcdneaaaGreat.ids A.blocks_) H0 H
  le : m.length ≤ A.blocks_.l.length
end Go.Proofs.YtbmloeahcdneaaaGreat
end

section
namespace Go.Proofs.YtbmloeahcdneaaaGreat
set_option maxRecDepth 100000
set_option linter.unusedSimpArgs false
set_option linter.unusedVariables false
end Go.Proofs.YtbmloeahcdneaaaGreat
end

section
namespace Go.Proofs.YtbmloeahcdneaaaGreat
set_option maxRecDepth 100000
set_option linter.unusedSimpArgs false
set_option linter.unusedVariables false
theorem l11Single_c (n : Int) (h0 : 0 ≤ n) (h1 : n ≤ 1000) : PureP Tryz.prog 81 [.d (.int .i64 n)] (· = .d (dIntS (sgl n.toNat))) :=
  PureP.of_own ((l11Single_own [] n h0 h1).mono fun r H' ⟨s, e, hs, hn⟩ => by
    have := Rd1.slice hn.own
    rw [era_AS_ints, hs] at this
    rw [e]; exact this)
noncomputable def K_81 : Ent Tryz.prog := Ent.p1 (α := Int) 81 (fun n => 0 ≤ n ∧ n ≤ 1000) (fun n => .d (dIntS (sgl n.toNat))) (fun n hc => l11Single_c n hc.1 hc.2)
theorem K_81_f : K_81.f = 81 := rfl
theorem K_81_e (n : Int) : K_81.e [.d (.int .i64 n)] = some (0 ≤ n ∧ n ≤ 1000, .d (dIntS (sgl n.toNat)), []) := by unfold K_81; exact Ent.p1_eq (α := Int) n
noncomputable def K_81h : EntH Tryz.prog := EntH.pk1 (α := Int) 81 (fun n => 0 ≤ n ∧ n ≤ 1000) (fun n => .d (dIntS (sgl n.toNat))) (fun n => []) (fun n hc => PureP.ans (l11Single_c n hc.1 hc.2))
theorem K_81h_f : K_81h.f = 81 := rfl
theorem K_81h_g : K_81h.gro = true := rfl
theorem K_81h_e {x1 : V} {H : Heap} : K_81h.e [x1] H = guardR ((decA (α := Int) H x1).1) (peekR (0 ≤ (decA (α := Int) H x1).2 ∧ (decA (α := Int) H x1).2 ≤ 1000) (.d (dIntS (sgl (decA (α := Int) H x1).2.toNat))) ([]) H) := rfl
theorem mpF_id {g : Int → Int} {F : Func} (h : ∀ b ∈ F.blocks_, ∀ x ∈ allU b, g x = x) : mpF g F = F := by
  rw [mpF_congr (h := fun x => x) h]
  have e1 : ∀ l : List Int, l.map (fun x => x) = l := fun l => List.map_id' l
  have hI : ∀ x : Inst, mpI (fun x => x) x = x := fun x => by unfold mpI; rw [e1]
  have hJ : ∀ x : Jump, mpJ (fun x => x) x = x := fun x => by unfold mpJ; rw [e1]
  have hIl : ∀ l : List Inst, l.map (mpI fun x => x) = l := fun l => by rw [List.map_congr_left (g := fun x => x) fun x _ => hI x]; exact List.map_id' l
  have hJl : ∀ l : List Jump, l.map (mpJ fun x => x) = l := fun l => by rw [List.map_congr_left (g := fun x => x) fun x _ => hJ x]; exact List.map_id' l
  have hB : ∀ b : Block, mpB (fun x => x) b = b := fun b => by unfold mpB; rw [hIl, hJl]; simp
  unfold mpF
  rw [List.map_congr_left (g := fun x => x) fun b _ => hB b, List.map_id']
theorem l15Own_own (H : Heap) (F : Func) (hF : Enc.good F) (hg : goodF F = true) : CallsD Tryz.prog 98 [vFunc F] H fun r H' => ∃ A : CFunc, r = .agg (Tr.cells A) ∧ Own H' A ∧ Tr.era A = F ∧ Only [] H H' ∧ ∀ j ∈ ids A, H.length ≤ j := by
  obtain ⟨hp, hl, hh, hm, hc, hsu, _⟩ := goodF_spec hg
  have hmany : cntB F.blocks_ F.params_ = many F := rfl
  have h0 : 0 ≤ many F ∧ many F ≤ 1000 := by omega
  refine calls_of Tryz.func98 en_98 rfl (of_decide_eq_true rfl) (W_run mixed ⟨[K_80, K_81], [K_80h, K_81h], [82], 8, H.length, [0, 1, 2], []⟩ (fun | 1 => [0, 1, 2, 3, 4, 5] | _ => []) (by kernel_rfl) ?_)
  simp only [Tryz.f98, stripX, stripOps, pickOps]
  simp [K_80_f, K_80_e, K_81_f, K_81_e, K_80h_f, K_80h_e, K_81h_f, K_81h_e, K_80h_g, K_81h_g, -V.flat, -V.one, one_int, one_bool, one_str, one_nilp, one_rp, one_nilsl, one_ro, one_cl, one_nilf, one_nili, one_ifc, one_ptr, one_sl, one_clo, flat_d, flat_ptr, flat_sl, flat_clo, flat_agg, hF, hmany, h0]
  refine (l15Map_own _ F (sgl (many F).toNat) (by omega) (good_map hg (sgl_len _))).mono ?_
  rintro r H1 ⟨A, rfl, oA, eA, ho, iA⟩
  have hl1 := ho.len
  simp only [List.length_append, List.length_cons, List.length_nil] at hl1
  have iA' : ∀ j ∈ ids A, H.length + 2 ≤ j := fun j hj => by have := iA j hj; simp at this; omega
  have hfl := oA.ok.1.flat
  have hone := oA.ok.1.scl.2
  have k6 : H1[H.length + 1]? = some (.row 2 [[.d (.int .i64 0), .d .nilsl]]) := (ho.at_ _ (by simp) List.not_mem_nil).trans (by simp)
  have s6 : ∀ p, (H1.set (H.length + 1) p)[H.length + 1]? = some p := fun p => List.getElem?_set_self (by omega)
  simp [K_80_f, K_80_e, K_81_f, K_81_e, K_82_f, K_82_e, K_80h_f, K_80h_e, K_81h_f, K_81h_e, K_82h_f, K_82h_e, K_80h_g, K_81h_g, K_82h_g, -V.flat, -V.one, one_int, one_bool, one_str, one_nilp, one_rp, one_nilsl, one_ro, one_cl, one_nilf, one_nili, one_ifc, one_ptr, one_sl, one_clo, flat_d, flat_ptr, flat_sl, flat_clo, flat_agg, hfl, hone, k6, s6, retQ]
  refine ⟨_, _, Fin.same (by simp; omega), A, rfl, oA.frame (S := [H.length + 1]) Only.set fun j hj q => by have := iA' j hj; simp at q; omega, ?_, ⟨by simp; omega, fun j hj _ => ?_⟩, fun j hj => by have := iA' j hj; omega⟩
  · rw [eA]
    refine mpF_id fun b hb x hx => ?_
    have := good_all hg hb x hx
    unfold mapL
    rw [sgl_get (by omega)]
    show ((x.toNat : Nat) : Int) = x
    omega
  · rw [List.getElem?_set_ne (by omega)]
    exact (ho.at_ j (by simp; omega) List.not_mem_nil).trans (List.getElem?_append_left hj)
theorem okI_all (F : Func) (n : Int) (hh : F.blocks_.all headOk = true) (h8 : F.blocks_.length ≤ 8) : okI F n := by
  have key : ∀ (bs : List Block) (i : Nat), bs = F.blocks_.drop i → 0 ≤ (instS F n bs i).1 → (instS F n bs i).1 < F.blocks_.length ∧ 0 ≤ (instS F n bs i).2 ∧ (instS F n bs i).2 < (F.blocks_[(instS F n bs i).1.toNat]?.getD default).insts_.length := by
    intro bs
    induction bs with
    | nil => intro i _ h; simp [instS] at h
    | cons b bs ih =>
      intro i hb h
      have hi : i < F.blocks_.length := by
        have := congrArg List.length hb
        simp only [List.length_cons, List.length_drop] at this; omega
      have hd := hb
      rw [List.drop_eq_getElem_cons hi] at hd
      obtain ⟨e1, e2⟩ := List.cons.inj hd
      simp only [instS] at h ⊢
      split at h
      · rename_i q
        rw [if_pos q]
        have hsz := headOk_sz (List.all_eq_true.1 hh b (by rw [e1]; exact List.getElem_mem hi))
        have := inR_index (by omega) q
        refine ⟨by show (i : Int) < _; omega, this.1, ?_⟩
        show _ < (((F.blocks_[((i : Nat) : Int).toNat]?.getD default).insts_.length : Nat) : Int)
        rw [Int.toNat_natCast, List.getElem?_eq_getElem hi]
        show _ < ((F.blocks_[i].insts_.length : Nat) : Int)
        rw [← e1]; omega
      · rename_i q
        rw [if_neg q]
        exact ih (i + 1) e2 h
  exact key F.blocks_ 0 rfl
structure FS (A : CFunc) (F : Func) (H0 : Heap) (m l : List CBlock) (k : Int) (H : Heap) : Prop where
  own : Own H (⟨A.blocks_.v, m ++ l⟩ : AS CBlock)
  left : l = A.blocks_.l.drop m.length
  era : m.map Tr.era = (F.blocks_.take m.length).map (foldB F)
  cnt : k = ((F.blocks_.take m.length).map (foldK F)).sum
  only : Only (Go.Proofs.YtbmloeahcdneaaaGreat.ids A.blocks_) H0 H
  idv : A.blocks_.id ∈ Go.Proofs.YtbmloeahcdneaaaGreat.ids A.blocks_
  idl : ∀ j ∈ Go.Proofs.YtbmloeahcdneaaaGreat.ids (⟨A.blocks_.v, m ++ l⟩ : AS CBlock), j ∈ Go.Proofs.YtbmloeahcdneaaaGreat.ids A.blocks_ ∨ H0.length ≤ j
  le : m.length ≤ A.blocks_.l.length
end Go.Proofs.YtbmloeahcdneaaaGreat
end

section
namespace Go.Proofs.YtbmloeahcdneaaaGreat
set_option maxRecDepth 100000
set_option linter.unusedSimpArgs false
set_option linter.unusedVariables false
structure NC (A0 : CFunc) (H0 : Heap) (p : Func × Int) (A : CFunc) (k : Int) (H : Heap) : Prop where
  own : Own H A
  par : A.params_ = A0.params_
  bv : A.blocks_.v = A0.blocks_.v
  bl : A.blocks_.l.length = A0.blocks_.l.length
  era : (Tr.era A, k) = p
  good : goodF (Tr.era A) = true
  enc : Enc.good (Tr.era A)
  ids : ∀ j ∈ ids A, j ∈ ids A0
  only : Only (Go.Proofs.YtbmloeahcdneaaaGreat.ids A0) H0 H
theorem NC.more {A0 A : CFunc} {H0 H : Heap} {p : Func × Int} {k : Int} (q : NC A0 H0 p A k H) (R : Heap) : NC A0 H0 p A k (H ++ R) :=
  ⟨q.own.frame (Only.app [] _ _) fun j _ hj => absurd hj List.not_mem_nil, q.par, q.bv, q.bl, q.era, q.good, q.enc, q.ids, q.only.trans (Only.app [] _ _) (fun j hj => hj) fun j hj _ => absurd hj List.not_mem_nil⟩
theorem NC.wr {A0 A : CFunc} {H0 H : Heap} {F : Func} {m k : Int} {kb i : Nat} {b : CBlock} {x : Inst} (q : NC A0 H0 (F, m) A k H) (hk : A.blocks_.l[kb]? = some b) (hi : i < b.insts_.l.length) (hok : instOk (many F) x = true) (hen : Enc.good x) {rows : List (List V)} (hr : rows = (b.insts_.l.set i x).map Tr.cells) :
    NC A0 H0 (setI F kb i x, m + 1) (CFunc.setX A kb i x) (k + 1) (H.set b.insts_.id (.row 3 rows)) := by
  subst hr
  obtain ⟨o, e, u, mi⟩ := CFunc.wrX (x := x) q.own hk hi trivial rfl
  have eF : Tr.era A = F := congrArg Prod.fst q.era
  have ek : k = m := congrArg Prod.snd q.era
  rw [eF] at e
  have e' : Tr.era (CFunc.setX A kb i x) = setI F kb i x := e
  refine ⟨o, q.par, q.bv, ?_, by rw [e', ek], by rw [e']; exact setI_good (eF ▸ q.good) hok, by rw [e']; exact setI_enc (eF ▸ q.enc) hen, fun j hj => q.ids j (u j hj), q.only.trans Only.set (fun j hj => hj) fun j hj _ => ?_⟩
  · show (A.blocks_.l.set kb _).length = _
    rw [List.length_set]; exact q.bl
  · rw [List.mem_singleton.1 hj]; exact q.ids _ mi
theorem HLe.nilArgs {H R : Heap} {id ji : Nat} {irows : List (List V)} {a b : V} {f : Nat → Nat → D} (hid : id < H.length) (hj : ji < irows.length) : HLe (H.set id (.row 3 (irows.set ji [a, b, .d .nilsl])) ++ R) (H.set id (.row 3 (irows.set ji [a, b, .d (.ro 1 0 f)])) ++ R) := by
  have h := HLe.set (G := H.set id (.row 3 (irows.set ji [a, b, .d .nilsl])) ++ R) (id := id) (e := 3) (es := irows.set ji [a, b, .d .nilsl]) (es' := irows.set ji [a, b, .d (.ro 1 0 f)]) (k := ji) (l := [a, b, .d .nilsl]) (l' := [a, b, .d (.ro 1 0 f)])
    ((List.getElem?_append_left (by simpa using hid)).trans (List.getElem?_set_self hid)) (List.getElem?_set_self hj) (by rw [List.set_set]) rfl fun j c' hc => by
      match j, hc with
      | 0, hc => exact ⟨a, rfl, .inl (Option.some.inj hc)⟩
      | 1, hc => exact ⟨b, rfl, .inl (Option.some.inj hc)⟩
      | 2, hc =>
        refine ⟨.d .nilsl, rfl, .inr ?_⟩
        rw [← Option.some.inj hc]
        exact ⟨rfl, rfl⟩
  rwa [List.set_append_left _ _ (by simpa using hid), List.set_set] at h
theorem numsIn {A0 : CFunc} {Hb : Heap} {oc n0 : Nat} {v1 v2 : V} {kb : Nat} {n15 : Int} {A1 : CFunc} {m1 : Int} {H1 : Heap} {b1 : CBlock} {P0 : Func × Int}
    (hv : A0.blocks_.v = .sl A0.blocks_.id 5 0 A0.blocks_.l.length) (hc : Hb[oc]? = some (.row 2 [[.d (.int .i64 A0.params_), .sl A0.blocks_.id 5 0 A0.blocks_.l.length]])) (hoc : oc ∉ ids A0) (q1 : NC A0 Hb P0 A1 m1 H1) (hb1 : A1.blocks_.l[kb]? = some b1)
    (h8 : A0.blocks_.l.length ≤ 8) (hm1 : 0 ≤ m1 ∧ m1 ≤ 100 * kb) {c : Code} (hcd : (loopsIn (Tryz.f56.body.getD .skip))[1]? = some c) {Q : Exit → St → Prop} {s : St}
    (hs : IntoH s [(1, v1), (2, v2), (4, .ptr oc 2 0 0), (5, .d (.int .i64 m1)), (6, .d (.int .i64 kb)), (15, .d (.int .i64 n15)), (16, .d (.int .i64 kb)), (24, b1.insts_.v), (25, .d (.int .i64 b1.insts_.l.length)), (26, .d (.int .i64 0))] H1)
    (hq : ∀ l' H' A' k', mk l' 1 = v1 → mk l' 2 = v2 → mk l' 4 = .ptr oc 2 0 0 → mk l' 5 = .d (.int .i64 k') → mk l' 15 = .d (.int .i64 n15) → mk l' 16 = .d (.int .i64 kb) → (0 ≤ k' ∧ k' ≤ 100 * ((kb + 1 : Nat) : Int)) → NC A0 Hb (stepB P0 kb) A' k' H' → Q (.exit 2) ⟨mk l', H'⟩) :
    W Tryz.prog 54 n0 c Q s := by
  cases hcd
  have hkb : kb < A0.blocks_.l.length := by rw [← q1.bl]; exact (List.getElem?_eq_some_iff.1 hb1).1
  have eP0 : (Tr.era A1, m1) = P0 := q1.era
  have hbF : Tr.era b1 ∈ (Tr.era A1).blocks_ := List.mem_map.2 ⟨b1, List.mem_of_getElem? hb1, rfl⟩
  have lI : ∀ b : CBlock, (Tr.era b).insts_.length = b.insts_.l.length := fun b => List.length_map _
  have hI80 : b1.insts_.l.length ≤ 80 := by
    have := (good_vals q1.good hbF).1
    rw [lI] at this; exact this
  have hgB : (P0.1.blocks_[kb]?.getD default).insts_.length = b1.insts_.l.length := by
    rw [← eP0]
    show (((A1.blocks_.l.map Tr.era)[kb]?.getD default).insts_).length = _
    rw [List.getElem?_map, hb1]
    exact lI b1
  have hoB : ∀ (A' : CFunc) (b' : CBlock), A'.blocks_.l[kb]? = some b' → (A'.blocks_.l.map Tr.cells)[kb]? = some [.d (.int .i64 b'.params_), b'.insts_.v, .d (.int .i64 b'.end_), .d (.int .i64 b'.value_), b'.jumps_.v] := fun A' b' h => by
    rw [List.getElem?_map, h]; rfl
  refine W_loopW (α := Nat × CFunc × Int × Heap) (fun a => [(1, v1), (2, v2), (4, .ptr oc 2 0 0), (5, .d (.int .i64 a.2.2.1)), (6, .d (.int .i64 kb)), (15, .d (.int .i64 n15)), (16, .d (.int .i64 kb)), (24, b1.insts_.v), (25, .d (.int .i64 b1.insts_.l.length)), (26, .d (.int .i64 a.1))]) (fun a => a.2.2.2)
    (fun a => a.1 ≤ b1.insts_.l.length ∧ (0 ≤ a.2.2.1 ∧ a.2.2.1 ≤ 100 * kb + a.1) ∧ NC A0 Hb ((List.range a.1).foldl (stepI kb) P0) a.2.1 a.2.2.1 a.2.2.2 ∧ ∃ b2, a.2.1.blocks_.l[kb]? = some b2 ∧ b2.insts_.v = b1.insts_.v ∧ b2.insts_.l.length = b1.insts_.l.length) (fun a => b1.insts_.l.length - a.1) (0, A1, m1, H1) hs ⟨Nat.zero_le _, ⟨hm1.1, by have := hm1.2; simp only []; omega⟩, q1, b1, hb1, rfl, rfl⟩ ?_
  rintro ⟨ji, A2, m2, H2⟩ ⟨hji, hm2, q2, b2, hb2, e2v, e2l⟩
  simp only [] at hji hm2 q2 hb2 e2v e2l
  by_cases hjn : b1.insts_.l.length ≤ ji
  · have e : ji = b1.insts_.l.length := by omega
    have ef : (List.range ji).foldl (stepI kb) P0 = stepB P0 kb := by
      unfold stepB
      rw [hgB, e]
    rw [ef] at q2
    refine W_run mixed ⟨[], [K_101h], [98], 54, n0, [0, 1, 2, 3, 4, 5, 6, 7, 8, 9, 10, 15, 16, 17, 24, 25, 26, 27, 37], [17, 27, 37]⟩ (fun _ => []) (by kernel_rfl) ?_
    simp only [stripX, stripOps, pickOps]
    simp [K_101h_f, K_101h_e, K_101h_g, -V.flat, -V.one, one_int, one_bool, one_str, one_nilp, one_rp, one_nilsl, one_ro, one_cl, one_nilf, one_nili, one_ifc, one_ptr, one_sl, one_clo, flat_d, flat_ptr, flat_sl, flat_clo, flat_agg, -decA, decA_int, decA_bool, decA_str, hjn]
    exact ⟨fun h => absurd hjn (by omega), hq _ _ A2 m2 (by simp) (by simp) (by simp) (by simp) (by simp) (by simp) (by omega) q2⟩
  have hjl : ji < b2.insts_.l.length := by omega
  have hf2 : ∀ R : Heap, (H2 ++ R)[oc]? = some (.row 2 [[.d (.int .i64 A0.params_), .sl A0.blocks_.id 5 0 A0.blocks_.l.length]]) := fun R => by
    have := (q2.only.at_ _ (List.getElem?_eq_some_iff.1 hc).1 hoc).trans hc
    exact (List.getElem?_append_left (List.getElem?_eq_some_iff.1 this).1).trans this
  have oBs := CFunc.own_blocks_ q2.own
  have hid2 : A2.blocks_.id = A0.blocks_.id := congrArg V.slId q2.bv
  have hrow2 : ∀ R : Heap, (H2 ++ R)[A0.blocks_.id]? = some (.row 5 (A2.blocks_.l.map Tr.cells)) := fun R => by
    have := (oBs.row (by have := q2.bl; omega)).2.1
    rw [hid2] at this
    exact (List.getElem?_append_left (List.getElem?_eq_some_iff.1 this).1).trans this
  have hget2 := hoB A2 b2 hb2
  have hlen2 : (A2.blocks_.l.map Tr.cells).length = A0.blocks_.l.length := by rw [List.length_map, q2.bl]
  have oB2 : Own H2 b2 := oBs.elems.get (List.mem_of_getElem? hb2)
  obtain ⟨x, hx⟩ : ∃ x, b2.insts_.l[ji]? = some x := ⟨_, List.getElem?_eq_getElem hjl⟩
  have hxm := List.mem_of_getElem? hx
  obtain ⟨iv, irow, _, _⟩ := (CBlock.own_insts_ oB2).row (by omega)
  replace iv : b2.insts_.v = .sl b2.insts_.id 3 0 b1.insts_.l.length := by rw [← e2l]; exact iv
  have ltr := (List.getElem?_eq_some_iff.1 irow).1
  replace irow : H2[b2.insts_.id]? = some (.row 3 (b2.insts_.l.map Tr.cells)) := irow
  have iget : (b2.insts_.l.map Tr.cells)[ji]? = some [.d (.int .i64 x.op_), .d (.int .i64 x.n_), .d (dIntS x.args_)] := by rw [List.getElem?_map, hx]; rfl
  have ilen : (b2.insts_.l.map Tr.cells).length = b1.insts_.l.length := by rw [List.length_map, e2l]
  have wj : IntKind.i64.wrap ((ji : Int) + 1) = ((ji + 1 : Nat) : Int) := by rw [wrap_id] <;> omega
  have hji' : ji < b1.insts_.l.length := by omega
  have hid : b2.insts_.id = b1.insts_.id := congrArg V.slId e2v
  have hstep : (List.range (ji + 1)).foldl (stepI kb) P0 = stepI kb (Tr.era A2, m2) ji := by
    rw [List.range_succ, List.foldl_append, ← q2.era]; rfl
  have hbF2 : Tr.era b2 ∈ (Tr.era A2).blocks_ := List.mem_map.2 ⟨b2, List.mem_of_getElem? hb2, rfl⟩
  have hxF2 : x ∈ (Tr.era b2).insts_ := List.mem_map.2 ⟨x, hxm, rfl⟩
  have hins : insOf (Tr.era A2) kb ji = x := by
    unfold insOf
    show (((A2.blocks_.l.map Tr.era)[kb]?.getD default).insts_)[ji]?.getD default = _
    rw [List.getElem?_map, hb2]
    show (b2.insts_.l.map Tr.era)[ji]?.getD default = _
    rw [List.getElem?_map, hx]; rfl
  obtain ⟨hax, hvx⟩ := good_inst q2.good hbF2 hxF2
  have hxg : Enc.good x := ((q2.enc.2.2 _ hbF2).2.1).2 _ hxF2
  have hop : 3 ≤ x.op_ → x.op_ ≤ 11 → okOp x.op_ x.args_ := fun h0 h1 => arity_ok h0 h1 hax
  obtain ⟨_, _, hh, _⟩ := goodF_spec q2.good
  have h8' : (Tr.era A2).blocks_.length ≤ 8 := by
    show (A2.blocks_.l.map Tr.era).length ≤ 8
    rw [List.length_map, q2.bl]; exact h8
  have hokI : ∀ v ∈ x.args_, okI (Tr.era A2) v := fun v _ => okI_all _ v hh h8'
  have hal : x.args_.length ≤ 1000 := ((good_vals q2.good hbF2).2.1 x hxF2).1
  have dF : ∀ R : Heap, decA (α := Func) (H2 ++ R) (.agg [.d (.int .i64 A0.params_), .sl A0.blocks_.id 5 0 A0.blocks_.l.length]) = (True, Tr.era A2) := fun R => by
    have := decA_A (q2.more R).own rfl
    rw [cells_CFunc, q2.par, q2.bv, hv] at this
    exact this
  have hF := q2.enc
  have dX : ∀ G : Heap, decA (α := Inst) G (.agg [.d (.int .i64 x.op_), .d (.int .i64 x.n_), .d (dIntS x.args_)]) = (True, x) := fun G => decA_A (a := x) (H := G) ⟨trivial, fun q hq => absurd hq List.not_mem_nil, List.nodup_nil⟩ rfl
  have hget2' : ∀ h : kb < (A2.blocks_.l.map Tr.cells).length, (A2.blocks_.l.map Tr.cells)[kb] = _ := fun h => Option.some.inj ((List.getElem?_eq_getElem h).symm.trans hget2)
  have iget' : ∀ h : ji < (b2.insts_.l.map Tr.cells).length, (b2.insts_.l.map Tr.cells)[ji] = _ := fun h => Option.some.inj ((List.getElem?_eq_getElem h).symm.trans iget)
  have irowR : ∀ R : Heap, (H2 ++ R)[b2.insts_.id]? = some (.row 3 (b2.insts_.l.map Tr.cells)) := fun R => (List.getElem?_append_left ltr).trans irow
  have isetR : ∀ (R : Heap) p, (H2 ++ R).set b2.insts_.id p = H2.set b2.insts_.id p ++ R := fun R p => List.set_append_left _ _ ltr
  generalize hrs2 : A2.blocks_.l.map Tr.cells = rows2 at hrow2 hget2 hget2' hlen2
  generalize hir : b2.insts_.l.map Tr.cells = irows at irow iget iget' ilen irowR
  generalize hF2 : Tr.era A2 = F2 at hF dF hokI hstep hins
  rw [← e2v, iv]
  rw [iv] at hget2 hget2'
  cases hcn : canI F2 x with
  | false =>
    refine W_run mixed ⟨[], [K_101h], [98], 54, n0, [0, 1, 2, 3, 4, 5, 6, 7, 8, 9, 10, 15, 16, 17, 24, 25, 26, 27, 37], [17, 27, 37]⟩ (fun _ => []) (by kernel_rfl) ?_
    simp only [stripX, stripOps, pickOps]
    simp [K_101h_f, K_101h_e, K_101h_g, -V.flat, -V.one, one_int, one_bool, one_str, one_nilp, one_rp, one_nilsl, one_ro, one_cl, one_nilf, one_nili, one_ifc, one_ptr, one_sl, one_clo, flat_d, flat_ptr, flat_sl, flat_clo, flat_agg, -decA, decA_int, decA_bool, decA_str, hf2, irow, iget, iget', ilen, hji', dF, dX, hF, hxg, hal, hop, hokI, hcn]
    have stay : NC A0 Hb ((List.range (ji + 1)).foldl (stepI kb) P0) A2 m2 H2 := by
      rw [hstep]
      unfold stepI
      rw [hins, if_neg (by rw [hcn]; decide), ← hF2]
      have := q2.era
      rw [this]; exact q2
    exact ⟨⟨hop, hokI⟩, ji + 1, A2, m2, _, ⟨by omega, ⟨by omega, by omega⟩, stay.more _, b2, hb2, iv, e2l⟩, by omega, HLe.refl _, rfl, by rw [wj]⟩
  | true =>
    refine W_run mixed ⟨[], [K_101h], [98], 54, n0, [0, 1, 2, 3, 4, 5, 6, 7, 8, 9, 10, 15, 16, 17, 24, 25, 26, 27, 37], [17, 27, 37]⟩ (fun _ => []) (by kernel_rfl) ?_
    simp only [stripX, stripOps, pickOps]
    simp [K_101h_f, K_101h_e, K_101h_g, -V.flat, -V.one, one_int, one_bool, one_str, one_nilp, one_rp, one_nilsl, one_ro, one_cl, one_nilf, one_nili, one_ifc, one_ptr, one_sl, one_clo, flat_d, flat_ptr, flat_sl, flat_clo, flat_agg, -decA, decA_int, decA_bool, decA_str, hf2, irow, irowR, isetR, iget, iget', ilen, hji', hrow2, hget2, hget2', hlen2, hkb, dF, dX, hF, hxg, hal, hop, hokI, hcn]
    have hkb2 : knwB F2 x = true := by
      rw [canI_eq, Bool.and_eq_true] at hcn
      exact hcn.1
    have hnum : numI F2 x = ⟨1, knwN F2 x, []⟩ := by unfold numI knwN; rw [if_pos hkb2]
    have q2' : NC A0 Hb (F2, m2) A2 m2 H2 := by
      have := q2
      rw [← q2.era, hF2] at this
      exact this
    have hal64 : x.args_.length ≤ 9223372036854775807 := by omega
    have hen : Enc.good (x.args_.map (nuN F2)) := ⟨by rw [List.length_map]; exact hal64, fun a ha => by
      obtain ⟨y, _, rfl⟩ := List.mem_map.1 ha
      exact nu_good hF y⟩
    have hkr : -9223372036854775808 ≤ knwN F2 x ∧ knwN F2 x ≤ 9223372036854775807 := by
      unfold knwN
      rw [if_pos hkb2]
      exact opN_good hen
    have hwr := (q2'.more [.row 3 [[.d (.int .i64 x.op_), .d (.int .i64 x.n_), .d (dIntS x.args_)]]]).wr (x := ⟨1, knwN F2 x, []⟩) hb2 hjl (num_ok (F := F2) _ _) ⟨(by show (-9223372036854775808 : Int) ≤ 1 ∧ (1 : Int) ≤ 9223372036854775807; decide), hkr, Nat.zero_le _, fun a ha => absurd ha List.not_mem_nil⟩ (rows := irows.set ji [.d (.int .i64 1), .d (.int .i64 (knwN F2 x)), .d (dIntS [])]) (by rw [← hir, List.map_set]; rfl)
    rw [isetR] at hwr
    have hst : (List.range (ji + 1)).foldl (stepI kb) P0 = (setI F2 kb ji ⟨1, knwN F2 x, []⟩, m2 + 1) := by
      rw [hstep]
      unfold stepI
      rw [hins, if_pos hcn, hnum]
    rw [← hst] at hwr
    have wm : IntKind.i64.wrap (m2 + 1) = m2 + 1 := wrap_id (by omega) (by omega)
    refine ⟨⟨hop, hokI⟩, ji + 1, _, _, _, ⟨by omega, ⟨by omega, by omega⟩, hwr, CBlock.setX b2 ji ⟨1, knwN F2 x, []⟩, ?_, iv, ?_⟩, by omega, HLe.nilArgs ltr (by omega), wm, by rw [wj]⟩
    · show (A2.blocks_.l.set kb _)[kb]? = _
      rw [List.getElem?_set_self (List.getElem?_eq_some_iff.1 hb2).1, hb2]; rfl
    · show (b2.insts_.l.set ji _).length = _
      rw [List.length_set]; exact e2l
theorem l15Nums_own (H : Heap) (F : Func) (hF : Enc.good F) (hg : goodF F = true) : CallsD Tryz.prog 56 [vFunc F] H fun r H' => ∃ A : CFunc, r = .tup [.agg (Tr.cells A), .d (.int .i64 (fnN F).2)] ∧ Own H' A ∧ Tr.era A = (fnN F).1 ∧ Only [] H H' ∧ ∀ j ∈ ids A, H.length ≤ j := by
  obtain ⟨hp, hl, hh, hm, hc, hsu, _⟩ := goodF_spec hg
  refine calls_of Tryz.func56 en_56 rfl (of_decide_eq_true rfl) (W_run mixed ⟨[K_101], [K_101h], [98], 54, H.length, [0, 1, 2, 3, 4, 5, 6, 7, 8, 9, 10, 15, 16, 17, 24, 25, 26, 27, 37], [17, 27, 37]⟩ (fun _ => []) (by kernel_rfl) ?_)
  simp only [Tryz.f56, stripX, stripOps, pickOps]
  simp [K_101_f, K_101_e, K_101h_f, K_101h_e, K_101h_g, -V.flat, -V.one, one_int, one_bool, one_str, one_nilp, one_rp, one_nilsl, one_ro, one_cl, one_nilf, one_nili, one_ifc, one_ptr, one_sl, one_clo, flat_d, flat_ptr, flat_sl, flat_clo, flat_agg, hF]
  refine (l15Own_own _ F hF hg).mono ?_
  rintro r H0 ⟨A, rfl, oA, eA, ho, iA⟩
  have hfl := oA.ok.1.flat
  have hone := oA.ok.1.scl.2
  have hlF : F.blocks_.length = A.blocks_.l.length := by rw [← eA]; exact List.length_map _
  obtain ⟨rv, rr, rn, ri⟩ := (CFunc.own_blocks_ oA).row (by omega)
  have hl0 := ho.len
  simp only [List.length_append, List.length_cons, List.length_nil] at hl0
  have iA' : ∀ j ∈ ids A, H.length + 2 ≤ j ∧ j < H0.length := fun j hj => ⟨by have := iA j hj; simp at this; omega, oA.lt hj⟩
  have ko : ∀ R : Heap, (H0 ++ R)[H.length + 1]? = some (.row 2 [[.d (.int .i64 0), .d .nilsl]]) := fun R => (List.getElem?_append_left (by omega)).trans ((ho.at_ _ (by simp) List.not_mem_nil).trans (by simp))
  have hv : A.blocks_.v = .sl A.blocks_.id 5 0 A.blocks_.l.length := rv
  have h8 : A.blocks_.l.length ≤ 8 := by omega
  simp [K_101_f, K_101_e, K_101h_f, K_101h_e, K_101h_g, -V.flat, -V.one, one_int, one_bool, one_str, one_nilp, one_rp, one_nilsl, one_ro, one_cl, one_nilf, one_nili, one_ifc, one_ptr, one_sl, one_clo, flat_d, flat_ptr, flat_sl, flat_clo, flat_agg, hv]
  have oA1 : Own (H0 ++ [.row 2 [[.d (.int .i64 A.params_), .sl A.blocks_.id 5 0 A.blocks_.l.length]]]) A := oA.frame (Only.app [] _ _) fun j _ hj => absurd hj List.not_mem_nil
  generalize hHb : H0 ++ [.row 2 [[.d (.int .i64 A.params_), .sl A.blocks_.id 5 0 A.blocks_.l.length]]] = Hb at oA1
  have hcb : Hb[H0.length]? = some (.row 2 [[.d (.int .i64 A.params_), .sl A.blocks_.id 5 0 A.blocks_.l.length]]) := by rw [← hHb]; exact List.getElem?_concat_length
  have hoc : H0.length ∉ ids A := fun h => by have := (iA' _ h).2; omega
  have lHb : Hb.length = H0.length + 1 := by rw [← hHb]; simp
  refine W_loopH (α := Nat × CFunc × Int × Heap) (fun a => [(1, .ptr H.length 2 0 0), (2, .ptr (H.length + 1) 2 0 0), (4, .ptr H0.length 2 0 0), (5, .d (.int .i64 a.2.2.1)), (15, .d (.int .i64 A.blocks_.l.length)), (16, .d (.int .i64 a.1))]) (fun a => a.2.2.2)
    (fun a => a.1 ≤ A.blocks_.l.length ∧ (0 ≤ a.2.2.1 ∧ a.2.2.1 ≤ 100 * a.1) ∧ NC A Hb ((List.range a.1).foldl stepB (F, 0)) a.2.1 a.2.2.1 a.2.2.2) (fun a => A.blocks_.l.length - a.1) (0, A, 0, Hb) ?_ ⟨Nat.zero_le _, ⟨Int.le_refl 0, by simp⟩, ⟨oA1, rfl, rfl, rfl, by rw [eA]; rfl, eA ▸ hg, eA ▸ hF, fun j hj => hj, Only.refl _ _⟩⟩ ?_
  · simp [hHb]
  rintro ⟨kb, A1, m1, H1⟩ ⟨hkb, hm1, q1⟩
  simp only [] at hkb hm1 q1
  have c1 : H1[H0.length]? = some (.row 2 [[.d (.int .i64 A.params_), .sl A.blocks_.id 5 0 A.blocks_.l.length]]) := (q1.only.at_ _ (by omega) hoc).trans hcb
  have hl1 := q1.only.len
  by_cases hin : A.blocks_.l.length ≤ kb
  · have o1 : H1[H.length + 1]? = some (.row 2 [[.d (.int .i64 0), .d .nilsl]]) := (q1.only.at_ _ (by omega) fun h => by have := (iA' _ h).1; omega).trans (by rw [← hHb]; exact ko _)
    have s1 : ∀ p, (H1.set (H.length + 1) p)[H.length + 1]? = some p := fun p => List.getElem?_set_self (by omega)
    refine W_run mixed ⟨[K_101], [K_101h], [98], 54, H.length, [0, 1, 2, 3, 4, 5, 6, 7, 8, 9, 10, 15, 16, 17, 24, 25, 26, 27, 37], [17, 27, 37]⟩ (fun _ => []) (by kernel_rfl) ?_
    simp only [stripX, stripOps, pickOps]
    simp [K_101_f, K_101_e, K_101h_f, K_101h_e, K_101h_g, -V.flat, -V.one, one_int, one_bool, one_str, one_nilp, one_rp, one_nilsl, one_ro, one_cl, one_nilf, one_nili, one_ifc, one_ptr, one_sl, one_clo, flat_d, flat_ptr, flat_sl, flat_clo, flat_agg, retQ, c1, o1, s1, hin]
    refine ⟨fun h => absurd hin (by omega), ?_⟩
    have e : kb = A.blocks_.l.length := by omega
    have efn : (List.range kb).foldl stepB (F, 0) = fnN F := by rw [e, ← hlF]; rfl
    rw [efn] at q1
    have em : m1 = (fnN F).2 := congrArg Prod.snd q1.era
    refine ⟨_, _, Fin.same (by simp; omega), A1, by rw [em, q1.par, q1.bv, hv], q1.own.frame (S := [H.length + 1]) Only.set fun j hj h => ?_, congrArg Prod.fst q1.era, ⟨by simp; omega, fun j hj _ => ?_⟩, fun j hj => ?_⟩
    · rw [List.mem_singleton.1 h] at hj
      have := (iA' _ (q1.ids _ hj)).1; omega
    · rw [List.getElem?_set_ne (by omega)]
      refine (q1.only.at_ j (by omega) fun h => by have := (iA' _ h).1; omega).trans ?_
      rw [← hHb]
      exact (List.getElem?_append_left (by omega)).trans ((ho.at_ j (by simp; omega) List.not_mem_nil).trans (List.getElem?_append_left hj))
    · have := (iA' _ (q1.ids _ hj)).1; omega
  · have hi : kb < A1.blocks_.l.length := by rw [q1.bl]; omega
    obtain ⟨b1, hb1⟩ : ∃ b1, A1.blocks_.l[kb]? = some b1 := ⟨_, List.getElem?_eq_getElem hi⟩
    have hrow : H1[A.blocks_.id]? = some (.row 5 (A1.blocks_.l.map Tr.cells)) := by
      have := ((CFunc.own_blocks_ q1.own).row (by omega)).2.1
      rw [show A1.blocks_.id = A.blocks_.id from congrArg V.slId q1.bv] at this
      exact this
    have hget : (A1.blocks_.l.map Tr.cells)[kb]? = some [.d (.int .i64 b1.params_), b1.insts_.v, .d (.int .i64 b1.end_), .d (.int .i64 b1.value_), b1.jumps_.v] := by rw [List.getElem?_map, hb1]; rfl
    have hlen : (A1.blocks_.l.map Tr.cells).length = A.blocks_.l.length := by rw [List.length_map, q1.bl]
    have hget' : ∀ h : kb < (A1.blocks_.l.map Tr.cells).length, (A1.blocks_.l.map Tr.cells)[kb] = _ := fun h => Option.some.inj ((List.getElem?_eq_getElem h).symm.trans hget)
    have hkb' : kb < A.blocks_.l.length := by omega
    have wi : IntKind.i64.wrap ((kb : Int) + 1) = ((kb + 1 : Nat) : Int) := by rw [wrap_id] <;> omega
    have hst : stepB ((List.range kb).foldl stepB (F, 0)) kb = (List.range (kb + 1)).foldl stepB (F, 0) := by rw [List.range_succ, List.foldl_append]; rfl
    have oI := CBlock.own_insts_ ((CFunc.own_blocks_ q1.own).elems.get (List.mem_of_getElem? hb1))
    have inner : ∀ {c : Code} (hcd : (loopsIn (Tryz.f56.body.getD .skip))[1]? = some c) {Q : Exit → St → Prop} {s : St}
        (hs : IntoH s [(1, .ptr H.length 2 0 0), (2, .ptr (H.length + 1) 2 0 0), (4, .ptr H0.length 2 0 0), (5, .d (.int .i64 m1)), (6, .d (.int .i64 kb)), (15, .d (.int .i64 A.blocks_.l.length)), (16, .d (.int .i64 kb)), (24, b1.insts_.v), (25, .d (.int .i64 b1.insts_.l.length)), (26, .d (.int .i64 0))] H1)
        (hq : ∀ l' H' A' k', mk l' 1 = .ptr H.length 2 0 0 → mk l' 2 = .ptr (H.length + 1) 2 0 0 → mk l' 4 = .ptr H0.length 2 0 0 → mk l' 5 = .d (.int .i64 k') → mk l' 15 = .d (.int .i64 A.blocks_.l.length) → mk l' 16 = .d (.int .i64 kb) → (0 ≤ k' ∧ k' ≤ 100 * ((kb + 1 : Nat) : Int)) → NC A Hb ((List.range (kb + 1)).foldl stepB (F, 0)) A' k' H' → Q (.exit 2) ⟨mk l', H'⟩),
        W Tryz.prog 54 H.length c Q s := by
      intro c hcd Q s hs hq
      exact numsIn hv hcb hoc q1 hb1 h8 hm1 hcd hs (by rw [hst]; exact hq)
    generalize hrs : A1.blocks_.l.map Tr.cells = rows at hrow hget hget' hlen
    rcases oI.ok.1 with hvI | ⟨h0, hvI | ⟨f, hvI⟩⟩
    · rw [hvI] at hget hget' inner
      refine W_run mixed ⟨[K_101], [K_101h], [98], 54, H.length, [0, 1, 2, 3, 4, 5, 6, 7, 8, 9, 10, 15, 16, 17, 24, 25, 26, 27, 37], [17, 27, 37]⟩ (fun _ => []) (by kernel_rfl) ?_
      simp only [stripX, stripOps, pickOps]
      simp [K_101_f, K_101_e, K_101h_f, K_101h_e, K_101h_g, -V.flat, -V.one, one_int, one_bool, one_str, one_nilp, one_rp, one_nilsl, one_ro, one_cl, one_nilf, one_nili, one_ifc, one_ptr, one_sl, one_clo, flat_d, flat_ptr, flat_sl, flat_clo, flat_agg, c1, hrow, hget, hget', hlen, hkb']
      refine inner rfl ?_ fun l' H' A' k' e1 e2 e4 e5 e15 e16 hk' q' => ?_
      · simp
      · simp [K_101_f, K_101_e, K_101h_f, K_101h_e, K_101h_g, -V.flat, -V.one, one_int, one_bool, one_str, one_nilp, one_rp, one_nilsl, one_ro, one_cl, one_nilf, one_nili, one_ifc, one_ptr, one_sl, one_clo, flat_d, flat_ptr, flat_sl, flat_clo, flat_agg, e1, e2, e4, e5, e15, e16]
        exact ⟨kb + 1, A', k', H', ⟨by omega, hk', q'⟩, by omega, rfl, rfl, by rw [wi]⟩
    · rw [hvI] at hget hget' inner
      refine W_run mixed ⟨[K_101], [K_101h], [98], 54, H.length, [0, 1, 2, 3, 4, 5, 6, 7, 8, 9, 10, 15, 16, 17, 24, 25, 26, 27, 37], [17, 27, 37]⟩ (fun _ => []) (by kernel_rfl) ?_
      simp only [stripX, stripOps, pickOps]
      simp [K_101_f, K_101_e, K_101h_f, K_101h_e, K_101h_g, -V.flat, -V.one, one_int, one_bool, one_str, one_nilp, one_rp, one_nilsl, one_ro, one_cl, one_nilf, one_nili, one_ifc, one_ptr, one_sl, one_clo, flat_d, flat_ptr, flat_sl, flat_clo, flat_agg, c1, hrow, hget, hget', hlen, hkb', h0]
      refine inner rfl ?_ fun l' H' A' k' e1 e2 e4 e5 e15 e16 hk' q' => ?_
      · simp
        omega
      · simp [K_101_f, K_101_e, K_101h_f, K_101h_e, K_101h_g, -V.flat, -V.one, one_int, one_bool, one_str, one_nilp, one_rp, one_nilsl, one_ro, one_cl, one_nilf, one_nili, one_ifc, one_ptr, one_sl, one_clo, flat_d, flat_ptr, flat_sl, flat_clo, flat_agg, e1, e2, e4, e5, e15, e16]
        exact ⟨kb + 1, A', k', H', ⟨by omega, hk', q'⟩, by omega, rfl, rfl, by rw [wi]⟩
    · rw [hvI] at hget hget' inner
      refine W_run mixed ⟨[K_101], [K_101h], [98], 54, H.length, [0, 1, 2, 3, 4, 5, 6, 7, 8, 9, 10, 15, 16, 17, 24, 25, 26, 27, 37], [17, 27, 37]⟩ (fun _ => []) (by kernel_rfl) ?_
      simp only [stripX, stripOps, pickOps]
      simp [K_101_f, K_101_e, K_101h_f, K_101h_e, K_101h_g, -V.flat, -V.one, one_int, one_bool, one_str, one_nilp, one_rp, one_nilsl, one_ro, one_cl, one_nilf, one_nili, one_ifc, one_ptr, one_sl, one_clo, flat_d, flat_ptr, flat_sl, flat_clo, flat_agg, c1, hrow, hget, hget', hlen, hkb', h0]
      refine inner rfl ?_ fun l' H' A' k' e1 e2 e4 e5 e15 e16 hk' q' => ?_
      · simp
        omega
      · simp [K_101_f, K_101_e, K_101h_f, K_101h_e, K_101h_g, -V.flat, -V.one, one_int, one_bool, one_str, one_nilp, one_rp, one_nilsl, one_ro, one_cl, one_nilf, one_nili, one_ifc, one_ptr, one_sl, one_clo, flat_d, flat_ptr, flat_sl, flat_clo, flat_agg, e1, e2, e4, e5, e15, e16]
        exact ⟨kb + 1, A', k', H', ⟨by omega, hk', q'⟩, by omega, rfl, rfl, by rw [wi]⟩
def fnG (F : Func) : Func := (fnN F).1
def fnK (F : Func) : Int := (fnN F).2
theorem l15Nums_c (F : Func) (hF : Enc.good F) (hg : goodF F = true) : PureP Tryz.prog 56 [vFunc F] (· = .tup [vFunc (fnG F), .d (.int .i64 (fnK F))]) :=
  PureP.of_own ((l15Nums_own [] F hF hg).mono fun r H' ⟨A, e, oA, eA, _, _⟩ => by
    have := Rd1.aggs oA rfl
    rw [eA] at this
    rw [e]
    exact Rd1.tup ⟨this, Rd1.d, trivial⟩)
noncomputable def K_56 : Ent Tryz.prog := Ent.p1 (α := Func) 56 (fun F => Enc.good F ∧ goodF F = true) (fun F => .tup [vFunc (fnG F), .d (.int .i64 (fnK F))]) (fun F hc => l15Nums_c F hc.1 hc.2)
theorem K_56_f : K_56.f = 56 := rfl
theorem K_56_e (F0 : Int) (F1 : List Block) : K_56.e [.agg [.d (.int .i64 F0), .d (dBlockS F1)]] = some (Enc.good (Func.mk F0 F1) ∧ goodF (Func.mk F0 F1) = true, .tup [vFunc (fnG (Func.mk F0 F1)), .d (.int .i64 (fnK (Func.mk F0 F1)))], []) := by unfold K_56; exact Ent.p1_eq (α := Func) (Func.mk F0 F1)
noncomputable def K_56h : EntH Tryz.prog := EntH.pk1 (α := Func) 56 (fun F => Enc.good F ∧ goodF F = true) (fun F => .tup [vFunc (fnG F), .d (.int .i64 (fnK F))]) (fun F => []) (fun F hc => PureP.ans (l15Nums_c F hc.1 hc.2))
theorem K_56h_f : K_56h.f = 56 := rfl
theorem K_56h_g : K_56h.gro = true := rfl
theorem K_56h_e {x1 : V} {H : Heap} : K_56h.e [x1] H = guardR ((decA (α := Func) H x1).1) (peekR (Enc.good (decA (α := Func) H x1).2 ∧ goodF (decA (α := Func) H x1).2 = true) (.tup [vFunc (fnG (decA (α := Func) H x1).2), .d (.int .i64 (fnK (decA (α := Func) H x1).2))]) ([]) H) := rfl
theorem fnN_good {F : Func} (h : goodF F = true) : goodF (fnG F) = true := by
  have sI : ∀ (k : Nat) (p : Func × Int) (i : Nat), goodF p.1 = true → goodF (stepI k p i).1 = true := fun k p i h => by
    unfold stepI
    split
    · exact setI_good h (num_ok (F := F) _ _)
    · exact h
  have fl : ∀ {γ : Type} (f : Func × Int → γ → Func × Int) (hf : ∀ p x, goodF p.1 = true → goodF (f p x).1 = true) (l : List γ) (p : Func × Int), goodF p.1 = true → goodF (l.foldl f p).1 = true := fun f hf l => by
    induction l with
    | nil => intro p h; exact h
    | cons x l ih => intro p h; exact ih _ (hf p x h)
  exact fl _ (fun p k h => fl _ (sI k) _ p h) _ _ h
theorem fnG_good {F : Func} (h : goodF F = true) : goodF (fnG F) = true := fnN_good h
end Go.Proofs.YtbmloeahcdneaaaGreat
end
