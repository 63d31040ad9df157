/- spec.l15Blocks. No condition. -/
import Derived.Test.YtbmloeahcdneaaaGreatQS17
import Derived.Test.YtbmloeahcdneaaaGreatQS37
import Derived.Test.YtbmloeahcdneaaaGreatQS49
import Derived.Test.YtbmloeahcdneaaaGreatQS73
import Derived.Test.YtbmloeahcdneaaaGreatQS86
import Derived.Test.YtbmloeahcdneaaaGreatQS80
section
namespace Go.Proofs.YtbmloeahcdneaaaGreat
set_option maxRecDepth 100000
set_option linter.unusedSimpArgs false
set_option linter.unusedVariables false
end Go.Proofs.YtbmloeahcdneaaaGreat
end

section
namespace Go.Proofs.YtbmloeahcdneaaaGreat
set_option maxRecDepth 100000
set_option linter.unusedSimpArgs false
set_option linter.unusedVariables false
end Go.Proofs.YtbmloeahcdneaaaGreat
end

section
namespace Go.Proofs.YtbmloeahcdneaaaGreat
set_option maxRecDepth 100000
set_option linter.unusedSimpArgs false
set_option linter.unusedVariables false
structure FE (A : AFunc) (F : Func) (H0 : Heap) (m l : List ABlock) (k : Int) (H : Heap) : Prop where
  own : Own H (⟨A.blocks_.v, m ++ l⟩ : AS ABlock)
  left : l = A.blocks_.l.drop m.length
  sol : ∀ b ∈ m ++ l, solB b
  era : m.map Tr.era = (F.blocks_.take m.length).map (foldB F)
  cnt : k = ((F.blocks_.take m.length).map (foldK F)).sum
  ids : ∀ j ∈ ids (⟨A.blocks_.v, m ++ l⟩ : AS ABlock), j ∈ ids A.blocks_ ∨ H0.length ≤ j
  only : Only (Go.Proofs.YtbmloeahcdneaaaGreat.ids A.blocks_) H0 H
  le : m.length ≤ A.blocks_.l.length
end Go.Proofs.YtbmloeahcdneaaaGreat
end

section
namespace Go.Proofs.YtbmloeahcdneaaaGreat
set_option maxRecDepth 100000
set_option linter.unusedSimpArgs false
set_option linter.unusedVariables false
end Go.Proofs.YtbmloeahcdneaaaGreat
end

section
namespace Go.Proofs.YtbmloeahcdneaaaGreat
set_option maxRecDepth 100000
set_option linter.unusedSimpArgs false
set_option linter.unusedVariables false
structure FS (A : CFunc) (F : Func) (H0 : Heap) (m l : List CBlock) (k : Int) (H : Heap) : Prop where
  own : Own H (⟨A.blocks_.v, m ++ l⟩ : AS CBlock)
  left : l = A.blocks_.l.drop m.length
  era : m.map Tr.era = (F.blocks_.take m.length).map (foldB F)
  cnt : k = ((F.blocks_.take m.length).map (foldK F)).sum
  only : Only (Go.Proofs.YtbmloeahcdneaaaGreat.ids A.blocks_) H0 H
  idv : A.blocks_.id ∈ Go.Proofs.YtbmloeahcdneaaaGreat.ids A.blocks_
  idl : ∀ j ∈ Go.Proofs.YtbmloeahcdneaaaGreat.ids (⟨A.blocks_.v, m ++ l⟩ : AS CBlock), j ∈ Go.Proofs.YtbmloeahcdneaaaGreat.ids A.blocks_ ∨ H0.length ≤ j
  le : m.length ≤ A.blocks_.l.length
end Go.Proofs.YtbmloeahcdneaaaGreat
end

section
namespace Go.Proofs.YtbmloeahcdneaaaGreat
set_option maxRecDepth 100000
set_option linter.unusedSimpArgs false
set_option linter.unusedVariables false
end Go.Proofs.YtbmloeahcdneaaaGreat
end

section
namespace Go.Proofs.YtbmloeahcdneaaaGreat
set_option maxRecDepth 100000
set_option linter.unusedSimpArgs false
set_option linter.unusedVariables false
theorem At.postO {H H' : Heap} {idf : Nat} {A : AFunc} (q : At H idf A) (ho : Only [] H H') : At H' idf A := q.frame ho List.not_mem_nil fun j _ h => absurd h List.not_mem_nil
end Go.Proofs.YtbmloeahcdneaaaGreat
end

section
namespace Go.Proofs.YtbmloeahcdneaaaGreat
set_option maxRecDepth 100000
set_option linter.unusedSimpArgs false
set_option linter.unusedVariables false
theorem CallsD.clo0 {P : Program} {f fn : FuncId} {g : Nat → D} {a b : V} {H : Heap} {Q : V → Heap → Prop} (h : CallsD P f [a, .clo fn [], b] H Q) : CallsD P f [a, .d (.clo fn 0 g), b] H Q :=
  ⟨h.1, fun X w φ args hX hs hv => h.2 X w φ args hX hs (by
    obtain ⟨v, vs, e, h1, v2, vs2, e2, ⟨cs, h2, hn, _⟩, h3⟩ := hv
    exact ⟨v, vs, e, h1, v2, vs2, e2, ⟨cs, h2, by rw [Array.eq_empty_of_size_eq_zero hn]; rfl⟩, h3⟩)⟩
theorem none_pd : Pd 108 [] (fun _ => True) [] (fun n => True) (fun _ => false) := by
  refine ⟨fun H n _ _ => ?_, fun _ _ _ _ => trivial⟩
  refine calls_of Tryz.func108 en_108 rfl (of_decide_eq_true rfl) (W_run mixed ⟨[], [], [], 3, H.length, [2], []⟩ (fun _ => []) (by kernel_rfl) ?_)
  simp only [Tryz.f108, stripX, stripOps, pickOps]
  simp [retQ]
  exact Fin.same (by simp)
def offP (all : List Bool) (k : Int) : Bool := decide (0 ≤ k) && !(all[k.toNat]?.getD false)
theorem off_pd (all : List Bool) (t4 : Nat) : Pd 109 [.ptr t4 1 0 0] (fun H => H[t4]? = some (.row 1 [[.d (dBoolS all)]])) [t4] (fun n => n < all.length) (offP all) := by
  refine ⟨fun H n hE hn => ?_, fun H H' hk hE => (hk t4 (by simp)).trans hE⟩
  by_cases h0 : 0 ≤ n
  · have hx : all[n.toNat]? = some (all[n.toNat]?.getD false) := by rw [List.getElem?_eq_getElem (by omega)]; rfl
    have e : offP all n = !(all[n.toNat]?.getD false) := by simp [offP, h0]
    rw [e]
    generalize all[n.toNat]?.getD false = x at hx
    have hx2 : ∀ h : n.toNat < all.length, all[n.toNat] = x := fun h => Option.some.inj ((List.getElem?_eq_getElem h).symm.trans hx)
    refine calls_of Tryz.func109 en_109 rfl (of_decide_eq_true rfl) (W_run mixed ⟨[], [], [], 13, H.length, [0, 1, 3], [6]⟩ (fun _ => []) (by kernel_rfl) ?_)
    simp only [Tryz.f109, stripX, stripOps, pickOps]
    simp [retQ, hE, h0, hn, hx, hx2]
    exact Fin.same (by simp)
  · have e : offP all n = false := by simp [offP, h0]
    rw [e]
    refine calls_of Tryz.func109 en_109 rfl (of_decide_eq_true rfl) (W_run mixed ⟨[], [], [], 13, H.length, [0, 1, 3], [6]⟩ (fun _ => []) (by kernel_rfl) ?_)
    simp only [Tryz.f109, stripX, stripOps, pickOps]
    simp [retQ, hE, h0]
    exact Fin.same (by simp)
structure PW (H : Heap) (idf : Nat) (A A' : AFunc) (H' : Heap) : Prop where
  row : H'[idf]? = some (.row 2 [[.d (.int .i64 A'.params_), A'.blocks_.v]])
  own : Own H' A'
  nin : idf ∉ ids A'
  ids : ∀ j ∈ ids A', j ∈ ids A ∨ H.length ≤ j
  only : Only (idf :: Go.Proofs.YtbmloeahcdneaaaGreat.ids A) H H'
def PassW (fn : Nat) (G : Func → Func) (K : Func → Int) : Prop := ∀ (H : Heap) (A : AFunc) (idf : Nat), At H idf A → soundF (Tr.era A) = true →
  CallsD Tryz.prog fn [.ptr idf 2 0 0] H fun r H' => ∃ A', r = .d (.int .i64 (K (Tr.era A))) ∧ Tr.era A' = G (Tr.era A) ∧ PW H idf A A' H'
noncomputable def dbR (F : Func) : List Bool := rchB (nextL F.blocks_) 0 (-1)
theorem dbR_len (F : Func) : (dbR F).length = F.blocks_.length := by simp [dbR, rchB, nextL]
noncomputable def dbG (F : Func) : Func := withoutF F (fun _ => false) (offP (dbR F))
noncomputable def dbK (F : Func) : Int := (dbR F).length - (listB (dbR F)).length
theorem dropBlocks_pass : PassW 59 dbG dbK := by
  intro H A idf q hsnd
  have hr := q.row
  have fl := q.own.ok.1.flat
  have on := q.own.ok.1.scl.2
  have hlt := (List.getElem?_eq_some_iff.1 hr).1
  refine calls_of Tryz.func59 en_59 rfl (of_decide_eq_true rfl) (W_run mixed ⟨[K_105, K_110], [K_105h, K_110h], [84, 106, 107, 108], 23, H.length, [0, 2, 3, 4], []⟩ (fun | 4 => [0, 1, 2, 3, 4, 5, 6] | _ => []) (by kernel_rfl) ?_)
  simp only [Tryz.f59, stripX, stripOps, pickOps]
  simp [K_105_f, K_105_e, K_110_f, K_110_e, K_105h_f, K_105h_e, K_110h_f, K_110h_e, K_105h_g, K_110h_g, -V.flat, -V.one, one_int, one_bool, one_str, one_nilp, one_rp, one_nilsl, one_ro, one_cl, one_nilf, one_nili, one_ifc, one_ptr, one_sl, one_clo, flat_d, flat_ptr, flat_sl, flat_clo, flat_agg, -decA, decA_int, decA_bool, decA_str, hr, fl, on]
  have hvw := viewOf_own H A q.own q.sol q.good q.enc
  rw [cells_AFunc] at hvw
  refine hvw.mono ?_
  rintro r H1 ⟨w, f, b, rfl, hw, ho⟩
  simp [K_105_f, K_105_e, K_110_f, K_110_e, K_105h_f, K_105h_e, K_110h_f, K_110h_e, K_105h_g, K_110h_g, -V.flat, -V.one, one_int, one_bool, one_str, one_nilp, one_rp, one_nilsl, one_ro, one_cl, one_nilf, one_nili, one_ifc, one_ptr, one_sl, one_clo, flat_d, flat_ptr, flat_sl, flat_clo, flat_agg, -decA, decA_int, decA_bool, decA_str]
  obtain ⟨hf1, hf2, hf3⟩ := good_flow q.good
  have q1 := q.frame ho List.not_mem_nil fun j _ h => absurd h List.not_mem_nil
  have hd := hw.decA q1.own q.sol rfl
  refine (next_own hd hf1).mono ?_
  rintro r H2 ⟨rfl, k, rfl⟩
  have hnl : 0 < (nextL (viewD (Tr.era A)).blocks_).length := by show 0 < (nextL (Tr.era A).blocks_).length; simpa [nextL] using hf3
  have hf2' : okNext (nextL (viewD (Tr.era A)).blocks_) := hf2
  simp [K_105_f, K_105_e, K_110_f, K_110_e, K_105h_f, K_105h_e, K_110h_f, K_110h_e, K_105h_g, K_110h_g, -V.flat, -V.one, one_int, one_bool, one_str, one_nilp, one_rp, one_nilsl, one_ro, one_cl, one_nilf, one_nili, one_ifc, one_ptr, one_sl, one_clo, flat_d, flat_ptr, flat_sl, flat_clo, flat_agg, -decA, decA_int, decA_bool, decA_str, hf2', hnl]
  rw [aft_call]
  generalize hH3 : H1 ++ (List.replicate k Place.dead ++ [.row 1 [[.d (dBoolS (rchB (nextL (viewD (Tr.era A)).blocks_) 0 (-1)))]]]) = H3
  have ho3 : Only [] H1 H3 := by rw [← hH3]; exact Only.app [] _ _
  have o3 : Only [] H H3 := ho.trans ho3 (fun j hj => hj) fun j hj _ => hj
  have l1 := ho.len
  have l3 := o3.len
  have c3 : H3[H1.length + k]? = some (.row 1 [[.d (dBoolS (dbR (Tr.era A)))]]) := by
    rw [← hH3, ← List.append_assoc, List.getElem?_append_right (by simp)]; simp; exact ⟨rfl, rfl⟩
  have lc := (List.getElem?_eq_some_iff.1 c3).1
  have q3 := q1.postO ho3
  have hw3 := hw.keep ho3 List.not_mem_nil List.not_mem_nil List.not_mem_nil
  have hlen : (dbR (Tr.era A)).length = (Tr.era A).blocks_.length := dbR_len _
  refine (CallsD.clo0 (without_own H3 A (Tr.era A) w f b ⟨hw3.view, hw3.fr, hw3.br, ⟨Nat.zero_le _, Nat.zero_le _, Nat.zero_le _⟩⟩ q3.own q.sol rfl q.good (Ev := fun _ => True) (Kv := []) ⟨fun H n hE _ => none_pd.call H n hE trivial, none_pd.keep⟩
    (by have := off_pd (dbR (Tr.era A)) (H1.length + k); rw [hlen] at this; exact this) (fun _ h => absurd h List.not_mem_nil) (fun j hj => by rw [List.mem_singleton.1 hj]; exact lc) trivial c3 (by decide) (by decide))).mono ?_
  rintro r H4 ⟨B, rfl, hB, hn⟩
  have bfl := hn.own.ok.1.flat
  have bon := hn.own.ok.1.scl.2
  have o4 := o3.trans hn.only (fun j hj => hj) fun j hj _ => hj
  have hr4 := (o4.at_ _ hlt List.not_mem_nil).trans hr
  have c4 := (hn.only.at_ _ lc List.not_mem_nil).trans c3
  have hne : H1.length + k ≠ idf := by omega
  have s4 : ∀ p, (H4.set idf p)[H1.length + k]? = some (.row 1 [[.d (dBoolS (dbR (Tr.era A)))]]) := fun p => (List.getElem?_set_ne hne.symm).trans c4
  have h8 : (dbR (Tr.era A)).length ≤ 8 := by have := (lay q.good).len.1; omega
  simp [K_105_f, K_105_e, K_110_f, K_110_e, K_105h_f, K_105h_e, K_110h_f, K_110h_e, K_105h_g, K_110h_g, -V.flat, -V.one, one_int, one_bool, one_str, one_nilp, one_rp, one_nilsl, one_ro, one_cl, one_nilf, one_nili, one_ifc, one_ptr, one_sl, one_clo, flat_d, flat_ptr, flat_sl, flat_clo, flat_agg, -decA, decA_int, decA_bool, decA_str, bfl, bon, hr4, c4, s4, h8, retQ]
  have hnm := numsOf_len (fun k => (dbR (Tr.era A))[k]?.getD false) (dbR (Tr.era A)).length
  have wK : IntKind.i64.wrap (((dbR (Tr.era A)).length : Int) - ((listB (dbR (Tr.era A))).length : Int)) = dbK (Tr.era A) := by
    have : (listB (dbR (Tr.era A))).length ≤ (dbR (Tr.era A)).length := hnm
    unfold dbK
    rw [wrap_id] <;> omega
  have hge : ∀ j ∈ ids B, H3.length ≤ j := hn.fresh
  have oset : Only [idf] H (H4.set idf (.row 2 [[.d (.int .i64 B.params_), B.blocks_.v]])) := o4.trans Only.set (fun j hj => absurd hj List.not_mem_nil) fun j hj _ => hj
  exact ⟨_, _, Fin.same (by simp; exact o4.len), by rw [wK], B, hB, List.getElem?_set_self (by have := o4.len; omega), hn.own.frame (S := [idf]) Only.set (fun j hj h => by have := hge j hj; rw [List.mem_singleton.1 h] at this; omega),
    fun h => by have := hge _ h; omega, fun j hj => .inr (by have := hge j hj; omega), oset.mono fun j hj => List.mem_cons.2 (.inl (List.mem_singleton.1 hj))⟩
end Go.Proofs.YtbmloeahcdneaaaGreat
end

section
namespace Go.Proofs.YtbmloeahcdneaaaGreat
set_option maxRecDepth 100000
set_option linter.unusedSimpArgs false
set_option linter.unusedVariables false
abbrev cV (F : Func) (pb : Int → Bool) (j : Nat) : List V := [.d (.int .i64 (numW F pv0 pb j))]
abbrev cB (pb : Int → Bool) (j : Nat) : List V := [.d (.int .i64 (bnoW pb j))]
abbrev z0 : List V := [.d (.int .i64 0)]
structure LB (H : Heap) (F : Func) (pb : Int → Bool) (tot nb u B : Nat) (G : Heap) : Prop where
  box : G[H.length]? = some (.row 2 [[.d (.int .i64 F.params_), .d (dBlockS F.blocks_)]])
  out : G[H.length + 1]? = some (.row 2 [[.d (.int .i64 0), .d .nilsl]])
  vn : G[H.length + 2]? = some (.row 1 (fillR tot u (cV F pb) z0))
  bn : G[H.length + 3]? = some (.row 1 (fillR nb B (cB pb) z0))
  only : Only [] H G
theorem LB.len {H : Heap} {F : Func} {pb : Int → Bool} {tot nb u B : Nat} {G : Heap} (h : LB H F pb tot nb u B G) : H.length + 4 ≤ G.length := (List.getElem?_eq_some_iff.1 h.bn).1
theorem LB.app {H : Heap} {F : Func} {pb : Int → Bool} {tot nb u B : Nat} {G : Heap} (h : LB H F pb tot nb u B G) (R : Heap) : LB H F pb tot nb u B (G ++ R) := by
  have hl := h.len
  have kp : ∀ j P, G[j]? = some P → (G ++ R)[j]? = some P := fun j P q => (List.getElem?_append_left (List.getElem?_eq_some_iff.1 q).1).trans q
  exact ⟨kp _ _ h.box, kp _ _ h.out, kp _ _ h.vn, kp _ _ h.bn, h.only.trans (Only.app [] _ _) (fun j hj => hj) fun j hj _ => hj⟩
theorem LB.setV {H : Heap} {F : Func} {pb : Int → Bool} {tot nb u B : Nat} {G : Heap} (h : LB H F pb tot nb u B G) (hu : u < tot) {n : Int} (hn : n = numW F pv0 pb u) : LB H F pb tot nb (u + 1) B (G.set (H.length + 2) (.row 1 ((fillR tot u (cV F pb) z0).set u [.d (.int .i64 n)]))) := by
  have hl := h.len
  have kp : ∀ j P P', j ≠ H.length + 2 → G[j]? = some P → (G.set (H.length + 2) P')[j]? = some P := fun j P P' hn q => (List.getElem?_set_ne hn.symm).trans q
  subst hn
  refine ⟨kp _ _ _ (by omega) h.box, kp _ _ _ (by omega) h.out, ?_, kp _ _ _ (by omega) h.bn, h.only.trans Only.set (fun j hj => hj) fun j hj hl => by rw [List.mem_singleton.1 hj] at hl; omega⟩
  rw [List.getElem?_set_self (by omega), fillR_set tot u (cV F pb) z0 hu]
theorem LB.setB {H : Heap} {F : Func} {pb : Int → Bool} {tot nb u B : Nat} {G : Heap} (h : LB H F pb tot nb u B G) (hu : B < nb) {n : Int} (hn : n = bnoW pb B) : LB H F pb tot nb u (B + 1) (G.set (H.length + 3) (.row 1 ((fillR nb B (cB pb) z0).set B [.d (.int .i64 n)]))) := by
  have hl := h.len
  have kp : ∀ j P P', j ≠ H.length + 3 → G[j]? = some P → (G.set (H.length + 3) P')[j]? = some P := fun j P P' hn q => (List.getElem?_set_ne hn.symm).trans q
  subst hn
  refine ⟨kp _ _ _ (by omega) h.box, kp _ _ _ (by omega) h.out, kp _ _ _ (by omega) h.vn, ?_, h.only.trans Only.set (fun j hj => hj) fun j hj hl => by rw [List.mem_singleton.1 hj] at hl; omega⟩
  rw [List.getElem?_set_self (by omega), fillR_set nb B (cB pb) z0 hu]
theorem LB.next {H : Heap} {F : Func} (hg : goodF F = true) {pb : Int → Bool} {tot nb B k : Nat} {G : Heap} (h : LB H F pb tot nb (fstN F B) B G) (hBk : B ≤ k) (hk : k ≤ F.blocks_.length) (hc : cntW pb B = cntW pb k) : LB H F pb tot nb (fstN F k) k G ∧ nxt F pv0 pb (fstN F k) = nxt F pv0 pb (fstN F B) := by
  obtain ⟨g1, g2, g3⟩ := gap hg hBk hk hc
  refine ⟨⟨h.box, h.out, ?_, ?_, h.only⟩, g2⟩
  · rw [h.vn, fillR_gap (fstN_mono F hBk) fun j h1 h2 => by show [_] = [_]; rw [g1 j h1 h2]]
  · rw [h.bn, fillR_gap hBk fun j h1 h2 => by show [_] = [_]; rw [g3 j h1 h2]]
set_option maxHeartbeats 4000000 in
theorem l15Blocks_own (H : Heap) (hH : H = []) (F : Func) (hF : Enc.good F) (hg : goodF F = true) : CallsD Tryz.prog 58 [vFunc F] H fun r H' => ∃ A : CFunc, r = .tup [.agg (Tr.cells A), .d (.int .i64 (dbK F))] ∧ Own H' A ∧ Tr.era A = dbG F := by
  have hL := lay hg
  obtain ⟨hf1, hf2, hf3⟩ := good_flow hg
  obtain ⟨m0, m80⟩ := many_rng hg
  obtain ⟨hp0, hp4⟩ := (goodF_spec hg).1
  have hl8 := hL.len.1
  have hmany : cntB F.blocks_ F.params_ = many F := rfl
  obtain ⟨tot, htot⟩ : ∃ n : Nat, many F = n := ⟨(many F).toNat, by omega⟩
  obtain ⟨nb, hnb⟩ : ∃ n : Nat, F.blocks_.length = n := ⟨_, rfl⟩
  obtain ⟨par, hpar⟩ : ∃ n : Nat, F.params_.toNat = n := ⟨_, rfl⟩
  have hpi : F.params_ = (par : Int) := by omega
  rw [htot] at hmany
  have hfn : fstN F nb = tot := by have := hL.many; rw [hnb] at this; omega
  have hf0 : fstN F 0 = par := by unfold fstN; rw [hpar]; rfl
  have hpt : par ≤ tot := by rw [← hf0, ← hfn]; exact fstN_mono F (Nat.zero_le _)
  have f0 : (0 : Int) < F.blocks_.length := by omega
  have hR : (dbR F).length = nb := (dbR_len F).trans hnb
  generalize hpb : offP (dbR F) = pb
  have hpk : ∀ k : Nat, (dbR F)[k]?.getD false = !pb k := fun k => by rw [← hpb]; simp [offP]
  obtain ⟨l, hl⟩ : ∃ l : List Int, fromL F 0 (-1) = l := ⟨_, rfl⟩
  have hlR : l = numsOf (fun k => (dbR F)[k]?.getD false) nb := by rw [← hl, ← hR]; rfl
  have hll : l.length ≤ 8 := by have := numsOf_len (fun k => (dbR F)[k]?.getD false) nb; rw [← hlR] at this; omega
  have hat : ∀ i, i < l.length → ∃ k : Nat, k < nb ∧ l[i]? = some (k : Int) ∧ pb k = false ∧ cntW pb k = i := fun i hi => by
    rw [hlR] at hi ⊢
    obtain ⟨k, q1, q2, q3, q4⟩ := numsOf_at _ nb i hi
    refine ⟨k, q1, q2, ?_, ?_⟩
    · rw [hpk k] at q3; simpa using q3
    · rw [← q4]; exact (numsOf_cnt pb _ nb (fun j _ => hpk j) (Nat.le_of_lt q1)).symm
  have hcl : cntW pb nb = l.length := by rw [hlR, ← numsOf_cnt pb _ nb (fun j _ => hpk j) (Nat.le_refl _)]; simp [numsOf]
  have t8 : (tot : Int) * 8 ≤ 140737488355328 := by omega
  have t1 : (tot : Int) ≤ 140737488355328 := by omega
  have t0 : (0 : Int) ≤ tot := by omega
  have f0' : (0 : Int) < nb := by omega
  have f0n : 0 < nb := by omega
  have n8 : (nb : Int) * 8 ≤ 140737488355328 := by omega
  have n1 : (nb : Int) ≤ 140737488355328 := by omega
  refine calls_of Tryz.func58 en_58 rfl (of_decide_eq_true rfl) (W_runCut mixed 7 ⟨[K_103, K_80, K_104], [K_103h, K_80h, K_104h], [82], 131, H.length, [0, 1, 2, 3, 4, 5, 6, 7, 8, 9, 10, 11, 12, 13, 14, 16, 17, 18, 19, 34, 41, 42, 43, 44, 71, 87, 88, 89, 90, 99, 100, 101, 102], [34, 44, 71, 90, 102]⟩ (fun | 15 => [0, 2, 4, 7, 1, 3, 5, 6, 8, 9, 10, 11] | 29 => [0, 2, 3, 4, 1, 5, 6, 7, 8, 9, 10] | 33 => [1, 4, 5, 0, 2, 3, 6, 7, 8] | _ => []) (by kernel_rfl) ?_)
  simp only [Tryz.f58, stripCut, stripX, stripOps, pickOps]
  simp [K_103_f, K_103_e, K_80_f, K_80_e, K_104_f, K_104_e, K_103h_f, K_103h_e, K_80h_f, K_80h_e, K_104h_f, K_104h_e, K_103h_g, K_80h_g, K_104h_g, -V.flat, -V.one, one_int, one_bool, one_str, one_nilp, one_rp, one_nilsl, one_ro, one_cl, one_nilf, one_nili, one_ifc, one_ptr, one_sl, one_clo, flat_d, flat_ptr, flat_sl, flat_clo, flat_agg, -decA, decA_int, decA_bool, decA_str, hF, hf1, hf2, f0, f0', f0n, n8, n1, hmany, hl, t8, t1, t0, hnb]
  refine W_loopH (α := Nat × Heap) (fun a => [(1, .ptr H.length 2 0 0), (2, .ptr (H.length + 1) 2 0 0), (4, .d (dIntS l)), (5, .sl (H.length + 2) 1 0 tot), (6, .sl (H.length + 3) 1 0 nb), (7, .d (.int .i64 par)), (8, .d (.int .i64 a.1))]) (fun a => a.2)
    (fun a => a.1 ≤ par ∧ LB H F pb tot nb a.1 0 a.2) (fun a => par - a.1) (0, H ++ [.row 2 [[.d (.int .i64 F.params_), .d (dBlockS F.blocks_)]], .row 2 [[.d (.int .i64 0), .d .nilsl]], .row 1 (List.replicate tot z0), .row 1 (List.replicate nb z0)]) ?_ ⟨Nat.zero_le _, by simp, by simp, ?_, ?_, Only.app _ _ _⟩ ?_
  · simp [hpi]
  · simp [← fillR_zero]
  · simp [← fillR_zero]
  rintro ⟨i, G⟩ ⟨hi, hLB⟩
  simp only [] at hi hLB ⊢
  have gb := hLB.box
  have gv := hLB.vn
  have wi : IntKind.i64.wrap ((i : Int) + 1) = ((i + 1 : Nat) : Int) := by rw [wrap_id] <;> omega
  by_cases hip : i < par
  · have hii : (i : Int) < F.params_ := by omega
    have hit : i < tot := by omega
    have hiti : (i : Int) < tot := by omega
    refine W_run mixed ⟨[K_103, K_80, K_104], [K_103h, K_80h, K_104h], [82], 131, H.length, [0, 1, 2, 3, 4, 5, 6, 7, 8, 9, 10, 11, 12, 13, 14, 16, 17, 18, 19, 34, 41, 42, 43, 44, 71, 87, 88, 89, 90, 99, 100, 101, 102], [34, 44, 71, 90, 102]⟩ (fun | 15 => [0, 2, 4, 7, 1, 3, 5, 6, 8, 9, 10, 11] | 29 => [0, 2, 3, 4, 1, 5, 6, 7, 8, 9, 10] | 33 => [1, 4, 5, 0, 2, 3, 6, 7, 8] | _ => []) (by kernel_rfl) ?_
    simp only [stripX, stripOps, pickOps]
    simp [K_103_f, K_103_e, K_80_f, K_80_e, K_104_f, K_104_e, K_103h_f, K_103h_e, K_80h_f, K_80h_e, K_104h_f, K_104h_e, K_103h_g, K_80h_g, K_104h_g, -V.flat, -V.one, one_int, one_bool, one_str, one_nilp, one_rp, one_nilsl, one_ro, one_cl, one_nilf, one_nili, one_ifc, one_ptr, one_sl, one_clo, flat_d, flat_ptr, flat_sl, flat_clo, flat_agg, -decA, decA_int, decA_bool, decA_str, gb, gv, hii, hit, hiti]
    exact ⟨i + 1, _, ⟨hip, hLB.setV hit (by unfold numW; rw [if_pos (by omega)])⟩, by omega, rfl, wi⟩
  have hii : ¬ (i : Int) < F.params_ := by omega
  have eip : i = fstN F 0 := by omega
  rw [eip] at hLB
  refine W_run mixed ⟨[K_103, K_80, K_104], [K_103h, K_80h, K_104h], [82], 131, H.length, [0, 1, 2, 3, 4, 5, 6, 7, 8, 9, 10, 11, 12, 13, 14, 16, 17, 18, 19, 34, 41, 42, 43, 44, 71, 87, 88, 89, 90, 99, 100, 101, 102], [34, 44, 71, 90, 102]⟩ (fun | 15 => [0, 2, 4, 7, 1, 3, 5, 6, 8, 9, 10, 11] | 29 => [0, 2, 3, 4, 1, 5, 6, 7, 8, 9, 10] | 33 => [1, 4, 5, 0, 2, 3, 6, 7, 8] | _ => []) (by kernel_rfl) ?_
  simp only [stripX, stripOps, pickOps]
  simp [K_103_f, K_103_e, K_80_f, K_80_e, K_104_f, K_104_e, K_103h_f, K_103h_e, K_80h_f, K_80h_e, K_104h_f, K_104h_e, K_103h_g, K_80h_g, K_104h_g, -V.flat, -V.one, one_int, one_bool, one_str, one_nilp, one_rp, one_nilsl, one_ro, one_cl, one_nilf, one_nili, one_ifc, one_ptr, one_sl, one_clo, flat_d, flat_ptr, flat_sl, flat_clo, flat_agg, -decA, decA_int, decA_bool, decA_str, gb, gv, hii]
  refine W_loopH (α := Nat × Nat × Heap) (fun a => [(1, .ptr H.length 2 0 0), (2, .ptr (H.length + 1) 2 0 0), (4, .d (dIntS l)), (5, .sl (H.length + 2) 1 0 tot), (6, .sl (H.length + 3) 1 0 nb), (7, .d (.int .i64 (nxt F pv0 pb (fstN F a.2.1)))), (41, .d (dIntS l)), (42, .d (.int .i64 l.length)), (43, .d (.int .i64 a.1))]) (fun a => a.2.2)
    (fun a => a.1 ≤ l.length ∧ a.2.1 ≤ nb ∧ cntW pb a.2.1 = a.1 ∧ LB H F pb tot nb (fstN F a.2.1) a.2.1 a.2.2) (fun a => l.length - a.1) (0, 0, G) ?_ ⟨Nat.zero_le _, Nat.zero_le _, rfl, hLB⟩ ?_
  · simp [hf0, nxt_par F pv0 pb (k := par) (by omega), hpar]
  clear hLB gb gv
  rintro ⟨i, B, G⟩ ⟨hi, hBn, hcB, hLB⟩
  simp only [] at hi hBn hcB hLB ⊢
  by_cases hil : i < l.length
  · obtain ⟨k, hkn, hlk, hpbk, hck⟩ := hat i hil
    have hBk : B ≤ k := by
      by_cases h : B ≤ k
      · exact h
      · have e := cntW_succ pb k
        rw [hpbk] at e
        have := cntW_mono pb (show k + 1 ≤ B by omega)
        simp at e; omega
    obtain ⟨hLk, hnk⟩ := hLB.next hg hBk (by omega) (by omega)
    rw [← hnk]
    have hli : ∀ h : i < l.length, l[i] = (k : Int) := fun h => Option.some.inj ((List.getElem?_eq_getElem h).symm.trans hlk)
    have gb := hLk.box
    have gn := hLk.bn
    have hki : (k : Int) < nb := by omega
    have hLk2 := hLk.setB (n := (i : Int)) hkn (by unfold bnoW; rw [if_neg (by rw [hpbk]; simp), hck])
    generalize hG2 : G.set (H.length + 3) (.row 1 ((fillR nb k (cB pb) z0).set k [.d (.int .i64 (i : Int))])) = G2 at hLk2
    have gb2 := hLk2.box
    have gb2R : ∀ R : Heap, (G2 ++ R)[H.length]? = _ := fun R => (hLk2.app R).box
    refine W_run mixed ⟨[K_103, K_80, K_104], [K_103h, K_80h, K_104h], [82], 131, H.length, [0, 1, 2, 3, 4, 5, 6, 7, 8, 9, 10, 11, 12, 13, 14, 16, 17, 18, 19, 34, 41, 42, 43, 44, 71, 87, 88, 89, 90, 99, 100, 101, 102], [34, 44, 71, 90, 102]⟩ (fun | 15 => [0, 2, 4, 7, 1, 3, 5, 6, 8, 9, 10, 11] | 29 => [0, 2, 3, 4, 1, 5, 6, 7, 8, 9, 10] | 33 => [1, 4, 5, 0, 2, 3, 6, 7, 8] | _ => []) (by kernel_rfl) ?_
    simp only [stripX, stripOps, pickOps]
    simp [K_103_f, K_103_e, K_80_f, K_80_e, K_104_f, K_104_e, K_103h_f, K_103h_e, K_80h_f, K_80h_e, K_104h_f, K_104h_e, K_103h_g, K_80h_g, K_104h_g, -V.flat, -V.one, one_int, one_bool, one_str, one_nilp, one_rp, one_nilsl, one_ro, one_cl, one_nilf, one_nili, one_ifc, one_ptr, one_sl, one_clo, flat_d, flat_ptr, flat_sl, flat_clo, flat_agg, -decA, decA_int, decA_bool, decA_str, gb, gn, hil, hlk, hli, hkn, hki, hG2, gb2, gb2R, hF, hnb]
    obtain ⟨hb0, hb4, hb80⟩ := blk_head hg (show k < F.blocks_.length by omega)
    have hfs := fstN_succ (F := F) (show k < F.blocks_.length by omega)
    have hfm := fstN_mono F (show k + 1 ≤ F.blocks_.length by omega)
    rw [hnb, hfn] at hfm
    unfold szN at hfs
    obtain ⟨b, hgk⟩ : ∃ b : Block, F.blocks_[k]? = some b := ⟨_, List.getElem?_eq_getElem (by omega)⟩
    have hbk : F.blocks_[k]?.getD default = b := by rw [hgk]; rfl
    have hbk2 : ∀ h : k < F.blocks_.length, F.blocks_[k] = b := fun h => Option.some.inj ((List.getElem?_eq_getElem h).symm.trans hgk)
    rw [hbk] at hb0 hb4 hb80 hfs
    refine ⟨by omega, ?_⟩
    obtain ⟨_, _, hh, _⟩ := goodF_spec hg
    have hfst : cntB (F.blocks_.take k) F.params_ = (fstN F k : Int) := by
      rw [hpi]
      have := cntB_N (F.blocks_.take k) par (List.all_eq_true.2 fun b hb => List.all_eq_true.1 hh b (List.mem_of_mem_take hb)) (by simp; omega)
      rw [this]
      unfold fstN offN
      rw [hpar, List.length_take, Nat.min_eq_left (by omega), List.take_take, Nat.min_self]
    refine W_loopH (α := Nat × Heap) (fun a => [(1, .ptr H.length 2 0 0), (2, .ptr (H.length + 1) 2 0 0), (4, .d (dIntS l)), (5, .sl (H.length + 2) 1 0 tot), (6, .sl (H.length + 3) 1 0 nb), (7, .d (.int .i64 (nxt F pv0 pb a.1))), (9, .d (.int .i64 i)), (10, .d (.int .i64 k)), (11, .ptr G2.length 5 0 0), (12, .d (.int .i64 a.1)), (41, .d (dIntS l)), (42, .d (.int .i64 l.length)), (43, .d (.int .i64 i))]) (fun a => a.2)
      (fun a => (fstN F k ≤ a.1 ∧ a.1 ≤ fstN F (k + 1)) ∧ LB H F pb tot nb a.1 (k + 1) a.2 ∧ a.2[G2.length]? = some (.row 5 [[.d (.int .i64 b.params_), .d (dInstS b.insts_), .d (.int .i64 b.end_), .d (.int .i64 b.value_), .d (dJumpS b.jumps_)]]))
      (fun a => fstN F (k + 1) - a.1) (fstN F k, G2 ++ [.row 5 [[.d (.int .i64 b.params_), .d (dInstS b.insts_), .d (.int .i64 b.end_), .d (.int .i64 b.value_), .d (dJumpS b.jumps_)]]]) ?_ ⟨⟨Nat.le_refl _, by omega⟩, hLk2.app _, by simp⟩ ?_
    · simp [hfst, hbk, hbk2]
    rintro ⟨v, G3⟩ ⟨⟨hv1, hv2⟩, hL3, hc3⟩
    simp only [] at hv1 hv2 hL3 hc3 ⊢
    have gb3 := hL3.box
    have gv3 := hL3.vn
    have w1 : IntKind.i64.wrap ((fstN F k : Int) + b.params_) = (fstN F k : Int) + b.params_ := wrap_id (by omega) (by omega)
    have w2 : IntKind.i64.wrap ((fstN F k : Int) + b.params_ + b.insts_.length) = (fstN F (k + 1) : Int) := by rw [wrap_id] <;> omega
    have hkle : k ≤ nb := by omega
    have wi' : IntKind.i64.wrap ((i : Int) + 1) = ((i + 1 : Nat) : Int) := by rw [wrap_id] <;> omega
    by_cases hvk : v < fstN F (k + 1)
    · have hvt : v < tot := by omega
      have hvt' : (v : Int) < tot := by omega
      have hvk' : (v : Int) < (fstN F (k + 1) : Int) := by omega
      have hkv := kpt0_blk hg (pb := pb) (show k < F.blocks_.length by omega) hv1 hvk
      rw [hpbk] at hkv
      have hpv : F.params_.toNat ≤ v := by have : fstN F 0 ≤ fstN F k := fstN_mono F (Nat.zero_le _); omega
      have hns := nxt_succ F pv0 pb hpv
      rw [hkv, show (!false) = true from rfl, if_pos rfl] at hns
      have hnle := nxt_le F pv0 pb v
      have wv : IntKind.i64.wrap ((v : Int) + 1) = ((v + 1 : Nat) : Int) := by rw [wrap_id] <;> omega
      have wn : IntKind.i64.wrap ((nxt F pv0 pb v : Int) + 1) = ((nxt F pv0 pb (v + 1) : Nat) : Int) := by rw [hns, wrap_id] <;> (try simp) <;> omega
      refine W_run mixed ⟨[K_103, K_80, K_104], [K_103h, K_80h, K_104h], [82], 131, H.length, [0, 1, 2, 3, 4, 5, 6, 7, 8, 9, 10, 11, 12, 13, 14, 16, 17, 18, 19, 34, 41, 42, 43, 44, 71, 87, 88, 89, 90, 99, 100, 101, 102], [34, 44, 71, 90, 102]⟩ (fun | 15 => [0, 2, 4, 7, 1, 3, 5, 6, 8, 9, 10, 11] | 29 => [0, 2, 3, 4, 1, 5, 6, 7, 8, 9, 10] | 33 => [1, 4, 5, 0, 2, 3, 6, 7, 8] | _ => []) (by kernel_rfl) ?_
      simp only [stripX, stripOps, pickOps]
      simp [K_103_f, K_103_e, K_80_f, K_80_e, K_104_f, K_104_e, K_103h_f, K_103h_e, K_80h_f, K_80h_e, K_104h_f, K_104h_e, K_103h_g, K_80h_g, K_104h_g, -V.flat, -V.one, one_int, one_bool, one_str, one_nilp, one_rp, one_nilsl, one_ro, one_cl, one_nilf, one_nili, one_ifc, one_ptr, one_sl, one_clo, flat_d, flat_ptr, flat_sl, flat_clo, flat_agg, -decA, decA_int, decA_bool, decA_str, gb3, gv3, hc3, w1, w2, hkle, hnb, hfst, hvk', hvt, hvt', hF]
      exact ⟨v + 1, _, ⟨⟨by omega, hvk⟩, hL3.setV hvt (by unfold numW; rw [if_neg (by omega), if_pos (by rw [hkv]; rfl)]), (List.getElem?_set_ne (by have := hLk2.len; omega)).trans hc3⟩, by omega, rfl, wn, wv⟩
    · have hve : v = fstN F (k + 1) := by omega
      have hvk' : ¬ (v : Int) < (fstN F (k + 1) : Int) := by omega
      refine W_run mixed ⟨[K_103, K_80, K_104], [K_103h, K_80h, K_104h], [82], 131, H.length, [0, 1, 2, 3, 4, 5, 6, 7, 8, 9, 10, 11, 12, 13, 14, 16, 17, 18, 19, 34, 41, 42, 43, 44, 71, 87, 88, 89, 90, 99, 100, 101, 102], [34, 44, 71, 90, 102]⟩ (fun | 15 => [0, 2, 4, 7, 1, 3, 5, 6, 8, 9, 10, 11] | 29 => [0, 2, 3, 4, 1, 5, 6, 7, 8, 9, 10] | 33 => [1, 4, 5, 0, 2, 3, 6, 7, 8] | _ => []) (by kernel_rfl) ?_
      simp only [stripX, stripOps, pickOps]
      simp [K_103_f, K_103_e, K_80_f, K_80_e, K_104_f, K_104_e, K_103h_f, K_103h_e, K_80h_f, K_80h_e, K_104h_f, K_104h_e, K_103h_g, K_80h_g, K_104h_g, -V.flat, -V.one, one_int, one_bool, one_str, one_nilp, one_rp, one_nilsl, one_ro, one_cl, one_nilf, one_nili, one_ifc, one_ptr, one_sl, one_clo, flat_d, flat_ptr, flat_sl, flat_clo, flat_agg, -decA, decA_int, decA_bool, decA_str, gb3, gv3, hc3, w1, w2, hkle, hnb, hfst, hvk', hF]
      refine ⟨i + 1, k + 1, _, ⟨by omega, by omega, ?_, hve ▸ hL3⟩, by omega, rfl, by rw [hve], wi'⟩
      rw [cntW_succ, hpbk, hck]; rfl
  · have hie : i = l.length := by omega
    have hgap := hLB.next hg hBn (by omega) (by omega)
    rw [hfn] at hgap
    obtain ⟨hLe, hne⟩ := hgap
    have gb := hLe.box
    refine W_run mixed ⟨[K_103, K_80, K_104], [K_103h, K_80h, K_104h], [82], 131, H.length, [0, 1, 2, 3, 4, 5, 6, 7, 8, 9, 10, 11, 12, 13, 14, 16, 17, 18, 19, 34, 41, 42, 43, 44, 71, 87, 88, 89, 90, 99, 100, 101, 102], [34, 44, 71, 90, 102]⟩ (fun | 15 => [0, 2, 4, 7, 1, 3, 5, 6, 8, 9, 10, 11] | 29 => [0, 2, 3, 4, 1, 5, 6, 7, 8, 9, 10] | 33 => [1, 4, 5, 0, 2, 3, 6, 7, 8] | _ => []) (by kernel_rfl) ?_
    simp only [stripX, stripOps, pickOps]
    simp [K_103_f, K_103_e, K_80_f, K_80_e, K_104_f, K_104_e, K_103h_f, K_103h_e, K_80h_f, K_80h_e, K_104h_f, K_104h_e, K_103h_g, K_80h_g, K_104h_g, -V.flat, -V.one, one_int, one_bool, one_str, one_nilp, one_rp, one_nilsl, one_ro, one_cl, one_nilf, one_nili, one_ifc, one_ptr, one_sl, one_clo, flat_d, flat_ptr, flat_sl, flat_clo, flat_agg, -decA, decA_int, decA_bool, decA_str, gb, hil]
    obtain ⟨T, hT⟩ : ∃ T : List Int, T = (List.range tot).map fun j : Nat => numW F pv0 pb j := ⟨_, rfl⟩
    have hTl : T.length = tot := by rw [hT]; simp
    have hTr : fillR tot tot (cV F pb) z0 = rI T := by
      rw [hT]
      refine List.ext_getElem (by simp) fun j h1 h2 => ?_
      have : j < tot := by simpa using h1
      simp [fillR, this]
    have gv := hLe.vn
    rw [hTr] at gv
    have hmp : mpF (mapL T) F = mpF (fun x => numW F pv0 pb x.toNat) F := mpF_congr fun b hb x hx => by
      have := good_all hg hb x hx
      unfold mapL
      rw [hT, List.getElem?_map, List.getElem?_range (by omega)]; rfl
    have gbx := hLe.box
    have gox := hLe.out
    have gbn := hLe.bn
    subst hH
    have n0 : G[0]? = some (.row 2 [[.d (.int .i64 F.params_), .d (dBlockS F.blocks_)]]) := gbx
    have n1 : G[1]? = some (.row 2 [[.d (.int .i64 0), .d .nilsl]]) := gox
    have n2 : G[2]? = some (.row 1 (rI T)) := gv
    have n3 : G[3]? = some (.row 1 (fillR nb nb (cB pb) z0)) := gbn
    have nT : DLe (closeK [0, 1, 3] G 4 (.sl 2 1 0 tot)) (dIntS T) := by
      have := dle_closeK (K := [0, 1, 3]) (l := T) (H := G) (id := 2) (by simp) n2
      rw [hTl] at this
      exact this
    refine W_weak (IntoF.weak (σ := [0, 1, 3]) (l := [(1, .ptr 0 2 0 0), (2, .ptr 1 2 0 0), (4, .d (dIntS l)), (5, .d (dIntS T)), (6, .sl 2 1 0 nb)]) (H := [.row 2 [[.d (.int .i64 F.params_), .d (dBlockS F.blocks_)]], .row 2 [[.d (.int .i64 0), .d .nilsl]], .row 1 (fillR nb nb (cB pb) z0)]) ⟨rfl, ?_, ?_⟩) ?_
    · simp [n0, n1, n3]
      exact ⟨.inl (by simp), .inl (by simp), .inl (by simp)⟩
    · simp [nT]
    refine W_runS mixed [33] ⟨[K_103, K_80, K_104], [K_103h, K_80h, K_104h], [82], 131, 0, [0, 1, 2, 3, 4, 5, 6, 7, 8, 9, 10, 11, 12, 13, 14, 16, 17, 18, 19, 34, 41, 42, 43, 44, 71, 87, 88, 89, 90, 99, 100, 101, 102], [34, 44, 71, 90, 102]⟩ (fun | 15 => [0, 2, 4, 7, 1, 3, 5, 6, 8, 9, 10, 11] | 29 => [0, 2, 3, 4, 1, 5, 6, 7, 8, 9, 10] | 33 => [1, 4, 5, 0, 2, 3, 6, 7, 8] | _ => []) (by kernel_rfl) ?_
    simp only [stripS, skip_cons, skip_nil, Nat.reduceBEq, Bool.or_false, Bool.or_self, Bool.or_true, Bool.true_or, cond_true, cond_false, stripX, stripOps, pickOps]
    simp [K_103_f, K_103_e, K_80_f, K_80_e, K_104_f, K_104_e, K_103h_f, K_103h_e, K_80h_f, K_80h_e, K_104h_f, K_104h_e, K_103h_g, K_80h_g, K_104h_g, -V.flat, -V.one, one_int, one_bool, one_str, one_nilp, one_rp, one_nilsl, one_ro, one_cl, one_nilf, one_nili, one_ifc, one_ptr, one_sl, one_clo, flat_d, flat_ptr, flat_sl, flat_clo, flat_agg, -decA, decA_int, decA_bool, decA_str, hF]
    rw [aft_call]
    refine (l15Map_own _ F T (by omega) (good_map hg (by omega))).mono ?_
    rintro r G5 ⟨A, rfl, oA, eA, ho5, iA⟩
    rw [hmp] at eA
    have hfl := oA.ok.1.flat
    have hone := oA.ok.1.scl.2
    have l5 : 3 ≤ G5.length := ho5.len
    have iA' : ∀ j ∈ ids A, 3 ≤ j ∧ j < G5.length := fun j hj => ⟨iA j hj, oA.lt hj⟩
    have b5 : G5[0]? = some (.row 2 [[.d (.int .i64 F.params_), .d (dBlockS F.blocks_)]]) := ho5.at_ 0 (by simp) List.not_mem_nil
    have o5 : G5[1]? = some (.row 2 [[.d (.int .i64 0), .d .nilsl]]) := ho5.at_ 1 (by simp) List.not_mem_nil
    have m5 : G5[2]? = some (.row 1 (fillR nb nb (cB pb) z0)) := ho5.at_ 2 (by simp) List.not_mem_nil
    have b5R : ∀ R : Heap, (G5 ++ R)[0]? = _ := fun R => (List.getElem?_append_left (by omega)).trans b5
    have b5R' : ∀ (R : Heap) (h : 0 < (G5 ++ R).length), (G5 ++ R)[0] = .row 2 [[.d (.int .i64 F.params_), .d (dBlockS F.blocks_)]] := fun R h => Option.some.inj ((List.getElem?_eq_getElem h).symm.trans (b5R R))
    have eAp : A.params_ = F.params_ := congrArg Func.params_ eA
    have eAb : A.blocks_.l.map Tr.era = F.blocks_.map (mpB (fun x => numW F pv0 pb x.toNat)) := congrArg Func.blocks_ eA
    have lA : A.blocks_.l.length = nb := by have := congrArg List.length eAb; simpa [hnb] using this
    obtain ⟨rv, rr, rn, ri⟩ := (CFunc.own_blocks_ oA).row (by omega)
    have rv' : A.blocks_.v = .sl A.blocks_.id 5 0 nb := by rw [← lA]; exact rv
    simp [K_103_f, K_103_e, K_80_f, K_80_e, K_104_f, K_104_e, K_103h_f, K_103h_e, K_80h_f, K_80h_e, K_104h_f, K_104h_e, K_103h_g, K_80h_g, K_104h_g, -V.flat, -V.one, one_int, one_bool, one_str, one_nilp, one_rp, one_nilsl, one_ro, one_cl, one_nilf, one_nili, one_ifc, one_ptr, one_sl, one_clo, flat_d, flat_ptr, flat_sl, flat_clo, flat_agg, -decA, decA_int, decA_bool, decA_str, hfl, hone, b5R, b5R', rv']
    have hidA : A.blocks_.id ∈ ids A := by show A.blocks_.id ∈ ids A.blocks_; rw [ri]; exact List.mem_cons_self
    have isub : ∀ j ∈ A.blocks_.l.flatMap ids, j ∈ ids A := fun j hj => by show j ∈ ids A.blocks_; rw [ri]; exact List.mem_cons_of_mem _ hj
    have oA' : Own (G5 ++ [.row 2 [[.d (.int .i64 A.params_), .sl A.blocks_.id 5 0 nb]], .row 2 [[.d (.int .i64 F.params_), .d .nilsl]]]) A := oA.frame (Only.app [] _ _) fun j _ hj => absurd hj List.not_mem_nil
    have inA : ∀ j ∈ A.blocks_.l.flatMap ids, 3 ≤ j ∧ j < G5.length ∧ j ≠ A.blocks_.id := fun j hj => ⟨(iA' j (isub j hj)).1, (iA' j (isub j hj)).2, fun e => rn (e ▸ hj)⟩
    have hidA2 := iA' _ hidA
    have k : ∀ j P, j < G5.length → G5[j]? = some P → (G5 ++ [Place.row 2 [[.d (.int .i64 A.params_), .sl A.blocks_.id 5 0 nb]], .row 2 [[.d (.int .i64 F.params_), .d .nilsl]]])[j]? = some P := fun j P h q => (List.getElem?_append_left h).trans q
    refine blocksC (H := [.row 2 [[.d (.int .i64 F.params_), .d (dBlockS F.blocks_)]]]) hg (nb := nb) (br := 2) (t13 := G5.length) (t14 := G5.length + 1) hnb (pb := pb) (l := l) hll hat hcl (bs := A.blocks_) eAb ⟨by show 1 < _; omega, by omega, by omega, by show 1 < 2; omega, by show 1 < _; omega⟩ (by omega) (p := A.params_) (s1 := .ptr 0 2 0 0) (s2 := .ptr 1 2 0 0) rfl ?_
      ⟨?_, k _ _ hidA2.2 rr, by rw [List.getElem?_append_right (by omega), Nat.add_sub_cancel_left]; rfl, k _ _ (by omega) m5, k _ _ (by simp; omega) o5, .inl ⟨rfl, rfl⟩, ?_, ?_, rfl, Nat.zero_le _⟩ (by rw [List.getElem?_append_right (Nat.le_refl _), Nat.sub_self]; rfl) (fun q => by have := inA _ q; omega) fun l' G6 vo lo e1 e2 e4 e14 hE => ?_
    · simp
    · rw [List.nil_append, List.drop_zero]
      exact (CFunc.own_blocks_ oA').elems
    · intro j hj
      rw [List.nil_append, List.drop_zero] at hj
      have := inA j hj
      exact ⟨by show 1 < _; omega, by omega, by omega, this.2.2⟩
    · refine ⟨by simp, fun j hj _ => ?_⟩
      have : j = 0 := by simpa using hj
      subst this
      exact k 0 _ (by omega) b5
    have eo := hE.out
    have er : G6[1]? = some (.row 2 [[.d (.int .i64 0), .d .nilsl]]) := hE.res
    have eb : G6[0]? = some (.row 2 [[.d (.int .i64 F.params_), .d (dBlockS F.blocks_)]]) := hE.only.at_ 0 (by simp) List.not_mem_nil
    have eb' : ∀ h : 0 < G6.length, G6[0] = .row 2 [[.d (.int .i64 F.params_), .d (dBlockS F.blocks_)]] := fun h => Option.some.inj ((List.getElem?_eq_getElem h).symm.trans eb)
    have l6 : 1 < G6.length := (List.getElem?_eq_some_iff.1 er).1
    have vone : vo.one = true := by
      rcases hE.vo with ⟨_, rfl⟩ | ⟨id, rfl, _⟩ <;> rfl
    simp [K_103_f, K_103_e, K_80_f, K_80_e, K_104_f, K_104_e, K_103h_f, K_103h_e, K_80h_f, K_80h_e, K_104h_f, K_104h_e, K_103h_g, K_80h_g, K_104h_g, -V.flat, -V.one, one_int, one_bool, one_str, one_nilp, one_rp, one_nilsl, one_ro, one_cl, one_nilf, one_nili, one_ifc, one_ptr, one_sl, one_clo, flat_d, flat_ptr, flat_sl, flat_clo, flat_agg, -decA, decA_int, decA_bool, decA_str, e1, e2, e4, e14]
    have hKb : ((F.blocks_.length : Int) - (l.length : Int)) = dbK F := by
      unfold dbK
      rw [hR, hnb, ← hl]; rfl
    have wK : IntKind.i64.wrap ((F.blocks_.length : Int) - (l.length : Int)) = dbK F := by rw [wrap_id (by omega) (by omega)]; exact hKb
    have eo' : ∀ h : G5.length + 1 < G6.length, G6[G5.length + 1] = .row 2 [[.d (.int .i64 F.params_), vo]] := fun h => Option.some.inj ((List.getElem?_eq_getElem h).symm.trans eo)
    have er' : ∀ h : 1 < G6.length, G6[1] = .row 2 [[.d (.int .i64 0), .d .nilsl]] := fun h => Option.some.inj ((List.getElem?_eq_getElem h).symm.trans er)
    have es : ∀ p, (G6.set 1 p)[1]? = some p := fun p => List.getElem?_set_self l6
    refine W_drawA mixed (tabG_good []) [0, 1, 2, 3, 4, 5, 6, 7, 8, 9, 10, 11, 12, 13, 14, 16, 17, 18, 19, 34, 41, 42, 43, 44, 71, 87, 88, 89, 90, 99, 100, 101, 102] [82] [0, 1, 2, 3, 4, 5, 6, 7, 8] 1 (by kernel_rfl) (by kernel_rfl) ?_
    simp [sop, -V.flat, -V.one, one_int, one_bool, one_nilsl, one_ro, one_ptr, one_sl, flat_d, flat_ptr, flat_sl, flat_agg, eo, er, eb, vone, e1, e2, e4, e14, wK]
    refine ⟨fun q => by rw [q] at l5; exact absurd l5 (by decide), ?_⟩
    simp [retQ, es]
    have hown := hE.own
    have hfr := hE.fr
    rw [List.drop_of_length_le (by rw [lA]; exact Nat.le_refl _), List.append_nil] at hown hfr
    have oS : Own G6 (⟨vo, lo⟩ : AS CBlock) ∧ ∀ j ∈ ids (⟨vo, lo⟩ : AS CBlock), 1 < j := by
      rcases hE.vo with ⟨p1, p2⟩ | ⟨id, p1, p2, p3, p4, p5, p6, p7, p8⟩
      · subst p1; subst p2
        exact ⟨⟨⟨.inr ⟨rfl, .inl rfl⟩, fun a h => absurd h List.not_mem_nil⟩, fun q h => absurd h List.not_mem_nil, List.nodup_nil⟩, fun j hj => absurd hj List.not_mem_nil⟩
      · subst p1
        rw [List.drop_of_length_le (by rw [lA]; exact Nat.le_refl _), List.append_nil] at p8
        refine ⟨Own.mkS hown p3 p8, fun j hj => ?_⟩
        replace hj : j ∈ id :: lo.flatMap ids := (ids_sl (s := (⟨.sl id 5 0 lo.length, lo⟩ : AS CBlock)) rfl) ▸ hj
        rcases List.mem_cons.1 hj with rfl | hj
        · exact p4
        · exact (hfr j hj).1
    refine ⟨_, _, Fin.same (by simp), ⟨F.params_, ⟨vo, lo⟩⟩, rfl, CFunc.own (oS.1.frame (S := [1]) Only.set fun j hj q => ?_), ?_⟩
    · have := oS.2 j hj
      rw [List.mem_singleton.1 q] at this
      exact Nat.lt_irrefl _ this
    · show Func.mk F.params_ (lo.map Tr.era) = _
      rw [hE.era]
      unfold dbG withoutF
      rw [hpb, hnb]; rfl
theorem l15Blocks_c (F : Func) (hF : Enc.good F) (hg : goodF F = true) : PureP Tryz.prog 58 [vFunc F] (· = .tup [vFunc (dbG F), .d (.int .i64 (dbK F))]) :=
  PureP.of_own ((l15Blocks_own [] rfl F hF hg).mono fun r H' ⟨A, e, oA, eA⟩ => by
    have h1 := Rd1.aggs oA rfl
    rw [eA] at h1
    rw [e]
    exact Rd1.tup ⟨h1, Rd1.d, trivial⟩)
noncomputable def K_58 : Ent Tryz.prog := Ent.p1 (α := Func) 58 (fun F => Enc.good F ∧ goodF F = true) (fun F => .tup [vFunc (dbG F), .d (.int .i64 (dbK F))]) (fun F hc => l15Blocks_c F hc.1 hc.2)
theorem K_58_f : K_58.f = 58 := rfl
theorem K_58_e (F0 : Int) (F1 : List Block) : K_58.e [.agg [.d (.int .i64 F0), .d (dBlockS F1)]] = some (Enc.good (Func.mk F0 F1) ∧ goodF (Func.mk F0 F1) = true, .tup [vFunc (dbG (Func.mk F0 F1)), .d (.int .i64 (dbK (Func.mk F0 F1)))], []) := by unfold K_58; exact Ent.p1_eq (α := Func) (Func.mk F0 F1)
noncomputable def K_58h : EntH Tryz.prog := EntH.pk1 (α := Func) 58 (fun F => Enc.good F ∧ goodF F = true) (fun F => .tup [vFunc (dbG F), .d (.int .i64 (dbK F))]) (fun F => []) (fun F hc => PureP.ans (l15Blocks_c F hc.1 hc.2))
theorem K_58h_f : K_58h.f = 58 := rfl
theorem K_58h_g : K_58h.gro = true := rfl
theorem K_58h_e {x1 : V} {H : Heap} : K_58h.e [x1] H = guardR ((decA (α := Func) H x1).1) (peekR (Enc.good (decA (α := Func) H x1).2 ∧ goodF (decA (α := Func) H x1).2 = true) (.tup [vFunc (dbG (decA (α := Func) H x1).2), .d (.int .i64 (dbK (decA (α := Func) H x1).2))]) ([]) H) := rfl
end Go.Proofs.YtbmloeahcdneaaaGreat
end
