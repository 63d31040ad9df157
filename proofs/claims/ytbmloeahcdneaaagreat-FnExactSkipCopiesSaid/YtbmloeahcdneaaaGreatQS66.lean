/- Redirecting all values, one after another, of a function of the program's own. No condition. -/
import Derived.Test.YtbmloeahcdneaaaGreatQS65
import Derived.Test.YtbmloeahcdneaaaGreatQS43
import Derived.Test.YtbmloeahcdneaaaGreatQS57
section
namespace Go.Proofs.YtbmloeahcdneaaaGreat
set_option maxRecDepth 100000
set_option linter.unusedSimpArgs false
set_option linter.unusedVariables false
theorem fin_nilF {H R : Heap} {r : V} {Q : V → Heap → Prop} (hq : ∀ (A : AFunc) H', Tr.cells A = [.d (.int .i64 0), .d .nilsl] → Tr.era A = ⟨0, []⟩ → New H H' A → Q r H') : ∃ r' H', Fin H.length (H ++ R) r H' r' ∧ Q r' H' :=
  fin_new (a := (⟨0, ⟨.d .nilsl, []⟩⟩ : AFunc)) (AFunc.own ⟨⟨.inr ⟨rfl, .inl rfl⟩, fun a ha => absurd ha List.not_mem_nil⟩, fun q hq => absurd hq List.not_mem_nil, List.nodup_nil⟩) (Only.app _ _ _) (fun j hj => absurd hj List.not_mem_nil) fun H' h' => hq _ H' rfl rfl h'
theorem smallA_of {A : AFunc} {F : Func} (h : smallF F) (e : Tr.era A = F) : smallA A := by
  have eb : (Tr.era A).blocks_ = A.blocks_.l.map Tr.era := rfl
  have hl : A.blocks_.l.length = F.blocks_.length := by rw [← e, eb, List.length_map]
  refine ⟨by rw [hl]; have := h.1; omega, fun b hb => ?_⟩
  have hm : Tr.era b ∈ F.blocks_ := by rw [← e, eb]; exact List.mem_map.2 ⟨b, hb, rfl⟩
  obtain ⟨h1, h2, h3, h4⟩ := h.2 _ hm
  have i1 : (Tr.era b).insts_ = b.insts_.l.map Tr.era := rfl
  have j1 : (Tr.era b).jumps_ = b.jumps_.l.map Tr.era := rfl
  rw [i1] at h1 h3
  rw [j1] at h2 h4
  rw [List.length_map] at h1 h2
  refine ⟨by omega, by omega, fun x hx => ?_, fun x hx => ?_⟩
  · have := h3 _ (List.mem_map.2 ⟨x, hx, rfl⟩)
    have e2 : (Tr.era x).args_ = x.args_.l.map Tr.era := rfl
    rw [e2, List.length_map] at this; exact this
  · have := h4 _ (List.mem_map.2 ⟨x, hx, rfl⟩)
    have e2 : (Tr.era x).args_ = x.args_.l.map Tr.era := rfl
    rw [e2, List.length_map] at this; exact this
end Go.Proofs.YtbmloeahcdneaaaGreat
end

section
namespace Go.Proofs.YtbmloeahcdneaaaGreat
set_option maxRecDepth 100000
set_option linter.unusedSimpArgs false
set_option linter.unusedVariables false
structure At (H : Heap) (idf : Nat) (A : AFunc) : Prop where
  row : H[idf]? = some (.row 2 [[.d (.int .i64 A.params_), A.blocks_.v]])
  own : Own H A
  sol : solF A
  nin : idf ∉ ids A
  good : goodF (Tr.era A) = true
  enc : Enc.good (Tr.era A)
structure PR (H : Heap) (idf : Nat) (A A' : AFunc) (H' : Heap) : Prop where
  at_ : At H' idf A'
  ids : ∀ j ∈ ids A', j ∈ ids A ∨ H.length ≤ j
  only : Only (idf :: Go.Proofs.YtbmloeahcdneaaaGreat.ids A) H H'
theorem At.frame {H H' : Heap} {idf : Nat} {A : AFunc} {S : List Nat} (q : At H idf A) (ho : Only S H H') (h1 : idf ∉ S) (h2 : ∀ j ∈ ids A, j ∉ S) : At H' idf A :=
  ⟨(ho.at_ _ (List.getElem?_eq_some_iff.1 q.row).1 h1).trans q.row, q.own.frame ho h2, q.sol, q.nin, q.good, q.enc⟩
theorem PR.refl {H : Heap} {idf : Nat} {A : AFunc} (q : At H idf A) : PR H idf A A H := ⟨q, fun j hj => .inl hj, Only.refl _ _⟩
theorem PR.trans {H H1 H2 : Heap} {idf : Nat} {A A1 A2 : AFunc} (p : PR H idf A A1 H1) (q : PR H1 idf A1 A2 H2) : PR H idf A A2 H2 := by
  refine ⟨q.at_, fun j hj => ?_, p.only.trans q.only (fun j hj => hj) fun j hj hl => ?_⟩
  · rcases q.ids j hj with h | h
    · exact p.ids j h
    · exact .inr (Nat.le_trans p.only.len h)
  · rcases List.mem_cons.1 hj with rfl | hj
    · exact List.mem_cons_self
    · rcases p.ids j hj with h | h
      · exact List.mem_cons_of_mem _ h
      · omega
theorem PR.postO {H H1 H2 : Heap} {idf : Nat} {A A1 : AFunc} (p : PR H idf A A1 H1) (ho : Only [] H1 H2) : PR H idf A A1 H2 :=
  ⟨p.at_.frame ho List.not_mem_nil fun j _ h => absurd h List.not_mem_nil, p.ids, p.only.trans ho (fun j hj => hj) fun j hj _ => absurd hj List.not_mem_nil⟩
def PassOwn (fn : Nat) (G : Func → Func) (K : Func → Int) : Prop := ∀ (H : Heap) (A : AFunc) (idf : Nat), At H idf A →
  CallsD Tryz.prog fn [.ptr idf 2 0 0] H fun r H' => ∃ A', r = .d (.int .i64 (K (Tr.era A))) ∧ Tr.era A' = G (Tr.era A) ∧ PR H idf A A' H'
noncomputable def paF (G : Func → Func) (F : Func) : Func := if soundF F = true then G F else ⟨0, []⟩
noncomputable def paK (K : Func → Int) (F : Func) : Int := if soundF F = true then K F else 0
theorem passed_own {fn : Nat} {G : Func → Func} {K : Func → Int} (hp : PassOwn fn G K) (hne : ¬ 46 = fn) (H : Heap) (F : Func) (hF : Enc.good F) : CallsD Tryz.prog 54 [vFunc F, .d (.clo fn 0 fun _ => .undef)] H fun r H' => ∃ A : AFunc, r = .tup [.agg (Tr.cells A), .d (.int .i64 (paK K F)), .d (.bool (soundF F))] ∧ Tr.era A = paF G F ∧ New H H' A := by
  cases hs : soundF F with
  | false =>
    have e1 : paK K F = 0 := by simp [paK, hs]
    have e2 : paF G F = ⟨0, []⟩ := by simp [paF, hs]
    refine calls_of Tryz.func54 en_54 rfl (of_decide_eq_true rfl) (W_run mixed ⟨[K_46], [K_46h], [48], 19, H.length, [0, 1, 2, 4, 5, 6, 7, 8, 11], [11]⟩ (fun _ => []) (by kernel_rfl) ?_)
    simp only [Tryz.f54, stripX, stripOps, pickOps]
    simp [K_46_f, K_46_e, K_46h_f, K_46h_e, K_46h_g, -V.flat, -V.one, one_int, one_bool, one_str, one_nilp, one_rp, one_nilsl, one_ro, one_cl, one_nilf, one_nili, one_ifc, one_ptr, one_sl, one_clo, flat_d, flat_ptr, flat_sl, flat_clo, flat_agg, hF, sound_N hs, retQ]
    exact fin_nilF fun A H' q1 q2 q3 => ⟨A, by rw [e1]; exact congrArg (fun c => V.tup [.agg c, .d (.int .i64 0), .d (.bool false)]) q1.symm, by rw [e2, q2], q3⟩
  | true =>
    have hg := sound_good hs
    have e1 : paK K F = K F := by simp [paK, hs]
    have e2 : paF G F = G F := by simp [paF, hs]
    refine calls_of Tryz.func54 en_54 rfl (of_decide_eq_true rfl) (W_run mixed ⟨[K_46], [K_46h], [48], 19, H.length, [0, 1, 2, 4, 5, 6, 7, 8, 11], [11]⟩ (fun _ => []) (by kernel_rfl) ?_)
    simp only [Tryz.f54, stripX, stripOps, pickOps]
    simp [K_46_f, K_46_e, K_46h_f, K_46h_e, K_46h_g, -V.flat, -V.one, one_int, one_bool, one_str, one_nilp, one_rp, one_nilsl, one_ro, one_cl, one_nilf, one_nili, one_ifc, one_ptr, one_sl, one_clo, flat_d, flat_ptr, flat_sl, flat_clo, flat_agg, hF, sound_V hs, retQ]
    refine (cloneFunc_sol _ F (good_small hg)).mono ?_
    rintro r H1 ⟨A, rfl, ⟨hA, hsol⟩, hn⟩
    have hfl := hn.own.ok.1.flat
    have hone := hn.own.ok.1.scl.2
    have hlt : ∀ j ∈ ids A, j < H1.length := fun j hj => hn.own.lt hj
    simp [K_46_f, K_46_e, K_46h_f, K_46h_e, K_46h_g, -V.flat, -V.one, one_int, one_bool, one_str, one_nilp, one_rp, one_nilsl, one_ro, one_cl, one_nilf, one_nili, one_ifc, one_ptr, one_sl, one_clo, flat_d, flat_ptr, flat_sl, flat_clo, flat_agg, hfl, hone, hne, retQ]
    have hge : ∀ j ∈ ids A, H.length + 2 ≤ j := fun j hj => by have := hn.fresh j hj; simp at this; omega
    have h1l : H.length + 2 ≤ H1.length := by have := hn.only.len; simp at this; omega
    refine (hp _ A H1.length ⟨List.getElem?_concat_length, hn.own.frame (Only.app [] _ _) fun j _ hj => absurd hj List.not_mem_nil, hsol, fun q => Nat.lt_irrefl _ (hlt _ q), by rw [hA]; exact hg, by rw [hA]; exact hF⟩).mono ?_
    rintro r H2 ⟨A', rfl, hA', hr⟩
    rw [hA] at hA' ⊢
    have fl2 := hr.at_.own.ok.1.flat
    have one2 := hr.at_.own.ok.1.scl.2
    have oo := hr.only
    have h2l : H1.length + 1 ≤ H2.length := by have := oo.len; simp at this; omega
    have k9 := hr.at_.row
    have old : ∀ j, j < H.length + 2 → H2[j]? = H1[j]? := fun j hj => (oo.at_ j (by simp; omega) fun q => by
      rcases List.mem_cons.1 q with q | q
      · omega
      · have := hge j q; omega).trans (List.getElem?_append_left (by omega))
    have k6 : H2[H.length + 1]? = some (.row 2 [[.d (.int .i64 0), .d .nilsl]]) := (old _ (by omega)).trans ((hn.only.at_ _ (by simp) List.not_mem_nil).trans (by simp))
    have s6 : ∀ p, (H2.set (H.length + 1) p)[H.length + 1]? = some p := fun p => List.getElem?_set_self (by omega)
    have hib : ∀ j ∈ ids A', H.length + 2 ≤ j := fun j hj => (hr.ids j hj).elim (fun h => hge j h) fun h => by simp at h; omega
    simp [K_46_f, K_46_e, K_46h_f, K_46h_e, K_46h_g, -V.flat, -V.one, one_int, one_bool, one_str, one_nilp, one_rp, one_nilsl, one_ro, one_cl, one_nilf, one_nili, one_ifc, one_ptr, one_sl, one_clo, flat_d, flat_ptr, flat_sl, flat_clo, flat_agg, fl2, one2, k9, k6, s6, retQ]
    refine fin_new (a := A') (hr.at_.own.frame (S := [H.length + 1]) Only.set fun j hj q => by have := hib j hj; simp at q; omega) ⟨by simp; omega, fun j hj _ => ?_⟩ (fun j hj => by have := hib j hj; omega) fun H' h' => ⟨_, by rw [e1], hA'.trans e2.symm, h'⟩
    rw [List.getElem?_set_ne (by omega)]
    exact (old j (by omega)).trans ((hn.only.at_ j (by simp; omega) List.not_mem_nil).trans (List.getElem?_append_left hj))
theorem sm_paF {G : Func → Func} (h : ∀ F, goodF F = true → Sm.sm F → Sm.sm (G F)) {F : Func} (hs : Sm.sm F) : Sm.sm (paF G F) := by
  unfold paF
  split
  · exact h F (sound_good ‹_›) hs
  · exact ⟨trivial, Nat.zero_le _, fun a h => absurd h List.not_mem_nil⟩
end Go.Proofs.YtbmloeahcdneaaaGreat
end

section
namespace Go.Proofs.YtbmloeahcdneaaaGreat
set_option maxRecDepth 100000
set_option linter.unusedSimpArgs false
set_option linter.unusedVariables false
theorem inR_many {n m : Int} (h0 : 0 ≤ m) (h1 : m ≤ 80) : inR n 0 (IntKind.i64.wrap (m - 1)) = true ↔ 0 ≤ n ∧ n < m := by
  rw [wrap_id (by omega) (by omega), inR_t]; omega
theorem allIn_map {g : Int → Int} {m : Int} (h0 : 0 ≤ m) (h1 : m ≤ 80) (hg : ∀ x, 0 ≤ x → x < m → 0 ≤ g x ∧ g x < m) {l : List Int} (h : allIn l 0 (IntKind.i64.wrap (m - 1)) = true) : allIn (l.map g) 0 (IntKind.i64.wrap (m - 1)) = true := by
  refine List.all_eq_true.2 fun y hy => ?_
  obtain ⟨x, hx, rfl⟩ := List.mem_map.1 hy
  have := (inR_many h0 h1).1 (List.all_eq_true.1 h x hx)
  exact (inR_many h0 h1).2 (hg x this.1 this.2)
theorem mpF_shp (g : Int → Int) (F : Func) : shp (mpF g F).blocks_ = shp F.blocks_ := by
  show (List.map (mpB g) F.blocks_).map _ = _
  rw [List.map_map]
  exact List.map_congr_left fun b _ => by simp [mpB]
theorem mpF_many (g : Int → Int) (F : Func) : many (mpF g F) = many F := many_shp (F' := mpF g F) rfl (mpF_shp g F)
theorem many_rng {F : Func} (h : goodF F = true) : 0 ≤ many F ∧ many F ≤ 80 := by
  obtain ⟨hp, hl, hh, hm, hc, hs, _⟩ := goodF_spec h
  omega
theorem mpF_good {F : Func} (h : goodF F = true) {g : Int → Int} (hg : ∀ x, 0 ≤ x → x < many F → 0 ≤ g x ∧ g x < many F) : goodF (mpF g F) = true := by
  obtain ⟨m0, m1⟩ := many_rng h
  refine goodF_shp h rfl (mpF_shp g F) fun b' hb' => ?_
  obtain ⟨b, hb, rfl⟩ := List.mem_map.1 hb'
  obtain ⟨h1, h2⟩ := goodF_body h hb
  have hj : jumpsOk F.blocks_ (many F) b.jumps_ = true → jumpsOk F.blocks_ (many F) (b.jumps_.map (mpJ g)) = true := fun q => by
    refine List.all_eq_true.2 fun y hy => ?_
    obtain ⟨j, hj, rfl⟩ := List.mem_map.1 hy
    have := List.all_eq_true.1 q j hj
    simp only [jumpOk, Bool.and_eq_true] at this ⊢
    refine ⟨this.1, ?_, allIn_map m0 m1 hg this.2.2⟩
    show decide (((j.args_.map g).length : Int) = _) = true
    rw [List.length_map]; exact this.2.1
  have hv : inR b.value_ 0 (IntKind.i64.wrap (many F - 1)) = true → inR (g b.value_) 0 (IntKind.i64.wrap (many F - 1)) = true := fun q => by
    have := (inR_many m0 m1).1 q
    exact (inR_many m0 m1).2 (hg _ this.1 this.2)
  refine ⟨List.all_eq_true.2 fun y hy => ?_, ?_⟩
  · obtain ⟨x, hx, rfl⟩ := List.mem_map.1 hy
    have := List.all_eq_true.1 h1 x hx
    simp only [instOk, Bool.and_eq_true] at this ⊢
    refine ⟨this.1, ?_, allIn_map m0 m1 hg this.2.2.1, this.2.2.2⟩
    show decide (((x.args_.map g).length : Int) = _) = true
    rw [List.length_map]; exact this.2.1
  · have hl : (b.jumps_.map (mpJ g)).length = b.jumps_.length := List.length_map _
    unfold endsOk at h2 ⊢
    show (if b.end_ = 1 then decide (((b.jumps_.map (mpJ g)).length : Int) = 0) && (inR (if b.end_ = 2 then b.value_ else g b.value_) 0 _ && jumpsOk F.blocks_ (many F) (b.jumps_.map (mpJ g)))
      else if b.end_ = 2 then decide ((if b.end_ = 2 then b.value_ else g b.value_) = 0) && (decide (((b.jumps_.map (mpJ g)).length : Int) = 1) && jumpsOk F.blocks_ (many F) (b.jumps_.map (mpJ g)))
      else if b.end_ = 3 then decide (((b.jumps_.map (mpJ g)).length : Int) = 2) && (inR (if b.end_ = 2 then b.value_ else g b.value_) 0 _ && jumpsOk F.blocks_ (many F) (b.jumps_.map (mpJ g))) else false) = true
    rw [hl]
    by_cases e1 : b.end_ = 1
    · rw [if_pos e1, Bool.and_eq_true, Bool.and_eq_true] at h2 ⊢
      rw [if_neg (by omega)]
      exact ⟨h2.1, hv h2.2.1, hj h2.2.2⟩
    · rw [if_neg e1] at h2 ⊢
      by_cases e2 : b.end_ = 2
      · rw [if_pos e2, Bool.and_eq_true, Bool.and_eq_true] at h2 ⊢
        rw [if_pos e2]
        exact ⟨h2.1, h2.2.1, hj h2.2.2⟩
      · rw [if_neg e2] at h2 ⊢
        by_cases e3 : b.end_ = 3
        · rw [if_pos e3, Bool.and_eq_true, Bool.and_eq_true] at h2 ⊢
          rw [if_neg e2]
          exact ⟨h2.1, hv h2.2.1, hj h2.2.2⟩
        · rw [if_neg e3] at h2; cases h2
theorem mpF_enc {F : Func} (h : Enc.good F) {g : Int → Int} (hg : ∀ x : Int, Enc.good x → Enc.good (g x)) : Enc.good (mpF g F) := by
  have ha : ∀ l : List Int, Enc.good l → Enc.good (l.map g) := fun l hl => ⟨by rw [List.length_map]; exact hl.1, fun y hy => by
    obtain ⟨x, hx, rfl⟩ := List.mem_map.1 hy
    exact hg x (hl.2 x hx)⟩
  refine ⟨h.1, by show (F.blocks_.map _).length ≤ _; rw [List.length_map]; exact h.2.1, fun b' hb' => ?_⟩
  obtain ⟨b, hb, rfl⟩ := List.mem_map.1 hb'
  obtain ⟨q1, q2, q3, q4, q5⟩ := h.2.2 b hb
  refine ⟨q1, ⟨by show (b.insts_.map _).length ≤ _; rw [List.length_map]; exact q2.1, fun y hy => ?_⟩, q3, ?_, ⟨by show (b.jumps_.map _).length ≤ _; rw [List.length_map]; exact q5.1, fun y hy => ?_⟩⟩
  · obtain ⟨x, hx, rfl⟩ := List.mem_map.1 hy
    obtain ⟨p1, p2, p3⟩ := q2.2 x hx
    exact ⟨p1, p2, ha _ p3⟩
  · show Enc.good (if b.end_ = 2 then b.value_ else g b.value_)
    split
    · exact q4
    · exact hg _ q4
  · obtain ⟨x, hx, rfl⟩ := List.mem_map.1 hy
    obtain ⟨p1, p2⟩ := q5.2 x hx
    exact ⟨p1, ha _ p2⟩
noncomputable def raS (to : Func → Int → Int) (p : Func × Int) (k : Nat) : Func × Int := if 0 ≤ to p.1 k then (mpF (rdG k (to p.1 k)) p.1, p.2 + 1) else p
noncomputable def raP (to : Func → Int → Int) (F : Func) : Func × Int := (List.range (many F).toNat).foldl (raS to) (F, 0)
noncomputable def raG (to : Func → Int → Int) (F : Func) : Func := (raP to F).1
noncomputable def raK (to : Func → Int → Int) (F : Func) : Int := (raP to F).2
def ToOk (to : Func → Int → Int) : Prop := ∀ F k, goodF F = true → 0 ≤ k → k < many F → to F k < many F
theorem rdG_ok {k t m : Int} (h0 : 0 ≤ t) (h1 : t < m) : ∀ x, 0 ≤ x → x < m → 0 ≤ rdG k t x ∧ rdG k t x < m := fun x a b => by
  unfold rdG; split <;> omega
theorem raS_good {to : Func → Int → Int} (ht : ToOk to) {p : Func × Int} {k : Nat} (h : goodF p.1 = true) (hk : (k : Int) < many p.1) : goodF (raS to p k).1 = true ∧ many (raS to p k).1 = many p.1 := by
  unfold raS
  split
  · exact ⟨mpF_good h (rdG_ok ‹_› (ht _ _ h (by omega) hk)), mpF_many _ _⟩
  · exact ⟨h, rfl⟩
theorem raF_good {to : Func → Int → Int} (ht : ToOk to) {F : Func} (h : goodF F = true) : ∀ n : Nat, (n : Int) ≤ many F → goodF ((List.range n).foldl (raS to) (F, 0)).1 = true ∧ many ((List.range n).foldl (raS to) (F, 0)).1 = many F
  | 0, _ => ⟨h, rfl⟩
  | n + 1, hn => by
    obtain ⟨q1, q2⟩ := raF_good ht h n (by omega)
    rw [List.range_succ, List.foldl_append]
    have := raS_good ht (k := n) q1 (by omega)
    exact ⟨this.1, this.2.trans q2⟩
theorem raG_good {to : Func → Int → Int} (ht : ToOk to) {F : Func} (h : goodF F = true) : goodF (raG to F) = true :=
  (raF_good ht h _ (by have := many_rng h; omega)).1
end Go.Proofs.YtbmloeahcdneaaaGreat
end
