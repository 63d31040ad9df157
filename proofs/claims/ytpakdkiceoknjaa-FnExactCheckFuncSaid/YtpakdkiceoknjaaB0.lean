/- The abstract machine, part 10: append over abstract states; calls; each operation; a region. No condition. -/
import Derived.Test.YtpakdkiceoknjaaA9
namespace Go.Proofs.Ytpakdkiceoknjaa
set_option linter.unusedVariables false
set_option linter.unusedSimpArgs false

section
variable {P : Program} {x : Ctx} {N : Nat} {env : Env} {H : Heap} {φ : List (Nat × Nat)} {a : Act} {w : World}

theorem VS.less {X : Nat → Prop} {H H' : Heap} (ho : ∀ g, ownOf φ H' g → ownOf φ H g) {c : V} {v : Value} (h : VS w (owned X φ H) φ c v) : VS w (owned X φ H') φ c v :=
  VS.keeps (fun b hb hn => ⟨rfl, fun h' => hn (h'.imp (fun q => q) (ho b))⟩) (Sizes.refl w) (Ext.refl φ) _ _ h

/-- A place is given up and its block becomes a new place's. -/
theorem Sim.rehome (h : Sim x N ⟨env, H⟩ φ a w) {id e : Nat} {es es' : List (List V)} {g o o' : Nat} {cs cs' : Array Value} {t : TypeId}
    (hid : H[id]? = some (.row e es)) (hφ : φ[id]? = some (g, o)) (hg : w.heap[g]? = some (.cells cs t (0, 0))) (hs : cs'.size = cs.size) (hfit : o' + es'.length * e ≤ cs'.size)
    (hes : ∀ (i : Nat) (l : List V), es'[i]? = some l → l.length = e ∧ ∀ (j : Nat) (c : V), l[j]? = some c → c.one = true ∧ ∃ y, cs'[o' + i * e + j]? = some y ∧ VS w (owned x.X φ H) φ c y) :
    Sim x N ⟨env, H.set id .dead ++ [.row e es']⟩ (φ ++ [(g, o')]) a (w.setRow g cs') := by
  have hown : ownOf φ H g := ⟨id, e, es, o, hid, hφ⟩
  have hfr : Fr w (ownOf φ H) (w.setRow g cs') := Fr.setRow hg hs hown
  have hl : id < H.length := (List.getElem?_eq_some_iff.1 hid).1
  -- the live places of the new heap
  have get : ∀ (k e1 : Nat) (es1 : List (List V)), (H.set id .dead ++ [Place.row e es'])[k]? = some (.row e1 es1) → (k < H.length ∧ k ≠ id ∧ H[k]? = some (.row e1 es1)) ∨ (k = H.length ∧ e1 = e ∧ es1 = es') := by
    intro k e1 es1 hk
    by_cases hkl : k < H.length
    · rw [List.getElem?_append_left (by simpa using hkl)] at hk
      by_cases hkid : k = id
      · subst hkid
        simp [hkl] at hk
      · rw [List.getElem?_set_ne (fun q => hkid q.symm)] at hk
        exact .inl ⟨hkl, hkid, hk⟩
    · have hk' := (List.getElem?_eq_some_iff.1 hk).1
      simp at hk'
      obtain rfl : k = H.length := by omega
      rw [List.getElem?_append_right (by simp)] at hk
      simp at hk
      exact .inr ⟨rfl, hk.1.symm, hk.2.symm⟩
  have getφ : ∀ k, k < H.length → (φ ++ [(g, o')])[k]? = φ[k]? := fun k hk => by rw [List.getElem?_append_left (by rw [h.hs.len]; exact hk)]
  have newφ : (φ ++ [(g, o')])[H.length]? = some (g, o') := by rw [← h.hs.len]; simp
  have hold' : ∀ k, ownOf (φ ++ [(g, o')]) (H.set id .dead ++ [Place.row e es']) k → ownOf φ H k := by
    rintro k ⟨id1, e1, es1, o1, h1, h2⟩
    rcases get _ _ _ h1 with ⟨q1, q2, q3⟩ | ⟨rfl, rfl, rfl⟩
    · rw [getφ _ q1] at h2
      exact ⟨id1, e1, es1, o1, q3, h2⟩
    · rw [newφ] at h2
      cases h2
      exact hown
  have hk : Keeps w (owned x.X φ H) (w.setRow g cs') (owned x.X (φ ++ [(g, o')]) (H.set id .dead ++ [Place.row e es'])) := keepsX hfr (fun k _ => hold' k)
  refine h.to ⟨by simp [h.hs.len], ?_, fun k hk => h.hs.disj k (hold' k hk), ?_⟩ hfr (fun k _ => hold' k) (Ext.append _ _) (by simp)
  · intro i j e1 es1 e2 es2 g1 o1 o2 hi hj hgi hgj
    rcases get _ _ _ hi with ⟨q1, q2, q3⟩ | ⟨rfl, rfl, rfl⟩ <;> rcases get _ _ _ hj with ⟨r1, r2, r3⟩ | ⟨rfl, rfl, rfl⟩
    · rw [getφ _ q1] at hgi
      rw [getφ _ r1] at hgj
      exact h.hs.inj i j _ _ _ _ g1 o1 o2 q3 r3 hgi hgj
    · rw [getφ _ q1] at hgi
      rw [newφ] at hgj
      cases hgj
      exact absurd (h.hs.inj i id _ _ _ _ g o1 o q3 hid hgi hφ) q2
    · rw [getφ _ r1] at hgj
      rw [newφ] at hgi
      cases hgi
      exact absurd (h.hs.inj j id _ _ _ _ g o2 o r3 hid hgj hφ) r2
    · rfl
  · intro k e1 es1 hk1
    rcases get _ _ _ hk1 with ⟨q1, q2, q3⟩ | ⟨rfl, rfl, rfl⟩
    · obtain ⟨g1, o1, cs1, t1, h1, h2, h3, h4⟩ := h.hs.live k e1 es1 q3
      have hne : g1 ≠ g := by
        rintro rfl
        exact q2 (h.hs.inj k id e1 es1 e es g1 o1 o q3 hid h1 hφ)
      refine ⟨g1, o1, cs1, t1, by rw [getφ _ q1]; exact h1, by rw [setRow_other w g g1 cs' hne]; exact h2, h3, fun i l hi => ⟨(h4 i l hi).1, fun j c hj => ?_⟩⟩
      obtain ⟨ho, y, hy, hv⟩ := (h4 i l hi).2 j c hj
      exact ⟨ho, y, hy, VS.keeps hk hfr.sizes (Ext.append _ _) _ _ hv⟩
    · refine ⟨g, o', cs', t, newφ, setRow_heap w g cs cs' t _ hg, hfit, fun i l hi => ⟨(hes i l hi).1, fun j c hj => ?_⟩⟩
      obtain ⟨ho, y, hy, hv⟩ := (hes i l hi).2 j c hj
      exact ⟨ho, y, hy, VS.keeps hk hfr.sizes (Ext.append _ _) _ _ hv⟩

theorem appendD_gives (h : Sim x N ⟨env, H⟩ φ a w) (t ty : TypeId) {p q : V} {vp vq : Value} (hp : VS w (owned x.X φ H) φ p vp) (hq : VS w (owned x.X φ H) φ q vq)
    {k : V → Heap → Prop} (hk : appendD P t p q H k) : Gives P x N env a w (Builtin.append_ #[t, t] ty #[vp, vq]) k := by
  unfold appendD at hk
  split at hk
  case h_2 => exact hk.elim
  rename_i et hti
  obtain ⟨i, u, z, hi, hu, hz, e⟩ := tinfo_spec hti
  obtain rfl := tk_slice (u := u) (by injection e; symm; assumption)
  split at hk
  case h_2 => exact hk.elim
  rename_i te hte
  obtain ⟨i', u', z', hi', hu', hz', rfl⟩ := tinfo_spec hte
  simp only at hk
  obtain ⟨⟨hpos, hzl⟩, hk⟩ := hk
  have hzs : z'.cells.size = i'.size := by simpa using hzl
  obtain ⟨news, vals, hk, hne, hno, hnv, hsrc⟩ := elemsD_spec (P := P) h hpos hq hk
  have hvl : vals.length = news.length * i'.size := by rw [← VSs.length _ _ hnv, flatten_length hne]
  have hvone : ∀ u ∈ vals, u.oneCell' = true := by
    intro u hu
    obtain ⟨j, hj⟩ := List.getElem?_of_mem hu
    have hj' : j < news.flatten.length := by rw [VSs.length _ _ hnv]; exact (List.getElem?_eq_some_iff.1 hj).1
    obtain ⟨i2, l, m, q1, q2, q3⟩ := flatten_elem hne (List.getElem?_eq_getElem hj')
    obtain ⟨v', r1, r2⟩ := VSs.get _ _ hnv j _ (List.getElem?_eq_getElem hj')
    rw [hj] at r1
    cases r1
    exact VS.one r2 (ones_get (hno l (List.mem_of_getElem? q1)) q2)
  split at hk
  · rename_i sid e1 off n hkk
    obtain ⟨rfl, hk⟩ := hk
    split at hk
    case h_2 => exact hk.elim
    rename_i e' es hid
    obtain ⟨rfl, hlen, hb, h47, hk⟩ := hk
    simp only [VS] at hp
    obtain ⟨g, o, A, cap, hφ, rfl, hcap, hA, hroom⟩ := hp
    obtain ⟨g', o', cs, t1, h1, h2, h3, h4⟩ := h.hs.live sid _ es hid
    rw [hφ] at h1
    obtain ⟨rfl, rfl⟩ := Prod.mk.inj (Option.some.inj h1)
    have hroom' : o + (off + cap) * i'.size ≤ cs.size := by
      obtain ⟨cs2, t2, fr2, r1, r2⟩ := hroom
      rw [h2] at r1
      cases r1
      exact r2
    have hmem : ∀ l ∈ (es.drop off).take n ++ news, l.length = i'.size ∧ ones l = true := by
      intro l hl
      rcases List.mem_append.1 hl with hl | hl
      · obtain ⟨i2, hi2⟩ := List.getElem?_of_mem hl
        rw [List.getElem?_take] at hi2
        split at hi2
        · rw [List.getElem?_drop] at hi2
          obtain ⟨q1, q2⟩ := h4 _ l hi2
          refine ⟨q1, ?_⟩
          unfold ones
          rw [List.all_eq_true]
          intro c hc
          obtain ⟨j, hj⟩ := List.getElem?_of_mem hc
          exact (q2 j c hj).1
        · cases hi2
      · exact ⟨hne l hl, hno l hl⟩
    have hn : ((es.drop off).take n).length = n := by simp; omega
    have hadd : (off + cap) * i'.size = off * i'.size + cap * i'.size := Nat.add_mul _ _ _
    by_cases hin : n + news.length ≤ cap
    · -- there is room
      obtain ⟨cs', hcs', hrun, hget⟩ : ∃ cs' : Array Value, cs'.size = cs.size ∧
          (Builtin.append_ #[t, t] ty #[.slice (some A) n cap, vq]).run P w = .ok (.slice (some A) (n + news.length) cap) (w.setRow g cs') ∧
          ∀ m, cs'[m]? = if o + off * i'.size + n * i'.size ≤ m ∧ m < o + off * i'.size + n * i'.size + vals.length then vals[m - (o + off * i'.size + n * i'.size)]? else cs[m]? := by
        by_cases hc0 : cap = 0
        · have : news = [] := List.eq_nil_of_length_eq_zero (by omega)
          subst this
          have : vals = [] := List.eq_nil_of_length_eq_zero (by simpa using hvl)
          subst this
          refine ⟨cs, rfl, ?_, fun m => by simp; omega⟩
          rw [setRow_self w g cs t1 (0, 0) h2]
          exact run_append_in0 hu hi' hsrc (some A) n cap hcap
        · have hA' := hA.resolve_left hc0
          subst hA'
          have hfit : o + off * i'.size + n * i'.size + vals.length ≤ cs.size := by
            have : (n + news.length) * i'.size ≤ cap * i'.size := Nat.mul_le_mul_right _ hin
            rw [Nat.add_mul] at this
            omega
          refine ⟨_, ?_, run_append_in hu hi' hsrc g (o + off * i'.size) n cap cs t1 h2 hvone hin hfit, fun m => ?_⟩
          · simp; omega
          · rw [List.getElem?_toArray]
            have hT : (cs.toList.take (o + off * i'.size + n * i'.size)).length = o + off * i'.size + n * i'.size := by simp; omega
            by_cases hm1 : m < o + off * i'.size + n * i'.size
            · rw [if_neg (by omega), List.append_assoc, List.getElem?_append_left (by omega), List.getElem?_take, if_pos hm1]
              simp
            · by_cases hm2 : m < o + off * i'.size + n * i'.size + vals.length
              · rw [if_pos ⟨by omega, hm2⟩, List.append_assoc, List.getElem?_append_right (by omega), List.getElem?_append_left (by omega), hT]
              · rw [if_neg (by omega), List.getElem?_append_right (by rw [List.length_append]; omega), List.getElem?_drop, List.length_append, hT]
                rw [show o + off * i'.size + n * i'.size + vals.length + (m - (o + off * i'.size + n * i'.size + vals.length)) = m by omega]
                simp
      have hsim := h.rehome (o' := o + off * i'.size) (es' := (es.drop off).take n ++ news) hid hφ h2 hcs' (by
        rw [List.length_append, hn, hcs', Nat.add_mul]
        have : (n + news.length) * i'.size ≤ cap * i'.size := Nat.mul_le_mul_right _ hin
        rw [Nat.add_mul] at this
        omega) (by
        intro i2 l hl
        obtain ⟨q1, q2⟩ := hmem l (List.mem_of_getElem? hl)
        refine ⟨q1, fun j c hc => ⟨ones_get q2 hc, ?_⟩⟩
        have hj : j < i'.size := by rw [← q1]; exact (List.getElem?_eq_some_iff.1 hc).1
        by_cases hi2 : i2 < n
        · rw [List.getElem?_append_left (by omega), List.getElem?_take, if_pos hi2, List.getElem?_drop] at hl
          obtain ⟨_, r2⟩ := h4 _ l hl
          obtain ⟨_, y, hy, hv⟩ := r2 j c hc
          refine ⟨y, ?_, hv⟩
          have : (i2 + 1) * i'.size ≤ n * i'.size := Nat.mul_le_mul_right _ hi2
          rw [Nat.add_mul] at this
          rw [hget, if_neg (by omega), ← hy]
          congr 1
          rw [Nat.add_mul]
          omega
        · rw [List.getElem?_append_right (by omega), hn] at hl
          have hflat := elems_get hne hl hj
          rw [hc] at hflat
          obtain ⟨v, r1, r2⟩ := VSs.get _ _ hnv _ c hflat
          refine ⟨v, ?_, r2⟩
          have hjv : (i2 - n) * i'.size + j < vals.length := (List.getElem?_eq_some_iff.1 r1).1
          have : i2 * i'.size = n * i'.size + (i2 - n) * i'.size := by rw [← Nat.add_mul]; congr 1; omega
          rw [hget, if_pos (by omega), ← r1]
          congr 1
          omega)
      refine ⟨_, _, _, _, _, hrun, hk, hsim, ?_⟩
      simp only [VS]
      refine ⟨g, o + off * i'.size, A, cap, by rw [← h.hs.len]; simp, rfl, hin, hA.imp (fun q => q) (fun q => by rw [q]; simp), ?_⟩
      exact ⟨cs', t1, (0, 0), setRow_heap w g cs cs' t1 _ h2, by rw [hcs']; simp; omega⟩
    · -- a new row
      have holds : ∀ j, j < n * i'.size → ∃ v, w.cell? (A.add j) = some v ∧ ∃ c, ((es.drop off).take n).flatten[j]? = some c ∧ VS w (owned x.X φ H) φ c v := by
        intro j hj
        have hfl : ((es.drop off).take n).flatten.length = n * i'.size := by rw [flatten_length (fun l hl => (hmem l (List.mem_append_left _ hl)).1), hn]
        have hj' : j < ((es.drop off).take n).flatten.length := by omega
        obtain ⟨i2, l, m, q1, q2, q3⟩ := flatten_elem (fun l hl => (hmem l (List.mem_append_left _ hl)).1) (List.getElem?_eq_getElem hj')
        rw [List.getElem?_take] at q1
        split at q1
        · rw [List.getElem?_drop] at q1
          obtain ⟨_, r2⟩ := h4 _ l q1
          obtain ⟨_, y, hy, hv⟩ := r2 m _ q2
          have hc0 : cap ≠ 0 := by
            rintro rfl
            have : n = 0 := by omega
            subst this
            simp at hj
          refine ⟨y, ?_, _, List.getElem?_eq_getElem hj', hv⟩
          rw [hA.resolve_left hc0, add_plain', cell_of_row w g _ cs t1 _ h2, ← hy, q3]
          congr 1
          rw [Nat.add_mul]
          omega
        · cases q1
      obtain ⟨olds, hol, hov⟩ := exists_list (n * i'.size) _ holds
      have hof : ∀ W : World, W.heap = w.heap → (Builtin.firstCells i'.size n (.slice (some A) n cap)).run P W = .ok olds.toArray W := fun W hW =>
        run_firstCells_some W i'.size n A n cap olds hol fun j v hv => by
          have := (hov j v hv).1
          unfold World.cell? at this ⊢
          rw [hW]
          exact this
      have hrun := run_append_up (ty := ty) hu hi' hz' hsrc (some A) n cap olds hof (by omega) h47 hb
      have hsim0 := (h.kill sid).drawn (w.drawn + 1)
      have hge := grownCap_ge w (n + news.length) cap et
      have hnew := newRow_gives hsim0 et (e := i'.size) (n := n + news.length) (cap := grownCap w (n + news.length) cap et) (es := (es.drop off).take n ++ news)
        (fun l hl => (hmem l hl).1) (fun l hl => (hmem l hl).2) (cs := olds.toArray ++ vals.toArray ++ Builtin.zeroCells z'.cells (grownCap w (n + news.length) cap et - (n + news.length)))
        (by rw [List.length_append, hn]) hge
        (by
          rw [Array.size_append, Array.size_append, size_zeroCells, hzs]
          simp only [List.size_toArray]
          rw [hol, hvl, ← Nat.add_mul, ← Nat.add_mul]
          exact Nat.mul_le_mul_right _ (by omega))
        (fun j c hc => by
          rw [List.flatten_append] at hc
          have hfl : ((es.drop off).take n).flatten.length = n * i'.size := by rw [flatten_length (fun l hl => (hmem l (List.mem_append_left _ hl)).1), hn]
          have less : ∀ {c : V} {v : Value}, VS w (owned x.X φ H) φ c v → VS { w with drawn := w.drawn + 1 } (owned x.X φ (H.set sid .dead)) φ c v := fun hv =>
            VS.keeps (w := w) (w' := { w with drawn := w.drawn + 1 }) (Keeps.heap rfl) (Sizes.heap rfl) (Ext.refl _) _ _ (VS.less (fun g hg => (ownOf_kill hg).1) hv)
          by_cases hj : j < n * i'.size
          · rw [List.getElem?_append_left (by omega)] at hc
            have hjo : j < olds.length := by omega
            refine ⟨olds[j], ?_, ?_⟩
            · rw [Array.getElem?_append_left (by simp; omega), Array.getElem?_append_left (by simpa using hjo)]
              simp [hjo]
            · obtain ⟨_, c', hc', hv⟩ := hov j _ (List.getElem?_eq_getElem hjo)
              rw [hc] at hc'
              cases hc'
              exact less hv
          · rw [List.getElem?_append_right (by omega), hfl] at hc
            obtain ⟨v, r1, r2⟩ := VSs.get _ _ hnv _ c hc
            have hjv := (List.getElem?_eq_some_iff.1 r1).1
            refine ⟨v, ?_, less r2⟩
            rw [Array.getElem?_append_left (by simp; omega), Array.getElem?_append_right (by simp; omega)]
            simp only [List.size_toArray, hol]
            simpa using r1)
        (k := k) (by simpa using hk)
      obtain ⟨k1, k2, k3⟩ := hnew
      exact ⟨_, _, _, _, _, hrun, k1, k2, k3⟩
  · obtain ⟨⟨hb, h47⟩, hk0, hk1⟩ := hk
    simp only [VS, DS] at hp
    subst hp
    by_cases hnil : news = []
    · have hv0 : vals = [] := List.eq_nil_of_length_eq_zero (by rw [hvl, hnil]; simp)
      subst hv0
      have hsrc0 : Src P w i'.size vq 0 [] := by rw [hnil] at hsrc; exact hsrc
      exact Gives.same h (run_append_in0 hu hi' hsrc0 none 0 0 (Nat.le_refl _)) (hk0 hnil) (by simp [VS, DS])
    · have hpos' : 0 < news.length := List.length_pos_iff.2 hnil
      have hrun := run_append_up (ty := ty) hu hi' hz' hsrc none 0 0 [] (fun W _ => by simp [Builtin.firstCells]) (by omega) (by omega) (by simpa using hb)
      have hsim0 := h.drawn (w.drawn + 1)
      have hge := grownCap_ge w (0 + news.length) 0 et
      have hnew := newRow_gives hsim0 et (e := i'.size) (n := news.length) (cap := grownCap w (0 + news.length) 0 et) (es := news) hne hno
        (cs := (#[] : Array Value) ++ vals.toArray ++ Builtin.zeroCells z'.cells (grownCap w (0 + news.length) 0 et - (0 + news.length))) rfl (by omega)
        (by
          rw [Array.size_append, Array.size_append, size_zeroCells, hzs]
          simp only [List.size_toArray, Array.size_empty]
          rw [hvl, Nat.zero_add, List.length_nil, Nat.zero_add, ← Nat.add_mul]
          exact Nat.mul_le_mul_right _ (by omega))
        (fun j c hc => by
          obtain ⟨v, r1, r2⟩ := VSs.get _ _ hnv _ c hc
          have hjv := (List.getElem?_eq_some_iff.1 r1).1
          refine ⟨v, ?_, VS.keeps (w := w) (w' := { w with drawn := w.drawn + 1 }) (Keeps.heap rfl) (Sizes.heap rfl) (Ext.refl _) _ _ r2⟩
          rw [Array.getElem?_append_left (by simp; omega)]
          simpa using r1) (hk1 hnil)
      obtain ⟨k1, k2, k3⟩ := hnew
      refine ⟨_, _, _, _, _, hrun, k1, k2, ?_⟩
      simpa using k3
  · exact hk.elim

theorem run_copy {t ty e : TypeId} {i : TypeInfo} (ht : P.underlying t = some (.slice e)) (hi : P.info? e = some i) {v : Value} {m : Nat} {vals : List Value} (hs : Src P w i.size v m vals)
    (g o n cap : Nat) (cs : Array Value) (t1 : TypeId) (hg : w.heap[g]? = some (.cells cs t1 (0, 0))) (h1 : ∀ u ∈ vals, u.oneCell' = true)
    (hfit : o + (min m n) * i.size ≤ cs.size) :
    (Builtin.copy_ #[t, t] ty #[.slice (some ⟨g, o, none⟩) n cap, v]).run P w =
      .ok (.int .i64 (min m n : Nat)) (w.setRow g (cs.toList.take o ++ vals.take (min m n * i.size) ++ cs.toList.drop (o + (vals.take (min m n * i.size)).length)).toArray) := by
  have hl : (vals.take (min m n * i.size)).length = min m n * i.size := by rw [List.length_take, hs.size]; exact Nat.min_eq_left (Nat.mul_le_mul_right _ (Nat.min_le_left _ _))
  have hst := run_storeCells_at P g o t1 (vals.take (min m n * i.size)) 0 cs w hg (by rw [hl]; simpa using hfit) (fun u hu => h1 u (List.mem_of_mem_take hu))
  simp only [Nat.add_zero] at hst
  have hp := hs.part (min m n) (Nat.min_le_left _ _) w rfl
  have hm : Nat.min m n = min m n := rfl
  simp [Builtin.copy_, run_underlying ht, sizeOf, typeInfo, hi, hs.len w, hm, hp, hst, goInt]
theorem run_copy0 {t ty e : TypeId} {i : TypeInfo} (ht : P.underlying t = some (.slice e)) (hi : P.info? e = some i) {v : Value} {m : Nat} {vals : List Value} (hs : Src P w i.size v m vals)
    (A : Option Addr) (cap : Nat) : (Builtin.copy_ #[t, t] ty #[.slice A 0 cap, v]).run P w = .ok (.int .i64 0) w := by
  have hp := hs.part 0 (Nat.zero_le _) w rfl
  have hm : Nat.min m 0 = 0 := Nat.min_zero m
  cases A <;> simp [Builtin.copy_, run_underlying ht, sizeOf, typeInfo, hi, hs.len w, hm, hp, goInt, storeCells]

theorem copyD_gives (h : Sim x N ⟨env, H⟩ φ a w) (t ty : TypeId) {p q : V} {vp vq : Value} (hp : VS w (owned x.X φ H) φ p vp) (hq : VS w (owned x.X φ H) φ q vq)
    {k : V → Heap → Prop} (hk : copyD P t p q H k) : Gives P x N env a w (Builtin.copy_ #[t, t] ty #[vp, vq]) k := by
  unfold copyD at hk
  split at hk
  case h_2 => exact hk.elim
  rename_i et hti
  obtain ⟨i, u, z, hi, hu, hz, e⟩ := tinfo_spec hti
  obtain rfl := tk_slice (u := u) (by injection e; symm; assumption)
  split at hk
  case h_2 => exact hk.elim
  rename_i te hte
  obtain ⟨i', u', z', hi', hu', hz', rfl⟩ := tinfo_spec hte
  simp only at hk
  obtain ⟨hpos, hk⟩ := hk
  obtain ⟨news, vals, hk, hne, hno, hnv, hsrc⟩ := elemsD_spec (P := P) h hpos hq hk
  have hvl : vals.length = news.length * i'.size := by rw [← VSs.length _ _ hnv, flatten_length hne]
  have hvone : ∀ u ∈ vals, u.oneCell' = true := by
    intro u hu
    obtain ⟨j, hj⟩ := List.getElem?_of_mem hu
    have hj' : j < news.flatten.length := by rw [VSs.length _ _ hnv]; exact (List.getElem?_eq_some_iff.1 hj).1
    obtain ⟨i2, l, m, q1, q2, q3⟩ := flatten_elem hne (List.getElem?_eq_getElem hj')
    obtain ⟨v', r1, r2⟩ := VSs.get _ _ hnv j _ (List.getElem?_eq_getElem hj')
    rw [hj] at r1
    cases r1
    exact VS.one r2 (ones_get (hno l (List.mem_of_getElem? q1)) q2)
  split at hk
  · rename_i sid e1 off n hkk
    obtain ⟨rfl, hk⟩ := hk
    split at hk
    case h_2 => exact hk.elim
    rename_i e' es hid
    obtain ⟨rfl, hlen, hk⟩ := hk
    simp only [VS] at hp
    obtain ⟨g, o, A, cap, hφ, rfl, hcap, hA, hroom⟩ := hp
    obtain ⟨g', o', cs, t1, h1, h2, h3, h4⟩ := h.hs.live sid _ es hid
    rw [hφ] at h1
    obtain ⟨rfl, rfl⟩ := Prod.mk.inj (Option.some.inj h1)
    by_cases hn0 : n = 0
    · subst hn0
      have hH : H.set sid (.row i'.size (es.take off ++ news.take 0 ++ es.drop (off + min news.length 0))) = H := by
        simp only [Nat.min_zero, List.take_zero, List.append_nil, Nat.add_zero, List.take_append_drop]
        have hl := (List.getElem?_eq_some_iff.1 hid)
        obtain ⟨hl, he⟩ := hl
        rw [← he]
        exact List.set_getElem_self hl
      rw [hH] at hk
      simp only [Nat.min_zero] at hk
      exact Gives.same h (run_copy0 hu hi' hsrc (some A) cap) hk (by simp [VS, DS])
    · have hA' := hA.resolve_left (by omega)
      subst hA'
      have hmn : min news.length n ≤ n := Nat.min_le_right _ _
      have hmm : min news.length n ≤ news.length := Nat.min_le_left _ _
      have hle1 : (off + n) * i'.size ≤ es.length * i'.size := Nat.mul_le_mul_right _ hlen
      have hle2 : min news.length n * i'.size ≤ n * i'.size := Nat.mul_le_mul_right _ hmn
      rw [Nat.add_mul] at hle1
      have hfit : o + off * i'.size + min news.length n * i'.size ≤ cs.size := by omega
      have hrun := run_copy (ty := ty) hu hi' hsrc g (o + off * i'.size) n cap cs t1 h2 hvone hfit
      have hml : (vals.take (min news.length n * i'.size)).length = min news.length n * i'.size := by rw [List.length_take, hvl]; exact Nat.min_eq_left (Nat.mul_le_mul_right _ hmm)
      have hnl : (news.take n).length = min news.length n := by rw [List.length_take, Nat.min_comm]
      have hsim := h.setRow (es' := es.take off ++ news.take n ++ es.drop (off + min news.length n)) hid hφ h2
        (cs' := (cs.toList.take (o + off * i'.size) ++ vals.take (min news.length n * i'.size) ++ cs.toList.drop (o + off * i'.size + (vals.take (min news.length n * i'.size)).length)).toArray)
        (by simp only [List.size_toArray, List.length_append, List.length_take, List.length_drop, Array.length_toList, hvl]; rw [Nat.min_eq_left (a := min news.length n * i'.size) (Nat.mul_le_mul_right _ hmm)]; omega)
        (by
          have : (es.take off ++ news.take n ++ es.drop (off + min news.length n)).length = es.length := by simp only [List.length_append, List.length_take, List.length_drop]; omega
          rw [this]
          simp only [List.size_toArray, List.length_append, List.length_take, List.length_drop, Array.length_toList, hvl]
          rw [Nat.min_eq_left (a := min news.length n * i'.size) (Nat.mul_le_mul_right _ hmm)]
          omega)
        (by
          intro i2 l hl
          have hT : (es.take off).length = off := by rw [List.length_take]; omega
          have hTc : (cs.toList.take (o + off * i'.size)).length = o + off * i'.size := by rw [List.length_take, Array.length_toList]; omega
          by_cases c1 : i2 < off
          · rw [List.append_assoc, List.getElem?_append_left (by omega), List.getElem?_take, if_pos c1] at hl
            obtain ⟨q1, q2⟩ := h4 i2 l hl
            refine ⟨q1, fun j c hj => ?_⟩
            obtain ⟨r1, y, r2, r3⟩ := q2 j c hj
            have hj' : j < i'.size := by rw [← q1]; exact (List.getElem?_eq_some_iff.1 hj).1
            have : (i2 + 1) * i'.size ≤ off * i'.size := Nat.mul_le_mul_right _ c1
            rw [Nat.add_mul] at this
            refine ⟨r1, y, ?_, r3⟩
            rw [List.getElem?_toArray, List.append_assoc, List.getElem?_append_left (by omega), List.getElem?_take, if_pos (by omega), Array.getElem?_toList]
            exact r2
          · by_cases c2 : i2 < off + min news.length n
            · rw [List.append_assoc, List.getElem?_append_right (by omega), hT, List.getElem?_append_left (by omega), List.getElem?_take, if_pos (by omega)] at hl
              have q1 := hne l (List.mem_of_getElem? hl)
              refine ⟨q1, fun j c hj => ⟨ones_get (hno l (List.mem_of_getElem? hl)) hj, ?_⟩⟩
              have hj' : j < i'.size := by rw [← q1]; exact (List.getElem?_eq_some_iff.1 hj).1
              have hflat := elems_get hne hl hj'
              rw [hj] at hflat
              obtain ⟨v, r1, r2⟩ := VSs.get _ _ hnv _ c hflat
              refine ⟨v, ?_, r2⟩
              have : (i2 - off + 1) * i'.size ≤ min news.length n * i'.size := Nat.mul_le_mul_right _ (by omega)
              rw [Nat.add_mul] at this
              have e1 : i2 * i'.size = off * i'.size + (i2 - off) * i'.size := by rw [← Nat.add_mul]; congr 1; omega
              rw [List.getElem?_toArray, List.append_assoc, List.getElem?_append_right (by omega), hTc, List.getElem?_append_left (by omega), List.getElem?_take, if_pos (by omega), ← r1]
              congr 1
              omega
            · rw [List.getElem?_append_right (by rw [List.length_append]; omega), List.length_append, hT, hnl, List.getElem?_drop, show off + min news.length n + (i2 - (off + min news.length n)) = i2 by omega] at hl
              obtain ⟨q1, q2⟩ := h4 i2 l hl
              refine ⟨q1, fun j c hj => ?_⟩
              obtain ⟨r1, y, r2, r3⟩ := q2 j c hj
              have : (off + min news.length n) * i'.size ≤ i2 * i'.size := Nat.mul_le_mul_right _ (by omega)
              rw [Nat.add_mul] at this
              refine ⟨r1, y, ?_, r3⟩
              rw [List.getElem?_toArray, List.getElem?_append_right (by rw [List.length_append]; omega), List.length_append, hTc, hml, List.getElem?_drop, Array.getElem?_toList, ← r2]
              congr 1
              omega)
      exact ⟨_, _, _, _, _, hrun, hk, hsim, by simp [VS, DS]⟩
  · simp only [VS, DS] at hp
    subst hp
    exact Gives.same h (run_copy0 hu hi' hsrc none 0) hk (by simp [VS, DS])
  · exact hk.elim
end
end Go.Proofs.Ytpakdkiceoknjaa
