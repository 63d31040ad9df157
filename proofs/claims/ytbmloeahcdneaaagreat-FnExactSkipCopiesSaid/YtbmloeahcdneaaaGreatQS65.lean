/- The blocks to which each block goes: of a view of a function that owns its memory, as closed data. No condition. -/
import Derived.Test.YtbmloeahcdneaaaGreatQE6
import Derived.Test.YtbmloeahcdneaaaGreatQS13
import Derived.Test.YtbmloeahcdneaaaGreatQS41
section
namespace Go.Proofs.YtbmloeahcdneaaaGreat
set_option linter.unusedVariables false
set_option linter.unusedSimpArgs false
def isBS : Op → Bool
  | .buildSlice .. => true
  | _ => false
def sideZ (i0 : Nat) (env : Env) (H : Heap) (o : Op) : Prop := sideA i0 env o ∧ (isBS o = true → i0 < H.length)
def opZ (P : Program) (Γ : Table) (own : List FuncId) (i0 : Nat) (env : Env) (H : Heap) (o : Op) (k : V → Heap → Prop) : Prop := sideZ i0 env H o ∧ opT P Γ own env H o k
def stepZ (P : Program) (Γ : Table) (own : List FuncId) (i0 : Nat) (all : List (Option Nat)) (o : SOp) (env : Env) (H : Heap) (K : Env → Heap → Prop) : Prop :=
  match o.guard with
  | none => opZ P Γ own i0 env H o.op fun v H' => K (updO env o.dst v) H'
  | some _ => False
def opsZ (P : Program) (Γ : Table) (own : List FuncId) (i0 : Nat) (all : List (Option Nat)) : List SOp → Env → Heap → (Env → Heap → Prop) → Prop
  | [], env, H, k => k env H
  | o :: rest, env, H, k => stepZ P Γ own i0 all o env H fun e h => opsZ P Γ own i0 all rest e h k
section
variable {P : Program} {Γ : Table} {own : List FuncId} {i0 : Nat} {all : List (Option Nat)}
end
section
variable {P : Program} {Γ : Table} {own : List FuncId} {x : Ctx} {N i0 : Nat}
end
attribute [simp] isBS sideZ opZ stepZ opsZ
end Go.Proofs.YtbmloeahcdneaaaGreat
end

section
namespace Go.Proofs.YtbmloeahcdneaaaGreat
set_option linter.unusedVariables false
set_option linter.unusedSimpArgs false
structure HLe (G H : Heap) : Prop where
  len : G.length = H.length
  at_ : ∀ i : Nat, G[i]? = H[i]? ∨ ∃ (e : Nat) (es es' : List (List V)), G[i]? = some (Place.row e es) ∧ H[i]? = some (Place.row e es') ∧ es.length = es'.length ∧
    ∀ (k : Nat) (l' : List V), es'[k]? = some l' → ∃ l : List V, es[k]? = some l ∧ l.length = l'.length ∧ ∀ (j : Nat) (c' : V), l'[j]? = some c' → ∃ c : V, l[j]? = some c ∧ (c = c' ∨ (VLe c c' ∧ c'.one = true))
def IntoW (s : St) (l : List (Nat × V)) (H : Heap) : Prop := HLe s.H H ∧ intoQ s.env l
attribute [simp] IntoW
end Go.Proofs.YtbmloeahcdneaaaGreat
end

section
namespace Go.Proofs.YtbmloeahcdneaaaGreat
set_option linter.unusedVariables false
set_option linter.unusedSimpArgs false
theorem getR_split {H R : Heap} {i e : Nat} {es : List (List V)} (h : (H ++ R)[i]? = some (.row e es)) : (i < H.length ∧ H[i]? = some (.row e es)) ∨ (H.length ≤ i ∧ (deads H.length ++ R)[i]? = some (.row e es)) := by
  by_cases hi : i < H.length
  · rw [List.getElem?_append_left hi] at h; exact .inl ⟨hi, h⟩
  · rw [List.getElem?_append_right (by omega)] at h
    exact .inr ⟨by omega, by rw [List.getElem?_append_right (by simp; omega), List.length_replicate]; exact h⟩
theorem getR_dead {n i e : Nat} {R : Heap} {es : List (List V)} (h : (deads n ++ R)[i]? = some (.row e es)) : n ≤ i ∧ R[i - n]? = some (.row e es) := by
  by_cases hi : i < n
  · rw [List.getElem?_append_left (by simpa using hi)] at h
    exact (deads_row h).elim
  · rw [List.getElem?_append_right (by simp; omega), List.length_replicate] at h
    exact ⟨by omega, h⟩
theorem CallsD.close {P : Program} {f : FuncId} {vs : List V} {H : Heap} {r0 : V} (h : CallsD P f vs H fun r H' => ∃ R, H' = H ++ R ∧ Rd1 (deads H.length ++ R) r r0) : CallsD P f vs H fun r H' => r = r0 ∧ ∃ k, H' = H ++ List.replicate k .dead := by
  refine ⟨h.1, fun X w φ args hX hs hv => (h.2 X w φ args hX hs hv).mono ?_⟩
  rintro e w' ⟨v, r, φ', H', rfl, ⟨R, rfl, hR⟩, hs', hv', hfr, hext, hlen, hnew⟩
  have getD : ∀ {i e : Nat} {es : List (List V)}, (deads H.length ++ R)[i]? = some (.row e es) → H.length ≤ i ∧ (H ++ R)[i]? = some (.row e es) := fun h => by
    obtain ⟨q1, q2⟩ := getR_dead h
    exact ⟨q1, by rw [List.getElem?_append_right q1]; exact q2⟩
  have hl' : φ'.length = H.length + R.length := by rw [hs'.len]; simp
  have hown : owned (fun g => X g ∨ ownOf φ' H g) φ' (deads H.length ++ R) = owned X φ' (H ++ R) := by
    funext g
    apply propext
    constructor
    · rintro ((q | ⟨i, e, es, o, q1, q2⟩) | ⟨i, e, es, o, q1, q2⟩)
      · exact .inl q
      · exact .inr ⟨i, e, es, o, (List.getElem?_append_left (List.getElem?_eq_some_iff.1 q1).1).trans q1, q2⟩
      · exact .inr ⟨i, e, es, o, (getD q1).2, q2⟩
    · rintro (q | ⟨i, e, es, o, q1, q2⟩)
      · exact .inl (.inl q)
      · rcases getR_split q1 with ⟨_, q3⟩ | ⟨_, q3⟩
        · exact .inl (.inr ⟨i, e, es, o, q3, q2⟩)
        · exact .inr ⟨i, e, es, o, q3, q2⟩
  have hsd : HS (fun g => X g ∨ ownOf φ' H g) w' φ' (deads H.length ++ R) := by
    refine ⟨by rw [hl']; simp, fun i j e es e' es' g o o' hi hj => hs'.inj i j e es e' es' g o o' (getD hi).2 (getD hj).2, fun g hg hx => ?_, fun id e es hid => ?_⟩
    · obtain ⟨i, e, es, o, q1, q2⟩ := hg
      obtain ⟨q3, q4⟩ := getD q1
      rcases hx with hx | ⟨j, e', es', o', p1, p2⟩
      · exact hs'.disj g ⟨i, e, es, o, q4, q2⟩ hx
      · have hj := (List.getElem?_eq_some_iff.1 p1).1
        have := hs'.inj i j e es e' es' g o o' q4 ((List.getElem?_append_left hj).trans p1) q2 p2
        omega
    · rw [hown]; exact hs'.live id e es (getD hid).2
  have hk : ownOf φ' (H ++ List.replicate (φ'.length - H.length) .dead) = ownOf φ' H := by
    funext g
    apply propext
    constructor
    · rintro ⟨i, e, es, o, q1, q2⟩
      rcases getR_split q1 with ⟨_, q3⟩ | ⟨_, q3⟩
      · exact ⟨i, e, es, o, q3, q2⟩
      · obtain ⟨_, q4⟩ := getR_dead q3
        exact (deads_row q4).elim
    · rintro ⟨i, e, es, o, q1, q2⟩
      exact ⟨i, e, es, o, (List.getElem?_append_left (List.getElem?_eq_some_iff.1 q1).1).trans q1, q2⟩
  have hr := hR _ w' φ' v hsd (by rw [hown]; exact hv')
  have hdr : ∀ {i e : Nat} {es : List (List V)}, (H ++ List.replicate (φ'.length - H.length) Place.dead)[i]? = some (.row e es) → H[i]? = some (.row e es) := fun q1 => by
    rcases getR_split q1 with ⟨_, q3⟩ | ⟨_, q3⟩
    · exact q3
    · exact (deads_row (getR_dead q3).2).elim
  have up : ∀ {i e : Nat} {es : List (List V)}, H[i]? = some (.row e es) → (H ++ R)[i]? = some (.row e es) := fun q => (List.getElem?_append_left (List.getElem?_eq_some_iff.1 q).1).trans q
  have less : ∀ g, owned X φ' (H ++ List.replicate (φ'.length - H.length) .dead) g → owned X φ' (H ++ R) g := fun g hg => hg.imp id fun q => by
    rw [hk] at q
    obtain ⟨i, e, es, o, q1, q2⟩ := q
    exact ⟨i, e, es, o, up q1, q2⟩
  refine ⟨v, r0, φ', H ++ List.replicate (φ'.length - H.length) .dead, rfl, ⟨rfl, _, rfl⟩, ⟨by rw [hl']; simp, fun i j e es e' es' g o o' hi hj => hs'.inj i j e es e' es' g o o' (up (hdr hi)) (up (hdr hj)), fun g hg => hs'.disj g ?_, fun id e es hid => ?_⟩, ?_, hfr, hext, by simp, fun g hg ho => ?_⟩
  · rw [hk] at hg
    obtain ⟨i, e, es, o, q1, q2⟩ := hg
    exact ⟨i, e, es, o, up q1, q2⟩
  · obtain ⟨g, o, cs, t, r1, r2, r3, r4⟩ := hs'.live id e es (up (hdr hid))
    refine ⟨g, o, cs, t, r1, r2, r3, fun i l hl => ⟨(r4 i l hl).1, fun j c hc => ?_⟩⟩
    obtain ⟨p1, y, p2, p3⟩ := (r4 i l hl).2 j c hc
    exact ⟨p1, y, p2, VS.keeps (fun b _ hn => ⟨rfl, fun q => hn (less b q)⟩) (Sizes.refl w') (Ext.refl φ') _ _ p3⟩
  · refine VS.keeps (fun b _ hn => ⟨rfl, fun q => hn ?_⟩) (Sizes.refl w') (fun id hid => absurd hid (by simp)) _ _ hr
    unfold owned at q
    rw [hk] at q
    exact q
  · rw [hk] at ho
    obtain ⟨i, e, es, o, q1, q2⟩ := ho
    exact hnew g hg ⟨i, e, es, o, up q1, q2⟩
theorem CallsD.closeS {P : Program} {f : FuncId} {vs : List V} {H : Heap} {α β : Type} [Enc β] [Dec β] [Inhabited β] [Tr α β] {l : List β} (h : CallsD P f vs H fun r H' => ∃ s : AS α, r = s.v ∧ Tr.era s = l ∧ New H H' s) : CallsD P f vs H fun r H' => r = argV l ∧ ∃ k, H' = H ++ List.replicate k .dead := by
  refine CallsD.close (h.mono ?_)
  rintro r H' ⟨s, rfl, e, hn⟩
  obtain ⟨R, rfl⟩ := hn.only.tail
  refine ⟨R, rfl, ?_⟩
  have := Rd1.slice (hn.own.behind (Q := deads H.length) [] hn.fresh (by simp))
  rw [e, List.append_nil] at this
  exact this
end Go.Proofs.YtbmloeahcdneaaaGreat
end

section
namespace Go.Proofs.YtbmloeahcdneaaaGreat
set_option maxRecDepth 100000
set_option linter.unusedSimpArgs false
set_option linter.unusedVariables false
theorem list_set_self {γ : Type} {l : List γ} {i : Nat} {x : γ} (h : l[i]? = some x) : l.set i x = l := by
  refine List.ext_getElem? fun j => ?_
  rw [List.getElem?_set]
  split
  · rename_i e; subst e; rw [if_pos (List.getElem?_eq_some_iff.1 h).1, h]
  · rfl
theorem next_tree (H : Heap) (v : View) (hv : fewJumps v.blocks_) : CallsD Tryz.prog 106 [.d (.rp 5 (dView v))] H fun r H' => ∃ s : AS (AS Int), r = s.v ∧ Tr.era s = nextL v.blocks_ ∧ New H H' s := by
  obtain ⟨h8, h2⟩ := hv
  have f1 : (v.blocks_.length : Int) * 24 ≤ 140737488355328 := by omega
  have f2 : (v.blocks_.length : Int) ≤ 140737488355328 := by omega
  refine calls_of Tryz.func106 en_106 rfl (of_decide_eq_true rfl) (W_run mixed ⟨[], [], [], 47, H.length, [0, 2, 3, 4, 5, 7, 19, 20, 21, 22, 27, 28, 29, 30], [22, 30]⟩ (fun | 8 => [0, 1, 2, 3, 4, 6, 5, 7, 8, 9, 10, 11] | _ => []) (by kernel_rfl) ?_)
  simp only [Tryz.f106, stripX, stripOps, pickOps]
  simp [f1, f2, retQ]
  refine W_loopH (α := List (AS Int) × Heap) (fun a => [(3, .sl H.length 1 0 v.blocks_.length), (19, .d (dBlockS v.blocks_)), (20, .d (.int .i64 v.blocks_.length)), (21, .d (.int .i64 a.1.length))]) (fun a => a.2)
    (fun a => Fl H.length v.blocks_ [.d .nilsl] tos a.1 a.2 ∧ Only [] H a.2) (fun a => v.blocks_.length - a.1.length) ([], H ++ [.row 1 (List.replicate v.blocks_.length [.d .nilsl])]) ?_ ⟨Fl.nil (by simp), Only.app _ _ _⟩ ?_
  · simp
  rintro ⟨m, H1⟩ ⟨hf, ho⟩
  simp only [] at hf ho
  have hlt := hf.lt
  have hrow : H1[H.length]? = some (.row 1 (partT m v.blocks_.length [.d .nilsl])) := hf.row
  by_cases hin : m.length < v.blocks_.length
  · have hb := h2 (v.blocks_[m.length]?.getD default) (by rw [List.getElem?_eq_getElem hin]; exact List.getElem_mem hin)
    have w1 : IntKind.i64.wrap 1 = 1 := by decide
    have w2 : IntKind.i64.wrap 2 = 2 := by decide
    have wi : IntKind.i64.wrap ((m.length : Int) + 1) = ((m.length + 1 : Nat) : Int) := by rw [wrap_id] <;> omega
    have hg : ∀ R : Heap, (H1 ++ R)[H.length]? = some (.row 1 (partT m v.blocks_.length [.d .nilsl])) := fun R => (List.getElem?_append_left hlt).trans hrow
    have hset : ∀ (R : Heap) p, (H1 ++ R).set H.length p = H1.set H.length p ++ R := fun R p => List.set_append_left _ _ hlt
    have s3 : ∀ (R : Heap) p, (H1.set H.length p ++ R)[H.length]? = some p := fun R p => (List.getElem?_append_left (by simpa using hlt)).trans (List.getElem?_set_self hlt)
    have s4 : ∀ (R : Heap) p x, (H1.set H.length p ++ R).set H.length x = H1.set H.length x ++ R := fun R p x => by rw [List.set_append_left _ _ (by simpa using hlt), List.set_set]
    have pl : (partT m v.blocks_.length [V.d .nilsl]).length = v.blocks_.length := partT_len hf.le
    have pg : (partT m v.blocks_.length [V.d .nilsl])[m.length]? = some [.d .nilsl] := partT_get hin
    have pg' : ∀ h : m.length < (partT m v.blocks_.length [V.d .nilsl]).length, (partT m v.blocks_.length [V.d .nilsl])[m.length] = [.d .nilsl] := fun h => Option.some.inj ((List.getElem?_eq_getElem h).symm.trans pg)
    have ps : ∀ x : List V, ((partT m v.blocks_.length [V.d .nilsl]).set m.length x)[m.length]? = some x := fun x => List.getElem?_set_self (by rw [pl]; exact hin)
    have ps' : ∀ (x : List V) (h : m.length < ((partT m v.blocks_.length [V.d .nilsl]).set m.length x).length), ((partT m v.blocks_.length [V.d .nilsl]).set m.length x)[m.length] = x := fun x h => Option.some.inj ((List.getElem?_eq_getElem h).symm.trans (ps x))
    generalize hx : v.blocks_[m.length]?.getD default = x at hb
    have hx' : ∀ h : m.length < v.blocks_.length, v.blocks_[m.length] = x := fun h => by rw [← hx, List.getElem?_eq_getElem h]; rfl
    have he : ∀ js, x.jumps_ = js → tos x = js.map (·.to_) := fun js e => by rw [tos, e]
    have onl : ∀ (R : Heap) p, Only [] H (H1.set H.length p ++ R) := fun R p => ⟨by simp; omega, fun j hj _ => by
      rw [List.getElem?_append_left (by simp; omega), List.getElem?_set_ne (by omega)]
      exact ho.at_ j hj List.not_mem_nil⟩
    have key : ∀ (R : Heap) (p n : Nat) (l : List Int), (H1 ++ R)[p]? = some (.row 1 (rI l)) → H1.length ≤ p → n = l.length → tos x = l → Fl H.length v.blocks_ [.d .nilsl] tos (m ++ [(⟨.sl p 1 0 n, l⟩ : AS Int)]) (H1.set H.length (.row 1 ((partT m v.blocks_.length [V.d .nilsl]).set m.length [.sl p 1 0 n])) ++ R) := fun R p n l hr hpl hn hl => by
      subst hn
      have h := (hf.frame (Only.app [] H1 R) List.not_mem_nil fun j _ hj => absurd hj List.not_mem_nil).step hin (own_row hr) (fun j hj => by
        rw [ids_row] at hj
        rw [List.mem_singleton.1 hj]
        exact ⟨by omega, fun q => by have := hf.own.lt q; omega⟩) (by rw [era_AS_ints, hx]; exact hl.symm)
      rw [← partT_set _ hin, hset] at h
      exact h
    have key0 : ∀ R : Heap, tos x = [] → Fl H.length v.blocks_ [.d .nilsl] tos (m ++ [(⟨.d .nilsl, []⟩ : AS Int)]) (H1 ++ R) := fun R hl => by
      have h := (hf.frame (Only.app [] H1 R) List.not_mem_nil fun j _ hj => absurd hj List.not_mem_nil).step (a := (⟨.d .nilsl, []⟩ : AS Int)) hin (own_nil _) (fun j hj => absurd hj List.not_mem_nil) (by rw [hx, hl]; rfl)
      rw [← partT_set _ hin] at h
      have e : (partT m v.blocks_.length [V.d .nilsl]).set m.length (Tr.cells (⟨.d .nilsl, []⟩ : AS Int)) = partT m v.blocks_.length [V.d .nilsl] := list_set_self pg
      rw [e, show Enc.size (List Int) = 1 from rfl, list_set_self (hg R)] at h
      exact h
    generalize hp : partT m v.blocks_.length [V.d .nilsl] = pr at hrow hg pl pg pg' ps ps' key
    match hjs : x.jumps_, hb with
    | [], _ =>
      refine W_run mixed ⟨[], [], [], 47, H.length, [0, 2, 3, 4, 5, 7, 19, 20, 21, 22, 27, 28, 29, 30], [22, 30]⟩ (fun | 8 => [0, 1, 2, 3, 4, 6, 5, 7, 8, 9, 10, 11] | _ => []) (by kernel_rfl) ?_
      simp only [stripX, stripOps, pickOps]
      simp [hin, hjs, hx, hx', hg]
      refine W_rounds 1 (WR_succ ?_)
      refine W_run mixed ⟨[], [], [], 47, H.length, [0, 2, 3, 4, 5, 7, 19, 20, 21, 22, 27, 28, 29, 30], [22, 30]⟩ (fun | 8 => [0, 1, 2, 3, 4, 6, 5, 7, 8, 9, 10, 11] | _ => []) (by kernel_rfl) ?_
      simp only [stripX, stripOps, pickOps]
      simp [hjs, hx, hx']
      exact ⟨_, _, ⟨key0 _ (he _ hjs), only_more ho⟩, by simp; omega, rfl, by rw [wi]; simp⟩
    | [a], _ =>
      refine W_run mixed ⟨[], [], [], 47, H.length, [0, 2, 3, 4, 5, 7, 19, 20, 21, 22, 27, 28, 29, 30], [22, 30]⟩ (fun | 8 => [0, 1, 2, 3, 4, 6, 5, 7, 8, 9, 10, 11] | _ => []) (by kernel_rfl) ?_
      simp only [stripX, stripOps, pickOps]
      simp [hin, hjs, hx, hx', hg]
      refine W_rounds 2 (WR_succ ?_)
      refine W_run mixed ⟨[], [], [], 47, H.length, [0, 2, 3, 4, 5, 7, 19, 20, 21, 22, 27, 28, 29, 30], [22, 30]⟩ (fun | 8 => [0, 1, 2, 3, 4, 6, 5, 7, 8, 9, 10, 11] | _ => []) (by kernel_rfl) ?_
      simp only [stripX, stripOps, pickOps]
      simp [hjs, hx, hx', w1, hg, hset, pl, pg, pg', hin]
      refine WR_succ ?_
      refine W_run mixed ⟨[], [], [], 47, H.length, [0, 2, 3, 4, 5, 7, 19, 20, 21, 22, 27, 28, 29, 30], [22, 30]⟩ (fun | 8 => [0, 1, 2, 3, 4, 6, 5, 7, 8, 9, 10, 11] | _ => []) (by kernel_rfl) ?_
      simp only [stripX, stripOps, pickOps]
      simp [hjs, hx, hx', w1]
      exact ⟨_, _, ⟨key _ _ _ [a.to_] (by rw [List.getElem?_append_right (by omega), Nat.add_sub_cancel_left]; rfl) (by omega) rfl (he _ hjs), onl _ _⟩, by simp; omega, rfl, by rw [wi]; simp⟩
    | [a, b], _ =>
      refine W_run mixed ⟨[], [], [], 47, H.length, [0, 2, 3, 4, 5, 7, 19, 20, 21, 22, 27, 28, 29, 30], [22, 30]⟩ (fun | 8 => [0, 1, 2, 3, 4, 6, 5, 7, 8, 9, 10, 11] | _ => []) (by kernel_rfl) ?_
      simp only [stripX, stripOps, pickOps]
      simp [hin, hjs, hx, hx', hg]
      refine W_rounds 3 (WR_succ ?_)
      refine W_run mixed ⟨[], [], [], 47, H.length, [0, 2, 3, 4, 5, 7, 19, 20, 21, 22, 27, 28, 29, 30], [22, 30]⟩ (fun | 8 => [0, 1, 2, 3, 4, 6, 5, 7, 8, 9, 10, 11] | _ => []) (by kernel_rfl) ?_
      simp only [stripX, stripOps, pickOps]
      simp [hjs, hx, hx', w1, hg, hset, pl, pg, pg', hin]
      refine WR_succ ?_
      refine W_run mixed ⟨[], [], [], 47, H.length, [0, 2, 3, 4, 5, 7, 19, 20, 21, 22, 27, 28, 29, 30], [22, 30]⟩ (fun | 8 => [0, 1, 2, 3, 4, 6, 5, 7, 8, 9, 10, 11] | _ => []) (by kernel_rfl) ?_
      simp only [stripX, stripOps, pickOps]
      simp [hjs, hx, hx', w1, w2, hg, hset, pl, pg, pg', hin, s3, s4, ps, ps']
      refine WR_succ ?_
      refine W_run mixed ⟨[], [], [], 47, H.length, [0, 2, 3, 4, 5, 7, 19, 20, 21, 22, 27, 28, 29, 30], [22, 30]⟩ (fun | 8 => [0, 1, 2, 3, 4, 6, 5, 7, 8, 9, 10, 11] | _ => []) (by kernel_rfl) ?_
      simp only [stripX, stripOps, pickOps]
      simp [hjs, hx, hx', w1, w2]
      exact ⟨_, _, ⟨key _ _ _ [a.to_, b.to_] (by rw [List.getElem?_append_right (by omega), Nat.add_sub_cancel_left]; rfl) (by omega) rfl (he _ hjs), onl _ _⟩, by simp; omega, rfl, by rw [wi]; simp⟩
  · refine W_run mixed ⟨[], [], [], 47, H.length, [0, 2, 3, 4, 5, 7, 19, 20, 21, 22, 27, 28, 29, 30], [22, 30]⟩ (fun | 8 => [0, 1, 2, 3, 4, 6, 5, 7, 8, 9, 10, 11] | _ => []) (by kernel_rfl) ?_
    simp only [stripX, stripOps, pickOps]
    simp [hin, retQ]
    obtain ⟨d1, d2, d3⟩ := hf.done (by omega)
    refine fin_new d1 ho (fun j hj => ?_) fun H' h' => ⟨_, rfl, d2, h'⟩
    rw [d3] at hj
    rcases List.mem_cons.1 hj with rfl | hj
    · exact Nat.le_refl _
    · have := hf.ge j hj; omega
theorem next_own {H : Heap} {v : View} {w : Nat} (hd : decA (α := Ptr View) H (.ptr w 5 0 0) = (True, ⟨v⟩)) (hv : fewJumps v.blocks_) :
    CallsD Tryz.prog 106 [.ptr w 5 0 0] H fun r H' => r = .d (dIntSS (nextL v.blocks_)) ∧ ∃ k, H' = H ++ List.replicate k .dead := by
  have hr : Rd1 H (.ptr w 5 0 0) (.d (.rp 5 (dView v))) := Rd1.dec (α := Ptr View) (a := ⟨v⟩) ⟨of_eq_true (congrArg Prod.fst hd), congrArg Prod.snd hd⟩
  refine CallsD.closeS (α := AS Int) (l := nextL v.blocks_) ((CallsD.peekN (T := fun r (s : AS (AS Int)) => r = s.v ∧ Tr.era s = nextL v.blocks_) ((next_tree (deads _) v hv).mono fun r H' ⟨s, q1, q2, q3⟩ => ⟨s, ⟨q1, q2⟩, q3⟩) (Rd1.list (vs := [.ptr w 5 0 0]) (vs' := [.d (.rp 5 (dView v))]) ⟨hr, trivial⟩) ?_).mono fun r H' ⟨s, ⟨q1, q2⟩, q3⟩ => ⟨s, q1, q2, q3⟩)
  rintro r s hok ⟨rfl, _⟩
  exact (show okS s from hok).1.scl.1
theorem waysOf_own {H : Heap} {v : View} {w : Nat} (hd : decA (α := Ptr View) H (.ptr w 5 0 0) = (True, ⟨v⟩)) (hv : fewJumps v.blocks_) (hn : okNext (nextL v.blocks_)) (h1 : 0 < (nextL v.blocks_).length) :
    CallsD Tryz.prog 85 [.ptr w 5 0 0] H fun r H' => ∃ k, r = .ptr (H.length + k) 3 0 0 ∧ H' = H ++ (List.replicate k .dead ++ [.row 3 [[.ptr w 5 0 0, .d (dBoolS (rchB (nextL v.blocks_) 0 (-1))), .d (dBoolSS (domL (nextL v.blocks_)))]]]) := by
  refine calls_of Tryz.func85 en_85 rfl (of_decide_eq_true rfl) (W_run mixed ⟨[K_105, K_142], [K_105h, K_142h], [106], 13, H.length, [0, 2, 3], []⟩ (fun _ => []) (by kernel_rfl) ?_)
  simp only [Tryz.f85, stripX, stripOps, pickOps]
  simp [K_105_f, K_105_e, K_142_f, K_142_e, K_105h_f, K_105h_e, K_142h_f, K_142h_e, K_105h_g, K_142h_g, -V.flat, -V.one, one_int, one_bool, one_str, one_nilp, one_rp, one_nilsl, one_ro, one_cl, one_nilf, one_nili, one_ifc, one_ptr, one_sl, one_clo, flat_d, flat_ptr, flat_sl, flat_clo, flat_agg, -decA, decA_int, decA_bool, decA_str]
  refine (next_own hd hv).mono ?_
  rintro r H1 ⟨rfl, k, rfl⟩
  generalize hnx : nextL v.blocks_ = nx at hn h1
  simp [K_105_f, K_105_e, K_142_f, K_142_e, K_105h_f, K_105h_e, K_142h_f, K_142h_e, K_105h_g, K_142h_g, -V.flat, -V.one, one_int, one_bool, one_str, one_nilp, one_rp, one_nilsl, one_ro, one_cl, one_nilf, one_nili, one_ifc, one_ptr, one_sl, one_clo, flat_d, flat_ptr, flat_sl, flat_clo, flat_agg, -decA, decA_int, decA_bool, decA_str, hn, h1, retQ]
  exact ⟨_, _, Fin.same (by simp), k, rfl, rfl⟩
theorem ways_dec {H : Heap} {v : View} {w i : Nat} (hd : Dec.dec (α := Ptr View) H [.ptr w 5 0 0] = (True, ⟨v⟩)) (hr : H[i]? = some (.row 3 [[.ptr w 5 0 0, .d (dBoolS (rchB (nextL v.blocks_) 0 (-1))), .d (dBoolSS (domL (nextL v.blocks_)))]])) : decA (α := Ptr Ways) H (.ptr i 3 0 0) = (True, ⟨waysV v⟩) := by
  have q1 := dec_ro (α := Bool) (H := H) (l := rchB (nextL v.blocks_) 0 (-1))
  have q2 := dec_ro (α := List Bool) (H := H) (l := domL (nextL v.blocks_))
  have key : Dec.dec (α := Ptr Ways) H [.ptr i 3 0 0] = (True, ⟨waysV v⟩) := by
    rw [dec_ptr, hr]
    show ((3 = 3 ∧ 0 + 3 ≤ 3) ∧ 0 < 1 ∧ (Dec.dec (α := Ways) H [_, _, _]).1, (⟨(Dec.dec (α := Ways) H [_, _, _]).2⟩ : Ptr Ways)) = _
    rw [dec_Ways, hd]
    exact Prod.ext (eq_true ⟨⟨rfl, by omega⟩, by omega, trivial, of_eq_true (congrArg Prod.fst q1), of_eq_true (congrArg Prod.fst q2)⟩) (congrArg (fun x => (⟨x⟩ : Ptr Ways)) (by
      show Ways.mk _ _ _ = Ways.mk _ _ _
      rw [show (Dec.dec (α := List Bool) H [V.d (dBoolS (rchB (nextL v.blocks_) 0 (-1)))]).2 = _ from congrArg Prod.snd q1, show (Dec.dec (α := List (List Bool)) H [V.d (dBoolSS (domL (nextL v.blocks_)))]).2 = _ from congrArg Prod.snd q2]))
  unfold Go.Proofs.YtbmloeahcdneaaaGreat.decA
  rw [show (V.ptr i 3 0 0).flat = [.ptr i 3 0 0] from rfl, key]
  exact Prod.ext (eq_true ⟨rfl, trivial⟩) rfl
end Go.Proofs.YtbmloeahcdneaaaGreat
end
