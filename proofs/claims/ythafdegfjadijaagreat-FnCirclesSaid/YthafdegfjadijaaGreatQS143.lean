/- Walking on from a block, depth first: what is visited, in which order. Plain. No condition. -/
import Derived.Test.YthafdegfjadijaaGreatQS141
section
namespace Go.Proofs.YthafdegfjadijaaGreat
set_option maxRecDepth 100000
set_option linter.unusedSimpArgs false
set_option linter.unusedVariables false
def Dm (nx:List (List Int)) (x k:Int):Prop:=Rch nx 0 (-1) k∧¬ Rch nx 0 x k
section
variable {nx:List (List Int)}
theorem Rch.rng (hn:okNext nx) {fr but k:Int} (hf:0≤fr∧fr < nx.length) (h:Rch nx fr but k):0≤k∧k < nx.length:=by
  induction h with
  | base=>exact hf
  | step _ hb _ ih=>exact (okNext_get hn _).2 _ hb
theorem Dm.rch {x k:Int} (h:Dm nx x k):Rch nx 0 (-1) x:=Classical.byContradiction fun q=>by
  refine h.2 ?_
  have key:∀ m,Rch nx 0 (-1) m→Rch nx 0 x m:=by
    intro m hm
    induction hm with
    | base=>exact .base fun e=>q (e ▸ .base (by decide))
    | step h1 hb hne ih=>exact .step ih hb fun e=>q (e ▸ .step h1 hb hne)
  exact key k h.1
theorem Dm.refl {k:Int} (h:Rch nx 0 (-1) k):Dm nx k k:=⟨h,fun q=>q.ne rfl⟩
end
noncomputable def dS (F:Func) (k:Int):List Int:=(allS F)[k.toNat]?.getD default
theorem dS_sorted (F:Func) (k:Int):(dS F k).Pairwise (· < ·):=by
  unfold dS
  by_cases h:k.toNat < F.blocks_.length
  · have e:(allS F)[k.toNat]?.getD default=if ((k.toNat:Nat):Int)∈allR F then adS F k.toNat else []:=by simp [allS,h]
    rw [e];split
    · unfold adS
      exact (numsOf_sorted _ _).filter _
    · exact List.Pairwise.nil
  · rw [List.getElem?_eq_none (by simpa [allS] using h)];exact List.Pairwise.nil
theorem sorted_nodup {l:List Int} (h:l.Pairwise (· < ·)):l.Nodup:=h.imp fun h=>by omega
theorem mem_allR {F:Func} (hg:goodF F=true) {x:Int}:x∈allR F ↔ Rch (nextL F.blocks_) 0 (-1) x:=by
  obtain ⟨hv1,hn1,hp1⟩:=good_flow hg
  have hln:(nextL F.blocks_).length=F.blocks_.length:=by simp [nextL]
  show x∈listB _ ↔ _
  rw [listB_rchB]
  exact ⟨fun q=>q.2.2,fun q=>by have:=q.rng hn1 (by omega);exact ⟨this.1,this.2,q⟩⟩
theorem mem_dS {F:Func} (hg:goodF F=true) {x k:Int} (hk:0≤k∧k < F.blocks_.length):x∈dS F k ↔ Dm (nextL F.blocks_) x k:=by
  obtain ⟨hv1,hn1,hp1⟩:=good_flow hg
  have hln:(nextL F.blocks_).length=F.blocks_.length:=by simp [nextL]
  have hr:0≤x∧x < F.blocks_.length→(x∈dS F k ↔ Dm (nextL F.blocks_) x k):=fun hx=>by
    have:=allS_get (F:=F) (b:=k.toNat) (k:=x.toNat) (by omega) (by omega)
    rw [hasL_iff,show ((x.toNat:Nat):Int)=x by omega,show ((k.toNat:Nat):Int)=k by omega] at this
    exact this.trans ⟨fun q=>q.2,fun q=>⟨Dm.rch q,q⟩⟩
  constructor
  · intro h
    refine (hr ?_).1 h
    unfold dS at h
    have e:(allS F)[k.toNat]?.getD default=if ((k.toNat:Nat):Int)∈allR F then adS F k.toNat else []:=by
      have:k.toNat < F.blocks_.length:=by omega
      simp [allS,this]
    rw [e] at h
    split at h
    · unfold adS domS at h
      have:=(mem_numsOf.1 (List.mem_filter.1 h).1)
      exact ⟨this.1,this.2.1⟩
    · cases h
  · intro h
    have:=h.rch.rng hn1 (by omega)
    exact (hr (by omega)).2 h
theorem nodup_len_le:∀ {l m:List Int},l.Nodup→(∀ x∈l,x∈m)→l.length≤m.length
  | [],m,_,_=>Nat.zero_le _
  | a :: l,m,hd,hs=>by
    obtain ⟨h1,h2⟩:=List.nodup_cons.1 hd
    have hm:=hs a List.mem_cons_self
    have ih:=nodup_len_le (m:=m.erase a) h2 fun x hx=>(List.mem_erase_of_ne (show x ≠ a from fun e=>h1 (e.symm ▸ hx:a∈l))).2 (hs x (List.mem_cons_of_mem _ hx))
    rw [List.length_erase_of_mem hm] at ih
    have:=List.length_pos_of_mem hm
    simp only [List.length_cons];omega
end Go.Proofs.YthafdegfjadijaaGreat
end

section
namespace Go.Proofs.YthafdegfjadijaaGreat
set_option maxRecDepth 100000
set_option linter.unusedSimpArgs false
set_option linter.unusedVariables false
inductive Vis (nx:List (List Int)):List Int→List Int × List Int→List Int × List Int→Prop
  | nil (s:List Int × List Int):Vis nx [] s s
  | old {j:Int} {l:List Int} {s t:List Int × List Int} (h:j∈s.1) (g:Vis nx l s t):Vis nx (j :: l) s t
  | new {j:Int} {l:List Int} {s r t:List Int × List Int} (h:j ∉ s.1) (g1:Vis nx (nx[j.toNat]?.getD default) (s.1++[j],s.2) r) (g2:Vis nx l (r.1,j :: r.2) t):Vis nx (j :: l) s t
section
variable {nx:List (List Int)}
def unseen (n:Nat) (l:List Int):Nat:=(List.range n).countP fun k:Nat=>!decide ((k:Int)∈l)
theorem unseen_le {n:Nat} {l m:List Int} (h:∀ x∈l,x∈m):unseen n m≤unseen n l:=by
  refine List.countP_mono_left fun k _ hk=>?_
  simp only [Bool.not_eq_true',decide_eq_false_iff_not] at hk ⊢
  exact fun q=>hk (h _ q)
theorem unseen_lt {n:Nat} {l:List Int} {j:Int} (h0:0≤j) (h1:j < n) (h:j ∉ l):unseen n (l++[j]) < unseen n l:=by
  obtain ⟨q,rfl⟩:=Int.eq_ofNat_of_zero_le h0
  have hq:q∈List.range n:=List.mem_range.2 (by omega)
  unfold unseen
  obtain ⟨a,b,e⟩:=List.append_of_mem hq
  have nd:(a++q :: b).Nodup:=e ▸ List.nodup_range
  have ha:∀ x∈a,x ≠ q:=fun x hx ex=>(List.nodup_append.1 nd).2.2 x hx q List.mem_cons_self ex
  have hb:∀ x∈b,x ≠ q:=fun x hx ex=>(List.nodup_cons.1 (List.nodup_append.1 nd).2.1).1 (ex ▸ hx)
  have same:∀ c:List Nat,(∀ x∈c,x ≠ q)→c.countP (fun k:Nat=>!decide ((k:Int)∈l++[(q:Int)]))=c.countP fun k:Nat=>!decide ((k:Int)∈l):=fun c hc=>by
    refine List.countP_congr fun x hx=>?_
    have:=hc x hx
    simp only [List.mem_append,List.mem_singleton,Bool.not_eq_true',decide_eq_false_iff_not]
    constructor
    · exact fun p r=>p (.inl r)
    · rintro p (r | r)
      · exact p r
      · omega
  rw [e,List.countP_append,List.countP_append,List.countP_cons,List.countP_cons,same a ha,same b hb]
  have x1:(!decide ((q:Int)∈l++[(q:Int)]))=false:=by simp
  have x2:(!decide ((q:Int)∈l))=true:=by simpa using h
  rw [x1,x2]
  simp
theorem Vis.grows {l:List Int} {s t:List Int × List Int} (h:Vis nx l s t):∃ u,t.1=s.1++u:=by
  induction h with
  | nil s=>exact ⟨[],by simp⟩
  | old _ _ ih=>exact ih
  | new _ _ _ ih1 ih2 =>
    rename_i j l s r t _ _ _
    obtain ⟨u,hu⟩:=ih1
    obtain ⟨v,hv⟩:=ih2
    dsimp only at hu hv
    exact ⟨[j]++u++v,by rw [hv,hu];simp⟩
theorem Vis.sub {l:List Int} {s t:List Int × List Int} (h:Vis nx l s t) {x:Int} (hx:x∈s.1):x∈t.1:=by
  obtain ⟨u,hu⟩:=h.grows
  rw [hu];exact List.mem_append_left _ hx
theorem Vis.all {l:List Int} {s t:List Int × List Int} (h:Vis nx l s t):∀ x∈l,x∈t.1:=by
  induction h with
  | nil s=>exact fun x hx=>absurd hx List.not_mem_nil
  | old h g ih =>
    intro x hx
    rcases List.mem_cons.1 hx with rfl | hx
    · exact g.sub h
    · exact ih x hx
  | new h g1 g2 ih1 ih2 =>
    intro x hx
    rcases List.mem_cons.1 hx with rfl | hx
    · exact g2.sub (g1.sub (List.mem_append_right _ (List.mem_singleton.2 rfl)))
    · exact ih2 x hx
theorem Vis.some (hn:okNext nx):∀ (m:Nat) (l:List Int) (s:List Int × List Int),unseen nx.length s.1≤m→(∀ x∈l,0≤x∧x < nx.length)→∃ t,Vis nx l s t
  | m,[],s,_,_=>⟨s,.nil s⟩
  | 0,j :: l,s,hm,hl=>by
    have hj:=hl j List.mem_cons_self
    have hs:j∈s.1:=Classical.byContradiction fun q=>by have:=unseen_lt (n:=nx.length) hj.1 hj.2 q;omega
    obtain ⟨t,ht⟩:=Vis.some hn 0 l s hm fun x hx=>hl x (List.mem_cons_of_mem _ hx)
    exact ⟨t,.old hs ht⟩
  | m + 1, j :: l, s, hm, hl => by
    have hj:=hl j List.mem_cons_self
    by_cases hs:j∈s.1
    · obtain ⟨t,ht⟩:=Vis.some hn (m + 1) l s hm fun x hx=>hl x (List.mem_cons_of_mem _ hx)
      exact ⟨t,.old hs ht⟩
    · have h1:=unseen_lt (n:=nx.length) hj.1 hj.2 hs
      obtain ⟨r,hr⟩:=Vis.some hn m (nx[j.toNat]?.getD default) (s.1++[j],s.2) (by dsimp only;omega) fun x hx=>(okNext_get hn _).2 x hx
      have h2:unseen nx.length r.1≤unseen nx.length (s.1++[j]):=unseen_le fun x hx=>hr.sub hx
      obtain ⟨t,ht⟩:=Vis.some hn (m + 1) l (r.1,j :: r.2) (by dsimp only;omega) fun x hx=>hl x (List.mem_cons_of_mem _ hx)
      exact ⟨t,.new hs hr ht⟩
termination_by m l=>(m,l.length)
theorem Vis.left {l : List Int} {s t : List Int × List Int} (h : Vis nx l s t) : ∃ v, t.2 = v ++ s.2 ∧ (∀ x, x ∈ v ↔ x ∈ t.1 ∧ x ∉ s.1) ∧ v.Nodup := by
  induction h with
  | nil s=>exact ⟨[],rfl,fun x=>⟨fun q=>absurd q List.not_mem_nil,fun q=>absurd q.1 q.2⟩,List.nodup_nil⟩
  | old _ _ ih=>exact ih
  | new hj g1 g2 ih1 ih2 =>
    rename_i j l s r t
    obtain ⟨v1,e1,m1,n1⟩:=ih1
    obtain ⟨v2,e2,m2,n2⟩:=ih2
    dsimp only at e1 m1 e2 m2
    have jr:j∈r.1:=g1.sub (List.mem_append_right _ (List.mem_singleton.2 rfl))
    have jv:j ∉ v1:=fun q=>((m1 j).1 q).2 (List.mem_append_right _ (List.mem_singleton.2 rfl))
    refine ⟨v2++j :: v1,by rw [e2,e1];simp,fun x=>?_, ?_⟩
    · rw [List.mem_append,List.mem_cons,m2,m1,List.mem_append,List.mem_singleton]
      constructor
      · rintro (⟨a,b⟩ | rfl | ⟨a,b⟩)
        · exact ⟨a,fun q=>b (g1.sub (List.mem_append_left _ q))⟩
        · exact ⟨g2.sub jr,hj⟩
        · exact ⟨g2.sub a,fun q=>b (.inl q)⟩
      · rintro ⟨a,b⟩
        by_cases hr:x∈r.1
        · by_cases hx:x=j
          · exact .inr (.inl hx)
          · exact .inr (.inr ⟨hr,fun q=>q.elim b hx⟩)
        · exact .inl ⟨a,hr⟩
    · refine List.nodup_append.2 ⟨n2,List.nodup_cons.2 ⟨jv,n1⟩,fun x hx y hy e=>?_⟩
      subst e
      have:=((m2 x).1 hx).2
      rcases List.mem_cons.1 hy with rfl | hy
      · exact this jr
      · exact this ((m1 x).1 hy).1
theorem Vis.rch (hn:okNext nx) {l:List Int} {s t:List Int × List Int} (h:Vis nx l s t):(∀ x∈l,Rch nx 0 (-1) x)→(∀ x∈s.1,Rch nx 0 (-1) x)→∀ x∈t.1,Rch nx 0 (-1) x:=by
  induction h with
  | nil s=>exact fun _ h=>h
  | old _ _ ih=>exact fun hl hs=>ih (fun x hx=>hl x (List.mem_cons_of_mem _ hx)) hs
  | new hj g1 g2 ih1 ih2 =>
    intro hl hs
    have hj:=hl _ List.mem_cons_self
    refine ih2 (fun x hx=>hl x (List.mem_cons_of_mem _ hx)) (ih1 (fun x hx=>?_) fun x hx=>?_)
    · exact .step hj hx (by have:=(okNext_get hn _).2 x hx;omega)
    · rcases List.mem_append.1 hx with hx | hx
      · exact hs x hx
      · rw [List.mem_singleton.1 hx];exact hj
theorem Vis.closed {l : List Int} {s t : List Int × List Int} (h : Vis nx l s t) : ∀ x ∈ t.1, x ∉ s.1 → ∀ y ∈ nx[x.toNat]?.getD default, y ∈ t.1 := by
  induction h with
  | nil s=>exact fun x h q=>absurd h q
  | old _ _ ih=>exact ih
  | new hj g1 g2 ih1 ih2 =>
    rename_i j l s r t
    intro x hx hs y hy
    by_cases hr:x∈r.1
    · by_cases e:x=j
      · subst e
        exact g2.sub (g1.all y hy)
      · exact g2.sub (ih1 x hr (fun q=>by rcases List.mem_append.1 q with q | q;exact hs q;exact e (List.mem_singleton.1 q)) y hy)
    · exact ih2 x hx hr y hy
def InS (nx:List (List Int)) (l:List Int):Prop:=∀ x∈l,∀ b,b ∉ l→Rch nx 0 b x
theorem InS.add {l:List Int} {a j:Int} (h:InS nx l) (ha:a∈l) (hj:j∈nx[a.toNat]?.getD default):InS nx (l++[j]):=by
  intro x hx b hb
  have hb1:b ∉ l:=fun q=>hb (List.mem_append_left _ q)
  have hb2:j ≠ b:=fun q=>hb (List.mem_append_right _ (List.mem_singleton.2 q.symm))
  rcases List.mem_append.1 hx with hx | hx
  · exact h x hx b hb1
  · rw [List.mem_singleton.1 hx]
    exact .step (h a ha b hb1) hj hb2
open Classical in
noncomputable def forthL (nx:List (List Int)):List (List Int):=(List.range nx.length).map fun a:Nat=>(nx[a]?.getD default).filter fun b=>decide (¬ Dm nx b (a:Int))
open Classical in
theorem mem_forth {a b:Int} (ha:0≤a∧a < nx.length):b∈(forthL nx)[a.toNat]?.getD default ↔ b∈nx[a.toNat]?.getD default∧¬ Dm nx b a:=by
  have h:a.toNat < nx.length:=by omega
  have e:(forthL nx)[a.toNat]?.getD default=(nx[a.toNat]?.getD default).filter fun b=>decide (¬ Dm nx b ((a.toNat:Nat):Int)):=by
    unfold forthL
    rw [List.getElem?_map,List.getElem?_range h];rfl
  rw [e,List.mem_filter,show ((a.toNat:Nat):Int)=a by omega,decide_eq_true_eq]
theorem Vis.order (hn : okNext nx) {l : List Int} {s t : List Int × List Int} (h : Vis nx l s t) : ∀ c, c ∈ s.1 → (∀ x ∈ l, x ∈ nx[c.toNat]?.getD default) → InS nx s.1 → (∀ x ∈ s.2, x ∈ s.1) → (∀ x ∈ s.1, 0 ≤ x ∧ x < nx.length) → (∀ g ∈ s.1, g ∉ s.2 → Rch (forthL nx) g (-1) c) →
    InS nx t.1∧(∀ x∈t.1,0≤x∧x < nx.length)∧∃ v,t.2=v++s.2∧∀ (p q:List Int) (x y:Int),v=p++x :: q→y∈nx[x.toNat]?.getD default→y∈q++s.2∨Rch (forthL nx) y (-1) x:=by
  induction h with
  | nil s=>exact fun c _ _ h1 h2 h3 h4=>⟨h1,h3,[],rfl,fun p q x y e=>by cases p <;> cases e⟩
  | old _ _ ih=>exact fun c hc hl=>ih c hc fun x hx=>hl x (List.mem_cons_of_mem _ hx)
  | new hj g1 g2 ih1 ih2 =>
    rename_i j l s r t
    intro c hc hl hi h2 h3 h4
    have hjc:=hl j List.mem_cons_self
    have hcr:=h3 c hc
    have hjr:0≤j∧j < nx.length:=(okNext_get hn _).2 j hjc
    have fw:j∈(forthL nx)[c.toNat]?.getD default:=(mem_forth hcr).2 ⟨hjc,fun q=>q.2 (hi c hc j hj)⟩
    have jn:j∈s.1++[j]:=List.mem_append_right _ (List.mem_singleton.2 rfl)
    have gray:∀ g∈s.1++[j],g ∉ s.2→Rch (forthL nx) g (-1) j:=fun g hg hs=>by
      rcases List.mem_append.1 hg with hg | hg
      · exact .step (h4 g hg hs) fw (by omega)
      · rw [List.mem_singleton.1 hg];exact .base (by omega)
    obtain ⟨a1,a2,v1,a3,a4⟩:=ih1 j jn (fun x hx=>hx) (hi.add hc hjc) (fun x hx=>List.mem_append_left _ (h2 x hx)) (fun x hx=>by
      rcases List.mem_append.1 hx with hx | hx
      · exact h3 x hx
      · rw [List.mem_singleton.1 hx];exact hjr) gray
    obtain ⟨w,w1,w2,w3⟩:=g1.left
    dsimp only at a3 a4 w1 w2
    have wv:w=v1:=List.append_cancel_right (w1.symm.trans a3)
    subst wv
    have jr:j∈r.1:=g1.sub jn
    obtain ⟨b1,b2,v2,b3,b4⟩:=ih2 c (g1.sub (List.mem_append_left _ hc)) (fun x hx=>hl x (List.mem_cons_of_mem _ hx)) a1 (fun x hx=>by
      rcases List.mem_cons.1 hx with rfl | hx
      · exact jr
      · rw [w1] at hx
        rcases List.mem_append.1 hx with hx | hx
        · exact ((w2 x).1 hx).1
        · exact g1.sub (List.mem_append_left _ (h2 x hx))) a2 (fun g hg hs=>by
      have n1:g ≠ j:=fun e=>hs (e ▸ List.mem_cons_self)
      have n2:g ∉ w++s.2:=fun q=>hs (List.mem_cons_of_mem _ (w1 ▸ q))
      have n3:g ∉ w:=fun q=>n2 (List.mem_append_left _ q)
      have n4:g ∉ s.2:=fun q=>n2 (List.mem_append_right _ q)
      refine h4 g (Classical.byContradiction fun q=>n3 ((w2 g).2 ⟨hg,fun q2=>?_⟩)) n4
      rcases List.mem_append.1 q2 with q2 | q2
      · exact q q2
      · exact n1 (List.mem_singleton.1 q2))
    dsimp only at b3 b4
    refine ⟨b1,b2,v2++j :: w,by rw [b3,w1];simp,fun p q x y e hy=>?_⟩
    rcases List.append_eq_append_iff.1 e with ⟨u,e1,e2⟩ | ⟨u,e1,e2⟩
    · -- x behind the later ones
      cases u with
      | nil =>
        rw [List.nil_append] at e2
        obtain ⟨rfl,rfl⟩:=List.cons.inj e2
        by_cases hq:y∈w++s.2
        · exact .inl hq
        · have hyr:y∈r.1:=g1.all y hy
          refine .inr (gray y (Classical.byContradiction fun q2=>hq (List.mem_append_left _ ((w2 y).2 ⟨hyr,q2⟩))) fun q2=>hq (List.mem_append_right _ q2))
      | cons u0 u =>
        obtain ⟨rfl,e3⟩:=List.cons.inj e2
        exact a4 u q x y e3 hy
    · cases u with
      | nil =>
        rw [List.nil_append] at e2
        obtain ⟨rfl,rfl⟩:=List.cons.inj e2
        by_cases hq:y∈q++s.2
        · exact .inl hq
        · have hyr:y∈r.1:=g1.all y hy
          refine .inr (gray y (Classical.byContradiction fun q2=>hq (List.mem_append_left _ ((w2 y).2 ⟨hyr,q2⟩))) fun q2=>hq (List.mem_append_right _ q2))
      | cons u0 u =>
        obtain ⟨rfl,e3⟩:=List.cons.inj e2
        rcases b4 p u x y (by rw [e1]) hy with hq | hq
        · left
          rw [e3]
          have:y∈u++(j :: w++s.2):=by rw [w1] at hq;simpa using hq
          simpa using this
        · exact .inr hq
end
end Go.Proofs.YthafdegfjadijaaGreat
end
