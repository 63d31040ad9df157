/- Dominators lie one behind the other; what ImmediateOf tells. Plain. No condition. -/
import Derived.Test.YthafdegfjadijaaGreatQS141
namespace Go.Proofs.YthafdegfjadijaaGreat
set_option maxRecDepth 100000
set_option linter.unusedSimpArgs false
set_option linter.unusedVariables false
def Dm (nx:List (List Int)) (x k:Int):Prop:=Rch nx 0 (-1) k∧¬ Rch nx 0 x k
section
variable {nx:List (List Int)}
theorem Rch.rng (hn:okNext nx) {fr but k:Int} (hf:0≤fr∧fr < nx.length) (h:Rch nx fr but k):0≤k∧k < nx.length:=by
  induction h with
  | base=>exact hf
  | step _ hb _ ih=>exact (okNext_get hn _).2 _ hb
theorem Rch.none {k:Int} (h:Rch nx 0 0 k):False:=by
  induction h with
  | base h=>exact h rfl
  | step h1 hb hne ih=>exact ih
theorem Dm.rch {x k:Int} (h:Dm nx x k):Rch nx 0 (-1) x:=Classical.byContradiction fun q=>by
  refine h.2 ?_
  have key:∀ m,Rch nx 0 (-1) m→Rch nx 0 x m:=by
    intro m hm
    induction hm with
    | base=>exact .base fun e=>q (e ▸ .base (by decide))
    | step h1 hb hne ih=>exact .step ih hb fun e=>q (e ▸ .step h1 hb hne)
  exact key k h.1
theorem Dm.refl {k:Int} (h:Rch nx 0 (-1) k):Dm nx k k:=⟨h,fun q=>q.ne rfl⟩
theorem Dm.zero {k:Int} (h:Rch nx 0 (-1) k):Dm nx 0 k:=⟨h,fun q=>q.none⟩
theorem Dm.trans {x y k:Int} (h:Dm nx x y) (g:Dm nx y k):Dm nx x k:=by
  refine ⟨g.1,fun q=>g.2 ?_⟩
  have key:∀ m,Rch nx 0 x m→Rch nx 0 y m:=by
    intro m hm
    induction hm with
    | base h0=>exact .base fun e=>h.2 (e ▸ .base h0)
    | step h1 hb hne ih=>exact .step ih hb fun e=>h.2 (e ▸ .step h1 hb hne)
  exact key k q
theorem Dm.chain {x y k : Int} (hx : Dm nx x k) (hy : Dm nx y k) : Dm nx x y ∨ Dm nx y x := by
  by_cases hxy:x=y
  · subst hxy;exact .inl (.refl hx.rch)
  by_cases A:Rch nx 0 y x
  · by_cases B:Rch nx 0 x y
    · have key:∀ m,Rch nx 0 (-1) m→Rch nx 0 y m∨Rch nx 0 x m:=by
        intro m hm
        induction hm with
        | base =>
          by_cases e:(0:Int)=y
          · exact .inr (.base fun q=>hxy (q.symm.trans e))
          · exact .inl (.base e)
        | step h1 hb hne ih =>
          rename_i a b
          rcases ih with ih | ih
          · by_cases e:b=y
            · subst e;exact .inr B
            · exact .inl (.step ih hb e)
          · by_cases e:b=x
            · subst e;exact .inl A
            · exact .inr (.step ih hb e)
      rcases key k hx.1 with q | q
      · exact absurd q hy.2
      · exact absurd q hx.2
    · exact .inl ⟨hy.rch,B⟩
  · exact .inr ⟨hx.rch,A⟩
theorem Dm.anti {x y:Int} (h:Dm nx x y) (g:Dm nx y x):x=y:=Classical.byContradiction fun hxy=>by
  have key:∀ m,Rch nx 0 (-1) m→(Rch nx 0 y m∧Rch nx 0 x m):=by
    intro m hm
    induction hm with
    | base =>
      refine ⟨.base fun e=>?_,.base fun e=>?_⟩
      · exact h.2 (e ▸ .base fun q=>hxy (q.symm.trans e))
      · exact g.2 (e ▸ .base fun q=>hxy (e.symm.trans q))
    | step h1 hb hne ih =>
      rename_i a b
      refine ⟨.step ih.1 hb fun e=>?_,.step ih.2 hb fun e=>?_⟩
      · exact h.2 (e ▸ .step ih.2 hb fun q=>hxy (q.symm.trans e))
      · exact g.2 (e ▸ .step ih.1 hb fun q=>hxy (e.symm.trans q))
  exact h.2 (key y h.1).2
theorem Dm.back {x m k:Int} (hm:Rch nx 0 (-1) m) (hk:k∈nx[m.toNat]?.getD default) (h:Dm nx x k) (hne:x ≠ k):Dm nx x m :=
  ⟨hm,fun q=>h.2 (.step q hk fun e=>hne e.symm)⟩
end
noncomputable def dS (F:Func) (k:Int):List Int:=(allS F)[k.toNat]?.getD default
theorem dS_sorted (F:Func) (k:Int):(dS F k).Pairwise (· < ·):=by
  unfold dS
  by_cases h:k.toNat < F.blocks_.length
  · have e:(allS F)[k.toNat]?.getD default=if ((k.toNat:Nat):Int)∈allR F then adS F k.toNat else []:=by simp [allS,h]
    rw [e];split
    · unfold adS
      exact (numsOf_sorted _ _).filter _
    · exact List.Pairwise.nil
  · rw [List.getElem?_eq_none (by simpa [allS] using h)];exact List.Pairwise.nil
theorem sorted_nodup {l:List Int} (h:l.Pairwise (· < ·)):l.Nodup:=h.imp fun h=>by omega
theorem mem_allR {F:Func} (hg:goodF F=true) {x:Int}:x∈allR F ↔ Rch (nextL F.blocks_) 0 (-1) x:=by
  obtain ⟨hv1,hn1,hp1⟩:=good_flow hg
  have hln:(nextL F.blocks_).length=F.blocks_.length:=by simp [nextL]
  show x∈listB _ ↔ _
  rw [listB_rchB]
  exact ⟨fun q=>q.2.2,fun q=>by have:=q.rng hn1 (by omega);exact ⟨this.1,this.2,q⟩⟩
theorem mem_dS {F:Func} (hg:goodF F=true) {x k:Int} (hk:0≤k∧k < F.blocks_.length):x∈dS F k ↔ Dm (nextL F.blocks_) x k:=by
  obtain ⟨hv1,hn1,hp1⟩:=good_flow hg
  have hln:(nextL F.blocks_).length=F.blocks_.length:=by simp [nextL]
  have hr:0≤x∧x < F.blocks_.length→(x∈dS F k ↔ Dm (nextL F.blocks_) x k):=fun hx=>by
    have:=allS_get (F:=F) (b:=k.toNat) (k:=x.toNat) (by omega) (by omega)
    rw [hasL_iff,show ((x.toNat:Nat):Int)=x by omega,show ((k.toNat:Nat):Int)=k by omega] at this
    exact this.trans ⟨fun q=>q.2,fun q=>⟨Dm.rch q,q⟩⟩
  constructor
  · intro h
    refine (hr ?_).1 h
    unfold dS at h
    have e:(allS F)[k.toNat]?.getD default=if ((k.toNat:Nat):Int)∈allR F then adS F k.toNat else []:=by
      have:k.toNat < F.blocks_.length:=by omega
      simp [allS,this]
    rw [e] at h
    split at h
    · unfold adS domS at h
      have:=(mem_numsOf.1 (List.mem_filter.1 h).1)
      exact ⟨this.1,this.2.1⟩
    · cases h
  · intro h
    have:=h.rch.rng hn1 (by omega)
    exact (hr (by omega)).2 h
theorem imF_spec (ds : List (List Int)) (k : Int) : ∀ (l : List Int) (p : Int × Int), p.2 ≤ (imF ds k l p).2 ∧ (∀ d ∈ l, d ≠ k → ((ds[d.toNat]?.getD default).length : Int) ≤ (imF ds k l p).2) ∧
    (imF ds k l p=p∨((imF ds k l p).1∈l∧(imF ds k l p).1 ≠ k∧(imF ds k l p).2=((ds[(imF ds k l p).1.toNat]?.getD default).length:Int)))
  | [],p=>⟨Int.le_refl _,fun d h=>absurd h List.not_mem_nil,.inl rfl⟩
  | d :: l, p => by
    obtain ⟨i1,i2,i3⟩:=imF_spec ds k l (if d ≠ k∧p.2 < ((ds[d.toNat]?.getD default).length:Int) then (d,((ds[d.toNat]?.getD default).length:Int)) else p)
    rw [imF]
    by_cases h:d ≠ k∧p.2 < ((ds[d.toNat]?.getD default).length:Int)
    · rw [if_pos h] at i1 i2 i3 ⊢
      dsimp only at i1
      refine ⟨by omega,fun e he hk=>?_,.inr ?_⟩
      · rcases List.mem_cons.1 he with rfl | he
        · exact i1
        · exact i2 e he hk
      · rcases i3 with e | ⟨a,b,c⟩
        · rw [e];exact ⟨List.mem_cons_self,h.1,rfl⟩
        · exact ⟨List.mem_cons_of_mem _ a,b,c⟩
    · rw [if_neg h] at i1 i2 i3 ⊢
      refine ⟨i1,fun e he hk=>?_,i3.imp id fun ⟨a,b,c⟩=>⟨List.mem_cons_of_mem _ a,b,c⟩⟩
      rcases List.mem_cons.1 he with rfl | he
      · have:¬ p.2 < ((ds[e.toNat]?.getD default).length:Int):=fun q=>h ⟨hk,q⟩
        omega
      · exact i2 e he hk
theorem nodup_len_le:∀ {l m:List Int},l.Nodup→(∀ x∈l,x∈m)→l.length≤m.length
  | [],m,_,_=>Nat.zero_le _
  | a :: l,m,hd,hs=>by
    obtain ⟨h1,h2⟩:=List.nodup_cons.1 hd
    have hm:=hs a List.mem_cons_self
    have ih:=nodup_len_le (m:=m.erase a) h2 fun x hx=>(List.mem_erase_of_ne (show x ≠ a from fun e=>h1 (e.symm ▸ hx:a∈l))).2 (hs x (List.mem_cons_of_mem _ hx))
    rw [List.length_erase_of_mem hm] at ih
    have:=List.length_pos_of_mem hm
    simp only [List.length_cons];omega
theorem imP_none {F:Func} (hg:goodF F=true) {k:Int} (hk:0≤k∧k < F.blocks_.length) (hr:¬ Rch (nextL F.blocks_) 0 (-1) k):(imP F k).2=0:=by
  have e:dS F k=[]:=List.eq_nil_iff_forall_not_mem.2 fun x hx=>hr ((mem_dS hg hk).1 hx).1
  unfold imP
  rw [show (allS F)[k.toNat]?.getD default=[] from e]
  rfl
theorem imP_law {F : Func} (hg : goodF F = true) {k : Int} (hk : 0 ≤ k ∧ k < F.blocks_.length) (h0 : k ≠ 0) (hr : Rch (nextL F.blocks_) 0 (-1) k) :
    0 < (imP F k).2∧(imP F k).1∈dS F k∧(imP F k).1 ≠ k∧(dS F (imP F k).1).length + 1=(dS F k).length∧∀ x∈dS F (imP F k).1,x∈dS F k:=by
  obtain ⟨hv1,hn1,hp1⟩:=good_flow hg
  have hln:(nextL F.blocks_).length=F.blocks_.length:=by simp [nextL]
  obtain ⟨s1,s2,s3⟩:=imF_spec (allS F) k (dS F k) (0,0)
  have e:imP F k=imF (allS F) k (dS F k) (0,0):=rfl
  rw [← e] at s1 s2 s3
  have z1:(0:Int)∈dS F k:=(mem_dS hg hk).2 (.zero hr)
  have z2:(0:Int)∈dS F 0:=(mem_dS hg (by omega)).2 (.refl (.base (by decide)))
  have z3:=s2 0 z1 fun q=>h0 q.symm
  have z4:=List.length_pos_of_mem z2
  have z5:(0:Int) < ((dS F 0).length:Int):=by omega
  have pos:0 < (imP F k).2:=Int.lt_of_lt_of_le z5 z3
  rcases s3 with q | ⟨q1,q2,q3⟩
  · rw [q] at pos;exact absurd pos (by decide)
  obtain ⟨i,hi⟩:∃ i,i=(imP F k).1:=⟨_,rfl⟩
  rw [← hi] at q1 q2 q3 ⊢
  have d1:=(mem_dS hg hk).1 q1
  have hir:0≤i∧i < F.blocks_.length:=by have:=d1.rch.rng hn1 (by omega);omega
  have hkn:k∈dS F k:=(mem_dS hg hk).2 (.refl hr)
  have key:dS F i=(dS F k).erase k:=by
    rw [(sorted_nodup (dS_sorted F k)).erase_eq_filter]
    refine sorted_ext (dS_sorted F i) ((dS_sorted F k).filter _) fun x=>?_
    rw [List.mem_filter,bne_iff_ne,mem_dS hg hk,mem_dS hg hir]
    constructor
    · intro hx
      exact ⟨hx.trans d1,fun e=>q2 (Dm.anti d1 (e ▸ hx))⟩
    · rintro ⟨hx,hne⟩
      rcases hx.chain d1 with c | c
      · exact c
      · by_cases ex:x=i
        · subst ex;exact .refl d1.rch
        · exfalso
          have hxr:0≤x∧x < F.blocks_.length:=by have:=hx.rch.rng hn1 (by omega);omega
          have l1:=s2 x ((mem_dS hg hk).2 hx) hne
          have l2:(dS F x).length≤(dS F i).length:=by
            have:((dS F x).length:Int)≤((dS F i).length:Int):=by rw [q3] at l1;exact l1
            omega
          have l3:=nodup_len_le (l:=x :: dS F i) (m:=dS F x) (List.nodup_cons.2 ⟨fun q=>ex (Dm.anti ((mem_dS hg hir).1 q) c),sorted_nodup (dS_sorted F i)⟩) fun y hy=>by
            rw [mem_dS hg hxr]
            rcases List.mem_cons.1 hy with rfl | hy
            · exact .refl hx.rch
            · exact ((mem_dS hg hir).1 hy).trans c
          simp only [List.length_cons] at l3
          omega
  refine ⟨pos,q1,q2, ?_,fun x hx=>?_⟩
  · rw [key,List.length_erase_of_mem hkn]
    have:=List.length_pos_of_mem hkn
    omega
  · rw [key] at hx;exact List.mem_of_mem_erase hx
end Go.Proofs.YthafdegfjadijaaGreat
