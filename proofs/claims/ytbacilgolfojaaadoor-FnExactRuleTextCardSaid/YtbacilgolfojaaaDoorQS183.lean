/- RuleText of both. No condition. -/
import Derived.Test.YtbacilgolfojaaaDoorQE3
import Derived.Test.YtbacilgolfojaaaDoorQCpy
import Derived.Test.YtbacilgolfojaaaDoorQS180
section
namespace Go.Proofs.YtbacilgolfojaaaDoor
set_option linter.unusedSimpArgs false
set_option linter.unusedVariables false
def SzOk {α:Type} [Enc α] [Sm α] (sz:α→Int→Int):Prop:=∀ x left,Enc.good x→0≤left→left≤1048576→0≤sz x left→Sm.sm x∧sz x left≤left
theorem chk_ok {m:Int} {k:Int→Int} (h:0≤chk m k):0≤m∧0≤k m∧chk m k=k m:=by
  by_cases hm:m < 0
  · rw [chk_neg hm] at h;exact absurd h (by decide)
  · have e:=chk_pos (k:=k) (Int.not_lt.1 hm);exact ⟨Int.not_lt.1 hm,by rw [← e];exact h,e⟩
theorem szok_NodeS:SzOk szNodeS:=fun l left hg h0 h1 h=>by
  have hl:=good_len hg
  unfold szNodeS at h ⊢
  rw [wrap_id (by omega) (by omega)] at h ⊢
  obtain ⟨a,b,c⟩:=chk_ok h
  rw [c]
  exact ⟨⟨by omega,fun _ _=>⟨trivial,trivial⟩⟩,by omega⟩
theorem szok_Rule:SzOk szRule:=fun x left hg h0 h1 h=>by
  unfold szRule at h ⊢
  obtain ⟨a0,b0,c0⟩:=chk_ok h
  obtain ⟨p0,q0⟩:=szok_NodeS x.left_ _ hg.1 h0 (by omega) a0
  obtain ⟨a1,b1,c1⟩:=chk_ok b0
  obtain ⟨p1,q1⟩:=szok_NodeS x.right_ _ hg.2 a0 (by omega) a1
  rw [c0]
  rw [c1]
  exact ⟨⟨p0,p1⟩,by omega⟩
theorem rd_int:Reads Tryd.prog 3 Int:=reads_int (by kernel_rfl) (by kernel_rfl)
theorem rd_int64:Reads Tryd.prog 2 Int:=reads_int (by kernel_rfl) (by kernel_rfl)
theorem rd_Node:Reads Tryd.prog 44 Node:=by
  refine ⟨by kernel_rfl,by rw [Tryd.underlying44];rfl,fun H enc w fuel cs x h=>?_⟩
  have hl:cs.length=2:=by
    obtain ⟨_,_,_,_,e,_⟩:=Go.DataW.trod_struct Tryd.underlying44 h
    rw [e];kernel_rfl
  obtain ⟨a0,g0,e0⟩:=field_read Tryd.underlying44 h 0 _ rfl rd_int
  obtain ⟨a1,g1,e1⟩:=field_read Tryd.underlying44 h 1 _ rfl rd_int64
  refine ⟨hl,⟨a0,a1⟩,⟨g0,g1⟩,fun j v hv=>?_⟩
  have hj:j < 2:=by rw [← hl];exact (List.getElem?_eq_some_iff.1 hv).1
  rcases (by omega:j=0∨j=1) with rfl | rfl
  · exact e0 0 v (by decide) hv
  · exact e1 0 v (by decide) hv
theorem rd_LNode:Reads Tryd.prog 22 (List Node):=reads_list (by kernel_rfl) (by kernel_rfl) rd_Node
theorem rd_Rule:Reads Tryd.prog 31 Rule:=by
  refine ⟨by kernel_rfl,by rw [Tryd.underlying31];rfl,fun H enc w fuel cs x h=>?_⟩
  have hl:cs.length=2:=by
    obtain ⟨_,_,_,_,e,_⟩:=Go.DataW.trod_struct Tryd.underlying31 h
    rw [e];kernel_rfl
  obtain ⟨a0,g0,e0⟩:=field_read Tryd.underlying31 h 0 _ rfl rd_LNode
  obtain ⟨a1,g1,e1⟩:=field_read Tryd.underlying31 h 1 _ rfl rd_LNode
  refine ⟨hl,⟨a0,a1⟩,⟨g0,g1⟩,fun j v hv=>?_⟩
  have hj:j < 2:=by rw [← hl];exact (List.getElem?_eq_some_iff.1 hv).1
  rcases (by omega:j=0∨j=1) with rfl | rfl
  · exact e0 0 v (by decide) hv
  · exact e1 0 v (by decide) hv
end Go.Proofs.YtbacilgolfojaaaDoor
end

section
namespace Go.Proofs.YtbacilgolfojaaaDoor
set_option maxRecDepth 100000
set_option linter.unusedSimpArgs false
set_option linter.unusedVariables false
theorem textS_k (l:List Node) (k:Int) (h:l.length≤1000000∧0≤k∧∃ s t,Rep l s (k.toNat + 1) t∧t.ok):PureP Tryd.prog 16 [.d (dNodeS l),.d (.int .i64 k)] (· = .d (.str (textB (trL l k)))):=by
  obtain ⟨hl,h0,s,t,hr,ho⟩:=h
  have:=textS_c l hl t.nodes k.toNat s t rfl ho hr
  rw [← trL_eq hr,show ((k.toNat:Nat):Int)=k by omega] at this
  exact this
noncomputable def K_16:Ent Tryd.prog:=Ent.p2 (α:=List Node) (β:=Int) 16 (fun l k=>l.length≤1000000∧0≤k∧∃ s t,Rep l s (k.toNat + 1) t∧t.ok) (fun l k=>.d (.str (textB (trL l k)))) (fun l k hc=>textS_k l k hc)
theorem K_16_f:K_16.f=16:=rfl
theorem K_16_e (l:List Node) (k:Int):K_16.e [.d (dNodeS l),.d (.int .i64 k)]=some (l.length≤1000000∧0≤k∧∃ s t,Rep l s (k.toNat + 1) t∧t.ok,.d (.str (textB (trL l k))),[]):=by unfold K_16;exact Ent.p2_eq (α:=List Node) (β:=Int) l k
noncomputable def K_16h:EntH Tryd.prog:=EntH.pk2 (α:=List Node) (β:=Int) 16 (fun l k=>l.length≤1000000∧0≤k∧∃ s t,Rep l s (k.toNat + 1) t∧t.ok) (fun l k=>.d (.str (textB (trL l k)))) (fun l k=>[]) (fun l k hc=>PureP.ans (textS_k l k hc))
theorem K_16h_f:K_16h.f=16:=rfl
theorem K_16h_g:K_16h.gro=true:=rfl
theorem K_16h_e {x1 x2:V} {H:Heap}:K_16h.e [x1,x2] H=guardR ((decA (α:=List Node) H x1).1∧(decA (α:=Int) H x2).1) (peekR ((decA (α:=List Node) H x1).2.length≤1000000∧0≤(decA (α:=Int) H x2).2∧∃ s t,Rep (decA (α:=List Node) H x1).2 s ((decA (α:=Int) H x2).2.toNat + 1) t∧t.ok) (.d (.str (textB (trL (decA (α:=List Node) H x1).2 (decA (α:=Int) H x2).2)))) ([]) H):=rfl
def termB (l:List Node):ByteArray:=match treeO l with | some t=>textB t | none=>⟨#[]⟩
theorem good_none {l:List Node} (h:goodT l=false):treeO l=none:=by simpa [goodT] using h
end Go.Proofs.YtbacilgolfojaaaDoor
end

section
namespace Go.Proofs.YtbacilgolfojaaaDoor
set_option maxRecDepth 100000
set_option linter.unusedSimpArgs false
set_option linter.unusedVariables false
def goodP (l:List Node):Bool:=goodT l && decide (l.length≤7)
theorem goodPS_c (l:List Node) (hg:Enc.good l):PureP Tryd.prog 31 [.d (dNodeS l)] (· = .d (.bool (goodP l))):=by
  refine pure_of Tryd.func31 en_31 rfl rfl (W_run mixed ⟨[K_15],[K_15h],[],10,0,[0,2],[5]⟩ (fun _=>[]) (by kernel_rfl) ?_)
  simp only [Tryd.f31,stripX,stripOps,pickOps]
  simp [K_15_f,K_15_e,K_15h_f,K_15h_e,K_15h_g,hg,goodP]
  refine ⟨fun h=>?_,fun h=>by simp [h]⟩
  simp [h]
  omega
noncomputable def K_31:Ent Tryd.prog:=Ent.p1 (α:=List Node) 31 (fun l=>Enc.good l) (fun l=>.d (.bool (goodP l))) (fun l hc=>goodPS_c l hc)
theorem K_31_f:K_31.f=31:=rfl
theorem K_31_e (l:List Node):K_31.e [.d (dNodeS l)]=some (Enc.good l,.d (.bool (goodP l)),[]):=by unfold K_31;exact Ent.p1_eq (α:=List Node) l
noncomputable def K_31h:EntH Tryd.prog:=EntH.pk1 (α:=List Node) 31 (fun l=>Enc.good l) (fun l=>.d (.bool (goodP l))) (fun l=>[]) (fun l hc=>PureP.ans (goodPS_c l hc))
theorem K_31h_f:K_31h.f=31:=rfl
theorem K_31h_g:K_31h.gro=true:=rfl
theorem K_31h_e {x1:V} {H:Heap}:K_31h.e [x1] H=guardR ((decA (α:=List Node) H x1).1) (peekR (Enc.good (decA (α:=List Node) H x1).2) (.d (.bool (goodP (decA (α:=List Node) H x1).2))) ([]) H):=rfl
def patV (l:List Node):V:=if l.length≤7 then treeV l else .d .nilp
theorem patternOf_c (l:List Node) (hg:Enc.good l):PureP Tryd.prog 40 [.d (dNodeS l)] (· = patV l):=by
  refine pure_of Tryd.func40 en_40 rfl rfl (W_run mixed ⟨[K_18],[K_18h],[],8,0,[0,2,5],[5]⟩ (fun _=>[]) (by kernel_rfl) ?_)
  simp only [Tryd.f40,stripX,stripOps,pickOps]
  simp [K_18_f,K_18_e,K_18h_f,K_18h_e,K_18h_g,hg]
  refine ⟨fun h=>?_,fun h=>?_⟩
  · unfold patV;rw [if_neg (by omega)]
  · unfold patV;rw [if_pos (by omega)];unfold treeV;cases treeO l <;> rfl
noncomputable def K_40:Ent Tryd.prog:=Ent.p1 (α:=List Node) 40 (fun l=>Enc.good l) (fun l=>patV l) (fun l hc=>patternOf_c l hc)
theorem K_40_f:K_40.f=40:=rfl
theorem K_40_e (l:List Node):K_40.e [.d (dNodeS l)]=some (Enc.good l,patV l,[]):=by unfold K_40;exact Ent.p1_eq (α:=List Node) l
noncomputable def K_40h:EntH Tryd.prog:=EntH.pk1 (α:=List Node) 40 (fun l=>Enc.good l) (fun l=>patV l) (fun l=>[]) (fun l hc=>PureP.ans (patternOf_c l hc))
theorem K_40h_f:K_40h.f=40:=rfl
theorem K_40h_g:K_40h.gro=true:=rfl
theorem K_40h_e {x1:V} {H:Heap}:K_40h.e [x1] H=guardR ((decA (α:=List Node) H x1).1) (peekR (Enc.good (decA (α:=List Node) H x1).2) (patV (decA (α:=List Node) H x1).2) ([]) H):=rfl
theorem goodPI_c (l : List Node) (hg : Enc.good l) : PureP Tryd.prog 32 [.d (dNodeS l)] (· = .d (.bool (goodP l))) := by
  cases hgd:goodP l with
  | true =>
    have h1:goodT l=true∧l.length≤7:=by simpa [goodP] using hgd
    obtain ⟨t,ht,_⟩:=goodT_out h1.1
    obtain ⟨f,hf⟩:∃ f,encT t=.rp 3 f:=by cases t <;> exact ⟨_,rfl⟩
    have e2:patV l=.d (.rp 3 f):=by unfold patV treeV;rw [if_pos h1.2,ht,← hf]
    refine pure_of Tryd.func32 en_32 rfl rfl (W_run mixed ⟨[K_40],[K_40h],[],6,0,[0,2],[]⟩ (fun _=>[]) (by kernel_rfl) ?_)
    simp only [Tryd.f32,stripX,stripOps,pickOps]
    simp [K_40_f,K_40_e,K_40h_f,K_40h_e,K_40h_g,e2,hg]
  | false =>
    have e2:patV l=.d .nilp:=by
      unfold patV
      split
      · rename_i h
        have:goodT l=false:=by simpa [goodP,h] using hgd
        unfold treeV;rw [good_none this]
      · rfl
    refine pure_of Tryd.func32 en_32 rfl rfl (W_run mixed ⟨[K_40],[K_40h],[],6,0,[0,2],[]⟩ (fun _=>[]) (by kernel_rfl) ?_)
    simp only [Tryd.f32,stripX,stripOps,pickOps]
    simp [K_40_f,K_40_e,K_40h_f,K_40h_e,K_40h_g,e2,hg]
noncomputable def K_32:Ent Tryd.prog:=Ent.p1 (α:=List Node) 32 (fun l=>Enc.good l) (fun l=>.d (.bool (goodP l))) (fun l hc=>goodPI_c l hc)
theorem K_32_f:K_32.f=32:=rfl
theorem K_32_e (l:List Node):K_32.e [.d (dNodeS l)]=some (Enc.good l,.d (.bool (goodP l)),[]):=by unfold K_32;exact Ent.p1_eq (α:=List Node) l
noncomputable def K_32h:EntH Tryd.prog:=EntH.pk1 (α:=List Node) 32 (fun l=>Enc.good l) (fun l=>.d (.bool (goodP l))) (fun l=>[]) (fun l hc=>PureP.ans (goodPI_c l hc))
theorem K_32h_f:K_32h.f=32:=rfl
theorem K_32h_g:K_32h.gro=true:=rfl
theorem K_32h_e {x1:V} {H:Heap}:K_32h.e [x1] H=guardR ((decA (α:=List Node) H x1).1) (peekR (Enc.good (decA (α:=List Node) H x1).2) (.d (.bool (goodP (decA (α:=List Node) H x1).2))) ([]) H):=rfl
def goodRu (r:Rule):Bool:=goodP r.left_ && goodP r.right_
theorem goodRuS_c (r:Rule) (hg:Enc.good r):PureP Tryd.prog 21 [vRule r] (· = .d (.bool (goodRu r))):=by
  have h1:Enc.good r.left_:=hg.1
  have h2:Enc.good r.right_:=hg.2
  refine pure_of Tryd.func21 en_21 rfl rfl (W_run mixed ⟨[K_31],[K_31h],[],11,0,[0,1,2],[6]⟩ (fun _=>[]) (by kernel_rfl) ?_)
  simp only [Tryd.f21,stripX,stripOps,pickOps]
  simp [K_31_f,K_31_e,K_31h_f,K_31h_e,K_31h_g,h1,h2,goodRu]
  exact ⟨fun h _=>h,fun h h2=>by rw [h] at h2;cases h2⟩
noncomputable def K_21:Ent Tryd.prog:=Ent.p1 (α:=Rule) 21 (fun r=>Enc.good r) (fun r=>.d (.bool (goodRu r))) (fun r hc=>goodRuS_c r hc)
theorem K_21_f:K_21.f=21:=rfl
theorem K_21_e (r0:List Node) (r1:List Node):K_21.e [.agg [.d (dNodeS r0),.d (dNodeS r1)]]=some (Enc.good (Rule.mk r0 r1),.d (.bool (goodRu (Rule.mk r0 r1))),[]):=by unfold K_21;exact Ent.p1_eq (α:=Rule) (Rule.mk r0 r1)
noncomputable def K_21h:EntH Tryd.prog:=EntH.pk1 (α:=Rule) 21 (fun r=>Enc.good r) (fun r=>.d (.bool (goodRu r))) (fun r=>[]) (fun r hc=>PureP.ans (goodRuS_c r hc))
theorem K_21h_f:K_21h.f=21:=rfl
theorem K_21h_g:K_21h.gro=true:=rfl
theorem K_21h_e {x1:V} {H:Heap}:K_21h.e [x1] H=guardR ((decA (α:=Rule) H x1).1) (peekR (Enc.good (decA (α:=Rule) H x1).2) (.d (.bool (goodRu (decA (α:=Rule) H x1).2))) ([]) H):=rfl
theorem goodRuI_c (r:Rule) (hg:Enc.good r):PureP Tryd.prog 22 [vRule r] (· = .d (.bool (goodRu r))):=by
  have h1:Enc.good r.left_:=hg.1
  have h2:Enc.good r.right_:=hg.2
  refine pure_of Tryd.func22 en_22 rfl rfl (W_run mixed ⟨[K_32],[K_32h],[],11,0,[0,1,2],[6]⟩ (fun _=>[]) (by kernel_rfl) ?_)
  simp only [Tryd.f22,stripX,stripOps,pickOps]
  simp [K_32_f,K_32_e,K_32h_f,K_32h_e,K_32h_g,h1,h2,goodRu]
  exact ⟨fun h _=>h,fun h h2=>by rw [h] at h2;cases h2⟩
noncomputable def K_22:Ent Tryd.prog:=Ent.p1 (α:=Rule) 22 (fun r=>Enc.good r) (fun r=>.d (.bool (goodRu r))) (fun r hc=>goodRuI_c r hc)
theorem K_22_f:K_22.f=22:=rfl
theorem K_22_e (r0:List Node) (r1:List Node):K_22.e [.agg [.d (dNodeS r0),.d (dNodeS r1)]]=some (Enc.good (Rule.mk r0 r1),.d (.bool (goodRu (Rule.mk r0 r1))),[]):=by unfold K_22;exact Ent.p1_eq (α:=Rule) (Rule.mk r0 r1)
noncomputable def K_22h:EntH Tryd.prog:=EntH.pk1 (α:=Rule) 22 (fun r=>Enc.good r) (fun r=>.d (.bool (goodRu r))) (fun r=>[]) (fun r hc=>PureP.ans (goodRuI_c r hc))
theorem K_22h_f:K_22h.f=22:=rfl
theorem K_22h_g:K_22h.gro=true:=rfl
theorem K_22h_e {x1:V} {H:Heap}:K_22h.e [x1] H=guardR ((decA (α:=Rule) H x1).1) (peekR (Enc.good (decA (α:=Rule) H x1).2) (.d (.bool (goodRu (decA (α:=Rule) H x1).2))) ([]) H):=rfl
def ruleB (r:Rule):ByteArray:=if goodRu r=true then termB r.left_++⟨#[61,62]⟩++termB r.right_ else ⟨#[]⟩
end Go.Proofs.YtbacilgolfojaaaDoor
end
