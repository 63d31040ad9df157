/- UsesOf and BlockOf of both programs, the program's Redirect as closed data, and the law's comparison of a function with itself. No condition. -/
import Derived.Test.YtnomiclfiijniaaGreatQS17
import Derived.Test.YtnomiclfiijniaaGreatQS61
import Derived.Test.YtnomiclfiijniaaGreatQS121
import Derived.Test.YtnomiclfiijniaaGreatQS111
namespace Go.Proofs.YtnomiclfiijniaaGreat
set_option maxRecDepth 100000
set_option linter.unusedSimpArgs false
set_option linter.unusedVariables false
def usesV1 (F:Func) (v:Int):Int:=if isVal F v=true then usesN F.blocks_ v.toNat else 0
def usesR (F:Func) (v:Int):V:=.tup [.d (.int .i64 (usesV1 F v)),.d (.bool (isVal F v))]
theorem usesS_c (F:Func) (v:Int) (hF:Enc.good F):PureP Tryz.prog 9 [vFunc F,.d (.int .i64 v)] (· = usesR F v):=by
  cases hv:isVal F v with
  | false =>
    refine pure_of Tryz.func9 en_9 rfl rfl (W_run mixed ⟨[K_51],[K_51h],[52],13,0,[0,1,2,4,5,9],[9]⟩ (fun _=>[]) (by kernel_rfl) ?_)
    simp only [Tryz.f9,stripX,stripOps,pickOps]
    simp [K_51_f,K_51_e,K_51h_f,K_51h_e,K_51h_g,hF,hv]
    simp [usesR,usesV1,hv]
  | true =>
    obtain ⟨hg,v0,v1⟩:=isVal_t hv
    refine pure_of Tryz.func9 en_9 rfl rfl (W_run mixed ⟨[K_51],[K_51h],[52],13,0,[0,1,2,4,5,9],[9]⟩ (fun _=>[]) (by kernel_rfl) ?_)
    simp only [Tryz.f9,stripX,stripOps,pickOps]
    simp [K_51_f,K_51_e,K_51h_f,K_51h_e,K_51h_g,hF,hv]
    rw [aft_call]
    refine ((l14Uses_c F v hF hg v0).calls rfl).mono ?_
    rintro r H ⟨rfl,rfl⟩
    simp [K_51_f,K_51_e,K_51h_f,K_51h_e,K_51h_g]
    simp [usesR,usesV1,hv]
noncomputable def K_9:Ent Tryz.prog:=Ent.p2 (α:=Func) (β:=Int) 9 (fun F v=>Enc.good F) (fun F v=>usesR F v) (fun F v hc=>usesS_c F v hc)
theorem K_9_f:K_9.f=9:=rfl
theorem K_9_e (F0:Int) (F1:List Block) (v:Int):K_9.e [.agg [.d (.int .i64 F0),.d (dBlockS F1)],.d (.int .i64 v)]=some (Enc.good (Func.mk F0 F1),usesR (Func.mk F0 F1) v,[]):=by unfold K_9;exact Ent.p2_eq (α:=Func) (β:=Int) (Func.mk F0 F1) v
noncomputable def K_9h:EntH Tryz.prog:=EntH.pk2 (α:=Func) (β:=Int) 9 (fun F v=>Enc.good F) (fun F v=>usesR F v) (fun F v=>[]) (fun F v hc=>PureP.ans (usesS_c F v hc))
theorem K_9h_f:K_9h.f=9:=rfl
theorem K_9h_g:K_9h.gro=true:=rfl
theorem K_9h_e {x1 x2:V} {H:Heap}:K_9h.e [x1,x2] H=guardR ((decA (α:=Func) H x1).1∧(decA (α:=Int) H x2).1) (peekR (Enc.good (decA (α:=Func) H x1).2) (usesR (decA (α:=Func) H x1).2 (decA (α:=Int) H x2).2) ([]) H):=rfl
theorem counts_p {F:Func} (hg:goodF F=true):PureP Tryz.prog 50 [.d (.rp 5 (dView (viewD F)))] (· = .d (dIntS (cntsL (viewD F)))):=by
  obtain ⟨m0,m1⟩:=many_rng hg
  obtain ⟨h8,hsm⟩:=good_small hg
  refine PureP.of_own ((counts_tree 0 (viewD F) ⟨m0,by show many F≤1000;omega⟩ (by show F.blocks_.length≤1000;omega) (fun b hb=>?_) (fun x hx=>?_) ?_).mono ?_)
  · obtain ⟨q1,q2,q3,q4⟩:=hsm b hb
    exact ⟨by omega,by omega,q3,q4⟩
  · obtain ⟨b,hb,hxb⟩:=List.mem_flatMap.1 hx
    exact good_all hg hb x hxb
  · exact allU_len2 hg
  · rintro r H' ⟨s,rfl,e,hn⟩
    have:=Rd1.slice hn.own
    have e2:Tr.era s=cntsL (viewD F):=by rw [← e];exact era_ints s.l
    rw [e2] at this
    exact this
theorem usesI_c (F : Func) (v : Int) (hF : Enc.good F) (hv0 : Enc.good v) : PureP Tryz.prog 8 [vFunc F, .d (.int .i64 v)] (· = usesR F v) := by
  have h3:Enc.good [v]:=⟨by simp,fun a ha=>by simp at ha;subst ha;exact hv0⟩
  cases hg:goodF F with
  | false =>
    refine pure_of Tryz.func8 en_8 rfl rfl (W_run mixed ⟨[K_48,K_49],[K_48h,K_49h],[50],23,0,[0,1,2,4,5,6,17],[11,17]⟩ (fun _=>[]) (by kernel_rfl) ?_)
    simp only [Tryz.f8,stripX,stripOps,pickOps]
    simp [K_48_f,K_48_e,K_49_f,K_49_e,K_48h_f,K_48h_e,K_49h_f,K_49h_e,K_48h_g,K_49h_g,hF,viewV_f hg]
    simp [usesR,usesV1,isVal,hg]
  | true =>
    have ev:allIn [v] 0 (IntKind.i64.wrap (many F - 1))=isVal F v:=by rw [allIn1,isVal_inR hg]
    cases hv:isVal F v with
    | false =>
      rw [hv] at ev
      refine pure_of Tryz.func8 en_8 rfl rfl (W_run mixed ⟨[K_48,K_49],[K_48h,K_49h],[50],23,0,[0,1,2,4,5,6,17],[11,17]⟩ (fun _=>[]) (by kernel_rfl) ?_)
      simp only [Tryz.f8,stripX,stripOps,pickOps]
      simp [K_48_f,K_48_e,K_49_f,K_49_e,K_48h_f,K_48h_e,K_49h_f,K_49h_e,K_48h_g,K_49h_g,hF,viewV_t hg,h3,viewD_total,ev]
      simp [usesR,usesV1,hv]
    | true =>
      rw [hv] at ev
      obtain ⟨_,v0,v1⟩:=isVal_t hv
      have hlc:(cntsL (viewD F)).length=(many F).toNat:=by unfold cntsL;simp [viewD_total]
      have hget:(cntsL (viewD F))[v.toNat]?.getD 0=usesN F.blocks_ v.toNat:=by
        unfold cntsL
        rw [List.getElem?_map,List.getElem?_range (by rw [viewD_total];omega)];rfl
      refine pure_of Tryz.func8 en_8 rfl rfl (W_run mixed ⟨[K_48,K_49],[K_48h,K_49h],[50],23,0,[0,1,2,4,5,6,17],[11,17]⟩ (fun _=>[]) (by kernel_rfl) ?_)
      simp only [Tryz.f8,stripX,stripOps,pickOps]
      simp [K_48_f,K_48_e,K_49_f,K_49_e,K_48h_f,K_48h_e,K_49h_f,K_49h_e,K_48h_g,K_49h_g,hF,viewV_t hg,h3,viewD_total,ev]
      rw [aft_call]
      refine ((counts_p hg).calls rfl).mono ?_
      rintro r H ⟨rfl,rfl⟩
      generalize cntsL (viewD F)=cl at hlc hget
      have hlc2:v < cl.length:=by omega
      simp [K_48_f,K_48_e,K_49_f,K_49_e,K_48h_f,K_48h_e,K_49h_f,K_49h_e,K_48h_g,K_49h_g,v0,hlc2]
      rw [List.getElem?_eq_getElem (by omega)] at hget
      simp [usesR,usesV1,hv]
      exact hget
noncomputable def K_8:Ent Tryz.prog:=Ent.p2 (α:=Func) (β:=Int) 8 (fun F v=>Enc.good F∧Enc.good v) (fun F v=>usesR F v) (fun F v hc=>usesI_c F v hc.1 hc.2)
theorem K_8_f:K_8.f=8:=rfl
theorem K_8_e (F0:Int) (F1:List Block) (v:Int):K_8.e [.agg [.d (.int .i64 F0),.d (dBlockS F1)],.d (.int .i64 v)]=some (Enc.good (Func.mk F0 F1)∧Enc.good v,usesR (Func.mk F0 F1) v,[]):=by unfold K_8;exact Ent.p2_eq (α:=Func) (β:=Int) (Func.mk F0 F1) v
noncomputable def K_8h:EntH Tryz.prog:=EntH.pk2 (α:=Func) (β:=Int) 8 (fun F v=>Enc.good F∧Enc.good v) (fun F v=>usesR F v) (fun F v=>[]) (fun F v hc=>PureP.ans (usesI_c F v hc.1 hc.2))
theorem K_8h_f:K_8h.f=8:=rfl
theorem K_8h_g:K_8h.gro=true:=rfl
theorem K_8h_e {x1 x2:V} {H:Heap}:K_8h.e [x1,x2] H=guardR ((decA (α:=Func) H x1).1∧(decA (α:=Int) H x2).1) (peekR (Enc.good (decA (α:=Func) H x1).2∧Enc.good (decA (α:=Int) H x2).2) (usesR (decA (α:=Func) H x1).2 (decA (α:=Int) H x2).2) ([]) H):=rfl
def blkR (F:Func) (v:Int):V:=.tup [.d (.int .i64 (if isVal F v=true then bk (viewD F) v else 0)),.d (.bool (isVal F v))]
theorem blkS_c (F:Func) (v:Int) (hF:Enc.good F):PureP Tryz.prog 11 [vFunc F,.d (.int .i64 v)] (· = blkR F v):=by
  cases hv:isVal F v with
  | false =>
    refine pure_of Tryz.func11 en_11 rfl rfl (W_run mixed ⟨[K_51,K_53],[K_51h,K_53h],[],13,0,[0,1,2,4,5,9],[9]⟩ (fun _=>[]) (by kernel_rfl) ?_)
    simp only [Tryz.f11,stripX,stripOps,pickOps]
    simp [K_51_f,K_51_e,K_53_f,K_53_e,K_51h_f,K_51h_e,K_53h_f,K_53h_e,K_51h_g,K_53h_g,hF,hv]
    simp [blkR,hv]
  | true =>
    obtain ⟨hg,v0,v1⟩:=isVal_t hv
    have e:=blk_same hg v0 v1
    refine pure_of Tryz.func11 en_11 rfl rfl (W_run mixed ⟨[K_51,K_53],[K_51h,K_53h],[],13,0,[0,1,2,4,5,9],[9]⟩ (fun _=>[]) (by kernel_rfl) ?_)
    simp only [Tryz.f11,stripX,stripOps,pickOps]
    simp [K_51_f,K_51_e,K_53_f,K_53_e,K_51h_f,K_51h_e,K_53h_f,K_53h_e,K_51h_g,K_53h_g,hF,hv,e]
    simp [blkR,hv]
noncomputable def K_11:Ent Tryz.prog:=Ent.p2 (α:=Func) (β:=Int) 11 (fun F v=>Enc.good F) (fun F v=>blkR F v) (fun F v hc=>blkS_c F v hc)
theorem K_11_f:K_11.f=11:=rfl
theorem K_11_e (F0:Int) (F1:List Block) (v:Int):K_11.e [.agg [.d (.int .i64 F0),.d (dBlockS F1)],.d (.int .i64 v)]=some (Enc.good (Func.mk F0 F1),blkR (Func.mk F0 F1) v,[]):=by unfold K_11;exact Ent.p2_eq (α:=Func) (β:=Int) (Func.mk F0 F1) v
noncomputable def K_11h:EntH Tryz.prog:=EntH.pk2 (α:=Func) (β:=Int) 11 (fun F v=>Enc.good F) (fun F v=>blkR F v) (fun F v=>[]) (fun F v hc=>PureP.ans (blkS_c F v hc))
theorem K_11h_f:K_11h.f=11:=rfl
theorem K_11h_g:K_11h.gro=true:=rfl
theorem K_11h_e {x1 x2:V} {H:Heap}:K_11h.e [x1,x2] H=guardR ((decA (α:=Func) H x1).1∧(decA (α:=Int) H x2).1) (peekR (Enc.good (decA (α:=Func) H x1).2) (blkR (decA (α:=Func) H x1).2 (decA (α:=Int) H x2).2) ([]) H):=rfl
theorem blkI_c (F:Func) (v:Int) (hF:Enc.good F) (hv0:Enc.good v):PureP Tryz.prog 10 [vFunc F,.d (.int .i64 v)] (· = blkR F v):=by
  have h3:Enc.good [v]:=⟨by simp,fun a ha=>by simp at ha;subst ha;exact hv0⟩
  cases hg:goodF F with
  | false =>
    refine pure_of Tryz.func10 en_10 rfl rfl (W_run mixed ⟨[K_48,K_49],[K_48h,K_49h],[],25,0,[0,1,2,4,5,6,17],[11,17]⟩ (fun _=>[]) (by kernel_rfl) ?_)
    simp only [Tryz.f10,stripX,stripOps,pickOps]
    simp [K_48_f,K_48_e,K_49_f,K_49_e,K_48h_f,K_48h_e,K_49h_f,K_49h_e,K_48h_g,K_49h_g,hF,viewV_f hg]
    simp [blkR,isVal,hg]
  | true =>
    have ev:allIn [v] 0 (IntKind.i64.wrap (many F - 1))=isVal F v:=by rw [allIn1,isVal_inR hg]
    cases hv:isVal F v with
    | false =>
      rw [hv] at ev
      refine pure_of Tryz.func10 en_10 rfl rfl (W_run mixed ⟨[K_48,K_49],[K_48h,K_49h],[],25,0,[0,1,2,4,5,6,17],[11,17]⟩ (fun _=>[]) (by kernel_rfl) ?_)
      simp only [Tryz.f10,stripX,stripOps,pickOps]
      simp [K_48_f,K_48_e,K_49_f,K_49_e,K_48h_f,K_48h_e,K_49h_f,K_49h_e,K_48h_g,K_49h_g,hF,viewV_t hg,h3,viewD_total,ev]
      simp [blkR,hv]
    | true =>
      rw [hv] at ev
      obtain ⟨_,v0,v1⟩:=isVal_t hv
      have hok:okV (viewD F) v:=(view_spec hg v0 v1).1
      have hb1:=hok.1.2
      refine pure_of Tryz.func10 en_10 rfl rfl (W_run mixed ⟨[K_48,K_49],[K_48h,K_49h],[],25,0,[0,1,2,4,5,6,17],[11,17]⟩ (fun _=>[]) (by kernel_rfl) ?_)
      simp only [Tryz.f10,stripX,stripOps,pickOps]
      simp [K_48_f,K_48_e,K_49_f,K_49_e,K_48h_f,K_48h_e,K_49h_f,K_49h_e,K_48h_g,K_49h_g,hF,viewV_t hg,h3,viewD_total,ev]
      exact ⟨⟨v0,hb1⟩,by simp [blkR,hv];rfl⟩
noncomputable def K_10:Ent Tryz.prog:=Ent.p2 (α:=Func) (β:=Int) 10 (fun F v=>Enc.good F∧Enc.good v) (fun F v=>blkR F v) (fun F v hc=>blkI_c F v hc.1 hc.2)
theorem K_10_f:K_10.f=10:=rfl
theorem K_10_e (F0:Int) (F1:List Block) (v:Int):K_10.e [.agg [.d (.int .i64 F0),.d (dBlockS F1)],.d (.int .i64 v)]=some (Enc.good (Func.mk F0 F1)∧Enc.good v,blkR (Func.mk F0 F1) v,[]):=by unfold K_10;exact Ent.p2_eq (α:=Func) (β:=Int) (Func.mk F0 F1) v
noncomputable def K_10h:EntH Tryz.prog:=EntH.pk2 (α:=Func) (β:=Int) 10 (fun F v=>Enc.good F∧Enc.good v) (fun F v=>blkR F v) (fun F v=>[]) (fun F v hc=>PureP.ans (blkI_c F v hc.1 hc.2))
theorem K_10h_f:K_10h.f=10:=rfl
theorem K_10h_g:K_10h.gro=true:=rfl
theorem K_10h_e {x1 x2:V} {H:Heap}:K_10h.e [x1,x2] H=guardR ((decA (α:=Func) H x1).1∧(decA (α:=Int) H x2).1) (peekR (Enc.good (decA (α:=Func) H x1).2∧Enc.good (decA (α:=Int) H x2).2) (blkR (decA (α:=Func) H x1).2 (decA (α:=Int) H x2).2) ([]) H):=rfl
theorem redirectI_c (F:Func) (fr to:Int) (hF:Enc.good F) (h1:Enc.good fr) (h2:Enc.good to):PureP Tryz.prog 18 [vFunc F,.d (.int .i64 fr),.d (.int .i64 to)] (· = .tup [vFunc (rdF F fr to),.d (.bool (rdOk F fr to))]):=by
  refine PureP.of_own ((redirectI_own [] F fr to hF h1 h2).mono ?_)
  rintro r H' ⟨A,rfl,e,hn⟩
  have:=Rd1.aggs hn.own rfl
  rw [e] at this
  exact Rd1.tup ⟨this,Rd1.d,trivial⟩
noncomputable def K_18:Ent Tryz.prog:=Ent.p3 (α:=Func) (β:=Int) (γ:=Int) 18 (fun F fr to=>Enc.good F∧Enc.good fr∧Enc.good to) (fun F fr to=>.tup [vFunc (rdF F fr to),.d (.bool (rdOk F fr to))]) (fun F fr to hc=>redirectI_c F fr to hc.1 hc.2.1 hc.2.2)
theorem K_18_f:K_18.f=18:=rfl
theorem K_18_e (F0:Int) (F1:List Block) (fr:Int) (to:Int):K_18.e [.agg [.d (.int .i64 F0),.d (dBlockS F1)],.d (.int .i64 fr),.d (.int .i64 to)]=some (Enc.good (Func.mk F0 F1)∧Enc.good fr∧Enc.good to,.tup [vFunc (rdF (Func.mk F0 F1) fr to),.d (.bool (rdOk (Func.mk F0 F1) fr to))],[]):=by unfold K_18;exact Ent.p3_eq (α:=Func) (β:=Int) (γ:=Int) (Func.mk F0 F1) fr to
noncomputable def K_18h:EntH Tryz.prog:=EntH.pk3 (α:=Func) (β:=Int) (γ:=Int) 18 (fun F fr to=>Enc.good F∧Enc.good fr∧Enc.good to) (fun F fr to=>.tup [vFunc (rdF F fr to),.d (.bool (rdOk F fr to))]) (fun F fr to=>[]) (fun F fr to hc=>PureP.ans (redirectI_c F fr to hc.1 hc.2.1 hc.2.2))
theorem K_18h_f:K_18h.f=18:=rfl
theorem K_18h_g:K_18h.gro=true:=rfl
theorem K_18h_e {x1 x2 x3:V} {H:Heap}:K_18h.e [x1,x2,x3] H=guardR ((decA (α:=Func) H x1).1∧(decA (α:=Int) H x2).1∧(decA (α:=Int) H x3).1) (peekR (Enc.good (decA (α:=Func) H x1).2∧Enc.good (decA (α:=Int) H x2).2∧Enc.good (decA (α:=Int) H x3).2) (.tup [vFunc (rdF (decA (α:=Func) H x1).2 (decA (α:=Int) H x2).2 (decA (α:=Int) H x3).2),.d (.bool (rdOk (decA (α:=Func) H x1).2 (decA (α:=Int) H x2).2 (decA (α:=Int) H x3).2))]) ([]) H):=rfl
theorem sameInst_c (x y:Inst) (h:x.args_.length≤1000):PureP Tryz.prog 67 [vInst x,vInst y] (· = .d (.bool (decide (x.op_=y.op_) && (decide (x.n_=y.n_) && decide (x.args_=y.args_))))):=by
  refine pure_of Tryz.func67 en_67 rfl rfl (W_run mixed ⟨[K_29],[K_29h],[],24,0,[0,1,2,3,4],[10,17]⟩ (fun _=>[]) (by kernel_rfl) ?_)
  simp only [Tryz.f67,stripX,stripOps,pickOps]
  simp [K_29_f,K_29_e,K_29h_f,K_29h_e,K_29h_g,h]
  exact ⟨fun q=>⟨fun q2=>by simp [q,q2],fun q2=>by simp [q2]⟩,fun q=>by simp [q]⟩
noncomputable def K_67:Ent Tryz.prog:=Ent.p2 (α:=Inst) (β:=Inst) 67 (fun x y=>x.args_.length≤1000) (fun x y=>.d (.bool (decide (x.op_=y.op_) && (decide (x.n_=y.n_) && decide (x.args_=y.args_))))) (fun x y hc=>sameInst_c x y hc)
theorem K_67_f:K_67.f=67:=rfl
theorem K_67_e (x0:Int) (x1:Int) (x2:List Int) (y0:Int) (y1:Int) (y2:List Int):K_67.e [.agg [.d (.int .i64 x0),.d (.int .i64 x1),.d (dIntS x2)],.agg [.d (.int .i64 y0),.d (.int .i64 y1),.d (dIntS y2)]]=some ((Inst.mk x0 x1 x2).args_.length≤1000,.d (.bool (decide ((Inst.mk x0 x1 x2).op_=(Inst.mk y0 y1 y2).op_) && (decide ((Inst.mk x0 x1 x2).n_=(Inst.mk y0 y1 y2).n_) && decide ((Inst.mk x0 x1 x2).args_=(Inst.mk y0 y1 y2).args_)))),[]):=by unfold K_67;exact Ent.p2_eq (α:=Inst) (β:=Inst) (Inst.mk x0 x1 x2) (Inst.mk y0 y1 y2)
noncomputable def K_67h:EntH Tryz.prog:=EntH.pk2 (α:=Inst) (β:=Inst) 67 (fun x y=>x.args_.length≤1000) (fun x y=>.d (.bool (decide (x.op_=y.op_) && (decide (x.n_=y.n_) && decide (x.args_=y.args_))))) (fun x y=>[]) (fun x y hc=>PureP.ans (sameInst_c x y hc))
theorem K_67h_f:K_67h.f=67:=rfl
theorem K_67h_g:K_67h.gro=true:=rfl
theorem K_67h_e {x1 x2:V} {H:Heap}:K_67h.e [x1,x2] H=guardR ((decA (α:=Inst) H x1).1∧(decA (α:=Inst) H x2).1) (peekR ((decA (α:=Inst) H x1).2.args_.length≤1000) (.d (.bool (decide ((decA (α:=Inst) H x1).2.op_=(decA (α:=Inst) H x2).2.op_) && (decide ((decA (α:=Inst) H x1).2.n_=(decA (α:=Inst) H x2).2.n_) && decide ((decA (α:=Inst) H x1).2.args_=(decA (α:=Inst) H x2).2.args_))))) ([]) H):=rfl
def shortF (F:Func):Prop:=F.blocks_.length≤1000∧∀ b∈F.blocks_,b.insts_.length≤1000∧b.jumps_.length≤1000∧(∀ x∈b.insts_,x.args_.length≤1000)∧∀ j∈b.jumps_,j.args_.length≤1000
theorem sameFunc_c (F : Func) (h : shortF F) : PureP Tryz.prog 20 [vFunc F, vFunc F] (· = .d (.bool true)) := by
  refine pure_of Tryz.func20 en_20 rfl rfl (W_run mixed ⟨[K_67,K_29],[K_67h,K_29h],[],130,0,[0,1,2,3,4,5,6,7,8,9,23,25,26,27,28,73,76,77,78,91,95,96,97,127],[15,23,28,42,49,56,65,73,78,91,97,112,127]⟩ (fun | 12=>[0,2,5,7,1,3,4,6,8,9,10,11] | 18=>[0,2,6,8,1,3,4,5,7,9,10,11,12,13,14,16,20,22,15,17,18,19,21,23,24,25,26,27,28] | _=>[]) (by kernel_rfl) ?_)
  simp only [Tryz.f20,stripX,stripOps,pickOps]
  simp [K_67_f,K_67_e,K_29_f,K_29_e,K_67h_f,K_67h_e,K_29h_f,K_29h_e,K_67h_g,K_29h_g]
  refine W_loopA (fun i:Nat=>[(3,.ptr 1 2 0 0),(25,.d (dBlockS F.blocks_)),(26,.d (.int .i64 F.blocks_.length)),(27,.d (.int .i64 i))]) (fun _=>[.row 2 [[.d (.int .i64 F.params_),.d (dBlockS F.blocks_)]],.row 2 [[.d (.int .i64 F.params_),.d (dBlockS F.blocks_)]]]) (fun i=>i≤F.blocks_.length) (fun i=>F.blocks_.length - i) 0 ?_ ?_ ?_
  · simp
  · simp
  intro i hi
  by_cases hil:i < F.blocks_.length
  · obtain ⟨b,hbe⟩:∃ b,b=F.blocks_[i]?.getD default:=⟨_,rfl⟩
    have hb0:=hbe.symm
    have hb1:∀ h:i < F.blocks_.length,F.blocks_[i]=b:=fun h=>by rw [hbe,List.getElem?_eq_getElem h];rfl
    have hbm:b∈F.blocks_:=by rw [hbe,List.getElem?_eq_getElem hil];exact List.getElem_mem hil
    obtain ⟨s1,s2,s3,s4⟩:=h.2 b hbm
    have wi:IntKind.i64.wrap ((i:Int) + 1)=((i + 1:Nat):Int):=by have:=h.1;rw [wrap_id] <;> omega
    refine W_run mixed ⟨[K_67,K_29],[K_67h,K_29h],[],130,0,[0,1,2,3,4,5,6,7,8,9,23,25,26,27,28,73,76,77,78,91,95,96,97,127],[15,23,28,42,49,56,65,73,78,91,97,112,127]⟩ (fun | 12=>[0,2,5,7,1,3,4,6,8,9,10,11] | 18=>[0,2,6,8,1,3,4,5,7,9,10,11,12,13,14,16,20,22,15,17,18,19,21,23,24,25,26,27,28] | _=>[]) (by kernel_rfl) ?_
    simp only [stripX,stripOps,pickOps]
    simp [K_67_f,K_67_e,K_29_f,K_29_e,K_67h_f,K_67h_e,K_29h_f,K_29h_e,K_67h_g,K_29h_g,hil,hb0,hb1]
    refine W_loopA (fun j:Nat=>[(3,.ptr 1 2 0 0),(6,.ptr 2 5 0 0),(7,.ptr 3 5 0 0),(25,.d (dBlockS F.blocks_)),(26,.d (.int .i64 F.blocks_.length)),(27,.d (.int .i64 i)),(76,.d (.int .i64 b.insts_.length)),(77,.d (.int .i64 j))]) (fun _=>[.row 2 [[.d (.int .i64 F.params_),.d (dBlockS F.blocks_)]],.row 2 [[.d (.int .i64 F.params_),.d (dBlockS F.blocks_)]],.row 5 [[.d (.int .i64 b.params_),.d (dInstS b.insts_),.d (.int .i64 b.end_),.d (.int .i64 b.value_),.d (dJumpS b.jumps_)]],.row 5 [[.d (.int .i64 b.params_),.d (dInstS b.insts_),.d (.int .i64 b.end_),.d (.int .i64 b.value_),.d (dJumpS b.jumps_)]]]) (fun j=>j≤b.insts_.length) (fun j=>b.insts_.length - j) 0 ?_ ?_ ?_
    · simp
    · simp
    intro j hj
    have wj:j < b.insts_.length→IntKind.i64.wrap ((j:Int) + 1)=((j + 1:Nat):Int):=fun h=>by rw [wrap_id] <;> omega
    by_cases hjl:j < b.insts_.length
    · obtain ⟨x,hxe⟩:∃ x,x=b.insts_[j]?.getD default:=⟨_,rfl⟩
      have hx0:=hxe.symm
      have hx1:∀ h:j < b.insts_.length,b.insts_[j]=x:=fun h=>by rw [hxe,List.getElem?_eq_getElem h];rfl
      have hxa:x.args_.length≤1000:=s3 x (by rw [hxe,List.getElem?_eq_getElem hjl];exact List.getElem_mem hjl)
      refine W_run mixed ⟨[K_67,K_29],[K_67h,K_29h],[],130,0,[0,1,2,3,4,5,6,7,8,9,23,25,26,27,28,73,76,77,78,91,95,96,97,127],[15,23,28,42,49,56,65,73,78,91,97,112,127]⟩ (fun | 12=>[0,2,5,7,1,3,4,6,8,9,10,11] | 18=>[0,2,6,8,1,3,4,5,7,9,10,11,12,13,14,16,20,22,15,17,18,19,21,23,24,25,26,27,28] | _=>[]) (by kernel_rfl) ?_
      simp only [stripX,stripOps,pickOps]
      simp [K_67_f,K_67_e,K_29_f,K_29_e,K_67h_f,K_67h_e,K_29h_f,K_29h_e,K_67h_g,K_29h_g,hjl,hx0,hx1,hxa]
      exact ⟨j + 1,by omega,by omega,wj hjl⟩
    · refine W_run mixed ⟨[K_67,K_29],[K_67h,K_29h],[],130,0,[0,1,2,3,4,5,6,7,8,9,23,25,26,27,28,73,76,77,78,91,95,96,97,127],[15,23,28,42,49,56,65,73,78,91,97,112,127]⟩ (fun | 12=>[0,2,5,7,1,3,4,6,8,9,10,11] | 18=>[0,2,6,8,1,3,4,5,7,9,10,11,12,13,14,16,20,22,15,17,18,19,21,23,24,25,26,27,28] | _=>[]) (by kernel_rfl) ?_
      simp only [stripX,stripOps,pickOps]
      simp [K_67_f,K_67_e,K_29_f,K_29_e,K_67h_f,K_67h_e,K_29h_f,K_29h_e,K_67h_g,K_29h_g,hjl]
      refine W_loopA (fun j:Nat=>[(3,.ptr 1 2 0 0),(6,.ptr 2 5 0 0),(7,.ptr 3 5 0 0),(25,.d (dBlockS F.blocks_)),(26,.d (.int .i64 F.blocks_.length)),(27,.d (.int .i64 i)),(95,.d (.int .i64 b.jumps_.length)),(96,.d (.int .i64 j))]) (fun _=>[.row 2 [[.d (.int .i64 F.params_),.d (dBlockS F.blocks_)]],.row 2 [[.d (.int .i64 F.params_),.d (dBlockS F.blocks_)]],.row 5 [[.d (.int .i64 b.params_),.d (dInstS b.insts_),.d (.int .i64 b.end_),.d (.int .i64 b.value_),.d (dJumpS b.jumps_)]],.row 5 [[.d (.int .i64 b.params_),.d (dInstS b.insts_),.d (.int .i64 b.end_),.d (.int .i64 b.value_),.d (dJumpS b.jumps_)]]]) (fun j=>j≤b.jumps_.length) (fun j=>b.jumps_.length - j) 0 ?_ ?_ ?_
      · simp
      · simp
      intro k hk
      have wk:k < b.jumps_.length→IntKind.i64.wrap ((k:Int) + 1)=((k + 1:Nat):Int):=fun h=>by rw [wrap_id] <;> omega
      by_cases hkl:k < b.jumps_.length
      · obtain ⟨x,hxe⟩:∃ x,x=b.jumps_[k]?.getD default:=⟨_,rfl⟩
        have hx0:=hxe.symm
        have hx1:∀ h:k < b.jumps_.length,b.jumps_[k]=x:=fun h=>by rw [hxe,List.getElem?_eq_getElem h];rfl
        have hxa:x.args_.length≤1000:=s4 x (by rw [hxe,List.getElem?_eq_getElem hkl];exact List.getElem_mem hkl)
        refine W_run mixed ⟨[K_67,K_29],[K_67h,K_29h],[],130,0,[0,1,2,3,4,5,6,7,8,9,23,25,26,27,28,73,76,77,78,91,95,96,97,127],[15,23,28,42,49,56,65,73,78,91,97,112,127]⟩ (fun | 12=>[0,2,5,7,1,3,4,6,8,9,10,11] | 18=>[0,2,6,8,1,3,4,5,7,9,10,11,12,13,14,16,20,22,15,17,18,19,21,23,24,25,26,27,28] | _=>[]) (by kernel_rfl) ?_
        simp only [stripX,stripOps,pickOps]
        simp [K_67_f,K_67_e,K_29_f,K_29_e,K_67h_f,K_67h_e,K_29h_f,K_29h_e,K_67h_g,K_29h_g,hkl,hx0,hx1,hxa]
        exact ⟨k + 1,by omega,by omega,wk hkl⟩
      · refine W_run mixed ⟨[K_67,K_29],[K_67h,K_29h],[],130,0,[0,1,2,3,4,5,6,7,8,9,23,25,26,27,28,73,76,77,78,91,95,96,97,127],[15,23,28,42,49,56,65,73,78,91,97,112,127]⟩ (fun | 12=>[0,2,5,7,1,3,4,6,8,9,10,11] | 18=>[0,2,6,8,1,3,4,5,7,9,10,11,12,13,14,16,20,22,15,17,18,19,21,23,24,25,26,27,28] | _=>[]) (by kernel_rfl) ?_
        simp only [stripX,stripOps,pickOps]
        simp [K_67_f,K_67_e,K_29_f,K_29_e,K_67h_f,K_67h_e,K_29h_f,K_29h_e,K_67h_g,K_29h_g,hkl]
        exact ⟨i + 1,by omega,by omega,wi⟩
  · refine W_run mixed ⟨[K_67,K_29],[K_67h,K_29h],[],130,0,[0,1,2,3,4,5,6,7,8,9,23,25,26,27,28,73,76,77,78,91,95,96,97,127],[15,23,28,42,49,56,65,73,78,91,97,112,127]⟩ (fun | 12=>[0,2,5,7,1,3,4,6,8,9,10,11] | 18=>[0,2,6,8,1,3,4,5,7,9,10,11,12,13,14,16,20,22,15,17,18,19,21,23,24,25,26,27,28] | _=>[]) (by kernel_rfl) ?_
    simp only [stripX,stripOps,pickOps]
    simp [K_67_f,K_67_e,K_29_f,K_29_e,K_67h_f,K_67h_e,K_29h_f,K_29h_e,K_67h_g,K_29h_g,hil]
noncomputable def K_20:Ent Tryz.prog:=Ent.p2 (α:=Func) (β:=Func) 20 (fun F G=>F=G∧shortF F) (fun F G=>.d (.bool true)) (fun F G hc=>hc.1 ▸ sameFunc_c F hc.2)
theorem K_20_f:K_20.f=20:=rfl
theorem K_20_e (F0:Int) (F1:List Block) (G0:Int) (G1:List Block):K_20.e [.agg [.d (.int .i64 F0),.d (dBlockS F1)],.agg [.d (.int .i64 G0),.d (dBlockS G1)]]=some ((Func.mk F0 F1)=(Func.mk G0 G1)∧shortF (Func.mk F0 F1),.d (.bool true),[]):=by unfold K_20;exact Ent.p2_eq (α:=Func) (β:=Func) (Func.mk F0 F1) (Func.mk G0 G1)
noncomputable def K_20h:EntH Tryz.prog:=EntH.pk2 (α:=Func) (β:=Func) 20 (fun F G=>F=G∧shortF F) (fun F G=>.d (.bool true)) (fun F G=>[]) (fun F G hc=>PureP.ans (hc.1 ▸ sameFunc_c F hc.2))
theorem K_20h_f:K_20h.f=20:=rfl
theorem K_20h_g:K_20h.gro=true:=rfl
theorem K_20h_e {x1 x2:V} {H:Heap}:K_20h.e [x1,x2] H=guardR ((decA (α:=Func) H x1).1∧(decA (α:=Func) H x2).1) (peekR ((decA (α:=Func) H x1).2=(decA (α:=Func) H x2).2∧shortF (decA (α:=Func) H x1).2) (.d (.bool true)) ([]) H):=rfl
end Go.Proofs.YtnomiclfiijniaaGreat
