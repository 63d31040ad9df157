/- AheadOf of the reference, closed. No condition. -/
import Derived.Test.YthafdegfjadijaaGreatQS23
import Derived.Test.YthafdegfjadijaaGreatQS41
import Derived.Test.YthafdegfjadijaaGreatQS111
import Derived.Test.YthafdegfjadijaaGreatQS139
import Derived.Test.YthafdegfjadijaaGreatQS66
section
namespace Go.Proofs.YthafdegfjadijaaGreat
set_option maxRecDepth 100000
set_option linter.unusedSimpArgs false
set_option linter.unusedVariables false
end Go.Proofs.YthafdegfjadijaaGreat
end

section
namespace Go.Proofs.YthafdegfjadijaaGreat
set_option maxRecDepth 100000
set_option linter.unusedSimpArgs false
set_option linter.unusedVariables false
end Go.Proofs.YthafdegfjadijaaGreat
end

section
namespace Go.Proofs.YthafdegfjadijaaGreat
set_option maxRecDepth 100000
set_option linter.unusedSimpArgs false
set_option linter.unusedVariables false
structure FE (A:AFunc) (F:Func) (H0:Heap) (m l:List ABlock) (k:Int) (H:Heap):Prop where
  own:Own H (⟨A.blocks_.v,m++l⟩:AS ABlock)
  left:l=A.blocks_.l.drop m.length
  sol:∀ b∈m++l,solB b
  era:m.map Tr.era=(F.blocks_.take m.length).map (foldB F)
  cnt:k=((F.blocks_.take m.length).map (foldK F)).sum
  ids:∀ j∈ids (⟨A.blocks_.v,m++l⟩:AS ABlock),j∈ids A.blocks_∨H0.length≤j
  only:Only (Go.Proofs.YthafdegfjadijaaGreat.ids A.blocks_) H0 H
  le:m.length≤A.blocks_.l.length
end Go.Proofs.YthafdegfjadijaaGreat
end

section
namespace Go.Proofs.YthafdegfjadijaaGreat
set_option maxRecDepth 100000
set_option linter.unusedSimpArgs false
set_option linter.unusedVariables false
end Go.Proofs.YthafdegfjadijaaGreat
end

section
namespace Go.Proofs.YthafdegfjadijaaGreat
set_option maxRecDepth 100000
set_option linter.unusedSimpArgs false
set_option linter.unusedVariables false
structure FS (A:CFunc) (F:Func) (H0:Heap) (m l:List CBlock) (k:Int) (H:Heap):Prop where
  own:Own H (⟨A.blocks_.v,m++l⟩:AS CBlock)
  left:l=A.blocks_.l.drop m.length
  era:m.map Tr.era=(F.blocks_.take m.length).map (foldB F)
  cnt:k=((F.blocks_.take m.length).map (foldK F)).sum
  only:Only (Go.Proofs.YthafdegfjadijaaGreat.ids A.blocks_) H0 H
  idv:A.blocks_.id∈Go.Proofs.YthafdegfjadijaaGreat.ids A.blocks_
  idl:∀ j∈Go.Proofs.YthafdegfjadijaaGreat.ids (⟨A.blocks_.v,m++l⟩:AS CBlock),j∈Go.Proofs.YthafdegfjadijaaGreat.ids A.blocks_∨H0.length≤j
  le:m.length≤A.blocks_.l.length
end Go.Proofs.YthafdegfjadijaaGreat
end

section
namespace Go.Proofs.YthafdegfjadijaaGreat
set_option maxRecDepth 100000
set_option linter.unusedSimpArgs false
set_option linter.unusedVariables false
end Go.Proofs.YthafdegfjadijaaGreat
end

section
namespace Go.Proofs.YthafdegfjadijaaGreat
set_option maxRecDepth 100000
set_option linter.unusedSimpArgs false
set_option linter.unusedVariables false
end Go.Proofs.YthafdegfjadijaaGreat
end

section
namespace Go.Proofs.YthafdegfjadijaaGreat
set_option maxRecDepth 100000
set_option linter.unusedSimpArgs false
set_option linter.unusedVariables false
theorem ahP_next {F:Func} {k:Int} {j:Nat}:hasL (nextS F j) k=ahP F k j:=by
  unfold ahP hasL
  refine decide_eq_decide.2 ?_
  rw [mem_nextS,nextL_get,Int.toNat_natCast]
set_option maxHeartbeats 4000000 in
theorem aheadS_own (F : Func) (k : Int) (hg : goodF F = true) : CallsD Tryz.prog 50 [vFunc F, .d (.int .i64 k)] [] fun r H' => Gr 0 (numsOf (ahP F k) F.blocks_.length) r H' := by
  obtain ⟨hv1,hn1,hp1⟩:=good_flow hg
  have hv8:=hv1.1
  refine calls_of Tryz.func50 en_50 rfl (of_decide_eq_true rfl) (W_run mixed ⟨[K_48,K_53],[K_48h,K_53h],[],24,0,[0,1,2,4,5,6,9,10,11,17],[11,17]⟩ (fun _=>[]) (by kernel_rfl) ?_)
  simp only [Tryz.f50,stripX,stripOps,pickOps]
  simp [K_48_f,K_48_e,K_53_f,K_53_e,K_48h_f,K_48h_e,K_53h_f,K_53h_e,K_48h_g,K_53h_g,-V.flat,-V.one,one_int,one_bool,one_str,one_nilp,one_rp,one_nilsl,one_ro,one_cl,one_nilf,one_nili,one_ifc,one_ptr,one_sl,one_clo,flat_d,flat_ptr,flat_sl,flat_clo,flat_agg,retQ]
  refine W_loopH (α:=Nat × V × Heap) (fun a=>[(1,.d (.int .i64 k)),(2,.ptr 0 2 0 0),(5,a.2.1),(9,.d (.int .i64 F.blocks_.length)),(10,.d (.int .i64 a.1))]) (fun a=>a.2.2)
    (fun a=>a.1≤F.blocks_.length∧a.2.2[0]? = some (.row 2 [[.d (.int .i64 F.params_),.d (dBlockS F.blocks_)]])∧Gr 1 (numsOf (ahP F k) a.1) a.2.1 a.2.2) (fun a=>F.blocks_.length - a.1) (0,.d .nilsl,[.row 2 [[.d (.int .i64 F.params_),.d (dBlockS F.blocks_)]]]) ?_ ⟨Nat.zero_le _,rfl,.inl ⟨by simp [numsOf],rfl⟩⟩ ?_
  · simp
  rintro ⟨i,v,G⟩ ⟨hi,h0,hr⟩
  dsimp only at hi h0 hr
  have l0:=(List.getElem?_eq_some_iff.1 h0).1
  have hnl:=numsOf_len (ahP F k) i
  by_cases h:i < F.blocks_.length
  · have hs:=numsOf_succ (ahP F k) i
    have hnx:(nextS F i).length≤1000:=by
      have h1:=foldl_len (tos (F.blocks_[(i:Int).toNat]?.getD default)) []
      have h2:=(okNext_get hn1 i).1
      rw [nextL_get] at h2
      unfold nextS
      simp only [Int.toNat_natCast,List.length_nil] at h1 ⊢
      omega
    have wi:IntKind.i64.wrap ((i:Int) + 1)=((i + 1:Nat):Int):=by rw [wrap_id] <;> omega
    obtain ⟨m,hm⟩:∃ m,m=numsOf (ahP F k) i:=⟨_,rfl⟩
    rw [← hm] at hs hr hnl
    have hp:=ahP_next (F:=F) (k:=k) (j:=i)
    cases hx:ahP F k i with
    | true =>
      rw [hx,if_pos rfl] at hs
      rw [hx] at hp
      rcases hr with ⟨rfl,rfl⟩ | ⟨id,rfl,hpos,hid,hr⟩
      · refine W_run mixed ⟨[K_48,K_53],[K_48h,K_53h],[],24,0,[0,1,2,4,5,6,9,10,11,17],[11,17]⟩ (fun _=>[]) (by kernel_rfl) ?_
        simp only [stripX,stripOps,pickOps]
        simp [K_48_f,K_48_e,K_53_f,K_53_e,K_48h_f,K_48h_e,K_53h_f,K_53h_e,K_48h_g,K_53h_g,-V.flat,-V.one,one_int,one_bool,one_str,one_nilp,one_rp,one_nilsl,one_ro,one_cl,one_nilf,one_nili,one_ifc,one_ptr,one_sl,one_clo,flat_d,flat_ptr,flat_sl,flat_clo,flat_agg,h,h0,hv1,hnx,hp,wi]
        exact ⟨i + 1,_,_,⟨by omega,(List.getElem?_append_left l0).trans h0,by rw [hs];exact Gr.new (by omega) (by simp) (by simp) (by simp [rI])⟩,by omega,rfl,rfl,by omega⟩
      · have hidl:=(List.getElem?_eq_some_iff.1 hr).1
        have hr':∀ R:Heap,(G++R)[id]? = some (.row 1 (rI m)):=fun R=>(List.getElem?_append_left hidl).trans hr
        have hset:∀ (R:Heap) p,(G++R).set id p=G.set id p++R:=fun R p=>List.set_append_left _ _ hidl
        refine W_run mixed ⟨[K_48,K_53],[K_48h,K_53h],[],24,0,[0,1,2,4,5,6,9,10,11,17],[11,17]⟩ (fun _=>[]) (by kernel_rfl) ?_
        simp only [stripX,stripOps,pickOps]
        simp [K_48_f,K_48_e,K_53_f,K_53_e,K_48h_f,K_48h_e,K_53h_f,K_53h_e,K_48h_g,K_53h_g,-V.flat,-V.one,one_int,one_bool,one_str,one_nilp,one_rp,one_nilsl,one_ro,one_cl,one_nilf,one_nili,one_ifc,one_ptr,one_sl,one_clo,flat_d,flat_ptr,flat_sl,flat_clo,flat_agg,h,h0,hv1,hnx,hp,hr',hset,wi]
        exact ⟨⟨by omega,by omega⟩,i + 1,_,_,⟨by omega,(List.getElem?_append_left (by simpa using l0)).trans ((List.getElem?_set_ne (by omega)).trans h0),by rw [hs];exact Gr.new2 (by omega) (by simp) (by simp) (by simp [rI])⟩,by omega,rfl,rfl,by omega⟩
    | false =>
      rw [hx,if_neg (by decide),List.append_nil] at hs
      rw [hx] at hp
      refine W_run mixed ⟨[K_48,K_53],[K_48h,K_53h],[],24,0,[0,1,2,4,5,6,9,10,11,17],[11,17]⟩ (fun _=>[]) (by kernel_rfl) ?_
      simp only [stripX,stripOps,pickOps]
      simp [K_48_f,K_48_e,K_53_f,K_53_e,K_48h_f,K_48h_e,K_53h_f,K_53h_e,K_48h_g,K_53h_g,-V.flat,-V.one,one_int,one_bool,one_str,one_nilp,one_rp,one_nilsl,one_ro,one_cl,one_nilf,one_nili,one_ifc,one_ptr,one_sl,one_clo,flat_d,flat_ptr,flat_sl,flat_clo,flat_agg,h,h0,hv1,hnx,hp,wi]
      exact ⟨i + 1,_,_,⟨by omega,h0,by rw [hs];exact hr⟩,by omega,rfl,rfl,by omega⟩
  · have he:i=F.blocks_.length:=by omega
    subst he
    refine W_run mixed ⟨[K_48,K_53],[K_48h,K_53h],[],24,0,[0,1,2,4,5,6,9,10,11,17],[11,17]⟩ (fun _=>[]) (by kernel_rfl) ?_
    simp only [stripX,stripOps,pickOps]
    simp [K_48_f,K_48_e,K_53_f,K_53_e,K_48h_f,K_48h_e,K_53h_f,K_53h_e,K_48h_g,K_53h_g,-V.flat,-V.one,one_int,one_bool,one_str,one_nilp,one_rp,one_nilsl,one_ro,one_cl,one_nilf,one_nili,one_ifc,one_ptr,one_sl,one_clo,flat_d,flat_ptr,flat_sl,flat_clo,flat_agg,h,retQ]
    refine ⟨_,_,Fin.same (Nat.zero_le _), ?_⟩
    rcases hr with h | ⟨id,h1,h2,_,h3⟩
    · exact .inl h
    · exact .inr ⟨id,h1,h2,Nat.zero_le _,h3⟩
theorem aheadS0_c (F:Func) (k:Int) (hg:goodF F=true):PureP Tryz.prog 50 [vFunc F,.d (.int .i64 k)] (· = .d (dIntS (numsOf (ahP F k) F.blocks_.length))):=by
  refine PureP.of_own ((aheadS_own F k hg).mono ?_)
  rintro r H' h
  rcases h with ⟨h1,rfl⟩ | ⟨id,rfl,_,_,h3⟩
  · rw [h1];exact Rd1.nilL
  · have:=Rd1.slice (own_row h3)
    have e2:Tr.era (⟨.sl id 1 0 (numsOf (ahP F k) F.blocks_.length).length,numsOf (ahP F k) F.blocks_.length⟩:AS Int)=numsOf (ahP F k) F.blocks_.length:=era_ints _
    rw [e2] at this
    exact this
noncomputable def K_50:Ent Tryz.prog:=Ent.p2 (α:=Func) (β:=Int) 50 (fun F k=>goodF F=true) (fun F k=>.d (dIntS (numsOf (ahP F k) F.blocks_.length))) (fun F k hc=>aheadS0_c F k hc)
theorem K_50_f:K_50.f=50:=rfl
theorem K_50_e (F0:Int) (F1:List Block) (k:Int):K_50.e [.agg [.d (.int .i64 F0),.d (dBlockS F1)],.d (.int .i64 k)]=some (goodF (Func.mk F0 F1)=true,.d (dIntS (numsOf (ahP (Func.mk F0 F1) k) (Func.mk F0 F1).blocks_.length)),[]):=by unfold K_50;exact Ent.p2_eq (α:=Func) (β:=Int) (Func.mk F0 F1) k
noncomputable def K_50h:EntH Tryz.prog:=EntH.pk2 (α:=Func) (β:=Int) 50 (fun F k=>goodF F=true) (fun F k=>.d (dIntS (numsOf (ahP F k) F.blocks_.length))) (fun F k=>[]) (fun F k hc=>PureP.ans (aheadS0_c F k hc))
theorem K_50h_f:K_50h.f=50:=rfl
theorem K_50h_g:K_50h.gro=true:=rfl
theorem K_50h_e {x1 x2:V} {H:Heap}:K_50h.e [x1,x2] H=guardR ((decA (α:=Func) H x1).1∧(decA (α:=Int) H x2).1) (peekR (goodF (decA (α:=Func) H x1).2=true) (.d (dIntS (numsOf (ahP (decA (α:=Func) H x1).2 (decA (α:=Int) H x2).2) (decA (α:=Func) H x1).2.blocks_.length))) ([]) H):=rfl
theorem aheadS_c (F:Func) (k:Int) (hF:Enc.good F):PureP Tryz.prog 19 [vFunc F,.d (.int .i64 k)] (· = ahR F k):=by
  cases hb:isBlk F k with
  | false =>
    have h:PureP Tryz.prog 19 [vFunc F,.d (.int .i64 k)] (· = .tup [.d .nilsl,.d (.bool false)]):=by
      refine pure_of Tryz.func19 en_19 rfl rfl (W_run mixed ⟨[K_47,K_50],[K_47h,K_50h],[],13,0,[0,1,2,4,5,9],[9]⟩ (fun _=>[]) (by kernel_rfl) ?_)
      simp only [Tryz.f19,stripX,stripOps,pickOps]
      simp [K_47_f,K_47_e,K_50_f,K_50_e,K_47h_f,K_47h_e,K_50h_f,K_50h_e,K_47h_g,K_50h_g,hF,hb]
    refine PureP.of_own (h.ans.mono ?_)
    rintro r H' ⟨rfl,rfl⟩
    simp only [ahR,ahV,hb]
    exact Rd1.tup ⟨Rd1.nilL,Rd1.d,trivial⟩
  | true =>
    obtain ⟨hg,h0,h1⟩:=isBlk_n hF hb
    refine pure_of Tryz.func19 en_19 rfl rfl (W_run mixed ⟨[K_47,K_50],[K_47h,K_50h],[],13,0,[0,1,2,4,5,9],[9]⟩ (fun _=>[]) (by kernel_rfl) ?_)
    simp only [Tryz.f19,stripX,stripOps,pickOps]
    simp [K_47_f,K_47_e,K_50_f,K_50_e,K_47h_f,K_47h_e,K_50h_f,K_50h_e,K_47h_g,K_50h_g,hF,hb,hg]
    simp [ahR,ahV,hb]
noncomputable def K_19:Ent Tryz.prog:=Ent.p2 (α:=Func) (β:=Int) 19 (fun F k=>Enc.good F) (fun F k=>ahR F k) (fun F k hc=>aheadS_c F k hc)
theorem K_19_f:K_19.f=19:=rfl
theorem K_19_e (F0:Int) (F1:List Block) (k:Int):K_19.e [.agg [.d (.int .i64 F0),.d (dBlockS F1)],.d (.int .i64 k)]=some (Enc.good (Func.mk F0 F1),ahR (Func.mk F0 F1) k,[]):=by unfold K_19;exact Ent.p2_eq (α:=Func) (β:=Int) (Func.mk F0 F1) k
noncomputable def K_19h:EntH Tryz.prog:=EntH.pk2 (α:=Func) (β:=Int) 19 (fun F k=>Enc.good F) (fun F k=>ahR F k) (fun F k=>[]) (fun F k hc=>PureP.ans (aheadS_c F k hc))
theorem K_19h_f:K_19h.f=19:=rfl
theorem K_19h_g:K_19h.gro=true:=rfl
theorem K_19h_e {x1 x2:V} {H:Heap}:K_19h.e [x1,x2] H=guardR ((decA (α:=Func) H x1).1∧(decA (α:=Int) H x2).1) (peekR (Enc.good (decA (α:=Func) H x1).2) (ahR (decA (α:=Func) H x1).2 (decA (α:=Int) H x2).2) ([]) H):=rfl
end Go.Proofs.YthafdegfjadijaaGreat
end
