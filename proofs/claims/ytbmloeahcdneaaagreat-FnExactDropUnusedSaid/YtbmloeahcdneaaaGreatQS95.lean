/- The law DropUnused. No condition. -/
import Derived.Test.YtbmloeahcdneaaaGreatRows
import Derived.Test.YtbmloeahcdneaaaGreatQS9
import Derived.Test.YtbmloeahcdneaaaGreatQS61
import Derived.Test.YtbmloeahcdneaaaGreatQS90
import Derived.Test.YtbmloeahcdneaaaGreatQS94
import Derived.Test.YtbmloeahcdneaaaGreatQS36
namespace Go.Proofs.YtbmloeahcdneaaaGreat
set_option maxRecDepth 100000
set_option linter.unusedSimpArgs false
set_option linter.unusedVariables false
theorem imDropUnused_own (H:Heap) (F:Func) (hF:Enc.good F):CallsD Tryz.prog 28 [vFunc F] H fun r H'=>∃ A:AFunc,r=.tup [.agg (Tr.cells A),.d (.int .i64 (paK duK F)),.d (.bool (soundF F))]∧Tr.era A=paF duG F∧New H H' A:=by
  refine calls_of Tryz.func28 en_28 rfl (of_decide_eq_true rfl) (W_run mixed ⟨[],[],[54,61],10,H.length,[0,1,2,3,4],[]⟩ (fun _=>[]) (by kernel_rfl) ?_)
  simp only [Tryz.f28,stripX,stripOps,pickOps]
  simp [-V.flat,-V.one,one_int,one_bool,one_str,one_nilp,one_rp,one_nilsl,one_ro,one_cl,one_nilf,one_nili,one_ifc,one_ptr,one_sl,one_clo,flat_d,flat_ptr,flat_sl,flat_clo,flat_agg,hF,retQ]
  refine (passed_own dropUnused_pass (by decide) _ F hF).mono ?_
  rintro r H1 ⟨A,rfl,hA,hn⟩
  have hfl:=hn.own.ok.1.flat
  have hone:=hn.own.ok.1.scl.2
  have hge:∀ j∈ids A,H.length + 2≤j:=fun j hj=>by have:=hn.fresh j hj;simp at this;omega
  have hl:=hn.only.len
  simp only [List.length_append,List.length_cons,List.length_nil] at hl
  have k6:H1[H.length + 1]? = some (.row 2 [[.d (.int .i64 0),.d .nilsl]]):=(hn.only.at_ _ (by simp) List.not_mem_nil).trans (by simp)
  have s6:∀ p,(H1.set (H.length + 1) p)[H.length + 1]? = some p:=fun p=>List.getElem?_set_self (by omega)
  simp [-V.flat,-V.one,one_int,one_bool,one_str,one_nilp,one_rp,one_nilsl,one_ro,one_cl,one_nilf,one_nili,one_ifc,one_ptr,one_sl,one_clo,flat_d,flat_ptr,flat_sl,flat_clo,flat_agg,hfl,hone,k6,s6,retQ]
  refine fin_new (a:=A) (hn.own.frame (S:=[H.length + 1]) Only.set fun j hj q=>by have:=hge j hj;simp at q;omega) ⟨by simp;omega,fun j hj _=>?_⟩ (fun j hj=>by have:=hge j hj;omega) fun H' h'=>⟨A,rfl,hA,h'⟩
  rw [List.getElem?_set_ne (by omega)]
  exact (hn.only.at_ j (by simp;omega) List.not_mem_nil).trans (List.getElem?_append_left hj)
theorem spDropUnused_c (F:Func) (hF:Enc.good F):PureP Tryz.prog 27 [vFunc F] (· = .tup [vFunc (paF duG F),.d (.int .i64 (paK duK F)),.d (.bool (soundF F))]):=by
  cases hs:soundF F with
  | false =>
    have e1:paK duK F=0:=by simp [paK,hs]
    have e2:paF duG F=⟨0,[]⟩:=by simp [paF,hs]
    refine PureP.le (pure_of Tryz.func27 en_27 rfl rfl (W_run mixed ⟨[K_42,K_60],[K_42h,K_60h],[],18,0,[0,1,2,3,4,5,6,9],[9]⟩ (fun _=>[]) (by kernel_rfl) ?_))
    simp only [Tryz.f27,stripX,stripOps,pickOps]
    simp [K_42_f,K_42_e,K_60_f,K_60_e,K_42h_f,K_42h_e,K_60h_f,K_60h_e,K_42h_g,K_60h_g,hF,hs]
    simp [e1,e2,VLe,VLes,DLe]
  | true =>
    have hg:=sound_good hs
    have e1:paK duK F=duK F:=by simp [paK,hs]
    have e2:paF duG F=duG F:=by simp [paF,hs]
    refine pure_of Tryz.func27 en_27 rfl rfl (W_run mixed ⟨[K_42,K_60],[K_42h,K_60h],[],18,0,[0,1,2,3,4,5,6,9],[9]⟩ (fun _=>[]) (by kernel_rfl) ?_)
    simp only [Tryz.f27,stripX,stripOps,pickOps]
    simp [K_42_f,K_42_e,K_60_f,K_60_e,K_42h_f,K_42h_e,K_60h_f,K_60h_e,K_42h_g,K_60h_g,hF,hs,hg,e1,e2]
noncomputable def K_27:Ent Tryz.prog:=Ent.p1 (α:=Func) 27 (fun F=>Enc.good F) (fun F=>.tup [vFunc (paF duG F),.d (.int .i64 (paK duK F)),.d (.bool (soundF F))]) (fun F hc=>spDropUnused_c F hc)
theorem K_27_f:K_27.f=27:=rfl
theorem K_27_e (F0:Int) (F1:List Block):K_27.e [.agg [.d (.int .i64 F0),.d (dBlockS F1)]]=some (Enc.good (Func.mk F0 F1),.tup [vFunc (paF duG (Func.mk F0 F1)),.d (.int .i64 (paK duK (Func.mk F0 F1))),.d (.bool (soundF (Func.mk F0 F1)))],[]):=by unfold K_27;exact Ent.p1_eq (α:=Func) (Func.mk F0 F1)
noncomputable def K_27h:EntH Tryz.prog:=EntH.pk1 (α:=Func) 27 (fun F=>Enc.good F) (fun F=>.tup [vFunc (paF duG F),.d (.int .i64 (paK duK F)),.d (.bool (soundF F))]) (fun F=>[]) (fun F hc=>PureP.ans (spDropUnused_c F hc))
theorem K_27h_f:K_27h.f=27:=rfl
theorem K_27h_g:K_27h.gro=true:=rfl
theorem K_27h_e {x1:V} {H:Heap}:K_27h.e [x1] H=guardR ((decA (α:=Func) H x1).1) (peekR (Enc.good (decA (α:=Func) H x1).2) (.tup [vFunc (paF duG (decA (α:=Func) H x1).2),.d (.int .i64 (paK duK (decA (α:=Func) H x1).2)),.d (.bool (soundF (decA (α:=Func) H x1).2))]) ([]) H):=rfl
theorem law_DropUnused (F:Func) (hF:Enc.good F):PureP Tryz.prog 7 [vFunc F] (· = .d (.bool true)):=by
  by_cases hw:szFunc F 1048576 < 0
  · refine pure_of Tryz.func7 en_7 rfl rfl (W_run mixed ⟨[K_14,K_16,K_27,K_18,K_20],[K_14h,K_16h,K_27h,K_18h,K_20h],[28,19],117,0,[0,1,2,3,4,5,6,7,8,9,10,11,12,13,14,15,16,21,50,55,76,84,87,108,113,116],[21,41,46,50,55,61,67,72,76,84,87,99,104,108,113,116]⟩ (fun | 10=>[0,1,2,3,4] | _=>[]) (by kernel_rfl) ?_)
    simp only [Tryz.f7,stripX,stripOps,pickOps]
    simp [K_14_f,K_14_e,K_16_f,K_16_e,K_27_f,K_27_e,K_18_f,K_18_e,K_20_f,K_20_e,K_14h_f,K_14h_e,K_16h_f,K_16h_e,K_27h_f,K_27h_e,K_18h_f,K_18h_e,K_20h_f,K_20h_e,K_14h_g,K_16h_g,K_27h_g,K_18h_g,K_20h_g,hF,hw]
  have hs:Sm.sm F:=(szok_Func F 1048576 hF (by decide) (by decide) (by omega)).1
  generalize hW:paF duG F=W
  have hsW:Sm.sm W:=hW ▸ sm_paF (fun F h _=>sm_good (duG_good _ _ _ h)) hs
  refine pure_of Tryz.func7 en_7 rfl rfl (W_runCut mixed 5 ⟨[K_14,K_16,K_27,K_18,K_20],[K_14h,K_16h,K_27h,K_18h,K_20h],[28,19],117,0,[0,1,2,3,4,5,6,7,8,9,10,11,12,13,14,15,16,21,50,55,76,84,87,108,113,116],[21,41,46,50,55,61,67,72,76,84,87,99,104,108,113,116]⟩ (fun | 10=>[0,1,2,3,4] | _=>[]) (by kernel_rfl) ?_)
  simp only [Tryz.f7,stripCut,stripX,stripOps,pickOps]
  simp [K_14_f,K_14_e,K_16_f,K_16_e,K_27_f,K_27_e,K_18_f,K_18_e,K_20_f,K_20_e,K_14h_f,K_14h_e,K_16h_f,K_16h_e,K_27h_f,K_27h_e,K_18h_f,K_18h_e,K_20h_f,K_20h_e,K_14h_g,K_16h_g,K_27h_g,K_18h_g,K_20h_g,hF,hs,hw,hW]
  refine W_runCut mixed 1 ⟨[K_14,K_27,K_18,K_20],[K_14h,K_27h,K_18h,K_20h],[16,28,19],117,0,[0,1,2,3,4,5,6,7,8,9,10,11,12,13,14,15,16,21,50,55,76,84,87,108,113,116],[21,41,46,50,55,61,67,72,76,84,87,99,104,108,113,116]⟩ (fun | 10=>[0,1,2,3,4] | _=>[]) (by kernel_rfl) ?_
  simp only [stripCut,stripX,stripOps,pickOps]
  simp [K_14_f,K_14_e,K_27_f,K_27_e,K_18_f,K_18_e,K_20_f,K_20_e,K_14h_f,K_14h_e,K_27h_f,K_27h_e,K_18h_f,K_18h_e,K_20h_f,K_20h_e,K_14h_g,K_27h_g,K_18h_g,K_20h_g,hF,hs]
  refine (toFunc_own _ F hs).mono ?_
  rintro r H1 ⟨A,rfl,⟨hAv,hA⟩,hn1⟩
  have eA:A.params_=F.params_:=congrArg Func.params_ hA
  have g0:H1[0]? = some (.row 2 [[.d (.int .i64 F.params_),.d (dBlockS F.blocks_)]]):=hn1.only.at_ 0 (by simp) List.not_mem_nil
  have g1:H1[1]? = some (.row 2 [[.d (.int .i64 W.params_),.d (dBlockS W.blocks_)]]):=hn1.only.at_ 1 (by simp) List.not_mem_nil
  have hfl:=hn1.own.ok.1.flat
  have hon1:=hn1.own.ok.1.scl.2
  simp [K_14_f,K_14_e,K_27_f,K_27_e,K_18_f,K_18_e,K_20_f,K_20_e,K_14h_f,K_14h_e,K_27h_f,K_27h_e,K_18h_f,K_18h_e,K_20h_f,K_20h_e,K_14h_g,K_27h_g,K_18h_g,K_20h_g,-V.flat,-V.one,one_int,one_bool,one_str,one_nilp,one_rp,one_nilsl,one_ro,one_cl,one_nilf,one_nili,one_ifc,one_ptr,one_sl,one_clo,flat_d,flat_ptr,flat_sl,flat_clo,flat_agg,hfl,hon1]
  have ho1:Own (H1++[.row 2 [[.d (.int .i64 A.params_),A.blocks_.v]]]) A:=hn1.own.frame (Only.app [] _ _) fun j _ hj=>absurd hj List.not_mem_nil
  refine W_run mixed ⟨[K_14,K_16,K_27],[K_14h,K_16h,K_27h,K_18h,K_20h],[28,1000018,19],117,0,[0,1,2,3,4,5,6,7,8,9,10,11,12,13,14,15,16,21,50,55,76,84,87,108,113,116],[21,41,46,50,55,61,67,72,76,84,87,99,104,108,113,116]⟩ (fun | 10=>[0,1,2,3,4] | _=>[]) (by kernel_rfl) ?_
  simp only [stripX,stripOps,pickOps]
  simp [K_14_f,K_14_e,K_16_f,K_16_e,K_27_f,K_27_e,K_14h_f,K_14h_e,K_16h_f,K_16h_e,K_27h_f,K_27h_e,K_18h_f,K_18h_e,K_20h_f,K_20h_e,K_14h_g,K_16h_g,K_27h_g,K_18h_g,K_20h_g,-V.flat,-V.one,one_int,one_bool,one_str,one_nilp,one_rp,one_nilsl,one_ro,one_cl,one_nilf,one_nili,one_ifc,one_ptr,one_sl,one_clo,flat_d,flat_ptr,flat_sl,flat_clo,flat_agg,hF,hs,hAv]
  rw [hAv] at ho1
  have hl1:2≤H1.length:=hn1.only.len
  have hrd:Reads1 (H1++[.row 2 [[.d (.int .i64 A.params_),.sl A.blocks_.id 5 0 F.blocks_.length]]]) [.agg [.d (.int .i64 A.params_),.sl A.blocks_.id 5 0 F.blocks_.length]] [vFunc F]:=by
    have:=Rd1.aggs ho1 rfl
    rw [cells_AFunc,hAv,hA] at this
    exact Rd1.list ⟨this,trivial⟩
  refine (CallsD.peekN (T:=fun r (B:AFunc)=>r=.tup [.agg (Tr.cells B),.d (.int .i64 (paK duK F)),.d (.bool (soundF F))]∧Tr.era B=W) ((imDropUnused_own (deads _) F hF).mono fun r H' ⟨B,q1,q2,q3⟩=>⟨B,⟨q1,q2.trans hW⟩,q3⟩) hrd ?_).mono ?_
  · rintro r B hok ⟨rfl,_⟩
    have hc:sclL2 (Tr.cells B)=true:=(TrS.scl B hok).1
    show ((V.agg (Tr.cells B)).scl2 && (true && (true && true)))=true
    rw [show (V.agg (Tr.cells B)).scl2=sclL2 (Tr.cells B) from rfl,hc];rfl
  rintro r H2 ⟨B,⟨rfl,hB⟩,hn2⟩
  have bfl:=hn2.own.ok.1.flat
  have bon:=hn2.own.ok.1.scl.2
  have l2:H1.length + 1≤H2.length:=by have:=hn2.only.len;simp at this;omega
  have dF:∀ G:Heap,decA (α:=Func) G (.agg [.d (.int .i64 F.params_),.d (dBlockS F.blocks_)])=(True,F):=fun G=>Prod.ext (eq_true ⟨rfl,trivial,of_eq_true (congrArg Prod.fst (dec_ro (α:=Block) (H:=G) (l:=F.blocks_)))⟩) (congrArg (Func.mk F.params_) (congrArg Prod.snd (dec_ro (α:=Block) (H:=G) (l:=F.blocks_))))
  have dW:∀ G:Heap,decA (α:=Func) G (.agg [.d (.int .i64 W.params_),.d (dBlockS W.blocks_)])=(True,W):=fun G=>Prod.ext (eq_true ⟨rfl,trivial,of_eq_true (congrArg Prod.fst (dec_ro (α:=Block) (H:=G) (l:=W.blocks_)))⟩) (congrArg (Func.mk W.params_) (congrArg Prod.snd (dec_ro (α:=Block) (H:=G) (l:=W.blocks_))))
  have iA:∀ j∈ids A,2≤j∧j < H1.length:=fun j hj=>⟨hn1.fresh j hj,hn1.own.lt hj⟩
  have iB:∀ j∈ids B,H1.length + 1≤j∧j < H2.length:=fun j hj=>⟨by have:=hn2.fresh j hj;simp at this;omega,hn2.own.lt hj⟩
  have old2:∀ j,j < H1.length→∀ R:Heap,(H2++R)[j]? = H1[j]?:=fun j hj R=>(List.getElem?_append_left (by omega)).trans ((hn2.only.at_ j (by simp;omega) List.not_mem_nil).trans (List.getElem?_append_left hj))
  have k0:∀ R:Heap,(H2++R)[0]? = some (.row 2 [[.d (.int .i64 F.params_),.d (dBlockS F.blocks_)]]):=fun R=>(old2 0 (by omega) R).trans g0
  have k0':∀ (R:Heap) (h:0 < (H2++R).length),(H2++R)[0]=.row 2 [[.d (.int .i64 F.params_),.d (dBlockS F.blocks_)]]:=fun R h=>Option.some.inj ((List.getElem?_eq_getElem h).symm.trans (k0 R))
  have k1:∀ R:Heap,(H2++R)[1]? = some (.row 2 [[.d (.int .i64 W.params_),.d (dBlockS W.blocks_)]]):=fun R=>(old2 1 (by omega) R).trans g1
  have k8:∀ R:Heap,(H2++R)[H1.length]? = some (.row 2 [[.d (.int .i64 A.params_),.sl A.blocks_.id 5 0 F.blocks_.length]]):=fun R=>(List.getElem?_append_left (by omega)).trans ((hn2.only.at_ _ (by simp) List.not_mem_nil).trans List.getElem?_concat_length)
  have oA2:Own (H2++[.row 2 [[.d (.int .i64 B.params_),B.blocks_.v]]]) A:=(ho1.frame hn2.only fun j _ hj=>absurd hj List.not_mem_nil).frame (Only.app [] _ _) fun j _ hj=>absurd hj List.not_mem_nil
  have oB2:Own (H2++[.row 2 [[.d (.int .i64 B.params_),B.blocks_.v]]]) B:=hn2.own.frame (Only.app [] _ _) fun j _ hj=>absurd hj List.not_mem_nil
  have dA:decA (α:=Func) (H2++[.row 2 [[.d (.int .i64 B.params_),B.blocks_.v]]]) (.agg [.d (.int .i64 A.params_),.sl A.blocks_.id 5 0 F.blocks_.length])=(True,F):=by
    have:=decA_A oA2 rfl
    rw [cells_AFunc,hAv,hA] at this
    exact this
  have dB:decA (α:=Func) (H2++[.row 2 [[.d (.int .i64 B.params_),B.blocks_.v]]]) (.agg [.d (.int .i64 B.params_),B.blocks_.v])=(True,W):=by
    have:=decA_A oB2 rfl
    rw [cells_AFunc,hB] at this
    exact this
  simp [K_14_f,K_14_e,K_16_f,K_16_e,K_27_f,K_27_e,K_14h_f,K_14h_e,K_16h_f,K_16h_e,K_27h_f,K_27h_e,K_18h_f,K_18h_e,K_20h_f,K_20h_e,K_14h_g,K_16h_g,K_27h_g,K_18h_g,K_20h_g,-V.flat,-V.one,one_int,one_bool,one_str,one_nilp,one_rp,one_nilsl,one_ro,one_cl,one_nilf,one_nili,one_ifc,one_ptr,one_sl,one_clo,flat_d,flat_ptr,flat_sl,flat_clo,flat_agg,-decA,decA_int,decA_bool,decA_str,hF,hs,hsW,hAv,bfl,bon,k0',k1,k8,dA,dB,dF,dW]
  have leF:=mFunc_le hs 1
  have leW:=mFunc_le hsW 1
  have lenA:A.blocks_.l.length≤4000000000000000000:=by
    have:=small_len hs.2
    have e:=congrArg (fun q=>List.length (Func.blocks_ q)) hA
    have e2:A.blocks_.l.length=F.blocks_.length:=by rw [← e];exact (List.length_map _).symm
    omega
  have lenB:B.blocks_.l.length≤4000000000000000000:=by
    have:=small_len hsW.2
    have e:=congrArg (fun q=>List.length (Func.blocks_ q)) hB
    have e2:B.blocks_.l.length=W.blocks_.length:=by rw [← e];exact (List.length_map _).symm
    omega
  have hm:=markFunc_own _ A 1 oA2 (by decide) (by rw [hA];omega) lenA
  rw [cells_AFunc,hAv] at hm
  refine hm.mono ?_
  rintro r H3 ⟨rfl,A3,_,_,_,o3,_⟩
  have hk0:1≤(mFunc F 1).2:=mBlock_mono F.blocks_ 1
  have hk1:¬ (mFunc F 1).2 < 0:=by omega
  rw [hA]
  have l3:H2.length + 1≤H3.length:=by have:=o3.len;simp at this;omega
  have m0:H3[0]? = some (.row 2 [[.d (.int .i64 F.params_),.d (dBlockS F.blocks_)]]):=(o3.at_ 0 (by simp) fun hj=>by have:=iA 0 hj;omega).trans (k0 _)
  have m1:H3[1]? = some (.row 2 [[.d (.int .i64 W.params_),.d (dBlockS W.blocks_)]]):=(o3.at_ 1 (by simp;omega) fun hj=>by have:=iA 1 hj;omega).trans (k1 _)
  have mB:H3[H2.length]? = some (.row 2 [[.d (.int .i64 B.params_),B.blocks_.v]]):=(o3.at_ _ (by simp) fun hj=>by have:=iA _ hj;omega).trans List.getElem?_concat_length
  have oB3:Own H3 B:=oB2.frame o3 fun j hj hk=>by have:=iB j hj;have:=iA j hk;omega
  have dB3:decA (α:=Func) H3 (.agg [.d (.int .i64 B.params_),B.blocks_.v])=(True,W):=by
    have:=decA_A oB3 rfl
    rw [cells_AFunc,hB] at this
    exact this
  simp [K_14_f,K_14_e,K_16_f,K_16_e,K_27_f,K_27_e,K_14h_f,K_14h_e,K_16h_f,K_16h_e,K_27h_f,K_27h_e,K_18h_f,K_18h_e,K_20h_f,K_20h_e,K_14h_g,K_16h_g,K_27h_g,K_18h_g,K_20h_g,-V.flat,-V.one,one_int,one_bool,one_str,one_nilp,one_rp,one_nilsl,one_ro,one_cl,one_nilf,one_nili,one_ifc,one_ptr,one_sl,one_clo,flat_d,flat_ptr,flat_sl,flat_clo,flat_agg,-decA,decA_int,decA_bool,decA_str,hF,hs,hsW,bfl,bon,m0,m1,mB,dB3,dW,hk1]
  have hm2:=markFunc_own H3 B 1 oB3 (by decide) (by rw [hB];omega) lenB
  rw [cells_AFunc] at hm2
  refine hm2.mono ?_
  rintro r H4 ⟨rfl,B4,oB4,iB4,cB4,o4,eB4⟩
  rw [hB] at eB4 ⊢
  have hw0:1≤(mFunc W 1).2:=mBlock_mono W.blocks_ 1
  have hps:¬ (mFunc W 1).2 < 0:=by omega
  have hbd:(mFunc W 1).2≤4000000000000000000:=by omega
  have hid:=mFunc_idem W 1
  have l4:H3.length≤H4.length:=o4.len
  have n0:H4[0]? = some (.row 2 [[.d (.int .i64 F.params_),.d (dBlockS F.blocks_)]]):=(o4.at_ 0 (by omega) fun hj=>by have:=iB 0 hj;omega).trans m0
  have n1:H4[1]? = some (.row 2 [[.d (.int .i64 W.params_),.d (dBlockS W.blocks_)]]):=(o4.at_ 1 (by omega) fun hj=>by have:=iB 1 hj;omega).trans m1
  have nB:H4[H2.length]? = some (.row 2 [[.d (.int .i64 B.params_),B.blocks_.v]]):=(o4.at_ _ (by omega) fun hj=>by have:=iB _ hj;omega).trans mB
  have cB4':Tr.cells B4=[.d (.int .i64 B.params_),B.blocks_.v]:=cB4
  have dB4:decA (α:=Func) H4 (.agg [.d (.int .i64 B.params_),B.blocks_.v])=(True,(mFunc W 1).1):=by
    have:=decA_A oB4 rfl
    rw [cB4',eB4] at this
    exact this
  simp [K_14_f,K_14_e,K_16_f,K_16_e,K_27_f,K_27_e,K_14h_f,K_14h_e,K_16h_f,K_16h_e,K_27h_f,K_27h_e,K_18h_f,K_18h_e,K_20h_f,K_20h_e,K_14h_g,K_16h_g,K_27h_g,K_18h_g,K_20h_g,-V.flat,-V.one,one_int,one_bool,one_str,one_nilp,one_rp,one_nilsl,one_ro,one_cl,one_nilf,one_nili,one_ifc,one_ptr,one_sl,one_clo,flat_d,flat_ptr,flat_sl,flat_clo,flat_agg,-decA,decA_int,decA_bool,decA_str,hF,hs,hsW,bfl,bon,n0,n1,nB,dB4,dW,hid,hps,hbd]
  refine (imDropUnused_own H4 F hF).mono ?_
  rintro r H5 ⟨C,rfl,hC,hn5⟩
  rw [hW] at hC
  have cfl:=hn5.own.ok.1.flat
  have con:=hn5.own.ok.1.scl.2
  have old5:∀ j,j < H4.length→∀ R:Heap,(H5++R)[j]? = H4[j]?:=fun j hj R=>(List.getElem?_append_left (by have:=hn5.only.len;omega)).trans (hn5.only.at_ j hj List.not_mem_nil)
  have p1:∀ R:Heap,(H5++R)[1]? = some (.row 2 [[.d (.int .i64 W.params_),.d (dBlockS W.blocks_)]]):=fun R=>(old5 1 (by omega) R).trans n1
  have pB:∀ R:Heap,(H5++R)[H2.length]? = some (.row 2 [[.d (.int .i64 B.params_),B.blocks_.v]]):=fun R=>(old5 _ (by omega) R).trans nB
  have dC5:decA (α:=Func) (H5++[.row 2 [[.d (.int .i64 C.params_),C.blocks_.v]]]) (.agg [.d (.int .i64 C.params_),C.blocks_.v])=(True,W):=by
    have:=decA_A (hn5.own.frame (Only.app [] _ [.row 2 [[.d (.int .i64 C.params_),C.blocks_.v]]]) fun j _ hj=>absurd hj List.not_mem_nil) rfl
    rw [cells_AFunc,hC] at this
    exact this
  have dB5:decA (α:=Func) (H5++[.row 2 [[.d (.int .i64 C.params_),C.blocks_.v]]]) (.agg [.d (.int .i64 B.params_),B.blocks_.v])=(True,(mFunc W 1).1):=by
    have:=decA_A ((oB4.frame hn5.only fun j _ hj=>absurd hj List.not_mem_nil).frame (Only.app [] _ [.row 2 [[.d (.int .i64 C.params_),C.blocks_.v]]]) fun j _ hj=>absurd hj List.not_mem_nil) rfl
    rw [cB4',eB4] at this
    exact this
  simp [K_14_f,K_14_e,K_16_f,K_16_e,K_27_f,K_27_e,K_14h_f,K_14h_e,K_16h_f,K_16h_e,K_27h_f,K_27h_e,K_18h_f,K_18h_e,K_20h_f,K_20h_e,K_14h_g,K_16h_g,K_27h_g,K_18h_g,K_20h_g,-V.flat,-V.one,one_int,one_bool,one_str,one_nilp,one_rp,one_nilsl,one_ro,one_cl,one_nilf,one_nili,one_ifc,one_ptr,one_sl,one_clo,flat_d,flat_ptr,flat_sl,flat_clo,flat_agg,-decA,decA_int,decA_bool,decA_str,hF,hs,hsW,bfl,bon,cfl,con,p1,pB,dC5,dB5,dW,hid,hps,hbd]
namespace fnExactDropUnused
open Go.ChangeShapes Go.WideShapes Go.RowKit
theorem own:ownKnob Tryz.prog.godebug=none:=by kernel_rfl
theorem lifted (os:Os) (started:os.Started) (H:Type) (enc:TypeId × Value→H) :
    ReturnsInHanded {} Tryz.checked os 7 .any (Rows.fnExactDropUnusedSpec.pre6 enc Tryz.prog Tryz.f7 Rows.fnExactDropUnusedRow.domain false) (Rows.fnExactDropUnusedSpec.post enc Tryz.prog Tryz.f7 false true false false):=by
  refine returnsInHanded_of_change (C:=Tryz.checked) own started (by kernel_rfl) Tryz.func7
    (ChangeSpec.witness6 (enc:=enc) (C:=Tryz.checked) false ⟨#[],#[.agg #[.int .i64 0,.slice none 0 0]],[]⟩ 8 (by kernel_rfl) (by kernel_rfl) (by kernel_rfl) (by kernel_rfl)) ?_
  intro W base args ds gs before hval hW hcnd _
  have hW':=hW
  obtain ⟨p,q,hA,hV,_,_,_⟩:=hW
  rw [Tryz.params7] at hA hval
  obtain ⟨v0,vs0,d0,ds0,p0,q0,hargs,rfl,rfl,h0,r0⟩:=trodAll_cons hA
  obtain ⟨rfl,rfl,rfl⟩:=trodAll_nil r0
  obtain rfl:args=#[v0]:=by cases args;simp_all
  obtain ⟨F,hF,hv0⟩:=arg_of rd_Func (hval 0 24 v0 rfl rfl) h0
  obtain ⟨rfl,rfl⟩:=trodVars_none hV
  exact row_end (by kernel_rfl) (by kernel_rfl) (by kernel_rfl) Tryz.underlying4 hW' rfl rfl rfl rfl (vs:=[argV F]) (by exact ⟨v0,_,rfl,hv0,rfl⟩) (law_DropUnused F hF)
theorem over:Rows.fnExactDropUnusedRow.holds Tryz.pinned (OpenSpec.ofChange Rows.fnExactDropUnusedSpec) :=
  OpenClaim.holds_of_wide 7 Tryz.f7 rfl rfl rfl rfl rfl rfl rfl ⟨rfl,rfl,rfl,rfl,rfl⟩ rfl rfl rfl rfl rfl (by kernel_rfl) Tryz.func7 (by kernel_rfl)
    (of_decide_eq_true (by kernel_rfl)) (by unfold Func.isWrapper;first | (rw [if_pos (by decide +kernel)];kernel_rfl) | (rw [if_neg (by decide +kernel)];exact ⟨rfl,rfl⟩))
    (fun os started H enc _=>lifted os started H enc)
end fnExactDropUnused
theorem fnExactDropUnused_holds:Rows.FnExactDropUnusedSaid:=fnExactDropUnused.over
end Go.Proofs.YtbmloeahcdneaaaGreat
