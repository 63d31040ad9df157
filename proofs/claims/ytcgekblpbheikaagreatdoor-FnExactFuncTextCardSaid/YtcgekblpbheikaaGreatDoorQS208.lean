/- FuncText of both, and the law. No condition. -/
import Derived.Test.YtcgekblpbheikaaGreatDoorQS207
namespace Go.Proofs.YtcgekblpbheikaaGreatDoor
set_option maxRecDepth 100000
set_option linter.unusedSimpArgs false
set_option linter.unusedVariables false
noncomputable def K_44:Ent Tryz.prog:=Ent.p1 (α:=Func) 44 (fun F=>Enc.good F∧goodF F=true) (fun F=>.d (.str (funT F))) (fun F hc=>funcTextI_c F hc.1 hc.2)
theorem K_44_f:K_44.f=44:=rfl
theorem K_44_e (F0:Int) (F1:List Block):K_44.e [.agg [.d (.int .i64 F0),.d (dBlockS F1)]]=some (Enc.good (Func.mk F0 F1)∧goodF (Func.mk F0 F1)=true,.d (.str (funT (Func.mk F0 F1))),[]):=by unfold K_44;exact Ent.p1_eq (α:=Func) (Func.mk F0 F1)
noncomputable def K_44h:EntH Tryz.prog:=EntH.pk1 (α:=Func) 44 (fun F=>Enc.good F∧goodF F=true) (fun F=>.d (.str (funT F))) (fun F=>[]) (fun F hc=>PureP.ans (funcTextI_c F hc.1 hc.2))
theorem K_44h_f:K_44h.f=44:=rfl
theorem K_44h_g:K_44h.gro=true:=rfl
theorem K_44h_e {x1:V} {H:Heap}:K_44h.e [x1] H=guardR ((decA (α:=Func) H x1).1) (peekR (Enc.good (decA (α:=Func) H x1).2∧goodF (decA (α:=Func) H x1).2=true) (.d (.str (funT (decA (α:=Func) H x1).2))) ([]) H):=rfl
theorem funT_max {F:Func} (hF:Enc.good F) (hg:goodF F=true):(funT F).size≤4000000:=by
  obtain ⟨hp,hl,hh,hm,hc,hs0,hbo⟩:=goodF_spec hg
  have hb0:(begT F).size≤50:=by
    unfold begT
    rw [ByteArray.size_append]
    have:=one_len ⟨#[102,117,110,99]⟩ F.params_ (by decide) (good_80 (v:=F.params_) (by omega))
    show _ + 1≤_
    omega
  have:=blksT_len (begT F) F.blocks_ fun b hb=>good_ln hg hF hb
  unfold funT
  omega
theorem funcTextIm_c (F:Func) (hF:Enc.good F):PureP Tryz.prog 11 [vFunc F] (· = txR F):=by
  cases hg:goodF F with
  | false =>
    have e:=tx_f (F:=F) (by unfold txOk;rw [hg];rfl)
    refine pure_of Tryz.func11 en_11 rfl rfl (W_run mixed ⟨[K_43,K_44],[K_43h,K_44h],[],14,0,[0,1,2,3,4,7,12],[7,12]⟩ (fun _=>[]) (by kernel_rfl) ?_)
    simp only [Tryz.f11,stripX,stripOps,pickOps]
    simp [K_43_f,K_43_e,K_44_f,K_44_e,K_43h_f,K_43h_e,K_44h_f,K_44h_e,K_43h_g,K_44h_g,hF,hg,e]
  | true =>
    have hmx:=funT_max hF hg
    by_cases hl:(funT F).size≤4000
    · have e:=tx_t (F:=F) (by unfold txOk;rw [hg,decide_eq_true hl];rfl)
      have c0:((4000:Int) < (funT F).size)=False:=eq_false (by omega)
      refine pure_of Tryz.func11 en_11 rfl rfl (W_run mixed ⟨[K_43,K_44],[K_43h,K_44h],[],14,0,[0,1,2,3,4,7,12],[7,12]⟩ (fun _=>[]) (by kernel_rfl) ?_)
      simp only [Tryz.f11,stripX,stripOps,pickOps]
      simp [K_43_f,K_43_e,K_44_f,K_44_e,K_43h_f,K_43h_e,K_44h_f,K_44h_e,K_43h_g,K_44h_g,hF,hg,e,c0]
    · have e:=tx_f (F:=F) (by unfold txOk;rw [hg,decide_eq_false hl];rfl)
      have c0:((4000:Int) < (funT F).size)=True:=eq_true (by omega)
      refine pure_of Tryz.func11 en_11 rfl rfl (W_run mixed ⟨[K_43,K_44],[K_43h,K_44h],[],14,0,[0,1,2,3,4,7,12],[7,12]⟩ (fun _=>[]) (by kernel_rfl) ?_)
      simp only [Tryz.f11,stripX,stripOps,pickOps]
      simp [K_43_f,K_43_e,K_44_f,K_44_e,K_43h_f,K_43h_e,K_44h_f,K_44h_e,K_43h_g,K_44h_g,hF,hg,e,c0]
noncomputable def K_11:Ent Tryz.prog:=Ent.p1 (α:=Func) 11 (fun F=>Enc.good F) (fun F=>txR F) (fun F hc=>funcTextIm_c F hc)
theorem K_11_f:K_11.f=11:=rfl
theorem K_11_e (F0:Int) (F1:List Block):K_11.e [.agg [.d (.int .i64 F0),.d (dBlockS F1)]]=some (Enc.good (Func.mk F0 F1),txR (Func.mk F0 F1),[]):=by unfold K_11;exact Ent.p1_eq (α:=Func) (Func.mk F0 F1)
noncomputable def K_11h:EntH Tryz.prog:=EntH.pk1 (α:=Func) 11 (fun F=>Enc.good F) (fun F=>txR F) (fun F=>[]) (fun F hc=>PureP.ans (funcTextIm_c F hc))
theorem K_11h_f:K_11h.f=11:=rfl
theorem K_11h_g:K_11h.gro=true:=rfl
theorem K_11h_e {x1:V} {H:Heap}:K_11h.e [x1] H=guardR ((decA (α:=Func) H x1).1) (peekR (Enc.good (decA (α:=Func) H x1).2) (txR (decA (α:=Func) H x1).2) ([]) H):=rfl
theorem law_FuncText (F:Func) (hF:Enc.good F):PureP Tryz.prog 3 [vFunc F] (· = .d (.bool true)):=by
  by_cases hw:szFunc F 1048576 < 0
  · refine pure_of Tryz.func3 en_3 rfl rfl (W_run mixed ⟨[K_8,K_10,K_9,K_11,K_12],[K_8h,K_10h,K_9h,K_11h,K_12h],[],40,0,[0,1,2,3,4,5,6,7,8,13,34,39],[13,30,34,39]⟩ (fun | 10=>[0,1,2,3,4] | _=>[]) (by kernel_rfl) ?_)
    simp only [Tryz.f3,stripX,stripOps,pickOps]
    simp [K_8_f,K_8_e,K_10_f,K_10_e,K_9_f,K_9_e,K_11_f,K_11_e,K_12_f,K_12_e,K_8h_f,K_8h_e,K_10h_f,K_10h_e,K_9h_f,K_9h_e,K_11h_f,K_11h_e,K_12h_f,K_12h_e,K_8h_g,K_10h_g,K_9h_g,K_11h_g,K_12h_g,hF,hw]
  have hs:Sm.sm F:=(szok_Func F 1048576 hF (by decide) (by decide) (by omega)).1
  refine pure_of Tryz.func3 en_3 rfl rfl (W_run mixed ⟨[K_8,K_10,K_9,K_11,K_12],[K_8h,K_10h,K_9h,K_11h,K_12h],[],40,0,[0,1,2,3,4,5,6,7,8,13,34,39],[13,30,34,39]⟩ (fun | 10=>[0,1,2,3,4] | _=>[]) (by kernel_rfl) ?_)
  simp only [Tryz.f3,stripX,stripOps,pickOps]
  simp [K_8_f,K_8_e,K_10_f,K_10_e,K_9_f,K_9_e,K_11_f,K_11_e,K_12_f,K_12_e,K_8h_f,K_8h_e,K_10h_f,K_10h_e,K_9h_f,K_9h_e,K_11h_f,K_11h_e,K_12h_f,K_12h_e,K_8h_g,K_10h_g,K_9h_g,K_11h_g,K_12h_g,hF,hs,hw,txR]
end Go.Proofs.YtcgekblpbheikaaGreatDoor
