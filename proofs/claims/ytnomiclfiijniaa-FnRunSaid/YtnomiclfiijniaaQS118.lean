/- RunFunc of both programs: closed contracts. No condition. -/
import Derived.Test.YtnomiclfiijniaaQS117
namespace Go.Proofs.Ytnomiclfiijniaa
set_option maxRecDepth 100000
set_option linter.unusedSimpArgs false
set_option linter.unusedVariables false
set_option maxHeartbeats 8000000 in
theorem runS_own (H:Heap) (F:Func) (args mem:List Int) (fuel:Int) (hF:Enc.good F) (ha:args.length≤1000) (hm:mem.length≤1000) :
    CallsD Try.prog 20 [vFunc F,.d (dIntS args),.d (dIntS mem),.d (.int .i64 fuel)] H (RunR H F args mem fuel):=by
  cases hg:goodF F with
  | false =>
    have h:runOk F args mem fuel=false:=by simp [runOk,hg]
    refine calls_of Try.func20 en_20 rfl (of_decide_eq_true rfl) (W_run mixed ⟨[K_23,K_44],[K_23h,K_44h],[56],36,H.length,[0,1,2,3,4,8,9,29],[13,20,25,29]⟩ (fun _=>[]) (by kernel_rfl) ?_)
    simp only [Try.f20,stripX,stripOps,pickOps]
    simp [K_23_f,K_23_e,K_44_f,K_44_e,K_23h_f,K_23h_e,K_44h_f,K_44h_e,K_23h_g,K_44h_g,-V.flat,-V.one,one_int,one_bool,one_str,one_nilp,one_rp,one_nilsl,one_ro,one_cl,one_nilf,one_nili,one_ifc,one_ptr,one_sl,one_clo,flat_d,flat_ptr,flat_sl,flat_clo,flat_agg,hF,hg,retQ]
    exact run_none h
  | true =>
  by_cases h1:(args.length:Int)=F.params_
  case neg =>
    have h:runOk F args mem fuel=false:=by simp [runOk,h1]
    refine calls_of Try.func20 en_20 rfl (of_decide_eq_true rfl) (W_run mixed ⟨[K_23,K_44],[K_23h,K_44h],[56],36,H.length,[0,1,2,3,4,8,9,29],[13,20,25,29]⟩ (fun _=>[]) (by kernel_rfl) ?_)
    simp only [Try.f20,stripX,stripOps,pickOps]
    simp [K_23_f,K_23_e,K_44_f,K_44_e,K_23h_f,K_23h_e,K_44h_f,K_44h_e,K_23h_g,K_44h_g,-V.flat,-V.one,one_int,one_bool,one_str,one_nilp,one_rp,one_nilsl,one_ro,one_cl,one_nilf,one_nili,one_ifc,one_ptr,one_sl,one_clo,flat_d,flat_ptr,flat_sl,flat_clo,flat_agg,hF,hg,h1,retQ]
    exact run_none h
  by_cases h2:(mem.length:Int)=8
  case neg =>
    have h:runOk F args mem fuel=false:=by simp [runOk,h2]
    refine calls_of Try.func20 en_20 rfl (of_decide_eq_true rfl) (W_run mixed ⟨[K_23,K_44],[K_23h,K_44h],[56],36,H.length,[0,1,2,3,4,8,9,29],[13,20,25,29]⟩ (fun _=>[]) (by kernel_rfl) ?_)
    simp only [Try.f20,stripX,stripOps,pickOps]
    simp [K_23_f,K_23_e,K_44_f,K_44_e,K_23h_f,K_23h_e,K_44h_f,K_44h_e,K_23h_g,K_44h_g,-V.flat,-V.one,one_int,one_bool,one_str,one_nilp,one_rp,one_nilsl,one_ro,one_cl,one_nilf,one_nili,one_ifc,one_ptr,one_sl,one_clo,flat_d,flat_ptr,flat_sl,flat_clo,flat_agg,hF,hg,h1,h2,retQ]
    exact run_none h
  cases h3:inR fuel 0 200 with
  | false =>
    have h:runOk F args mem fuel=false:=by simp [runOk,h3]
    refine calls_of Try.func20 en_20 rfl (of_decide_eq_true rfl) (W_run mixed ⟨[K_23,K_44],[K_23h,K_44h],[56],36,H.length,[0,1,2,3,4,8,9,29],[13,20,25,29]⟩ (fun _=>[]) (by kernel_rfl) ?_)
    simp only [Try.f20,stripX,stripOps,pickOps]
    simp [K_23_f,K_23_e,K_44_f,K_44_e,K_23h_f,K_23h_e,K_44h_f,K_44h_e,K_23h_g,K_44h_g,-V.flat,-V.one,one_int,one_bool,one_str,one_nilp,one_rp,one_nilsl,one_ro,one_cl,one_nilf,one_nili,one_ifc,one_ptr,one_sl,one_clo,flat_d,flat_ptr,flat_sl,flat_clo,flat_agg,hF,hg,h1,h2,h3,retQ]
    exact run_none h
  | true =>
  have hok:runOk F args mem fuel=true:=by simp [runOk,hg,h1,h2,h3]
  have hO:runO F args mem fuel=runV F fuel.toNat 0 (begV F args) mem:=by simp [runO,hok]
  refine calls_of Try.func20 en_20 rfl (of_decide_eq_true rfl) (W_run mixed ⟨[K_23,K_44],[K_23h,K_44h],[56],36,H.length,[0,1,2,3,4,8,9,29],[13,20,25,29]⟩ (fun _=>[]) (by kernel_rfl) ?_)
  simp only [Try.f20,stripX,stripOps,pickOps]
  simp [K_23_f,K_23_e,K_44_f,K_44_e,K_23h_f,K_23h_e,K_44h_f,K_44h_e,K_23h_g,K_44h_g,-V.flat,-V.one,one_int,one_bool,one_str,one_nilp,one_rp,one_nilsl,one_ro,one_cl,one_nilf,one_nili,one_ifc,one_ptr,one_sl,one_clo,flat_d,flat_ptr,flat_sl,flat_clo,flat_agg,hF,hg,h1,h2,h3]
  rw [aft_call]
  refine (doR_own _ F args mem fuel hF ha (by omega) hg (inR_t.1 h3)).mono ?_
  rintro r H' ⟨o,rfl,he,hn⟩
  have hone:o.mem_.v.one=true:=(AOutcome.own_mem_ hn.own).ok.1.scl.2
  have hfl:o.mem_.v.flat=[o.mem_.v]:=(AOutcome.own_mem_ hn.own).ok.1.flat
  have hl:=hn.only.len
  simp at hl
  have gres:H'[H.length + 1]? = some (.row 4 [[.d (.int .i64 0),.d (.int .i64 0),.d .nilsl,.d (.int .i64 0)]]):=(hn.only.at_ _ (by simp) List.not_mem_nil).trans (by rw [List.getElem?_append_right (by omega),Nat.add_sub_cancel_left];rfl)
  have gset:∀ P,(H'.set (H.length + 1) P)[H.length + 1]? = some P:=fun P=>List.getElem?_set_self (by omega)
  have frj:∀ j∈ids o,H.length + 2≤j:=fun j hj=>by have:=hn.fresh j hj;simpa using this
  simp [K_23_f,K_23_e,K_44_f,K_44_e,K_23h_f,K_23h_e,K_44h_f,K_44h_e,K_23h_g,K_44h_g,-V.flat,-V.one,one_int,one_bool,one_str,one_nilp,one_rp,one_nilsl,one_ro,one_cl,one_nilf,one_nili,one_ifc,one_ptr,one_sl,one_clo,flat_d,flat_ptr,flat_sl,flat_clo,flat_agg,gres,gset,hone,hfl,retQ]
  trace_state
  refine fin_new (a:=o) (hn.own.frame Only.set fun j hj h=>by have:=frj j hj;simp at h;omega) ⟨by simp;omega,fun j hj _=>?_⟩ (fun j hj=>by have:=frj j hj;omega) fun H' h'=>⟨o,by rw [hok];rfl,by rw [he,hO],h'⟩
  rw [List.getElem?_set_ne (by omega),hn.only.at_ j (by simp;omega) List.not_mem_nil,List.getElem?_append_left hj]
def runRes (F:Func) (args mem:List Int) (fuel:Int):V:=.tup [vOutcome (runO F args mem fuel),.d (.bool (runOk F args mem fuel))]
theorem RunR.close {F:Func} {args mem:List Int} {fuel:Int} {r:V} {H':Heap} (h:RunR [] F args mem fuel r H'):Rd1 H' r (runRes F args mem fuel):=by
  obtain ⟨o,rfl,he,hn⟩:=h
  have:=Rd1.aggs hn.own rfl
  rw [he] at this
  exact Rd1.tup ⟨this,Rd1.d,trivial⟩
theorem runI_c (F:Func) (args mem:List Int) (fuel:Int) (hF:Enc.good F) (ha:args.length≤1000) (hm:mem.length≤1000):PureP Try.prog 19 [vFunc F,.d (dIntS args),.d (dIntS mem),.d (.int .i64 fuel)] (· = runRes F args mem fuel) :=
  PureP.of_own ((runI_own [] F args mem fuel hF ha hm).mono fun r H' h=>h.close)
noncomputable def K_19:Ent Try.prog:=Ent.p4 (α:=Func) (β:=List Int) (γ:=List Int) (δ:=Int) 19 (fun F args mem fuel=>Enc.good F∧args.length≤1000∧mem.length≤1000) (fun F args mem fuel=>runRes F args mem fuel) (fun F args mem fuel hc=>runI_c F args mem fuel hc.1 hc.2.1 hc.2.2)
theorem K_19_f:K_19.f=19:=rfl
theorem K_19_e (F0:Int) (F1:List Block) (args:List Int) (mem:List Int) (fuel:Int):K_19.e [.agg [.d (.int .i64 F0),.d (dBlockS F1)],.d (dIntS args),.d (dIntS mem),.d (.int .i64 fuel)]=some (Enc.good (Func.mk F0 F1)∧args.length≤1000∧mem.length≤1000,runRes (Func.mk F0 F1) args mem fuel,[]):=by unfold K_19;exact Ent.p4_eq (α:=Func) (β:=List Int) (γ:=List Int) (δ:=Int) (Func.mk F0 F1) args mem fuel
noncomputable def K_19h:EntH Try.prog:=EntH.pk4 (α:=Func) (β:=List Int) (γ:=List Int) (δ:=Int) 19 (fun F args mem fuel=>Enc.good F∧args.length≤1000∧mem.length≤1000) (fun F args mem fuel=>runRes F args mem fuel) (fun F args mem fuel=>[]) (fun F args mem fuel hc=>PureP.ans (runI_c F args mem fuel hc.1 hc.2.1 hc.2.2))
theorem K_19h_f:K_19h.f=19:=rfl
theorem K_19h_g:K_19h.gro=true:=rfl
theorem K_19h_e {x1 x2 x3 x4:V} {H:Heap}:K_19h.e [x1,x2,x3,x4] H=guardR ((decA (α:=Func) H x1).1∧(decA (α:=List Int) H x2).1∧(decA (α:=List Int) H x3).1∧(decA (α:=Int) H x4).1) (peekR (Enc.good (decA (α:=Func) H x1).2∧(decA (α:=List Int) H x2).2.length≤1000∧(decA (α:=List Int) H x3).2.length≤1000) (runRes (decA (α:=Func) H x1).2 (decA (α:=List Int) H x2).2 (decA (α:=List Int) H x3).2 (decA (α:=Int) H x4).2) ([]) H):=rfl
theorem runS_c (F:Func) (args mem:List Int) (fuel:Int) (hF:Enc.good F) (ha:args.length≤1000) (hm:mem.length≤1000):PureP Try.prog 20 [vFunc F,.d (dIntS args),.d (dIntS mem),.d (.int .i64 fuel)] (· = runRes F args mem fuel) :=
  PureP.of_own ((runS_own [] F args mem fuel hF ha hm).mono fun r H' h=>h.close)
noncomputable def K_20:Ent Try.prog:=Ent.p4 (α:=Func) (β:=List Int) (γ:=List Int) (δ:=Int) 20 (fun F args mem fuel=>Enc.good F∧args.length≤1000∧mem.length≤1000) (fun F args mem fuel=>runRes F args mem fuel) (fun F args mem fuel hc=>runS_c F args mem fuel hc.1 hc.2.1 hc.2.2)
theorem K_20_f:K_20.f=20:=rfl
theorem K_20_e (F0:Int) (F1:List Block) (args:List Int) (mem:List Int) (fuel:Int):K_20.e [.agg [.d (.int .i64 F0),.d (dBlockS F1)],.d (dIntS args),.d (dIntS mem),.d (.int .i64 fuel)]=some (Enc.good (Func.mk F0 F1)∧args.length≤1000∧mem.length≤1000,runRes (Func.mk F0 F1) args mem fuel,[]):=by unfold K_20;exact Ent.p4_eq (α:=Func) (β:=List Int) (γ:=List Int) (δ:=Int) (Func.mk F0 F1) args mem fuel
noncomputable def K_20h:EntH Try.prog:=EntH.pk4 (α:=Func) (β:=List Int) (γ:=List Int) (δ:=Int) 20 (fun F args mem fuel=>Enc.good F∧args.length≤1000∧mem.length≤1000) (fun F args mem fuel=>runRes F args mem fuel) (fun F args mem fuel=>[]) (fun F args mem fuel hc=>PureP.ans (runS_c F args mem fuel hc.1 hc.2.1 hc.2.2))
theorem K_20h_f:K_20h.f=20:=rfl
theorem K_20h_g:K_20h.gro=true:=rfl
theorem K_20h_e {x1 x2 x3 x4:V} {H:Heap}:K_20h.e [x1,x2,x3,x4] H=guardR ((decA (α:=Func) H x1).1∧(decA (α:=List Int) H x2).1∧(decA (α:=List Int) H x3).1∧(decA (α:=Int) H x4).1) (peekR (Enc.good (decA (α:=Func) H x1).2∧(decA (α:=List Int) H x2).2.length≤1000∧(decA (α:=List Int) H x3).2.length≤1000) (runRes (decA (α:=Func) H x1).2 (decA (α:=List Int) H x2).2 (decA (α:=List Int) H x3).2 (decA (α:=Int) H x4).2) ([]) H):=rfl
end Go.Proofs.Ytnomiclfiijniaa
