/- The law FnRun. No condition. -/
import Derived.Test.YtnomiclfiijniaaRows
import Derived.Test.YtnomiclfiijniaaQS119
namespace Go.Proofs.Ytnomiclfiijniaa
set_option maxRecDepth 100000
set_option linter.unusedSimpArgs false
set_option linter.unusedVariables false
theorem runO_len (F:Func) (args mem:List Int) (fuel:Int) (hm:mem.length≤1000):(runO F args mem fuel).mem_.length≤1000:=by
  unfold runO
  split
  · rw [(runV_code F _ _ _ _).2.1];exact hm
  · simp
theorem run_more {F:Func} {args mem:List Int} {fuel:Int} (h:runOk F args mem fuel=true) :
    runOk F args mem 200=true∧okOut (runO F args mem fuel)=true∧okOut (runO F args mem 200)=true∧0≤(runO F args mem fuel).fuel_∧(runO F args mem fuel).fuel_≤fuel∧(0≤fuel∧fuel≤200)∧(runO F args mem 200).fuel_≤200 ∧
    ((runO F args mem fuel).code_=3→(runO F args mem fuel).fuel_=0) ∧
    ((runO F args mem fuel).code_ ≠ 3→sameO (runO F args mem fuel) (runO F args mem 200)=true∧(runO F args mem 200).fuel_ - (runO F args mem fuel).fuel_=200 - fuel):=by
  have h':=h
  simp only [runOk,Bool.and_eq_true,decide_eq_true_eq] at h'
  obtain ⟨h1,h2,h3,h4⟩:=h'
  have hf:=inR_t.1 h4
  have h200:runOk F args mem 200=true:=by simp [runOk,h1,h2,h3];decide
  have e1:runO F args mem fuel=runV F fuel.toNat 0 (begV F args) mem:=by simp [runO,h]
  have e2:runO F args mem 200=runV F 200 0 (begV F args) mem:=by simp [runO,h200]
  have c1:=runV_code F fuel.toNat 0 (begV F args) mem
  have c2:=runV_code F 200 0 (begV F args) mem
  have m1:=runV_more F (200 - fuel.toNat) fuel.toNat 0 (begV F args) mem
  rw [show fuel.toNat + (200 - fuel.toNat)=200 by omega] at m1
  rw [← e1] at c1 m1
  rw [← e2] at c2 m1
  refine ⟨h200, ?_, ?_,c1.2.2.1,by omega,hf,by omega,m1.1,fun q=>?_⟩
  · simp only [okOut,c1.1,c1.2.1,h3,Bool.true_and];decide
  · simp only [okOut,c2.1,c2.2.1,h3,Bool.true_and];decide
  · have:=m1.2 q
    rw [this]
    refine ⟨by simp [sameO], ?_⟩
    show (runO F args mem fuel).fuel_ + ((200 - fuel.toNat:Nat):Int) - (runO F args mem fuel).fuel_=200 - fuel
    omega
set_option maxHeartbeats 8000000 in
theorem law_Run (code more:List Byt) (hc:Enc.good code) (hm:Enc.good more):PureP Try.prog 4 [.d (dBytS code),.d (dBytS more)] (· = .d (.bool true)):=by
  cases hb:bigB code more with
  | true => refine pure_of Try.func4 en_4 rfl rfl (W_run mixed ⟨[K_6, K_19, K_20, K_21, K_22, K_23, K_24, K_26], [K_6h, K_19h, K_20h, K_21h, K_22h, K_23h, K_24h, K_26h], [18, 25], 152, 0, [0, 1, 4, 5, 6, 7, 8, 9, 10, 11, 12, 13, 14, 15, 16, 17, 18, 19, 20, 21, 22, 25, 71, 72, 126], [25, 52, 58, 65, 71, 72, 88, 92, 98, 102, 105, 117, 121, 126, 147]⟩ (fun | 6 => [0, 1, 2, 3, 4, 5, 6, 7, 8, 9, 10, 12, 11, 13, 14, 15, 16, 17, 18, 19, 20, 21, 22] | _ => []) (by kernel_rfl) ?_)
            simp only [Try.f4,stripX,stripOps,pickOps]
            simp [K_6_f,K_6_e,K_19_f,K_19_e,K_20_f,K_20_e,K_21_f,K_21_e,K_22_f,K_22_e,K_23_f,K_23_e,K_24_f,K_24_e,K_26_f,K_26_e,K_6h_f,K_6h_e,K_19h_f,K_19h_e,K_20h_f,K_20h_e,K_21h_f,K_21h_e,K_22h_f,K_22h_e,K_23h_f,K_23h_e,K_24h_f,K_24h_e,K_26h_f,K_26h_e,K_6h_g,K_19h_g,K_20h_g,K_21h_g,K_22h_g,K_23h_g,K_24h_g,K_26h_g,hc,hm,hb]
  | false =>
  refine pure_of Try.func4 en_4 rfl rfl (W_run mixed ⟨[K_6,K_19,K_20,K_21,K_22,K_23,K_24,K_26],[K_6h,K_19h,K_20h,K_21h,K_22h,K_23h,K_24h,K_26h],[18,25],152,0,[0,1,4,5,6,7,8,9,10,11,12,13,14,15,16,17,18,19,20,21,22,25,71,72,126],[25,52,58,65,71,72,88,92,98,102,105,117,121,126,147]⟩ (fun | 6=>[0,1,2,3,4,5,6,7,8,9,10,12,11,13,14,15,16,17,18,19,20,21,22] | _=>[]) (by kernel_rfl) ?_)
  simp only [Try.f4,stripX,stripOps,pickOps]
  simp [K_6_f,K_6_e,K_19_f,K_19_e,K_20_f,K_20_e,K_21_f,K_21_e,K_22_f,K_22_e,K_23_f,K_23_e,K_24_f,K_24_e,K_26_f,K_26_e,K_6h_f,K_6h_e,K_19h_f,K_19h_e,K_20h_f,K_20h_e,K_21h_f,K_21h_e,K_22h_f,K_22h_e,K_23h_f,K_23h_e,K_24h_f,K_24h_e,K_26h_f,K_26h_e,K_6h_g,K_19h_g,K_20h_g,K_21h_g,K_22h_g,K_23h_g,K_24h_g,K_26h_g,hc,hm,hb]
  rw [aft_call]
  refine ((drawRun_p code hc).calls rfl).mono ?_
  rintro r H1 ⟨rfl,F,args,mem,x,rfl,hF,ha,hm2,hx⟩
  have ha2:args.length≤1000:=by omega
  have hm3:mem.length≤1000:=by omega
  have hl:=runO_len F args mem x hm3
  have hs:sameO (runO F args mem x) (runO F args mem x)=true:=by simp [sameO]
  generalize hO:runO F args mem x=O at hl hs
  cases hk:runOk F args mem x with
  | false =>
    simp [K_6_f,K_6_e,K_19_f,K_19_e,K_20_f,K_20_e,K_21_f,K_21_e,K_22_f,K_22_e,K_23_f,K_23_e,K_24_f,K_24_e,K_26_f,K_26_e,K_6h_f,K_6h_e,K_19h_f,K_19h_e,K_20h_f,K_20h_e,K_21h_f,K_21h_e,K_22h_f,K_22h_e,K_23h_f,K_23h_e,K_24h_f,K_24h_e,K_26h_f,K_26h_e,K_6h_g,K_19h_g,K_20h_g,K_21h_g,K_22h_g,K_23h_g,K_24h_g,K_26h_g,hc,hm,hF,ha2,hm3,runRes,hO,hk,hl,hs]
    rw [aft_call]
    refine ((drawSame_p more hm).calls rfl).mono ?_
    rintro r H2 ⟨rfl,a,b,rfl⟩
    simp [K_6_f,K_6_e,K_19_f,K_19_e,K_20_f,K_20_e,K_21_f,K_21_e,K_22_f,K_22_e,K_23_f,K_23_e,K_24_f,K_24_e,K_26_f,K_26_e,K_6h_f,K_6h_e,K_19h_f,K_19h_e,K_20h_f,K_20h_e,K_21h_f,K_21h_e,K_22h_f,K_22h_e,K_23h_f,K_23h_e,K_24h_f,K_24h_e,K_26h_f,K_26h_e,K_6h_g,K_19h_g,K_20h_g,K_21h_g,K_22h_g,K_23h_g,K_24h_g,K_26h_g,sameOR]
  | true =>
    obtain ⟨k2,o1,o2,f0,f1,f2,f3,m1,m2⟩:=run_more hk
    rw [hO] at o1 f0 f1 m1 m2
    have hl2:=runO_len F args mem 200 hm3
    generalize hX:runO F args mem 200=X at o2 f3 m2 hl2
    by_cases h3:O.code_=3
    · have e0:=m1 h3
      have x0:=f2.1
      obtain ⟨c,v,ms,fu⟩:=O
      simp only [] at h3 e0
      subst h3 e0
      simp [K_6_f,K_6_e,K_19_f,K_19_e,K_20_f,K_20_e,K_21_f,K_21_e,K_22_f,K_22_e,K_23_f,K_23_e,K_24_f,K_24_e,K_26_f,K_26_e,K_6h_f,K_6h_e,K_19h_f,K_19h_e,K_20h_f,K_20h_e,K_21h_f,K_21h_e,K_22h_f,K_22h_e,K_23h_f,K_23h_e,K_24h_f,K_24h_e,K_26h_f,K_26h_e,K_6h_g,K_19h_g,K_20h_g,K_21h_g,K_22h_g,K_23h_g,K_24h_g,K_26h_g,hc,hm,hF,ha2,hm3,runRes,sameOR,hO,hX,hk,k2,hl,hs,o1,o2,x0]
      rw [aft_call]
      refine ((drawSame_p more hm).calls rfl).mono ?_
      rintro r H2 ⟨rfl,a,b,rfl⟩
      simp [K_6_f,K_6_e,K_19_f,K_19_e,K_20_f,K_20_e,K_21_f,K_21_e,K_22_f,K_22_e,K_23_f,K_23_e,K_24_f,K_24_e,K_26_f,K_26_e,K_6h_f,K_6h_e,K_19h_f,K_19h_e,K_20h_f,K_20h_e,K_21h_f,K_21h_e,K_22h_f,K_22h_e,K_23h_f,K_23h_e,K_24h_f,K_24h_e,K_26h_f,K_26h_e,K_6h_g,K_19h_g,K_20h_g,K_21h_g,K_22h_g,K_23h_g,K_24h_g,K_26h_g,sameOR]
    · obtain ⟨e1,e2⟩:=m2 h3
      simp [K_6_f,K_6_e,K_19_f,K_19_e,K_20_f,K_20_e,K_21_f,K_21_e,K_22_f,K_22_e,K_23_f,K_23_e,K_24_f,K_24_e,K_26_f,K_26_e,K_6h_f,K_6h_e,K_19h_f,K_19h_e,K_20h_f,K_20h_e,K_21h_f,K_21h_e,K_22h_f,K_22h_e,K_23h_f,K_23h_e,K_24h_f,K_24h_e,K_26h_f,K_26h_e,K_6h_g,K_19h_g,K_20h_g,K_21h_g,K_22h_g,K_23h_g,K_24h_g,K_26h_g,hc,hm,hF,ha2,hm3,runRes,sameOR,hO,hX,hk,k2,hl,hs,o1,o2,h3,e1,e2,f1]
      rw [aft_call]
      refine ((drawSame_p more hm).calls rfl).mono ?_
      rintro r H2 ⟨rfl,a,b,rfl⟩
      simp [K_6_f,K_6_e,K_19_f,K_19_e,K_20_f,K_20_e,K_21_f,K_21_e,K_22_f,K_22_e,K_23_f,K_23_e,K_24_f,K_24_e,K_26_f,K_26_e,K_6h_f,K_6h_e,K_19h_f,K_19h_e,K_20h_f,K_20h_e,K_21h_f,K_21h_e,K_22h_f,K_22h_e,K_23h_f,K_23h_e,K_24h_f,K_24h_e,K_26h_f,K_26h_e,K_6h_g,K_19h_g,K_20h_g,K_21h_g,K_22h_g,K_23h_g,K_24h_g,K_26h_g,sameOR]
namespace fnRun
open Go.ChangeShapes Go.WideShapes Go.RowKit
theorem own:ownKnob Try.prog.godebug=none:=by kernel_rfl
theorem lifted (os:Os) (started:os.Started) (H:Type) (enc:TypeId × Value→H) :
    ReturnsInHanded {} Try.checked os 4 .any (Rows.fnRunSpec.pre6 enc Try.prog Try.f4 Rows.fnRunRow.domain false) (Rows.fnRunSpec.post enc Try.prog Try.f4 false true false false):=by
  refine returnsInHanded_of_change (C:=Try.checked) own started (by kernel_rfl) Try.func4
    (ChangeSpec.witness6 (enc:=enc) (C:=Try.checked) false ⟨#[],#[.slice none 0 0,.slice none 0 0],[]⟩ 8 (by kernel_rfl) (by kernel_rfl) (by kernel_rfl) (by kernel_rfl)) ?_
  intro W base args ds gs before hval hW hcnd _
  have hW':=hW
  obtain ⟨p,q,hA,hV,_,_,_⟩:=hW
  rw [Try.params4] at hA hval
  obtain ⟨v0,vs0,d0,ds0,p0,q0,hargs,rfl,rfl,h0,r0⟩:=trodAll_cons hA
  obtain ⟨v1,vs1,d1,ds1,p1,q1,rfl,rfl,rfl,h1,r1⟩:=trodAll_cons r0
  obtain ⟨rfl,rfl,rfl⟩:=trodAll_nil r1
  obtain rfl:args=#[v0,v1]:=by cases args;simp_all
  obtain ⟨code,hcode,hv0⟩:=arg_of rd_LByt (hval 0 22 v0 rfl rfl) h0
  obtain ⟨more,hmore,hv1⟩:=arg_of rd_LByt (hval 1 22 v1 rfl rfl) h1
  obtain ⟨rfl,rfl⟩:=trodVars_none hV
  exact row_end (by kernel_rfl) (by kernel_rfl) (by kernel_rfl) Try.underlying4 hW' rfl rfl rfl rfl (vs:=[argV code,argV more]) (by exact ⟨v0,_,rfl,hv0,⟨v1,_,rfl,hv1,rfl⟩⟩) (law_Run code more hcode hmore)
theorem over:Rows.fnRunRow.holds Try.pinned (OpenSpec.ofChange Rows.fnRunSpec) :=
  OpenClaim.holds_of_wide 4 Try.f4 rfl rfl rfl rfl rfl rfl rfl ⟨rfl,rfl,rfl,rfl,rfl⟩ rfl rfl rfl rfl rfl (by kernel_rfl) Try.func4 (by kernel_rfl)
    (of_decide_eq_true (by kernel_rfl)) (by unfold Func.isWrapper;first | (rw [if_pos (by decide +kernel)];kernel_rfl) | (rw [if_neg (by decide +kernel)];exact ⟨rfl,rfl⟩))
    (fun os started H enc _=>lifted os started H enc)
end fnRun
theorem fnRun_holds:Rows.FnRunSaid:=fnRun.over
end Go.Proofs.Ytnomiclfiijniaa
