/- The law FnUses. No condition. -/
import Derived.Test.YtnomiclfiijniaaGreatRows
import Derived.Test.YtnomiclfiijniaaGreatQS92
import Derived.Test.YtnomiclfiijniaaGreatQS122
import Derived.Test.YtnomiclfiijniaaGreatQS123
namespace Go.Proofs.YtnomiclfiijniaaGreat
set_option maxRecDepth 100000
set_option linter.unusedSimpArgs false
set_option linter.unusedVariables false
theorem ite_cases {α:Type} {P:α→Prop} {c:Prop} [Decidable c] {a b:α} (ha:P a) (hb:P b):P (if c then a else b):=by
  by_cases h:c
  · rw [if_pos h];exact ha
  · rw [if_neg h];exact hb
theorem short_good {F:Func} (hg:goodF F=true):shortF F:=by
  obtain ⟨h8,hsm⟩:=good_small hg
  exact ⟨by omega,fun b hb=>by
    obtain ⟨q1,q2,q3,q4⟩:=hsm b hb
    exact ⟨by omega,by omega,q3,q4⟩⟩
theorem red_spec {F:Func} {a b:Int} (hF:Enc.good F) (ha:Enc.good a) (hb:Enc.good b):shortF (rdF F a b)∧(rdOk F a b=true→Enc.good (rdF F a b)∧(a ≠ b→usesR (rdF F a b) a=.tup [.d (.int .i64 0),.d (.bool true)])):=by
  cases hr:rdOk F a b with
  | false =>
    have e:rdF F a b=⟨0,[]⟩:=by simp [rdF,hr]
    rw [e]
    exact ⟨⟨Nat.zero_le _,fun b hb=>absurd hb List.not_mem_nil⟩,fun h=>by cases h⟩
  | true =>
    have e:rdF F a b=mpF (rdG a b) F:=by simp [rdF,hr]
    have h:=hr
    simp only [rdOk,soundF,Bool.and_eq_true] at h
    obtain ⟨⟨hg,_⟩,va,vb⟩:=h
    obtain ⟨_,a0,a1⟩:=isVal_t va
    obtain ⟨_,b0,b1⟩:=isVal_t vb
    have hgW:goodF (mpF (rdG a b) F)=true:=mpF_good hg fun x x0 x1=>by unfold rdG;split <;> omega
    rw [e]
    refine ⟨short_good hgW,fun _=>⟨mpF_enc hF fun x hx=>(by unfold rdG;exact ite_cases (P:=Enc.good) hb hx),fun hne=>?_⟩⟩
    have hm:many (mpF (rdG a b) F)=many F:=by unfold many;exact (cntB_shp (mpF_shp (rdG a b) F) F.params_)
    have hv:isVal (mpF (rdG a b) F) a=true:=by
      have:=va
      simp only [isVal,hg,hgW,hm,Bool.true_and] at this ⊢
      exact this
    simp [usesR,usesV1,hv,uses_gone hg a0 b0 hne]
theorem argN_le {F:Func} (v:Int) (j:Nat):argN F v j≤1000:=Nat.le_trans (cntI_le _ _) argL_len
theorem sumN_le (F:Func) (v:Int):∀ n,sumN (argN F v) n≤1000 * n
  | 0=>Nat.le_refl _
  | n + 1=>by rw [sumN_succ];have:=sumN_le F v n;have:=argN_le (F:=F) v n;omega
set_option maxHeartbeats 16000000 in
theorem law_Uses (code more : List Byt) (hc : Enc.good code) (hm : Enc.good more) : PureP Tryz.prog 3 [.d (dBytS code), .d (dBytS more)] (· = .d (.bool true)) := by
  cases hb:bigB code more with
  | true => refine pure_of Tryz.func3 en_3 rfl rfl (W_run mixed ⟨[K_6, K_8, K_9, K_10, K_11, K_12, K_13, K_14, K_15, K_16, K_18, K_19, K_20], [K_6h, K_8h, K_9h, K_10h, K_11h, K_12h, K_13h, K_14h, K_15h, K_16h, K_18h, K_19h, K_20h], [7, 17], 223, 0, [0, 1, 4, 5, 6, 7, 8, 9, 10, 11, 12, 13, 14, 15, 16, 17, 18, 19, 20, 21, 22, 23, 24, 26, 27, 28, 29, 30, 31, 32, 33, 34, 35, 36, 37, 40, 109, 110, 118, 128, 129, 130, 131, 132, 137, 176, 205, 211], [40, 85, 90, 95, 100, 105, 109, 110, 118, 128, 132, 137, 149, 154, 157, 160, 167, 170, 176, 200, 205, 207, 211, 219]⟩ (fun _ => []) (by kernel_rfl) ?_)
            simp only [Tryz.f3,stripX,stripOps,pickOps]
            simp [K_6_f,K_6_e,K_8_f,K_8_e,K_9_f,K_9_e,K_10_f,K_10_e,K_11_f,K_11_e,K_12_f,K_12_e,K_13_f,K_13_e,K_14_f,K_14_e,K_15_f,K_15_e,K_16_f,K_16_e,K_18_f,K_18_e,K_19_f,K_19_e,K_20_f,K_20_e,K_6h_f,K_6h_e,K_8h_f,K_8h_e,K_9h_f,K_9h_e,K_10h_f,K_10h_e,K_11h_f,K_11h_e,K_12h_f,K_12h_e,K_13h_f,K_13h_e,K_14h_f,K_14h_e,K_15h_f,K_15h_e,K_16h_f,K_16h_e,K_18h_f,K_18h_e,K_19h_f,K_19h_e,K_20h_f,K_20h_e,K_6h_g,K_8h_g,K_9h_g,K_10h_g,K_11h_g,K_12h_g,K_13h_g,K_14h_g,K_15h_g,K_16h_g,K_18h_g,K_19h_g,K_20h_g,hc,hm,hb]
  | false =>
  refine pure_of Tryz.func3 en_3 rfl rfl (W_run mixed ⟨[K_6,K_8,K_9,K_10,K_11,K_12,K_13,K_14,K_15,K_16,K_18,K_19,K_20],[K_6h,K_8h,K_9h,K_10h,K_11h,K_12h,K_13h,K_14h,K_15h,K_16h,K_18h,K_19h,K_20h],[7,17],223,0,[0,1,4,5,6,7,8,9,10,11,12,13,14,15,16,17,18,19,20,21,22,23,24,26,27,28,29,30,31,32,33,34,35,36,37,40,109,110,118,128,129,130,131,132,137,176,205,211],[40,85,90,95,100,105,109,110,118,128,132,137,149,154,157,160,167,170,176,200,205,207,211,219]⟩ (fun _=>[]) (by kernel_rfl) ?_)
  simp only [Tryz.f3,stripX,stripOps,pickOps]
  simp [K_6_f,K_6_e,K_8_f,K_8_e,K_9_f,K_9_e,K_10_f,K_10_e,K_11_f,K_11_e,K_12_f,K_12_e,K_13_f,K_13_e,K_14_f,K_14_e,K_15_f,K_15_e,K_16_f,K_16_e,K_18_f,K_18_e,K_19_f,K_19_e,K_20_f,K_20_e,K_6h_f,K_6h_e,K_8h_f,K_8h_e,K_9h_f,K_9h_e,K_10h_f,K_10h_e,K_11h_f,K_11h_e,K_12h_f,K_12h_e,K_13h_f,K_13h_e,K_14h_f,K_14h_e,K_15h_f,K_15h_e,K_16h_f,K_16h_e,K_18h_f,K_18h_e,K_19h_f,K_19h_e,K_20h_f,K_20h_e,K_6h_g,K_8h_g,K_9h_g,K_10h_g,K_11h_g,K_12h_g,K_13h_g,K_14h_g,K_15h_g,K_16h_g,K_18h_g,K_19h_g,K_20h_g,hc,hm,hb]
  rw [aft_call]
  refine ((drawUses_p code hc).calls rfl).mono ?_
  rintro r H1 ⟨rfl,F,v,rfl,hF,hv0⟩
  have hvg:Enc.good v:=⟨by omega,by omega⟩
  cases hv:isVal F v with
  | false =>
    simp [K_6_f,K_6_e,K_8_f,K_8_e,K_9_f,K_9_e,K_10_f,K_10_e,K_11_f,K_11_e,K_12_f,K_12_e,K_13_f,K_13_e,K_14_f,K_14_e,K_15_f,K_15_e,K_16_f,K_16_e,K_18_f,K_18_e,K_19_f,K_19_e,K_20_f,K_20_e,K_6h_f,K_6h_e,K_8h_f,K_8h_e,K_9h_f,K_9h_e,K_10h_f,K_10h_e,K_11h_f,K_11h_e,K_12h_f,K_12h_e,K_13h_f,K_13h_e,K_14h_f,K_14h_e,K_15h_f,K_15h_e,K_16h_f,K_16h_e,K_18h_f,K_18h_e,K_19h_f,K_19h_e,K_20h_f,K_20h_e,K_6h_g,K_8h_g,K_9h_g,K_10h_g,K_11h_g,K_12h_g,K_13h_g,K_14h_g,K_15h_g,K_16h_g,K_18h_g,K_19h_g,K_20h_g,hc,hm,hF,hvg,usesR,blkR,isPureR,hv]
    rw [aft_call]
    refine ((drawRed_p more hm).calls rfl).mono ?_
    rintro r H2 ⟨rfl,G,fr,to,rfl,hG,hfr,hto⟩
    have hfg:Enc.good fr:=⟨by omega,by omega⟩
    have htg:Enc.good to:=⟨by omega,by omega⟩
    obtain ⟨hsh,hsp⟩:=red_spec hG hfg htg
    cases hr:rdOk G fr to with
    | false =>
      simp [K_6_f,K_6_e,K_8_f,K_8_e,K_9_f,K_9_e,K_10_f,K_10_e,K_11_f,K_11_e,K_12_f,K_12_e,K_13_f,K_13_e,K_14_f,K_14_e,K_15_f,K_15_e,K_16_f,K_16_e,K_18_f,K_18_e,K_19_f,K_19_e,K_20_f,K_20_e,K_6h_f,K_6h_e,K_8h_f,K_8h_e,K_9h_f,K_9h_e,K_10h_f,K_10h_e,K_11h_f,K_11h_e,K_12h_f,K_12h_e,K_13h_f,K_13h_e,K_14h_f,K_14h_e,K_15h_f,K_15h_e,K_16h_f,K_16h_e,K_18h_f,K_18h_e,K_19h_f,K_19h_e,K_20h_f,K_20h_e,K_6h_g,K_8h_g,K_9h_g,K_10h_g,K_11h_g,K_12h_g,K_13h_g,K_14h_g,K_15h_g,K_16h_g,K_18h_g,K_19h_g,K_20h_g,hG,hfg,htg,hr,hsh]
    | true =>
      obtain ⟨hWg,hsp2⟩:=hsp hr
      by_cases hne:fr=to
      · subst hne
        simp [K_6_f,K_6_e,K_8_f,K_8_e,K_9_f,K_9_e,K_10_f,K_10_e,K_11_f,K_11_e,K_12_f,K_12_e,K_13_f,K_13_e,K_14_f,K_14_e,K_15_f,K_15_e,K_16_f,K_16_e,K_18_f,K_18_e,K_19_f,K_19_e,K_20_f,K_20_e,K_6h_f,K_6h_e,K_8h_f,K_8h_e,K_9h_f,K_9h_e,K_10h_f,K_10h_e,K_11h_f,K_11h_e,K_12h_f,K_12h_e,K_13h_f,K_13h_e,K_14h_f,K_14h_e,K_15h_f,K_15h_e,K_16h_f,K_16h_e,K_18h_f,K_18h_e,K_19h_f,K_19h_e,K_20h_f,K_20h_e,K_6h_g,K_8h_g,K_9h_g,K_10h_g,K_11h_g,K_12h_g,K_13h_g,K_14h_g,K_15h_g,K_16h_g,K_18h_g,K_19h_g,K_20h_g,hG,hfg,htg,hr,hsh]
      · have hu:=hsp2 hne
        simp [K_6_f,K_6_e,K_8_f,K_8_e,K_9_f,K_9_e,K_10_f,K_10_e,K_11_f,K_11_e,K_12_f,K_12_e,K_13_f,K_13_e,K_14_f,K_14_e,K_15_f,K_15_e,K_16_f,K_16_e,K_18_f,K_18_e,K_19_f,K_19_e,K_20_f,K_20_e,K_6h_f,K_6h_e,K_8h_f,K_8h_e,K_9h_f,K_9h_e,K_10h_f,K_10h_e,K_11h_f,K_11h_e,K_12h_f,K_12h_e,K_13h_f,K_13h_e,K_14h_f,K_14h_e,K_15h_f,K_15h_e,K_16h_f,K_16h_e,K_18h_f,K_18h_e,K_19h_f,K_19h_e,K_20h_f,K_20h_e,K_6h_g,K_8h_g,K_9h_g,K_10h_g,K_11h_g,K_12h_g,K_13h_g,K_14h_g,K_15h_g,K_16h_g,K_18h_g,K_19h_g,K_20h_g,hG,hfg,htg,hr,hsh,hWg,hne,hu]
  | true =>
    obtain ⟨hg,v0,v1⟩:=isVal_t hv
    obtain ⟨m0,m80⟩:=many_rng hg
    have hu:=args_uses hg v0
    have hsl:=fun n=>sumN_le F v n
    obtain ⟨bl,bg⟩:=blk_first hg v0 v1
    simp [K_6_f,K_6_e,K_8_f,K_8_e,K_9_f,K_9_e,K_10_f,K_10_e,K_11_f,K_11_e,K_12_f,K_12_e,K_13_f,K_13_e,K_14_f,K_14_e,K_15_f,K_15_e,K_16_f,K_16_e,K_18_f,K_18_e,K_19_f,K_19_e,K_20_f,K_20_e,K_6h_f,K_6h_e,K_8h_f,K_8h_e,K_9h_f,K_9h_e,K_10h_f,K_10h_e,K_11h_f,K_11h_e,K_12h_f,K_12h_e,K_13h_f,K_13h_e,K_14h_f,K_14h_e,K_15h_f,K_15h_e,K_16h_f,K_16h_e,K_18h_f,K_18h_e,K_19h_f,K_19h_e,K_20h_f,K_20h_e,K_6h_g,K_8h_g,K_9h_g,K_10h_g,K_11h_g,K_12h_g,K_13h_g,K_14h_g,K_15h_g,K_16h_g,K_18h_g,K_19h_g,K_20h_g,hc,hm,hF,hvg,usesR,usesV1,blkR,isPureR,countR,hv,hg]
    generalize usesN F.blocks_ v.toNat=un at hu
    generalize hbk:bk (viewD F) v=b at bl bg
    refine W_loopA (fun k:Nat=>[(1,.d (dBytS more)),(5,.ptr 0 2 0 0),(6,.d (.int .i64 v)),(7,.d (.int .i64 un)),(11,.d (.int .i64 b)),(19,.d (.int .i64 (sumN (argN F v) k))),(20,.d (.int .i64 (many F))),(21,.d (.bool true)),(22,.d (.int .i64 k))]) (fun _=>[.row 2 [[.d (.int .i64 F.params_),.d (dBlockS F.blocks_)]]]) (fun k=>(k:Int)≤many F) (fun k=>(many F).toNat - k) 0 ?_ ?_ ?_
    · simp [sumN]
    · simpa using m0
    intro k hk
    have hsk:=hsl k
    by_cases hlt:(k:Int) < many F
    · have hvk:isVal F k=true:=by
        simp only [isVal,hg,Bool.true_and]
        exact inR_t.2 ⟨Int.natCast_nonneg _,by rw [wrap_sub (by omega) (by omega)];omega⟩
      have hkg:Enc.good (k:Int):=⟨by omega,by omega⟩
      have wk:IntKind.i64.wrap ((k:Int) + 1)=((k + 1:Nat):Int):=by rw [wrap_id] <;> omega
      have hal:=argL_len (F:=F) (n:=k)
      have hsucc:sumN (argN F v) (k + 1)=sumN (argN F v) k + cntI v (argL F k):=sumN_succ _ k
      refine W_run mixed ⟨[K_6,K_8,K_9,K_10,K_11,K_12,K_13,K_14,K_15,K_16,K_18,K_19,K_20],[K_6h,K_8h,K_9h,K_10h,K_11h,K_12h,K_13h,K_14h,K_15h,K_16h,K_18h,K_19h,K_20h],[7,17],223,0,[0,1,4,5,6,7,8,9,10,11,12,13,14,15,16,17,18,19,20,21,22,23,24,26,27,28,29,30,31,32,33,34,35,36,37,40,109,110,118,128,129,130,131,132,137,176,205,211],[40,85,90,95,100,105,109,110,118,128,132,137,149,154,157,160,167,170,176,200,205,207,211,219]⟩ (fun _=>[]) (by kernel_rfl) ?_
      simp only [stripX,stripOps,pickOps]
      simp [K_6_f,K_6_e,K_8_f,K_8_e,K_9_f,K_9_e,K_10_f,K_10_e,K_11_f,K_11_e,K_12_f,K_12_e,K_13_f,K_13_e,K_14_f,K_14_e,K_15_f,K_15_e,K_16_f,K_16_e,K_18_f,K_18_e,K_19_f,K_19_e,K_20_f,K_20_e,K_6h_f,K_6h_e,K_8h_f,K_8h_e,K_9h_f,K_9h_e,K_10h_f,K_10h_e,K_11h_f,K_11h_e,K_12h_f,K_12h_e,K_13h_f,K_13h_e,K_14h_f,K_14h_e,K_15h_f,K_15h_e,K_16h_f,K_16h_e,K_18h_f,K_18h_e,K_19h_f,K_19h_e,K_20h_f,K_20h_e,K_6h_g,K_8h_g,K_9h_g,K_10h_g,K_11h_g,K_12h_g,K_13h_g,K_14h_g,K_15h_g,K_16h_g,K_18h_g,K_19h_g,K_20h_g,hF,hkg,hvk,hlt]
      generalize argL F k=al at hal hsucc
      refine W_loopA (fun j:Nat=>[(1,.d (dBytS more)),(5,.ptr 0 2 0 0),(6,.d (.int .i64 v)),(7,.d (.int .i64 un)),(11,.d (.int .i64 b)),(19,.d (.int .i64 ((sumN (argN F v) k + cntI v (al.take j):Nat):Int))),(20,.d (.int .i64 (many F))),(21,.d (.bool true)),(22,.d (.int .i64 k)),(129,.d (dIntS al)),(130,.d (.int .i64 al.length)),(131,.d (.int .i64 j))]) (fun _=>[.row 2 [[.d (.int .i64 F.params_),.d (dBlockS F.blocks_)]]]) (fun j=>j≤al.length) (fun j=>al.length - j) 0 ?_ ?_ ?_
      · simp [cntI]
      · simp
      intro j hj
      have hcl:=cntI_le v (al.take j)
      rw [List.length_take] at hcl
      by_cases hjl:j < al.length
      · have ht:=cntI_take v al hjl
        have wj:IntKind.i64.wrap ((j:Int) + 1)=((j + 1:Nat):Int):=by rw [wrap_id] <;> omega
        refine W_run mixed ⟨[K_6,K_8,K_9,K_10,K_11,K_12,K_13,K_14,K_15,K_16,K_18,K_19,K_20],[K_6h,K_8h,K_9h,K_10h,K_11h,K_12h,K_13h,K_14h,K_15h,K_16h,K_18h,K_19h,K_20h],[7,17],223,0,[0,1,4,5,6,7,8,9,10,11,12,13,14,15,16,17,18,19,20,21,22,23,24,26,27,28,29,30,31,32,33,34,35,36,37,40,109,110,118,128,129,130,131,132,137,176,205,211],[40,85,90,95,100,105,109,110,118,128,132,137,149,154,157,160,167,170,176,200,205,207,211,219]⟩ (fun _=>[]) (by kernel_rfl) ?_
        simp only [stripX,stripOps,pickOps]
        simp [K_6_f,K_6_e,K_8_f,K_8_e,K_9_f,K_9_e,K_10_f,K_10_e,K_11_f,K_11_e,K_12_f,K_12_e,K_13_f,K_13_e,K_14_f,K_14_e,K_15_f,K_15_e,K_16_f,K_16_e,K_18_f,K_18_e,K_19_f,K_19_e,K_20_f,K_20_e,K_6h_f,K_6h_e,K_8h_f,K_8h_e,K_9h_f,K_9h_e,K_10h_f,K_10h_e,K_11h_f,K_11h_e,K_12h_f,K_12h_e,K_13h_f,K_13h_e,K_14h_f,K_14h_e,K_15h_f,K_15h_e,K_16h_f,K_16h_e,K_18h_f,K_18h_e,K_19h_f,K_19h_e,K_20h_f,K_20h_e,K_6h_g,K_8h_g,K_9h_g,K_10h_g,K_11h_g,K_12h_g,K_13h_g,K_14h_g,K_15h_g,K_16h_g,K_18h_g,K_19h_g,K_20h_g,hjl]
        rw [List.getElem?_eq_getElem hjl,Option.getD_some] at ht
        refine ⟨fun q=>⟨j + 1,by omega,by omega, ?_,wj⟩,fun q=>⟨j + 1,by omega,by omega, ?_,wj⟩⟩
        · rw [if_pos q] at ht
          rw [wrap_id (by omega) (by omega),ht];omega
        · rw [if_neg q] at ht
          omega
      · have he:al.take j=al:=List.take_of_length_le (by omega)
        rw [he]
        refine W_run mixed ⟨[K_6,K_8,K_9,K_10,K_11,K_12,K_13,K_14,K_15,K_16,K_18,K_19,K_20],[K_6h,K_8h,K_9h,K_10h,K_11h,K_12h,K_13h,K_14h,K_15h,K_16h,K_18h,K_19h,K_20h],[7,17],223,0,[0,1,4,5,6,7,8,9,10,11,12,13,14,15,16,17,18,19,20,21,22,23,24,26,27,28,29,30,31,32,33,34,35,36,37,40,109,110,118,128,129,130,131,132,137,176,205,211],[40,85,90,95,100,105,109,110,118,128,132,137,149,154,157,160,167,170,176,200,205,207,211,219]⟩ (fun _=>[]) (by kernel_rfl) ?_
        simp only [stripX,stripOps,pickOps]
        simp [K_6_f,K_6_e,K_8_f,K_8_e,K_9_f,K_9_e,K_10_f,K_10_e,K_11_f,K_11_e,K_12_f,K_12_e,K_13_f,K_13_e,K_14_f,K_14_e,K_15_f,K_15_e,K_16_f,K_16_e,K_18_f,K_18_e,K_19_f,K_19_e,K_20_f,K_20_e,K_6h_f,K_6h_e,K_8h_f,K_8h_e,K_9h_f,K_9h_e,K_10h_f,K_10h_e,K_11h_f,K_11h_e,K_12h_f,K_12h_e,K_13h_f,K_13h_e,K_14h_f,K_14h_e,K_15h_f,K_15h_e,K_16h_f,K_16h_e,K_18h_f,K_18h_e,K_19h_f,K_19h_e,K_20h_f,K_20h_e,K_6h_g,K_8h_g,K_9h_g,K_10h_g,K_11h_g,K_12h_g,K_13h_g,K_14h_g,K_15h_g,K_16h_g,K_18h_g,K_19h_g,K_20h_g,hjl,wk]
        exact ⟨k + 1,by omega,by omega,by omega,by omega⟩
    · have hkk:(sumN (argN F v) k:Int)≤un:=by rw [show k=(many F).toNat by omega];exact hu
      by_cases hb0:b < 0
      · have hvp:=bl hb0
        have hblk:isBlk F b=false:=by
          simp only [isBlk,hg,Bool.true_and]
          exact inR_f.2 (by omega)
        refine W_run mixed ⟨[K_6,K_8,K_9,K_10,K_11,K_12,K_13,K_14,K_15,K_16,K_18,K_19,K_20],[K_6h,K_8h,K_9h,K_10h,K_11h,K_12h,K_13h,K_14h,K_15h,K_16h,K_18h,K_19h,K_20h],[7,17],223,0,[0,1,4,5,6,7,8,9,10,11,12,13,14,15,16,17,18,19,20,21,22,23,24,26,27,28,29,30,31,32,33,34,35,36,37,40,109,110,118,128,129,130,131,132,137,176,205,211],[40,85,90,95,100,105,109,110,118,128,132,137,149,154,157,160,167,170,176,200,205,207,211,219]⟩ (fun _=>[]) (by kernel_rfl) ?_
        simp only [stripX,stripOps,pickOps]
        simp [K_6_f,K_6_e,K_8_f,K_8_e,K_9_f,K_9_e,K_10_f,K_10_e,K_11_f,K_11_e,K_12_f,K_12_e,K_13_f,K_13_e,K_14_f,K_14_e,K_15_f,K_15_e,K_16_f,K_16_e,K_18_f,K_18_e,K_19_f,K_19_e,K_20_f,K_20_e,K_6h_f,K_6h_e,K_8h_f,K_8h_e,K_9h_f,K_9h_e,K_10h_f,K_10h_e,K_11h_f,K_11h_e,K_12h_f,K_12h_e,K_13h_f,K_13h_e,K_14h_f,K_14h_e,K_15h_f,K_15h_e,K_16h_f,K_16h_e,K_18h_f,K_18h_e,K_19h_f,K_19h_e,K_20h_f,K_20h_e,K_6h_g,K_8h_g,K_9h_g,K_10h_g,K_11h_g,K_12h_g,K_13h_g,K_14h_g,K_15h_g,K_16h_g,K_18h_g,K_19h_g,K_20h_g,hF,hlt,firstR,hblk,hkk,hb0,hvp]
        rw [aft_call]
        refine ((drawRed_p more hm).calls rfl).mono ?_
        rintro r H2 ⟨rfl,G,fr,to,rfl,hG,hfr,hto⟩
        have hfg:Enc.good fr:=⟨by omega,by omega⟩
        have htg:Enc.good to:=⟨by omega,by omega⟩
        obtain ⟨hsh,hsp⟩:=red_spec hG hfg htg
        cases hr:rdOk G fr to with
        | false =>
          simp [K_6_f,K_6_e,K_8_f,K_8_e,K_9_f,K_9_e,K_10_f,K_10_e,K_11_f,K_11_e,K_12_f,K_12_e,K_13_f,K_13_e,K_14_f,K_14_e,K_15_f,K_15_e,K_16_f,K_16_e,K_18_f,K_18_e,K_19_f,K_19_e,K_20_f,K_20_e,K_6h_f,K_6h_e,K_8h_f,K_8h_e,K_9h_f,K_9h_e,K_10h_f,K_10h_e,K_11h_f,K_11h_e,K_12h_f,K_12h_e,K_13h_f,K_13h_e,K_14h_f,K_14h_e,K_15h_f,K_15h_e,K_16h_f,K_16h_e,K_18h_f,K_18h_e,K_19h_f,K_19h_e,K_20h_f,K_20h_e,K_6h_g,K_8h_g,K_9h_g,K_10h_g,K_11h_g,K_12h_g,K_13h_g,K_14h_g,K_15h_g,K_16h_g,K_18h_g,K_19h_g,K_20h_g,hG,hfg,htg,hr,hsh]
        | true =>
          obtain ⟨hWg,hsp2⟩:=hsp hr
          by_cases hne:fr=to
          · subst hne
            simp [K_6_f,K_6_e,K_8_f,K_8_e,K_9_f,K_9_e,K_10_f,K_10_e,K_11_f,K_11_e,K_12_f,K_12_e,K_13_f,K_13_e,K_14_f,K_14_e,K_15_f,K_15_e,K_16_f,K_16_e,K_18_f,K_18_e,K_19_f,K_19_e,K_20_f,K_20_e,K_6h_f,K_6h_e,K_8h_f,K_8h_e,K_9h_f,K_9h_e,K_10h_f,K_10h_e,K_11h_f,K_11h_e,K_12h_f,K_12h_e,K_13h_f,K_13h_e,K_14h_f,K_14h_e,K_15h_f,K_15h_e,K_16h_f,K_16h_e,K_18h_f,K_18h_e,K_19h_f,K_19h_e,K_20h_f,K_20h_e,K_6h_g,K_8h_g,K_9h_g,K_10h_g,K_11h_g,K_12h_g,K_13h_g,K_14h_g,K_15h_g,K_16h_g,K_18h_g,K_19h_g,K_20h_g,hG,hfg,htg,hr,hsh]
          · have hu:=hsp2 hne
            simp [K_6_f,K_6_e,K_8_f,K_8_e,K_9_f,K_9_e,K_10_f,K_10_e,K_11_f,K_11_e,K_12_f,K_12_e,K_13_f,K_13_e,K_14_f,K_14_e,K_15_f,K_15_e,K_16_f,K_16_e,K_18_f,K_18_e,K_19_f,K_19_e,K_20_f,K_20_e,K_6h_f,K_6h_e,K_8h_f,K_8h_e,K_9h_f,K_9h_e,K_10h_f,K_10h_e,K_11h_f,K_11h_e,K_12h_f,K_12h_e,K_13h_f,K_13h_e,K_14h_f,K_14h_e,K_15h_f,K_15h_e,K_16h_f,K_16h_e,K_18h_f,K_18h_e,K_19h_f,K_19h_e,K_20h_f,K_20h_e,K_6h_g,K_8h_g,K_9h_g,K_10h_g,K_11h_g,K_12h_g,K_13h_g,K_14h_g,K_15h_g,K_16h_g,K_18h_g,K_19h_g,K_20h_g,hG,hfg,htg,hr,hsh,hWg,hne,hu]
      · obtain ⟨b1,b2⟩:=bg (by omega)
        have hL:=lay hg
        have hblk:isBlk F b=true:=by
          simp only [isBlk,hg,Bool.true_and]
          exact inR_t.2 ⟨by omega,by rw [wrap_sub (by omega) (by have:=hL.len.1;omega)];omega⟩
        have hfv:firstV F b≤v:=by
          have h1:=hL.first b.toNat (by omega)
          have h2:(viewD F).first_=firsts F.blocks_ F.params_:=rfl
          rw [h2,firsts_get _ _ _ (by omega)] at h1
          have h3:firstV F b=cntB (F.blocks_.take b.toNat) F.params_:=by simp [firstV,hblk]
          rw [h3,Option.some.inj h1];exact b2
        have hb2:0≤b:=by omega
        refine W_run mixed ⟨[K_6,K_8,K_9,K_10,K_11,K_12,K_13,K_14,K_15,K_16,K_18,K_19,K_20],[K_6h,K_8h,K_9h,K_10h,K_11h,K_12h,K_13h,K_14h,K_15h,K_16h,K_18h,K_19h,K_20h],[7,17],223,0,[0,1,4,5,6,7,8,9,10,11,12,13,14,15,16,17,18,19,20,21,22,23,24,26,27,28,29,30,31,32,33,34,35,36,37,40,109,110,118,128,129,130,131,132,137,176,205,211],[40,85,90,95,100,105,109,110,118,128,132,137,149,154,157,160,167,170,176,200,205,207,211,219]⟩ (fun _=>[]) (by kernel_rfl) ?_
        simp only [stripX,stripOps,pickOps]
        simp [K_6_f,K_6_e,K_8_f,K_8_e,K_9_f,K_9_e,K_10_f,K_10_e,K_11_f,K_11_e,K_12_f,K_12_e,K_13_f,K_13_e,K_14_f,K_14_e,K_15_f,K_15_e,K_16_f,K_16_e,K_18_f,K_18_e,K_19_f,K_19_e,K_20_f,K_20_e,K_6h_f,K_6h_e,K_8h_f,K_8h_e,K_9h_f,K_9h_e,K_10h_f,K_10h_e,K_11h_f,K_11h_e,K_12h_f,K_12h_e,K_13h_f,K_13h_e,K_14h_f,K_14h_e,K_15h_f,K_15h_e,K_16h_f,K_16h_e,K_18h_f,K_18h_e,K_19h_f,K_19h_e,K_20h_f,K_20h_e,K_6h_g,K_8h_g,K_9h_g,K_10h_g,K_11h_g,K_12h_g,K_13h_g,K_14h_g,K_15h_g,K_16h_g,K_18h_g,K_19h_g,K_20h_g,hF,hlt,firstR,hblk,hkk,hb0,hb2,hfv]
        rw [aft_call]
        refine ((drawRed_p more hm).calls rfl).mono ?_
        rintro r H2 ⟨rfl,G,fr,to,rfl,hG,hfr,hto⟩
        have hfg:Enc.good fr:=⟨by omega,by omega⟩
        have htg:Enc.good to:=⟨by omega,by omega⟩
        obtain ⟨hsh,hsp⟩:=red_spec hG hfg htg
        cases hr:rdOk G fr to with
        | false =>
          simp [K_6_f,K_6_e,K_8_f,K_8_e,K_9_f,K_9_e,K_10_f,K_10_e,K_11_f,K_11_e,K_12_f,K_12_e,K_13_f,K_13_e,K_14_f,K_14_e,K_15_f,K_15_e,K_16_f,K_16_e,K_18_f,K_18_e,K_19_f,K_19_e,K_20_f,K_20_e,K_6h_f,K_6h_e,K_8h_f,K_8h_e,K_9h_f,K_9h_e,K_10h_f,K_10h_e,K_11h_f,K_11h_e,K_12h_f,K_12h_e,K_13h_f,K_13h_e,K_14h_f,K_14h_e,K_15h_f,K_15h_e,K_16h_f,K_16h_e,K_18h_f,K_18h_e,K_19h_f,K_19h_e,K_20h_f,K_20h_e,K_6h_g,K_8h_g,K_9h_g,K_10h_g,K_11h_g,K_12h_g,K_13h_g,K_14h_g,K_15h_g,K_16h_g,K_18h_g,K_19h_g,K_20h_g,hG,hfg,htg,hr,hsh]
        | true =>
          obtain ⟨hWg,hsp2⟩:=hsp hr
          by_cases hne:fr=to
          · subst hne
            simp [K_6_f,K_6_e,K_8_f,K_8_e,K_9_f,K_9_e,K_10_f,K_10_e,K_11_f,K_11_e,K_12_f,K_12_e,K_13_f,K_13_e,K_14_f,K_14_e,K_15_f,K_15_e,K_16_f,K_16_e,K_18_f,K_18_e,K_19_f,K_19_e,K_20_f,K_20_e,K_6h_f,K_6h_e,K_8h_f,K_8h_e,K_9h_f,K_9h_e,K_10h_f,K_10h_e,K_11h_f,K_11h_e,K_12h_f,K_12h_e,K_13h_f,K_13h_e,K_14h_f,K_14h_e,K_15h_f,K_15h_e,K_16h_f,K_16h_e,K_18h_f,K_18h_e,K_19h_f,K_19h_e,K_20h_f,K_20h_e,K_6h_g,K_8h_g,K_9h_g,K_10h_g,K_11h_g,K_12h_g,K_13h_g,K_14h_g,K_15h_g,K_16h_g,K_18h_g,K_19h_g,K_20h_g,hG,hfg,htg,hr,hsh]
          · have hu:=hsp2 hne
            simp [K_6_f,K_6_e,K_8_f,K_8_e,K_9_f,K_9_e,K_10_f,K_10_e,K_11_f,K_11_e,K_12_f,K_12_e,K_13_f,K_13_e,K_14_f,K_14_e,K_15_f,K_15_e,K_16_f,K_16_e,K_18_f,K_18_e,K_19_f,K_19_e,K_20_f,K_20_e,K_6h_f,K_6h_e,K_8h_f,K_8h_e,K_9h_f,K_9h_e,K_10h_f,K_10h_e,K_11h_f,K_11h_e,K_12h_f,K_12h_e,K_13h_f,K_13h_e,K_14h_f,K_14h_e,K_15h_f,K_15h_e,K_16h_f,K_16h_e,K_18h_f,K_18h_e,K_19h_f,K_19h_e,K_20h_f,K_20h_e,K_6h_g,K_8h_g,K_9h_g,K_10h_g,K_11h_g,K_12h_g,K_13h_g,K_14h_g,K_15h_g,K_16h_g,K_18h_g,K_19h_g,K_20h_g,hG,hfg,htg,hr,hsh,hWg,hne,hu]
namespace fnUses
open Go.ChangeShapes Go.WideShapes Go.RowKit
theorem own:ownKnob Tryz.prog.godebug=none:=by kernel_rfl
theorem lifted (os:Os) (started:os.Started) (H:Type) (enc:TypeId × Value→H) :
    ReturnsInHanded {} Tryz.checked os 3 .any (Rows.fnUsesSpec.pre6 enc Tryz.prog Tryz.f3 Rows.fnUsesRow.domain false) (Rows.fnUsesSpec.post enc Tryz.prog Tryz.f3 false true false false):=by
  refine returnsInHanded_of_change (C:=Tryz.checked) own started (by kernel_rfl) Tryz.func3
    (ChangeSpec.witness6 (enc:=enc) (C:=Tryz.checked) false ⟨#[],#[.slice none 0 0,.slice none 0 0],[]⟩ 8 (by kernel_rfl) (by kernel_rfl) (by kernel_rfl) (by kernel_rfl)) ?_
  intro W base args ds gs before hval hW hcnd _
  have hW':=hW
  obtain ⟨p,q,hA,hV,_,_,_⟩:=hW
  rw [Tryz.params3] at hA hval
  obtain ⟨v0,vs0,d0,ds0,p0,q0,hargs,rfl,rfl,h0,r0⟩:=trodAll_cons hA
  obtain ⟨v1,vs1,d1,ds1,p1,q1,rfl,rfl,rfl,h1,r1⟩:=trodAll_cons r0
  obtain ⟨rfl,rfl,rfl⟩:=trodAll_nil r1
  obtain rfl:args=#[v0,v1]:=by cases args;simp_all
  obtain ⟨code,hcode,hv0⟩:=arg_of rd_LByt (hval 0 22 v0 rfl rfl) h0
  obtain ⟨more,hmore,hv1⟩:=arg_of rd_LByt (hval 1 22 v1 rfl rfl) h1
  obtain ⟨rfl,rfl⟩:=trodVars_none hV
  exact row_end (by kernel_rfl) (by kernel_rfl) (by kernel_rfl) Tryz.underlying4 hW' rfl rfl rfl rfl (vs:=[argV code,argV more]) (by exact ⟨v0,_,rfl,hv0,⟨v1,_,rfl,hv1,rfl⟩⟩) (law_Uses code more hcode hmore)
theorem over:Rows.fnUsesRow.holds Tryz.pinned (OpenSpec.ofChange Rows.fnUsesSpec) :=
  OpenClaim.holds_of_wide 3 Tryz.f3 rfl rfl rfl rfl rfl rfl rfl ⟨rfl,rfl,rfl,rfl,rfl⟩ rfl rfl rfl rfl rfl (by kernel_rfl) Tryz.func3 (by kernel_rfl)
    (of_decide_eq_true (by kernel_rfl)) (by unfold Func.isWrapper;first | (rw [if_pos (by decide +kernel)];kernel_rfl) | (rw [if_neg (by decide +kernel)];exact ⟨rfl,rfl⟩))
    (fun os started H enc _=>lifted os started H enc)
end fnUses
theorem fnUses_holds:Rows.FnUsesSaid:=fnUses.over
end Go.Proofs.YtnomiclfiijniaaGreat
