/- The law FnCircles. No condition. -/
import Derived.Test.YthafdegfjadijaaGreatRows
import Derived.Test.YthafdegfjadijaaGreatQS163
namespace Go.Proofs.YthafdegfjadijaaGreat
set_option maxRecDepth 100000
set_option linter.unusedSimpArgs false
set_option linter.unusedVariables false
def tlC:Nat→Code→Code
  | k + 1,.seq a b=>tlC k b
  | _,c=>c
set_option maxHeartbeats 4000000 in
theorem circ_tail (more : List Byt) (hm : Enc.good more) (F : Func) (hF : Enc.good F) (b : List (List Int)) (hb8 : b.length ≤ 1000) (hb : ∀ e ∈ b, ∃ a h : Int, e = [a, h] ∧ loB F h = true ∧ hasL (loV F h) a = true ∧ hasL (loV F h) h = true ∧ (loV F h).length ≤ 1000) {Q : Exit → St → Prop} (hQ : ∀ s : St, s.env 4 = .d (.bool true) → Q .ret s) :
    W Tryz.prog 251 0 (tlC 10 (Tryz.f4.body.getD .skip)) Q ⟨mk [(1,.d (dBytS more)),(5,.ptr 0 2 0 0),(6,.d (dIntSS b))],[.row 2 [[.d (.int .i64 F.params_),.d (dBlockS F.blocks_)]]]⟩:=by
  simp only [Tryz.f4,Option.getD_some,tlC]
  refine W_run mixed ⟨[K_5,K_23,K_24,K_25,K_26,K_13,K_11,K_16,K_20,K_27,K_29,K_30,K_31,K_14],[K_5h,K_23h,K_24h,K_25h,K_26h,K_13h,K_11h,K_16h,K_20h,K_27h,K_29h,K_30h,K_31h,K_14h],[22,28],251,0,[0,1,4,5,6,7,8,9,10,11,12,13,14,15,16,17,18,19,21,22,24,26,27,28,29,30,31,32,33,34,35,36,37,38,41,82,94,95,96,97,98,109,110,111,112,113,116,117,118,119,153,156,157,158,159,164,190],[41,67,73,78,82,89,92,94,98,109,113,119,123,127,134,145,153,159,164,175,183,190,224,229,234,239,242,246]⟩ (fun | 36=>[1,2,0,3,4,5,6,7,8,9] | _=>[]) (by kernel_rfl) ?_
  simp only [stripX,stripOps,pickOps]
  simp [K_5_f,K_5_e,K_23_f,K_23_e,K_24_f,K_24_e,K_25_f,K_25_e,K_26_f,K_26_e,K_13_f,K_13_e,K_11_f,K_11_e,K_16_f,K_16_e,K_20_f,K_20_e,K_27_f,K_27_e,K_29_f,K_29_e,K_30_f,K_30_e,K_31_f,K_31_e,K_14_f,K_14_e,K_5h_f,K_5h_e,K_23h_f,K_23h_e,K_24h_f,K_24h_e,K_25h_f,K_25h_e,K_26h_f,K_26h_e,K_13h_f,K_13h_e,K_11h_f,K_11h_e,K_16h_f,K_16h_e,K_20h_f,K_20h_e,K_27h_f,K_27h_e,K_29h_f,K_29h_e,K_30h_f,K_30h_e,K_31h_f,K_31h_e,K_14h_f,K_14h_e,K_5h_g,K_23h_g,K_24h_g,K_25h_g,K_26h_g,K_13h_g,K_11h_g,K_16h_g,K_20h_g,K_27h_g,K_29h_g,K_30h_g,K_31h_g,K_14h_g]
  refine W_loopA (fun i:Nat=>[(1,.d (dBytS more)),(5,.ptr 0 2 0 0),(6,.d (dIntSS b)),(156,.d (dIntSS b)),(157,.d (.int .i64 b.length)),(158,.d (.int .i64 i))])
    (fun _=>[.row 2 [[.d (.int .i64 F.params_),.d (dBlockS F.blocks_)]]]) (fun i=>i≤b.length) (fun i=>b.length - i) 0 ?_ (Nat.zero_le _) ?_
  · simp
  intro i hi
  replace hi:i≤b.length:=hi
  by_cases h:i < b.length
  · obtain ⟨e,he⟩:∃ e,e=b[i]?.getD []:=⟨_,rfl⟩
    have e0:=he.symm
    have e1:∀ h:i < b.length,b[i]=e:=fun h=>by rw [he,List.getElem?_eq_getElem h];rfl
    obtain ⟨x,y,rfl,l1,l2,l3,l4⟩:=hb e (by rw [← e1 h];exact List.getElem_mem h)
    have wi:IntKind.i64.wrap ((i:Int) + 1)=((i + 1:Nat):Int):=by rw [wrap_id] <;> omega
    have lr:loR F y=.tup [.d (dIntS (loV F y)),.d (.bool true)]:=by simp [loR,l1]
    refine W_run mixed ⟨[K_5,K_23,K_24,K_25,K_26,K_13,K_11,K_16,K_20,K_27,K_29,K_30,K_31,K_14],[K_5h,K_23h,K_24h,K_25h,K_26h,K_13h,K_11h,K_16h,K_20h,K_27h,K_29h,K_30h,K_31h,K_14h],[22,28],251,0,[0,1,4,5,6,7,8,9,10,11,12,13,14,15,16,17,18,19,21,22,24,26,27,28,29,30,31,32,33,34,35,36,37,38,41,82,94,95,96,97,98,109,110,111,112,113,116,117,118,119,153,156,157,158,159,164,190],[41,67,73,78,82,89,92,94,98,109,113,119,123,127,134,145,153,159,164,175,183,190,224,229,234,239,242,246]⟩ (fun | 36=>[1,2,0,3,4,5,6,7,8,9] | _=>[]) (by kernel_rfl) ?_
    simp only [stripX,stripOps,pickOps]
    simp [K_5_f,K_5_e,K_23_f,K_23_e,K_24_f,K_24_e,K_25_f,K_25_e,K_26_f,K_26_e,K_13_f,K_13_e,K_11_f,K_11_e,K_16_f,K_16_e,K_20_f,K_20_e,K_27_f,K_27_e,K_29_f,K_29_e,K_30_f,K_30_e,K_31_f,K_31_e,K_14_f,K_14_e,K_5h_f,K_5h_e,K_23h_f,K_23h_e,K_24h_f,K_24h_e,K_25h_f,K_25h_e,K_26h_f,K_26h_e,K_13h_f,K_13h_e,K_11h_f,K_11h_e,K_16h_f,K_16h_e,K_20h_f,K_20h_e,K_27h_f,K_27h_e,K_29h_f,K_29h_e,K_30h_f,K_30h_e,K_31h_f,K_31h_e,K_14h_f,K_14h_e,K_5h_g,K_23h_g,K_24h_g,K_25h_g,K_26h_g,K_13h_g,K_11h_g,K_16h_g,K_20h_g,K_27h_g,K_29h_g,K_30h_g,K_31h_g,K_14h_g,h,e0,e1,hF,lr,l2,l3,l4,wi]
    exact ⟨i + 1,by omega,by omega,rfl⟩
  · refine W_run mixed ⟨[K_5,K_23,K_24,K_25,K_26,K_13,K_11,K_16,K_20,K_27,K_29,K_30,K_31,K_14],[K_5h,K_23h,K_24h,K_25h,K_26h,K_13h,K_11h,K_16h,K_20h,K_27h,K_29h,K_30h,K_31h,K_14h],[22,28],251,0,[0,1,4,5,6,7,8,9,10,11,12,13,14,15,16,17,18,19,21,22,24,26,27,28,29,30,31,32,33,34,35,36,37,38,41,82,94,95,96,97,98,109,110,111,112,113,116,117,118,119,153,156,157,158,159,164,190],[41,67,73,78,82,89,92,94,98,109,113,119,123,127,134,145,153,159,164,175,183,190,224,229,234,239,242,246]⟩ (fun | 36=>[1,2,0,3,4,5,6,7,8,9] | _=>[]) (by kernel_rfl) ?_
    simp only [stripX,stripOps,pickOps]
    simp [K_5_f,K_5_e,K_23_f,K_23_e,K_24_f,K_24_e,K_25_f,K_25_e,K_26_f,K_26_e,K_13_f,K_13_e,K_11_f,K_11_e,K_16_f,K_16_e,K_20_f,K_20_e,K_27_f,K_27_e,K_29_f,K_29_e,K_30_f,K_30_e,K_31_f,K_31_e,K_14_f,K_14_e,K_5h_f,K_5h_e,K_23h_f,K_23h_e,K_24h_f,K_24h_e,K_25h_f,K_25h_e,K_26h_f,K_26h_e,K_13h_f,K_13h_e,K_11h_f,K_11h_e,K_16h_f,K_16h_e,K_20h_f,K_20h_e,K_27h_f,K_27h_e,K_29h_f,K_29h_e,K_30h_f,K_30h_e,K_31h_f,K_31h_e,K_14h_f,K_14h_e,K_5h_g,K_23h_g,K_24h_g,K_25h_g,K_26h_g,K_13h_g,K_11h_g,K_16h_g,K_20h_g,K_27h_g,K_29h_g,K_30h_g,K_31h_g,K_14h_g,h]
    rw [aft_call]
    refine ((drawLoop_p more hm).calls rfl).mono ?_
    rintro r H1 ⟨rfl,G,k,rfl,hG,hk⟩
    obtain ⟨L,hL⟩:∃ L,L=if loB G k=true then loV G k else []:=⟨_,rfl⟩
    have L8:L.length≤1000:=by
      rw [hL]
      split
      · rename_i hl
        simp only [loB,Bool.and_eq_true] at hl
        have:=loV_len (isBlk_n hG hl.1).1 k
        unfold loV
        split
        · simp
        · omega
      · simp
    obtain ⟨n,hn⟩:∃ n:Int,n=if dpB G k=true then ((dpN G k G.blocks_.length:Nat):Int) else 0:=⟨_,rfl⟩
    have e2:dpR G k=.tup [.d (.int .i64 n),.d (.bool (dpB G k))]:=by
      rw [hn,dpR]
      cases dpB G k <;> rfl
    cases h1:loB G k with
    | false =>
      have e1:loR G k=.tup [.d (dIntS L),.d (.bool false)]:=by rw [hL,loR,h1]
      cases h2:dpB G k with
      | false =>
        rw [h2] at e2
        simp [K_5_f,K_5_e,K_23_f,K_23_e,K_24_f,K_24_e,K_25_f,K_25_e,K_26_f,K_26_e,K_13_f,K_13_e,K_11_f,K_11_e,K_16_f,K_16_e,K_20_f,K_20_e,K_27_f,K_27_e,K_29_f,K_29_e,K_30_f,K_30_e,K_31_f,K_31_e,K_14_f,K_14_e,K_5h_f,K_5h_e,K_23h_f,K_23h_e,K_24h_f,K_24h_e,K_25h_f,K_25h_e,K_26h_f,K_26h_e,K_13h_f,K_13h_e,K_11h_f,K_11h_e,K_16h_f,K_16h_e,K_20h_f,K_20h_e,K_27h_f,K_27h_e,K_29h_f,K_29h_e,K_30h_f,K_30h_e,K_31h_f,K_31h_e,K_14h_f,K_14h_e,K_5h_g,K_23h_g,K_24h_g,K_25h_g,K_26h_g,K_13h_g,K_11h_g,K_16h_g,K_20h_g,K_27h_g,K_29h_g,K_30h_g,K_31h_g,K_14h_g,hG,e1,e2,L8]
        exact hQ _ rfl
      | true =>
        rw [h2] at e2
        simp [K_5_f,K_5_e,K_23_f,K_23_e,K_24_f,K_24_e,K_25_f,K_25_e,K_26_f,K_26_e,K_13_f,K_13_e,K_11_f,K_11_e,K_16_f,K_16_e,K_20_f,K_20_e,K_27_f,K_27_e,K_29_f,K_29_e,K_30_f,K_30_e,K_31_f,K_31_e,K_14_f,K_14_e,K_5h_f,K_5h_e,K_23h_f,K_23h_e,K_24h_f,K_24h_e,K_25h_f,K_25h_e,K_26h_f,K_26h_e,K_13h_f,K_13h_e,K_11h_f,K_11h_e,K_16h_f,K_16h_e,K_20h_f,K_20h_e,K_27h_f,K_27h_e,K_29h_f,K_29h_e,K_30h_f,K_30h_e,K_31h_f,K_31h_e,K_14h_f,K_14h_e,K_5h_g,K_23h_g,K_24h_g,K_25h_g,K_26h_g,K_13h_g,K_11h_g,K_16h_g,K_20h_g,K_27h_g,K_29h_g,K_30h_g,K_31h_g,K_14h_g,hG,e1,e2,L8]
        exact hQ _ rfl
    | true =>
      have e1:loR G k=.tup [.d (dIntS L),.d (.bool true)]:=by rw [hL,loR,h1]
      cases h2:dpB G k with
      | false =>
        rw [h2] at e2
        simp [K_5_f,K_5_e,K_23_f,K_23_e,K_24_f,K_24_e,K_25_f,K_25_e,K_26_f,K_26_e,K_13_f,K_13_e,K_11_f,K_11_e,K_16_f,K_16_e,K_20_f,K_20_e,K_27_f,K_27_e,K_29_f,K_29_e,K_30_f,K_30_e,K_31_f,K_31_e,K_14_f,K_14_e,K_5h_f,K_5h_e,K_23h_f,K_23h_e,K_24h_f,K_24h_e,K_25h_f,K_25h_e,K_26h_f,K_26h_e,K_13h_f,K_13h_e,K_11h_f,K_11h_e,K_16h_f,K_16h_e,K_20h_f,K_20h_e,K_27h_f,K_27h_e,K_29h_f,K_29h_e,K_30h_f,K_30h_e,K_31h_f,K_31h_e,K_14h_f,K_14h_e,K_5h_g,K_23h_g,K_24h_g,K_25h_g,K_26h_g,K_13h_g,K_11h_g,K_16h_g,K_20h_g,K_27h_g,K_29h_g,K_30h_g,K_31h_g,K_14h_g,hG,e1,e2,L8]
        exact hQ _ rfl
      | true =>
        have hp:0 < n:=by
          rw [hn,if_pos h2]
          have:=depth_law hG h1
          omega
        rw [h2] at e2
        simp [K_5_f,K_5_e,K_23_f,K_23_e,K_24_f,K_24_e,K_25_f,K_25_e,K_26_f,K_26_e,K_13_f,K_13_e,K_11_f,K_11_e,K_16_f,K_16_e,K_20_f,K_20_e,K_27_f,K_27_e,K_29_f,K_29_e,K_30_f,K_30_e,K_31_f,K_31_e,K_14_f,K_14_e,K_5h_f,K_5h_e,K_23h_f,K_23h_e,K_24h_f,K_24h_e,K_25h_f,K_25h_e,K_26h_f,K_26h_e,K_13h_f,K_13h_e,K_11h_f,K_11h_e,K_16h_f,K_16h_e,K_20h_f,K_20h_e,K_27h_f,K_27h_e,K_29h_f,K_29h_e,K_30h_f,K_30h_e,K_31h_f,K_31h_e,K_14h_f,K_14h_e,K_5h_g,K_23h_g,K_24h_g,K_25h_g,K_26h_g,K_13h_g,K_11h_g,K_16h_g,K_20h_g,K_27h_g,K_29h_g,K_30h_g,K_31h_g,K_14h_g,hG,e1,e2,L8,hp]
        exact hQ _ rfl
set_option maxHeartbeats 8000000 in
theorem law_Circles (code more : List Byt) (hc : Enc.good code) (hm : Enc.good more) : PureP Tryz.prog 4 [.d (dBytS code), .d (dBytS more)] (· = .d (.bool true)) := by
  cases hb:bigB code more with
  | true => refine pure_of Tryz.func4 en_4 rfl rfl (W_run mixed ⟨[K_5, K_23, K_24, K_25, K_26, K_13, K_11, K_16, K_20, K_27, K_29, K_30, K_31, K_14], [K_5h, K_23h, K_24h, K_25h, K_26h, K_13h, K_11h, K_16h, K_20h, K_27h, K_29h, K_30h, K_31h, K_14h], [22, 28], 251, 0, [0, 1, 4, 5, 6, 7, 8, 9, 10, 11, 12, 13, 14, 15, 16, 17, 18, 19, 21, 22, 24, 26, 27, 28, 29, 30, 31, 32, 33, 34, 35, 36, 37, 38, 41, 82, 94, 95, 96, 97, 98, 109, 110, 111, 112, 113, 116, 117, 118, 119, 153, 156, 157, 158, 159, 164, 190], [41, 67, 73, 78, 82, 89, 92, 94, 98, 109, 113, 119, 123, 127, 134, 145, 153, 159, 164, 175, 183, 190, 224, 229, 234, 239, 242, 246]⟩ (fun | 36 => [1, 2, 0, 3, 4, 5, 6, 7, 8, 9] | _ => []) (by kernel_rfl) ?_)
            simp only [Tryz.f4,stripX,stripOps,pickOps]
            simp [K_5_f,K_5_e,K_23_f,K_23_e,K_24_f,K_24_e,K_25_f,K_25_e,K_26_f,K_26_e,K_13_f,K_13_e,K_11_f,K_11_e,K_16_f,K_16_e,K_20_f,K_20_e,K_27_f,K_27_e,K_29_f,K_29_e,K_30_f,K_30_e,K_31_f,K_31_e,K_14_f,K_14_e,K_5h_f,K_5h_e,K_23h_f,K_23h_e,K_24h_f,K_24h_e,K_25h_f,K_25h_e,K_26h_f,K_26h_e,K_13h_f,K_13h_e,K_11h_f,K_11h_e,K_16h_f,K_16h_e,K_20h_f,K_20h_e,K_27h_f,K_27h_e,K_29h_f,K_29h_e,K_30h_f,K_30h_e,K_31h_f,K_31h_e,K_14h_f,K_14h_e,K_5h_g,K_23h_g,K_24h_g,K_25h_g,K_26h_g,K_13h_g,K_11h_g,K_16h_g,K_20h_g,K_27h_g,K_29h_g,K_30h_g,K_31h_g,K_14h_g,hc,hm,hb]
  | false =>
  refine pure_of Tryz.func4 en_4 rfl rfl (W_runCut mixed 3 ⟨[K_5,K_23,K_24,K_25,K_26,K_13,K_11,K_16,K_20,K_27,K_29,K_30,K_31,K_14],[K_5h,K_23h,K_24h,K_25h,K_26h,K_13h,K_11h,K_16h,K_20h,K_27h,K_29h,K_30h,K_31h,K_14h],[22,28],251,0,[0,1,4,5,6,7,8,9,10,11,12,13,14,15,16,17,18,19,21,22,24,26,27,28,29,30,31,32,33,34,35,36,37,38,41,82,94,95,96,97,98,109,110,111,112,113,116,117,118,119,153,156,157,158,159,164,190],[41,67,73,78,82,89,92,94,98,109,113,119,123,127,134,145,153,159,164,175,183,190,224,229,234,239,242,246]⟩ (fun | 36=>[1,2,0,3,4,5,6,7,8,9] | _=>[]) (by kernel_rfl) ?_)
  simp only [Tryz.f4,stripCut,stripX,stripOps,pickOps]
  simp [K_5_f,K_5_e,K_23_f,K_23_e,K_24_f,K_24_e,K_25_f,K_25_e,K_26_f,K_26_e,K_13_f,K_13_e,K_11_f,K_11_e,K_16_f,K_16_e,K_20_f,K_20_e,K_27_f,K_27_e,K_29_f,K_29_e,K_30_f,K_30_e,K_31_f,K_31_e,K_14_f,K_14_e,K_5h_f,K_5h_e,K_23h_f,K_23h_e,K_24h_f,K_24h_e,K_25h_f,K_25h_e,K_26h_f,K_26h_e,K_13h_f,K_13h_e,K_11h_f,K_11h_e,K_16h_f,K_16h_e,K_20h_f,K_20h_e,K_27h_f,K_27h_e,K_29h_f,K_29h_e,K_30h_f,K_30h_e,K_31h_f,K_31h_e,K_14h_f,K_14h_e,K_5h_g,K_23h_g,K_24h_g,K_25h_g,K_26h_g,K_13h_g,K_11h_g,K_16h_g,K_20h_g,K_27h_g,K_29h_g,K_30h_g,K_31h_g,K_14h_g,hc,hm,hb]
  rw [aft_call]
  refine ((drawBack_p code hc).calls rfl).mono ?_
  rintro r H1 ⟨rfl,F,rfl,hF⟩
  simp [K_5_f,K_5_e,K_23_f,K_23_e,K_24_f,K_24_e,K_25_f,K_25_e,K_26_f,K_26_e,K_13_f,K_13_e,K_11_f,K_11_e,K_16_f,K_16_e,K_20_f,K_20_e,K_27_f,K_27_e,K_29_f,K_29_e,K_30_f,K_30_e,K_31_f,K_31_e,K_14_f,K_14_e,K_5h_f,K_5h_e,K_23h_f,K_23h_e,K_24h_f,K_24h_e,K_25h_f,K_25h_e,K_26h_f,K_26h_e,K_13h_f,K_13h_e,K_11h_f,K_11h_e,K_16h_f,K_16h_e,K_20h_f,K_20h_e,K_27h_f,K_27h_e,K_29h_f,K_29h_e,K_30h_f,K_30h_e,K_31h_f,K_31h_e,K_14h_f,K_14h_e,K_5h_g,K_23h_g,K_24h_g,K_25h_g,K_26h_g,K_13h_g,K_11h_g,K_16h_g,K_20h_g,K_27h_g,K_29h_g,K_30h_g,K_31h_g,K_14h_g,hc,hm,hF]
  cases hg:goodF F with
  | false =>
    have d1:beR F=.tup [.d (dIntSS []),.d (.bool false)]:=by simp [beR,beV,hg]
    have d2:rdR F=.tup [.d (.bool false),.d (.bool false)]:=by simp [rdR,rdB,hg]
    have d3:boR F=.tup [.d (dIntS []),.d (.bool false)]:=by simp [boR,boV,hg]
    refine W_runCut mixed 7 ⟨[K_5,K_23,K_24,K_25,K_26,K_13,K_11,K_16,K_20,K_27,K_29,K_30,K_31,K_14],[K_5h,K_23h,K_24h,K_25h,K_26h,K_13h,K_11h,K_16h,K_20h,K_27h,K_29h,K_30h,K_31h,K_14h],[22,28],251,0,[0,1,4,5,6,7,8,9,10,11,12,13,14,15,16,17,18,19,21,22,24,26,27,28,29,30,31,32,33,34,35,36,37,38,41,82,94,95,96,97,98,109,110,111,112,113,116,117,118,119,153,156,157,158,159,164,190],[41,67,73,78,82,89,92,94,98,109,113,119,123,127,134,145,153,159,164,175,183,190,224,229,234,239,242,246]⟩ (fun | 36=>[1,2,0,3,4,5,6,7,8,9] | _=>[]) (by kernel_rfl) ?_
    simp only [stripCut,stripX,stripOps,pickOps]
    simp [K_5_f,K_5_e,K_23_f,K_23_e,K_24_f,K_24_e,K_25_f,K_25_e,K_26_f,K_26_e,K_13_f,K_13_e,K_11_f,K_11_e,K_16_f,K_16_e,K_20_f,K_20_e,K_27_f,K_27_e,K_29_f,K_29_e,K_30_f,K_30_e,K_31_f,K_31_e,K_14_f,K_14_e,K_5h_f,K_5h_e,K_23h_f,K_23h_e,K_24h_f,K_24h_e,K_25h_f,K_25h_e,K_26h_f,K_26h_e,K_13h_f,K_13h_e,K_11h_f,K_11h_e,K_16h_f,K_16h_e,K_20h_f,K_20h_e,K_27h_f,K_27h_e,K_29h_f,K_29h_e,K_30h_f,K_30h_e,K_31h_f,K_31h_e,K_14h_f,K_14h_e,K_5h_g,K_23h_g,K_24h_g,K_25h_g,K_26h_g,K_13h_g,K_11h_g,K_16h_g,K_20h_g,K_27h_g,K_29h_g,K_30h_g,K_31h_g,K_14h_g,hc,hm,hF,d1,d2,d3]
    refine W_weak (IntoH.weak ?_) (circ_tail more hm F hF [] (by simp) (fun e he=>absurd he List.not_mem_nil) fun s h=>?_)
    · simp
    · simp [retC,h]
  | true =>
    obtain ⟨hv1,hn1,hp1⟩:=good_flow hg
    have hv8:=hv1.1
    have hln:(nextL F.blocks_).length=F.blocks_.length:=by simp [nextL]
    obtain ⟨bk,hbk⟩:∃ bk,bk=bkL F:=⟨_,rfl⟩
    have bk8:bk.length≤1000:=by have:=bkL_len hg;rw [hbk];omega
    have bks:∀ e∈bk,e.length≤1000:=fun e he=>by
      rw [hbk] at he
      obtain ⟨k,x,h1,h2,rfl⟩:=mem_bkTo.1 he
      simp
    have bkm:∀ e∈bk,∃ a h:Int,e=[a,h]∧loB F h=true∧hasL (loV F h) a=true∧hasL (loV F h) h=true∧(loV F h).length≤1000:=fun e he=>by
      rw [hbk] at he
      obtain ⟨a,h,q1,q2,q3,q4⟩:=edge_law hg he
      refine ⟨a,h,q1,q2,q3,q4, ?_⟩
      have:=loV_len hg h
      unfold loV
      split
      · simp
      · omega
    obtain ⟨o1,o2,o3,o4,o5,o6⟩:=boV_facts hg
    obtain ⟨o,ho⟩:∃ o,o=boV F:=⟨_,rfl⟩
    rw [← ho] at o1
    have o8:o.length≤8:=by omega
    have d1:beR F=.tup [.d (dIntSS bk),.d (.bool true)]:=by simp [beR,beV,hg,hbk]
    have d3:boR F=.tup [.d (dIntS o),.d (.bool true)]:=by simp [boR,hg,ho]
    cases hrd:rdB F with
    | false =>
      have d2:rdR F=.tup [.d (.bool false),.d (.bool true)]:=by simp [rdR,hrd,hg]
      refine W_runCut mixed 7 ⟨[K_5,K_23,K_24,K_25,K_26,K_13,K_11,K_16,K_20,K_27,K_29,K_30,K_31,K_14],[K_5h,K_23h,K_24h,K_25h,K_26h,K_13h,K_11h,K_16h,K_20h,K_27h,K_29h,K_30h,K_31h,K_14h],[22,28],251,0,[0,1,4,5,6,7,8,9,10,11,12,13,14,15,16,17,18,19,21,22,24,26,27,28,29,30,31,32,33,34,35,36,37,38,41,82,94,95,96,97,98,109,110,111,112,113,116,117,118,119,153,156,157,158,159,164,190],[41,67,73,78,82,89,92,94,98,109,113,119,123,127,134,145,153,159,164,175,183,190,224,229,234,239,242,246]⟩ (fun | 36=>[1,2,0,3,4,5,6,7,8,9] | _=>[]) (by kernel_rfl) ?_
      simp only [stripCut,stripX,stripOps,pickOps]
      simp [K_5_f,K_5_e,K_23_f,K_23_e,K_24_f,K_24_e,K_25_f,K_25_e,K_26_f,K_26_e,K_13_f,K_13_e,K_11_f,K_11_e,K_16_f,K_16_e,K_20_f,K_20_e,K_27_f,K_27_e,K_29_f,K_29_e,K_30_f,K_30_e,K_31_f,K_31_e,K_14_f,K_14_e,K_5h_f,K_5h_e,K_23h_f,K_23h_e,K_24h_f,K_24h_e,K_25h_f,K_25h_e,K_26h_f,K_26h_e,K_13h_f,K_13h_e,K_11h_f,K_11h_e,K_16h_f,K_16h_e,K_20h_f,K_20h_e,K_27h_f,K_27h_e,K_29h_f,K_29h_e,K_30h_f,K_30h_e,K_31h_f,K_31h_e,K_14h_f,K_14h_e,K_5h_g,K_23h_g,K_24h_g,K_25h_g,K_26h_g,K_13h_g,K_11h_g,K_16h_g,K_20h_g,K_27h_g,K_29h_g,K_30h_g,K_31h_g,K_14h_g,hc,hm,hF,d1,d2,d3,bk8]
      refine ⟨bks,W_weak (IntoH.weak ?_) (circ_tail more hm F hF bk bk8 bkm fun s h=>?_)⟩
      · simp
      · simp [retC,h]
    | true =>
      have d2:rdR F=.tup [.d (.bool true),.d (.bool true)]:=by simp [rdR,hrd,hg]
      have hred:Red (nextL F.blocks_):=by
        simpa [rdB,hg] using hrd
      refine W_runCut mixed 7 ⟨[K_5,K_23,K_24,K_25,K_26,K_13,K_11,K_16,K_20,K_27,K_29,K_30,K_31,K_14],[K_5h,K_23h,K_24h,K_25h,K_26h,K_13h,K_11h,K_16h,K_20h,K_27h,K_29h,K_30h,K_31h,K_14h],[22,28],251,0,[0,1,4,5,6,7,8,9,10,11,12,13,14,15,16,17,18,19,21,22,24,26,27,28,29,30,31,32,33,34,35,36,37,38,41,82,94,95,96,97,98,109,110,111,112,113,116,117,118,119,153,156,157,158,159,164,190],[41,67,73,78,82,89,92,94,98,109,113,119,123,127,134,145,153,159,164,175,183,190,224,229,234,239,242,246]⟩ (fun | 36=>[1,2,0,3,4,5,6,7,8,9] | _=>[]) (by kernel_rfl) ?_
      simp only [stripCut,stripX,stripOps,pickOps]
      simp [K_5_f,K_5_e,K_23_f,K_23_e,K_24_f,K_24_e,K_25_f,K_25_e,K_26_f,K_26_e,K_13_f,K_13_e,K_11_f,K_11_e,K_16_f,K_16_e,K_20_f,K_20_e,K_27_f,K_27_e,K_29_f,K_29_e,K_30_f,K_30_e,K_31_f,K_31_e,K_14_f,K_14_e,K_5h_f,K_5h_e,K_23h_f,K_23h_e,K_24h_f,K_24h_e,K_25h_f,K_25h_e,K_26h_f,K_26h_e,K_13h_f,K_13h_e,K_11h_f,K_11h_e,K_16h_f,K_16h_e,K_20h_f,K_20h_e,K_27h_f,K_27h_e,K_29h_f,K_29h_e,K_30h_f,K_30h_e,K_31h_f,K_31h_e,K_14h_f,K_14h_e,K_5h_g,K_23h_g,K_24h_g,K_25h_g,K_26h_g,K_13h_g,K_11h_g,K_16h_g,K_20h_g,K_27h_g,K_29h_g,K_30h_g,K_31h_g,K_14h_g,hc,hm,hF,d1,d2,d3,bk8]
      refine ⟨bks, ?_⟩
      refine W_loopA (fun i:Nat=>[(1,.d (dBytS more)),(5,.ptr 0 2 0 0),(6,.d (dIntSS bk)),(14,.d (dIntS o)),(95,.d (dIntS o)),(96,.d (.int .i64 o.length)),(97,.d (.int .i64 i))])
        (fun _=>[.row 2 [[.d (.int .i64 F.params_),.d (dBlockS F.blocks_)]]]) (fun i=>i≤o.length) (fun i=>o.length - i) 0 ?_ (Nat.zero_le _) ?_
      · simp
      intro i hi
      replace hi:i≤o.length:=hi
      by_cases h:i < o.length
      · obtain ⟨k,hk⟩:∃ k,k=o[i]?.getD 0:=⟨_,rfl⟩
        have k0:=hk.symm
        have k1:∀ h:i < o.length,o[i]=k:=fun h=>by rw [hk,List.getElem?_eq_getElem h];rfl
        have k2:(boV F)[i]? = some k:=by rw [← ho,List.getElem?_eq_getElem h,k1 h]
        have hkR:k∈allR F:=hasL_iff.1 (List.all_eq_true.1 o2 k (List.mem_of_getElem? k2))
        have hkr:=((mem_allR hg).1 hkR).rng hn1 (by omega)
        have hbk':isBlk F k=true:=by simp only [isBlk,hg,Bool.true_and];exact inR_t.2 (by rw [wrap_id] <;> omega)
        obtain ⟨nb,hnb⟩:∃ nb,nb=nextS F k:=⟨_,rfl⟩
        have e1:nbR F k=.tup [.d (dIntS nb),.d (.bool true)]:=by simp [nbR,nbV,hbk',hnb]
        have wi:IntKind.i64.wrap ((i:Int) + 1)=((i + 1:Nat):Int):=by rw [wrap_id] <;> omega
        have nb2:nb.length≤2:=by
          obtain ⟨q,rfl⟩:=Int.eq_ofNat_of_zero_le hkr.1
          rw [hnb];exact nextS_len hg q
        refine W_run mixed ⟨[K_5,K_23,K_24,K_25,K_26,K_13,K_11,K_16,K_27,K_29,K_30,K_31,K_14],[K_5h,K_23h,K_24h,K_25h,K_26h,K_13h,K_11h,K_16h,K_27h,K_29h,K_30h,K_31h,K_14h],[22,20,28],251,0,[0,1,4,5,6,7,8,9,10,11,12,13,14,15,16,17,18,19,21,22,24,26,27,28,29,30,31,32,33,34,35,36,37,38,41,82,94,95,96,97,98,109,110,111,112,113,116,117,118,119,153,156,157,158,159,164,190],[41,67,73,78,82,89,92,94,98,109,113,119,123,127,134,145,153,159,164,175,183,190,224,229,234,239,242,246]⟩ (fun | 36=>[1,2,0,3,4,5,6,7,8,9] | _=>[]) (by kernel_rfl) ?_
        simp only [stripX,stripOps,pickOps]
        simp [K_5_f,K_5_e,K_23_f,K_23_e,K_24_f,K_24_e,K_25_f,K_25_e,K_26_f,K_26_e,K_13_f,K_13_e,K_11_f,K_11_e,K_16_f,K_16_e,K_27_f,K_27_e,K_29_f,K_29_e,K_30_f,K_30_e,K_31_f,K_31_e,K_14_f,K_14_e,K_5h_f,K_5h_e,K_23h_f,K_23h_e,K_24h_f,K_24h_e,K_25h_f,K_25h_e,K_26h_f,K_26h_e,K_13h_f,K_13h_e,K_11h_f,K_11h_e,K_16h_f,K_16h_e,K_27h_f,K_27h_e,K_29h_f,K_29h_e,K_30h_f,K_30h_e,K_31h_f,K_31h_e,K_14h_f,K_14h_e,K_5h_g,K_23h_g,K_24h_g,K_25h_g,K_26h_g,K_13h_g,K_11h_g,K_16h_g,K_27h_g,K_29h_g,K_30h_g,K_31h_g,K_14h_g,h,k0,k1,hF,e1]
        refine W_loopA (fun j:Nat=>[(1,.d (dBytS more)),(5,.ptr 0 2 0 0),(6,.d (dIntSS bk)),(14,.d (dIntS o)),(16,.d (.int .i64 i)),(17,.d (.int .i64 k)),(95,.d (dIntS o)),(96,.d (.int .i64 o.length)),(97,.d (.int .i64 i)),(110,.d (dIntS nb)),(111,.d (.int .i64 nb.length)),(112,.d (.int .i64 j))])
          (fun _=>[.row 2 [[.d (.int .i64 F.params_),.d (dBlockS F.blocks_)]]]) (fun j=>j≤nb.length) (fun j=>nb.length - j) 0 ?_ (Nat.zero_le _) ?_
        · simp
        intro j hj
        replace hj:j≤nb.length:=hj
        by_cases hjl:j < nb.length
        · obtain ⟨y,hy⟩:∃ y,y=nb[j]?.getD 0:=⟨_,rfl⟩
          have y0:=hy.symm
          have y1:∀ h:j < nb.length,nb[j]=y:=fun h=>by rw [hy,List.getElem?_eq_getElem h];rfl
          have hyn:y∈nb:=by rw [← y1 hjl];exact List.getElem_mem hjl
          have wj:IntKind.i64.wrap ((j:Int) + 1)=((j + 1:Nat):Int):=by rw [wrap_id] <;> omega
          refine W_run mixed ⟨[K_5,K_23,K_24,K_25,K_26,K_13,K_11,K_16,K_27,K_29,K_30,K_31,K_14],[K_5h,K_23h,K_24h,K_25h,K_26h,K_13h,K_11h,K_16h,K_27h,K_29h,K_30h,K_31h,K_14h],[22,20,28],251,0,[0,1,4,5,6,7,8,9,10,11,12,13,14,15,16,17,18,19,21,22,24,26,27,28,29,30,31,32,33,34,35,36,37,38,41,82,94,95,96,97,98,109,110,111,112,113,116,117,118,119,153,156,157,158,159,164,190],[41,67,73,78,82,89,92,94,98,109,113,119,123,127,134,145,153,159,164,175,183,190,224,229,234,239,242,246]⟩ (fun | 36=>[1,2,0,3,4,5,6,7,8,9] | _=>[]) (by kernel_rfl) ?_
          simp only [stripX,stripOps,pickOps]
          simp [K_5_f,K_5_e,K_23_f,K_23_e,K_24_f,K_24_e,K_25_f,K_25_e,K_26_f,K_26_e,K_13_f,K_13_e,K_11_f,K_11_e,K_16_f,K_16_e,K_27_f,K_27_e,K_29_f,K_29_e,K_30_f,K_30_e,K_31_f,K_31_e,K_14_f,K_14_e,K_5h_f,K_5h_e,K_23h_f,K_23h_e,K_24h_f,K_24h_e,K_25h_f,K_25h_e,K_26h_f,K_26h_e,K_13h_f,K_13h_e,K_11h_f,K_11h_e,K_16h_f,K_16h_e,K_27h_f,K_27h_e,K_29h_f,K_29h_e,K_30h_f,K_30h_e,K_31h_f,K_31h_e,K_14h_f,K_14h_e,K_5h_g,K_23h_g,K_24h_g,K_25h_g,K_26h_g,K_13h_g,K_11h_g,K_16h_g,K_27h_g,K_29h_g,K_30h_g,K_31h_g,K_14h_g,hjl,y0,y1]
          refine W_loopA (α:=Nat × Bool) (fun a=>[(1,.d (dBytS more)),(5,.ptr 0 2 0 0),(6,.d (dIntSS bk)),(14,.d (dIntS o)),(16,.d (.int .i64 i)),(17,.d (.int .i64 k)),(21,.d (.int .i64 y)),(22,.d (.bool a.2)),(95,.d (dIntS o)),(96,.d (.int .i64 o.length)),(97,.d (.int .i64 i)),(110,.d (dIntS nb)),(111,.d (.int .i64 nb.length)),(112,.d (.int .i64 j)),(116,.d (dIntSS bk)),(117,.d (.int .i64 bk.length)),(118,.d (.int .i64 a.1))])
            (fun _=>[.row 2 [[.d (.int .i64 F.params_),.d (dBlockS F.blocks_)]]]) (fun a=>a.1≤bk.length∧(a.2=true ↔ [k,y]∈bk.take a.1)) (fun a=>bk.length - a.1) (0,false) ?_ ⟨Nat.zero_le _,by simp⟩ ?_
          · simp
          rintro ⟨a,st⟩ ⟨ha,hst⟩
          dsimp only at ha hst
          by_cases hal:a < bk.length
          · obtain ⟨e,he⟩:∃ e,e=bk[a]?.getD []:=⟨_,rfl⟩
            have e0:=he.symm
            have e1:∀ h:a < bk.length,bk[a]=e:=fun h=>by rw [he,List.getElem?_eq_getElem h];rfl
            obtain ⟨u,v,rfl,_⟩:=bkm e (by rw [← e1 hal];exact List.getElem_mem hal)
            have wa:IntKind.i64.wrap ((a:Int) + 1)=((a + 1:Nat):Int):=by rw [wrap_id] <;> omega
            have ht:[k,y]∈bk.take (a + 1) ↔ [k,y]∈bk.take a∨(u=k∧v=y):=by
              rw [List.take_succ_eq_append_getElem hal,e1 hal,List.mem_append,List.mem_singleton]
              refine or_congr Iff.rfl ⟨fun h=>?_,fun h=>by rw [h.1,h.2]⟩
              simp at h
              exact ⟨h.1.symm,h.2.symm⟩
            cases st with
            | true =>
              have h1:[k,y]∈bk.take (a + 1):=ht.2 (.inl (hst.1 rfl))
              refine W_run mixed ⟨[K_5,K_23,K_24,K_25,K_26,K_13,K_11,K_16,K_27,K_29,K_30,K_31,K_14],[K_5h,K_23h,K_24h,K_25h,K_26h,K_13h,K_11h,K_16h,K_27h,K_29h,K_30h,K_31h,K_14h],[22,20,28],251,0,[0,1,4,5,6,7,8,9,10,11,12,13,14,15,16,17,18,19,21,22,24,26,27,28,29,30,31,32,33,34,35,36,37,38,41,82,94,95,96,97,98,109,110,111,112,113,116,117,118,119,153,156,157,158,159,164,190],[41,67,73,78,82,89,92,94,98,109,113,119,123,127,134,145,153,159,164,175,183,190,224,229,234,239,242,246]⟩ (fun | 36=>[1,2,0,3,4,5,6,7,8,9] | _=>[]) (by kernel_rfl) ?_
              simp only [stripX,stripOps,pickOps]
              simp [K_5_f,K_5_e,K_23_f,K_23_e,K_24_f,K_24_e,K_25_f,K_25_e,K_26_f,K_26_e,K_13_f,K_13_e,K_11_f,K_11_e,K_16_f,K_16_e,K_27_f,K_27_e,K_29_f,K_29_e,K_30_f,K_30_e,K_31_f,K_31_e,K_14_f,K_14_e,K_5h_f,K_5h_e,K_23h_f,K_23h_e,K_24h_f,K_24h_e,K_25h_f,K_25h_e,K_26h_f,K_26h_e,K_13h_f,K_13h_e,K_11h_f,K_11h_e,K_16h_f,K_16h_e,K_27h_f,K_27h_e,K_29h_f,K_29h_e,K_30h_f,K_30h_e,K_31h_f,K_31h_e,K_14h_f,K_14h_e,K_5h_g,K_23h_g,K_24h_g,K_25h_g,K_26h_g,K_13h_g,K_11h_g,K_16h_g,K_27h_g,K_29h_g,K_30h_g,K_31h_g,K_14h_g,hal,e0,e1,wa]
              exact ⟨a + 1,⟨by omega,h1⟩,by omega,rfl⟩
            | false =>
              have h1:[k,y] ∉ bk.take a:=fun q=>by have:=hst.2 q;cases this
              by_cases hu:u=k
              · by_cases hv:v=y
                · refine W_run mixed ⟨[K_5,K_23,K_24,K_25,K_26,K_13,K_11,K_16,K_27,K_29,K_30,K_31,K_14],[K_5h,K_23h,K_24h,K_25h,K_26h,K_13h,K_11h,K_16h,K_27h,K_29h,K_30h,K_31h,K_14h],[22,20,28],251,0,[0,1,4,5,6,7,8,9,10,11,12,13,14,15,16,17,18,19,21,22,24,26,27,28,29,30,31,32,33,34,35,36,37,38,41,82,94,95,96,97,98,109,110,111,112,113,116,117,118,119,153,156,157,158,159,164,190],[41,67,73,78,82,89,92,94,98,109,113,119,123,127,134,145,153,159,164,175,183,190,224,229,234,239,242,246]⟩ (fun | 36=>[1,2,0,3,4,5,6,7,8,9] | _=>[]) (by kernel_rfl) ?_
                  simp only [stripX,stripOps,pickOps]
                  simp [K_5_f,K_5_e,K_23_f,K_23_e,K_24_f,K_24_e,K_25_f,K_25_e,K_26_f,K_26_e,K_13_f,K_13_e,K_11_f,K_11_e,K_16_f,K_16_e,K_27_f,K_27_e,K_29_f,K_29_e,K_30_f,K_30_e,K_31_f,K_31_e,K_14_f,K_14_e,K_5h_f,K_5h_e,K_23h_f,K_23h_e,K_24h_f,K_24h_e,K_25h_f,K_25h_e,K_26h_f,K_26h_e,K_13h_f,K_13h_e,K_11h_f,K_11h_e,K_16h_f,K_16h_e,K_27h_f,K_27h_e,K_29h_f,K_29h_e,K_30h_f,K_30h_e,K_31h_f,K_31h_e,K_14h_f,K_14h_e,K_5h_g,K_23h_g,K_24h_g,K_25h_g,K_26h_g,K_13h_g,K_11h_g,K_16h_g,K_27h_g,K_29h_g,K_30h_g,K_31h_g,K_14h_g,hal,e0,e1,hu,hv,wa]
                  exact ⟨a + 1,⟨by omega,ht.2 (.inr ⟨hu,hv⟩)⟩,by omega,rfl⟩
                · refine W_run mixed ⟨[K_5,K_23,K_24,K_25,K_26,K_13,K_11,K_16,K_27,K_29,K_30,K_31,K_14],[K_5h,K_23h,K_24h,K_25h,K_26h,K_13h,K_11h,K_16h,K_27h,K_29h,K_30h,K_31h,K_14h],[22,20,28],251,0,[0,1,4,5,6,7,8,9,10,11,12,13,14,15,16,17,18,19,21,22,24,26,27,28,29,30,31,32,33,34,35,36,37,38,41,82,94,95,96,97,98,109,110,111,112,113,116,117,118,119,153,156,157,158,159,164,190],[41,67,73,78,82,89,92,94,98,109,113,119,123,127,134,145,153,159,164,175,183,190,224,229,234,239,242,246]⟩ (fun | 36=>[1,2,0,3,4,5,6,7,8,9] | _=>[]) (by kernel_rfl) ?_
                  simp only [stripX,stripOps,pickOps]
                  simp [K_5_f,K_5_e,K_23_f,K_23_e,K_24_f,K_24_e,K_25_f,K_25_e,K_26_f,K_26_e,K_13_f,K_13_e,K_11_f,K_11_e,K_16_f,K_16_e,K_27_f,K_27_e,K_29_f,K_29_e,K_30_f,K_30_e,K_31_f,K_31_e,K_14_f,K_14_e,K_5h_f,K_5h_e,K_23h_f,K_23h_e,K_24h_f,K_24h_e,K_25h_f,K_25h_e,K_26h_f,K_26h_e,K_13h_f,K_13h_e,K_11h_f,K_11h_e,K_16h_f,K_16h_e,K_27h_f,K_27h_e,K_29h_f,K_29h_e,K_30h_f,K_30h_e,K_31h_f,K_31h_e,K_14h_f,K_14h_e,K_5h_g,K_23h_g,K_24h_g,K_25h_g,K_26h_g,K_13h_g,K_11h_g,K_16h_g,K_27h_g,K_29h_g,K_30h_g,K_31h_g,K_14h_g,hal,e0,e1,hu,hv,wa]
                  exact ⟨a + 1,⟨by omega,fun q=>(ht.1 q).elim h1 fun q=>hv q.2⟩,by omega,rfl⟩
              · refine W_run mixed ⟨[K_5,K_23,K_24,K_25,K_26,K_13,K_11,K_16,K_27,K_29,K_30,K_31,K_14],[K_5h,K_23h,K_24h,K_25h,K_26h,K_13h,K_11h,K_16h,K_27h,K_29h,K_30h,K_31h,K_14h],[22,20,28],251,0,[0,1,4,5,6,7,8,9,10,11,12,13,14,15,16,17,18,19,21,22,24,26,27,28,29,30,31,32,33,34,35,36,37,38,41,82,94,95,96,97,98,109,110,111,112,113,116,117,118,119,153,156,157,158,159,164,190],[41,67,73,78,82,89,92,94,98,109,113,119,123,127,134,145,153,159,164,175,183,190,224,229,234,239,242,246]⟩ (fun | 36=>[1,2,0,3,4,5,6,7,8,9] | _=>[]) (by kernel_rfl) ?_
                simp only [stripX,stripOps,pickOps]
                simp [K_5_f,K_5_e,K_23_f,K_23_e,K_24_f,K_24_e,K_25_f,K_25_e,K_26_f,K_26_e,K_13_f,K_13_e,K_11_f,K_11_e,K_16_f,K_16_e,K_27_f,K_27_e,K_29_f,K_29_e,K_30_f,K_30_e,K_31_f,K_31_e,K_14_f,K_14_e,K_5h_f,K_5h_e,K_23h_f,K_23h_e,K_24h_f,K_24h_e,K_25h_f,K_25h_e,K_26h_f,K_26h_e,K_13h_f,K_13h_e,K_11h_f,K_11h_e,K_16h_f,K_16h_e,K_27h_f,K_27h_e,K_29h_f,K_29h_e,K_30h_f,K_30h_e,K_31h_f,K_31h_e,K_14h_f,K_14h_e,K_5h_g,K_23h_g,K_24h_g,K_25h_g,K_26h_g,K_13h_g,K_11h_g,K_16h_g,K_27h_g,K_29h_g,K_30h_g,K_31h_g,K_14h_g,hal,e0,e1,hu,wa]
                exact ⟨a + 1,⟨by omega,fun q=>(ht.1 q).elim h1 fun q=>hu q.1⟩,by omega,rfl⟩
          · rw [List.take_of_length_le (by omega)] at hst
            cases st with
            | true =>
              refine W_run mixed ⟨[K_5,K_23,K_24,K_25,K_26,K_13,K_11,K_16,K_27,K_29,K_30,K_31,K_14],[K_5h,K_23h,K_24h,K_25h,K_26h,K_13h,K_11h,K_16h,K_27h,K_29h,K_30h,K_31h,K_14h],[22,20,28],251,0,[0,1,4,5,6,7,8,9,10,11,12,13,14,15,16,17,18,19,21,22,24,26,27,28,29,30,31,32,33,34,35,36,37,38,41,82,94,95,96,97,98,109,110,111,112,113,116,117,118,119,153,156,157,158,159,164,190],[41,67,73,78,82,89,92,94,98,109,113,119,123,127,134,145,153,159,164,175,183,190,224,229,234,239,242,246]⟩ (fun | 36=>[1,2,0,3,4,5,6,7,8,9] | _=>[]) (by kernel_rfl) ?_
              simp only [stripX,stripOps,pickOps]
              simp [K_5_f,K_5_e,K_23_f,K_23_e,K_24_f,K_24_e,K_25_f,K_25_e,K_26_f,K_26_e,K_13_f,K_13_e,K_11_f,K_11_e,K_16_f,K_16_e,K_27_f,K_27_e,K_29_f,K_29_e,K_30_f,K_30_e,K_31_f,K_31_e,K_14_f,K_14_e,K_5h_f,K_5h_e,K_23h_f,K_23h_e,K_24h_f,K_24h_e,K_25h_f,K_25h_e,K_26h_f,K_26h_e,K_13h_f,K_13h_e,K_11h_f,K_11h_e,K_16h_f,K_16h_e,K_27h_f,K_27h_e,K_29h_f,K_29h_e,K_30h_f,K_30h_e,K_31h_f,K_31h_e,K_14h_f,K_14h_e,K_5h_g,K_23h_g,K_24h_g,K_25h_g,K_26h_g,K_13h_g,K_11h_g,K_16h_g,K_27h_g,K_29h_g,K_30h_g,K_31h_g,K_14h_g,hal,wj]
              exact ⟨j + 1,by omega,by omega,rfl⟩
            | false =>
              have hno:[k,y] ∉ bk:=fun q=>by have:=hst.2 q;cases this
              have hyS:y∈nextS F k:=by rw [← hnb];exact hyn
              have hdm:¬ Dm (nextL F.blocks_) y k:=fun q=>hno (by rw [hbk];exact (mem_bkL hg (by omega)).2 ⟨hyS,q⟩)
              have hdr:hasL (o.drop (i + 1)) y=true:=by
                rw [ho]
                exact hasL_iff.2 (order_law hg hred k2 (mem_nextS.1 hyS) hdm)
              have edrop:(D.ro 1 (o.length - (i + 1)) fun a _=>D.int .i64 (o[i + 1 + a]?.getD 0))=dIntS (o.drop (i + 1)):=by
                have:(fun (a _:Nat)=>D.int IntKind.i64 (o[i + 1 + a]?.getD 0))=fun a _=>D.int .i64 ((o.drop (i + 1))[a]?.getD default):=by
                  funext a b
                  rw [List.getElem?_drop];rfl
                show D.ro 1 _ _=D.ro 1 (o.drop (i + 1)).length _
                rw [List.length_drop,this]
              refine W_run mixed ⟨[K_5,K_23,K_24,K_25,K_26,K_13,K_11,K_16,K_27,K_29,K_30,K_31,K_14],[K_5h,K_23h,K_24h,K_25h,K_26h,K_13h,K_11h,K_16h,K_27h,K_29h,K_30h,K_31h,K_14h],[22,20,28],251,0,[0,1,4,5,6,7,8,9,10,11,12,13,14,15,16,17,18,19,21,22,24,26,27,28,29,30,31,32,33,34,35,36,37,38,41,82,94,95,96,97,98,109,110,111,112,113,116,117,118,119,153,156,157,158,159,164,190],[41,67,73,78,82,89,92,94,98,109,113,119,123,127,134,145,153,159,164,175,183,190,224,229,234,239,242,246]⟩ (fun | 36=>[1,2,0,3,4,5,6,7,8,9] | _=>[]) (by kernel_rfl) ?_
              simp only [stripX,stripOps,pickOps]
              simp [K_5_f,K_5_e,K_23_f,K_23_e,K_24_f,K_24_e,K_25_f,K_25_e,K_26_f,K_26_e,K_13_f,K_13_e,K_11_f,K_11_e,K_16_f,K_16_e,K_27_f,K_27_e,K_29_f,K_29_e,K_30_f,K_30_e,K_31_f,K_31_e,K_14_f,K_14_e,K_5h_f,K_5h_e,K_23h_f,K_23h_e,K_24h_f,K_24h_e,K_25h_f,K_25h_e,K_26h_f,K_26h_e,K_13h_f,K_13h_e,K_11h_f,K_11h_e,K_16h_f,K_16h_e,K_27h_f,K_27h_e,K_29h_f,K_29h_e,K_30h_f,K_30h_e,K_31h_f,K_31h_e,K_14h_f,K_14h_e,K_5h_g,K_23h_g,K_24h_g,K_25h_g,K_26h_g,K_13h_g,K_11h_g,K_16h_g,K_27h_g,K_29h_g,K_30h_g,K_31h_g,K_14h_g,hal,h,wi]
              refine ⟨by omega,by omega, ?_⟩
              rw [edrop,aft_call]
              refine ((has_c (o.drop (i + 1)) y (by rw [List.length_drop];omega)).calls rfl).mono ?_
              rintro r H1 ⟨rfl,rfl⟩
              rw [hdr]
              simp [K_5_f,K_5_e,K_23_f,K_23_e,K_24_f,K_24_e,K_25_f,K_25_e,K_26_f,K_26_e,K_13_f,K_13_e,K_11_f,K_11_e,K_16_f,K_16_e,K_27_f,K_27_e,K_29_f,K_29_e,K_30_f,K_30_e,K_31_f,K_31_e,K_14_f,K_14_e,K_5h_f,K_5h_e,K_23h_f,K_23h_e,K_24h_f,K_24h_e,K_25h_f,K_25h_e,K_26h_f,K_26h_e,K_13h_f,K_13h_e,K_11h_f,K_11h_e,K_16h_f,K_16h_e,K_27h_f,K_27h_e,K_29h_f,K_29h_e,K_30h_f,K_30h_e,K_31h_f,K_31h_e,K_14h_f,K_14h_e,K_5h_g,K_23h_g,K_24h_g,K_25h_g,K_26h_g,K_13h_g,K_11h_g,K_16h_g,K_27h_g,K_29h_g,K_30h_g,K_31h_g,K_14h_g,wj]
              exact ⟨j + 1,by omega,by omega,rfl⟩
        · refine W_run mixed ⟨[K_5,K_23,K_24,K_25,K_26,K_13,K_11,K_16,K_27,K_29,K_30,K_31,K_14],[K_5h,K_23h,K_24h,K_25h,K_26h,K_13h,K_11h,K_16h,K_27h,K_29h,K_30h,K_31h,K_14h],[22,20,28],251,0,[0,1,4,5,6,7,8,9,10,11,12,13,14,15,16,17,18,19,21,22,24,26,27,28,29,30,31,32,33,34,35,36,37,38,41,82,94,95,96,97,98,109,110,111,112,113,116,117,118,119,153,156,157,158,159,164,190],[41,67,73,78,82,89,92,94,98,109,113,119,123,127,134,145,153,159,164,175,183,190,224,229,234,239,242,246]⟩ (fun | 36=>[1,2,0,3,4,5,6,7,8,9] | _=>[]) (by kernel_rfl) ?_
          simp only [stripX,stripOps,pickOps]
          simp [K_5_f,K_5_e,K_23_f,K_23_e,K_24_f,K_24_e,K_25_f,K_25_e,K_26_f,K_26_e,K_13_f,K_13_e,K_11_f,K_11_e,K_16_f,K_16_e,K_27_f,K_27_e,K_29_f,K_29_e,K_30_f,K_30_e,K_31_f,K_31_e,K_14_f,K_14_e,K_5h_f,K_5h_e,K_23h_f,K_23h_e,K_24h_f,K_24h_e,K_25h_f,K_25h_e,K_26h_f,K_26h_e,K_13h_f,K_13h_e,K_11h_f,K_11h_e,K_16h_f,K_16h_e,K_27h_f,K_27h_e,K_29h_f,K_29h_e,K_30h_f,K_30h_e,K_31h_f,K_31h_e,K_14h_f,K_14h_e,K_5h_g,K_23h_g,K_24h_g,K_25h_g,K_26h_g,K_13h_g,K_11h_g,K_16h_g,K_27h_g,K_29h_g,K_30h_g,K_31h_g,K_14h_g,hjl,wi]
          exact ⟨i + 1,by omega,by omega,rfl⟩
      · refine W_run mixed ⟨[K_5,K_23,K_24,K_25,K_26,K_13,K_11,K_16,K_27,K_29,K_30,K_31,K_14],[K_5h,K_23h,K_24h,K_25h,K_26h,K_13h,K_11h,K_16h,K_27h,K_29h,K_30h,K_31h,K_14h],[22,20,28],251,0,[0,1,4,5,6,7,8,9,10,11,12,13,14,15,16,17,18,19,21,22,24,26,27,28,29,30,31,32,33,34,35,36,37,38,41,82,94,95,96,97,98,109,110,111,112,113,116,117,118,119,153,156,157,158,159,164,190],[41,67,73,78,82,89,92,94,98,109,113,119,123,127,134,145,153,159,164,175,183,190,224,229,234,239,242,246]⟩ (fun | 36=>[1,2,0,3,4,5,6,7,8,9] | _=>[]) (by kernel_rfl) ?_
        simp only [stripX,stripOps,pickOps]
        simp [K_5_f,K_5_e,K_23_f,K_23_e,K_24_f,K_24_e,K_25_f,K_25_e,K_26_f,K_26_e,K_13_f,K_13_e,K_11_f,K_11_e,K_16_f,K_16_e,K_27_f,K_27_e,K_29_f,K_29_e,K_30_f,K_30_e,K_31_f,K_31_e,K_14_f,K_14_e,K_5h_f,K_5h_e,K_23h_f,K_23h_e,K_24h_f,K_24h_e,K_25h_f,K_25h_e,K_26h_f,K_26h_e,K_13h_f,K_13h_e,K_11h_f,K_11h_e,K_16h_f,K_16h_e,K_27h_f,K_27h_e,K_29h_f,K_29h_e,K_30h_f,K_30h_e,K_31h_f,K_31h_e,K_14h_f,K_14h_e,K_5h_g,K_23h_g,K_24h_g,K_25h_g,K_26h_g,K_13h_g,K_11h_g,K_16h_g,K_27h_g,K_29h_g,K_30h_g,K_31h_g,K_14h_g,h]
        refine W_weak (IntoH.weak ?_) (circ_tail more hm F hF bk bk8 bkm fun s h=>?_)
        · simp
        · simp [retC,h]
namespace fnCircles
open Go.ChangeShapes Go.WideShapes Go.RowKit
theorem own:ownKnob Tryz.prog.godebug=none:=by kernel_rfl
theorem lifted (os:Os) (started:os.Started) (H:Type) (enc:TypeId × Value→H) :
    ReturnsInHanded {} Tryz.checked os 4 .any (Rows.fnCirclesSpec.pre6 enc Tryz.prog Tryz.f4 Rows.fnCirclesRow.domain false) (Rows.fnCirclesSpec.post enc Tryz.prog Tryz.f4 false true false false):=by
  refine returnsInHanded_of_change (C:=Tryz.checked) own started (by kernel_rfl) Tryz.func4
    (ChangeSpec.witness6 (enc:=enc) (C:=Tryz.checked) false ⟨#[],#[.slice none 0 0,.slice none 0 0],[]⟩ 8 (by kernel_rfl) (by kernel_rfl) (by kernel_rfl) (by kernel_rfl)) ?_
  intro W base args ds gs before hval hW hcnd _
  have hW':=hW
  obtain ⟨p,q,hA,hV,_,_,_⟩:=hW
  rw [Tryz.params4] at hA hval
  obtain ⟨v0,vs0,d0,ds0,p0,q0,hargs,rfl,rfl,h0,r0⟩:=trodAll_cons hA
  obtain ⟨v1,vs1,d1,ds1,p1,q1,rfl,rfl,rfl,h1,r1⟩:=trodAll_cons r0
  obtain ⟨rfl,rfl,rfl⟩:=trodAll_nil r1
  obtain rfl:args=#[v0,v1]:=by cases args;simp_all
  obtain ⟨code,hcode,hv0⟩:=arg_of rd_LByt (hval 0 22 v0 rfl rfl) h0
  obtain ⟨more,hmore,hv1⟩:=arg_of rd_LByt (hval 1 22 v1 rfl rfl) h1
  obtain ⟨rfl,rfl⟩:=trodVars_none hV
  exact row_end (by kernel_rfl) (by kernel_rfl) (by kernel_rfl) Tryz.underlying4 hW' rfl rfl rfl rfl (vs:=[argV code,argV more]) (by exact ⟨v0,_,rfl,hv0,⟨v1,_,rfl,hv1,rfl⟩⟩) (law_Circles code more hcode hmore)
theorem over:Rows.fnCirclesRow.holds Tryz.pinned (OpenSpec.ofChange Rows.fnCirclesSpec) :=
  OpenClaim.holds_of_wide 4 Tryz.f4 rfl rfl rfl rfl rfl rfl rfl ⟨rfl,rfl,rfl,rfl,rfl⟩ rfl rfl rfl rfl rfl (by kernel_rfl) Tryz.func4 (by kernel_rfl)
    (of_decide_eq_true (by kernel_rfl)) (by unfold Func.isWrapper;first | (rw [if_pos (by decide +kernel)];kernel_rfl) | (rw [if_neg (by decide +kernel)];exact ⟨rfl,rfl⟩))
    (fun os started H enc _=>lifted os started H enc)
end fnCircles
theorem fnCircles_holds:Rows.FnCirclesSaid:=fnCircles.over
end Go.Proofs.YthafdegfjadijaaGreat
