/- The law FnThere. No condition. -/
import Derived.Test.YtnomiclfiijniaaRows
import Derived.Test.YtnomiclfiijniaaQS129
import Derived.Test.YtnomiclfiijniaaQS132
import Derived.Test.YtnomiclfiijniaaQS134
section
namespace Go.Proofs.Ytnomiclfiijniaa
set_option linter.unusedVariables false
theorem faultI_none {th:Int→Int→Int→Bool} {fs:Int→Int} {k:Int}:∀ {xs:List Inst} {i:Nat},faultI th fs k xs i=none→∀ x∈xs,∃ j:Int,∀ v∈x.args_,th v k j=true
  | [],_,_,x,hx=>by cases hx
  | y :: xs, i, h, x, hx => by
    unfold faultI at h
    by_cases e:y.args_.all (fun n=>th n k i)=true
    · rw [if_pos e] at h
      rcases List.mem_cons.1 hx with rfl | hx
      · exact ⟨i,fun v hv=>List.all_eq_true.1 e v hv⟩
      · exact faultI_none h x hx
    · rw [if_neg e] at h;cases h
theorem faultI_some {th:Int→Int→Int→Bool} {fs:Int→Int} {k:Int} {p:Int × Int × Int × Int}:∀ {xs:List Inst} {i:Nat},faultI th fs k xs i=some p→p.1=1
  | [],_,h=>by cases h
  | y :: xs,i,h=>by
    unfold faultI at h
    by_cases e:y.args_.all (fun n=>th n k i)=true
    · rw [if_pos e] at h;exact faultI_some h
    · rw [if_neg e] at h;cases h;rfl
theorem faultE_none {th:Int→Int→Int→Bool} {k a:Int}:∀ {l:List Int},faultE th k a l=none→∀ v∈l,th v k a=true
  | [],_,v,hv=>by cases hv
  | y :: l, h, v, hv => by
    unfold faultE at h
    by_cases e:th y k a=true
    · rw [if_pos e] at h
      rcases List.mem_cons.1 hv with rfl | hv
      · exact e
      · exact faultE_none h v hv
    · rw [if_neg e] at h;cases h
theorem faultE_some {th:Int→Int→Int→Bool} {k a:Int} {p:Int × Int × Int × Int}:∀ {l:List Int},faultE th k a l=some p→p.1=2
  | [],h=>by cases h
  | y :: l,h=>by
    unfold faultE at h
    by_cases e:th y k a=true
    · rw [if_pos e] at h;exact faultE_some h
    · rw [if_neg e] at h;cases h;rfl
theorem fault0 {th : Int → Int → Int → Bool} {fs : Int → Int} {bs : List Block} : ∀ {ks : List Int}, (faultR th fs bs ks).1 = 0 → ∀ k ∈ ks, ∀ v ∈ allU (bs[k.toNat]?.getD default), ∃ j : Int, th v k j = true
  | [],_,k,hk,_,_=>by cases hk
  | q :: ks, h, k, hk, v, hv => by
    unfold faultR at h
    cases e:faultB th fs q (bs[q.toNat]?.getD default) with
    | some p =>
      rw [e] at h
      simp only [] at h
      unfold faultB at e
      cases e1:faultI th fs q (bs[q.toNat]?.getD default).insts_ 0 with
      | some p'=>rw [e1] at e;cases e;have:=faultI_some e1;omega
      | none=>rw [e1] at e;have:=faultE_some e;omega
    | none =>
      rw [e] at h
      simp only [] at h
      rcases List.mem_cons.1 hk with rfl | hk
      · unfold faultB at e
        cases e1:faultI th fs k (bs[k.toNat]?.getD default).insts_ 0 with
        | some p'=>rw [e1] at e;cases e
        | none =>
          rw [e1] at e
          unfold allU at hv
          rcases List.mem_append.1 hv with hv | hv
          · obtain ⟨x,hx,hv⟩:=List.mem_flatMap.1 hv
            obtain ⟨j,hj⟩:=faultI_none e1 x hx
            exact ⟨j,hj v hv⟩
          · exact ⟨_,faultE_none e v hv⟩
      · exact fault0 h k hk v hv
theorem live_there {F : Func} (hg : goodF F = true) (h0 : (checkS F).1 = 0) {k v : Nat} (hl : Lv F k v) (hk : k < F.blocks_.length) (hr : Rch (nextL F.blocks_) 0 (-1) k) :
    (v:Int) < many F∧(bk (viewD F) v < 0∨(bk (viewD F) v ≠ k∧Rch (nextL F.blocks_) 0 (-1) (bk (viewD F) v)∧¬ Rch (nextL F.blocks_) 0 (bk (viewD F) v) k)):=by
  have hln:(nextL F.blocks_).length=F.blocks_.length:=by simp [nextL]
  induction hl with
  | @use k v h =>
    have hbm:F.blocks_[k]?.getD default∈F.blocks_:=by rw [List.getElem?_eq_getElem hk];exact List.getElem_mem hk
    rw [L1_iff fun x hx=>(good_all hg hbm x hx).1] at h
    have hv:=good_all hg hbm v h.1
    refine ⟨hv.2, ?_⟩
    have hkR:(k:Int)∈allR F:=listB_rchB.2 ⟨by omega,by omega,hr⟩
    obtain ⟨j,hj⟩:=fault0 h0 k hkR v (by rw [Int.toNat_natCast];exact h.1)
    unfold thereS at hj
    rw [blk_same hg hv.1 hv.2] at hj
    by_cases hb:bk (viewD F) v < 0
    · exact .inl hb
    · rw [if_neg hb,if_neg h.2,Int.toNat_natCast] at hj
      have hbl:bk (viewD F) v < F.blocks_.length:=by
        rcases (view_spec hg hv.1 hv.2).2 with ⟨q,_⟩ | ⟨_,q,_⟩ <;> omega
      obtain ⟨d,hd⟩:∃ d:Nat,bk (viewD F) v=d:=⟨(bk (viewD F) v).toNat,by omega⟩
      rw [hd] at hj ⊢
      obtain ⟨a1,a2,a3⟩:=(allS_get hk (by omega)).1 hj
      exact .inr ⟨by rw [← hd];exact h.2,a1,a3⟩
  | @step k m v h1 h2 h3 ih =>
    have hto:=(okNext_get (good_flow hg).2.1 k).2 m (by rw [nextL_get];exact h1)
    have hst:(m:Int)∈(nextL F.blocks_)[(k:Int).toNat]?.getD default:=by rw [Int.toNat_natCast,nextL_get];exact h1
    obtain ⟨hv,ih⟩:=ih (by omega) (.step hr hst (by omega))
    refine ⟨hv, ?_⟩
    rcases ih with ih | ⟨i1,i2,i3⟩
    · exact .inl ih
    · exact .inr ⟨h3,i2,fun hc=>i3 (.step hc hst (Ne.symm i1))⟩
theorem live_law {F : Func} (hg : goodF F = true) (h0 : (checkS F).1 = 0) {k x : Int} (hk : k ∈ allR F) (hx : x ∈ liveV F k) :
    isThereR F x k 0=.tup [.d (.bool true),.d (.bool true)]∧(k=0→x < F.params_)∧isBlk F k=true:=by
  have hln:(nextL F.blocks_).length=F.blocks_.length:=by simp [nextL]
  obtain ⟨k0,k1,hr⟩:=listB_rchB.1 hk
  obtain ⟨k,rfl⟩:=Int.eq_ofNat_of_zero_le k0
  have hkl:k < F.blocks_.length:=by omega
  have h8:=(good_flow hg).1.1
  have hb:isBlk F k=true:=by
    simp only [isBlk,hg,Bool.true_and]
    rw [inR_t,wrap_id] <;> omega
  unfold liveV at hx
  rw [if_pos hb,Int.toNat_natCast,mem_liveL] at hx
  obtain ⟨x0,x1,hx⟩:=hx
  obtain ⟨x,rfl⟩:=Int.eq_ofNat_of_zero_le x0
  rw [Int.toNat_natCast] at hx
  obtain ⟨hv,hl⟩:=live_there hg h0 hx hkl hr
  obtain ⟨m0,m80⟩:=many_rng hg
  have hth:thereS F (allS F) x k 0=true:=by
    unfold thereS
    rw [blk_same hg (by omega) hv]
    rcases hl with hl | ⟨i1,i2,i3⟩
    · rw [if_pos hl]
    · by_cases hb:bk (viewD F) x < 0
      · rw [if_pos hb]
      · have hbl:bk (viewD F) x < F.blocks_.length:=by
          rcases (view_spec hg (by omega) hv).2 with ⟨q,_⟩ | ⟨_,q,_⟩ <;> omega
        rw [if_neg hb,if_neg i1,Int.toNat_natCast]
        obtain ⟨d,hd⟩:∃ d:Nat,bk (viewD F) x=d:=⟨(bk (viewD F) x).toNat,by omega⟩
        rw [hd] at i2 i3 ⊢
        exact (allS_get hkl (by omega)).2 ⟨i2,hr,i3⟩
  refine ⟨?_,fun e=>?_,hb⟩
  · have hc:(canThere F x k 0 && hasL (allR F) k)=true:=by
      have h1:isVal F x=true:=by
        simp only [isVal,hg,Bool.true_and]
        rw [inR_t,wrap_id] <;> omega
      have h2:inR 0 0 ((F.blocks_[k]?.getD default).insts_.length:Int)=true:=inR_t.2 ⟨Int.le_refl _,by omega⟩
      have h3:hasL (allR F) k=true:=by unfold hasL;rw [decide_eq_true_eq];exact hk
      simp [canThere,h1,hb,h2,h3]
    unfold isThereR
    rw [if_pos hc,hth]
  · have e0:k=0:=by omega
    subst e0
    rcases hl with hl | ⟨i1,i2,i3⟩
    · rcases (view_spec hg (by omega) hv).2 with ⟨_,q,_⟩ | ⟨q,_⟩ <;> omega
    · exact absurd (Rch.base (fun e=>i1 e.symm)) i3
end Go.Proofs.Ytnomiclfiijniaa
end

section
namespace Go.Proofs.Ytnomiclfiijniaa
set_option maxRecDepth 100000
set_option linter.unusedSimpArgs false
set_option linter.unusedVariables false
theorem there_two (G:Func) (n b a:Int):∃ v1 v2:Bool,isThereR G n b a=.tup [.d (.bool v1),.d (.bool v2)]:=by
  unfold isThereR;split <;> exact ⟨_,_,rfl⟩
theorem live_len (G:Func) (k:Int):(liveV G k).length≤1000:=by
  unfold liveV
  split
  · rename_i h
    have hg:goodF G=true:=by simp only [isBlk,Bool.and_eq_true] at h;exact h.1
    have:=(many_rng hg).2
    have:=numsOf_len (fun v=>(open Classical in decide (Lv G k.toNat v))) (many G).toNat
    unfold liveL
    omega
  · exact Nat.zero_le _
theorem all_blk {F:Func} (hg:goodF F=true) {k:Int} (hk:k∈allR F):isBlk F k=true:=by
  obtain ⟨k0,k1,_⟩:=listB_rchB.1 hk
  have:=(good_flow hg).1.1
  simp only [isBlk,hg,Bool.true_and]
  rw [show (nextL F.blocks_).length=F.blocks_.length by simp [nextL]] at k1
  rw [inR_t,wrap_id] <;> omega
set_option maxHeartbeats 16000000 in
theorem law_There (code more : List Byt) (hc : Enc.good code) (hm : Enc.good more) : PureP Try.prog 5 [.d (dBytS code), .d (dBytS more)] (· = .d (.bool true)) := by
  cases hb:bigB code more with
  | true => refine pure_of Try.func5 en_5 rfl rfl (W_run mixed ⟨[K_6, K_28, K_29, K_30, K_31, K_32, K_34, K_36, K_10], [K_6h, K_28h, K_29h, K_30h, K_31h, K_32h, K_34h, K_36h, K_10h], [27, 33, 35], 181, 0, [0, 1, 4, 5, 6, 7, 8, 9, 10, 11, 12, 13, 15, 16, 17, 19, 20, 21, 22, 23, 24, 25, 26, 27, 28, 29, 30, 31, 32, 33, 34, 35, 38, 65, 70, 77, 78, 79, 80, 81, 91, 92, 93, 94, 95, 120], [38, 56, 61, 65, 67, 70, 77, 81, 91, 95, 107, 111, 114, 120, 166, 171, 176]⟩ (fun _ => []) (by kernel_rfl) ?_)
            simp only [Try.f5,stripX,stripOps,pickOps]
            simp [K_6_f,K_6_e,K_28_f,K_28_e,K_29_f,K_29_e,K_30_f,K_30_e,K_31_f,K_31_e,K_32_f,K_32_e,K_34_f,K_34_e,K_36_f,K_36_e,K_10_f,K_10_e,K_6h_f,K_6h_e,K_28h_f,K_28h_e,K_29h_f,K_29h_e,K_30h_f,K_30h_e,K_31h_f,K_31h_e,K_32h_f,K_32h_e,K_34h_f,K_34h_e,K_36h_f,K_36h_e,K_10h_f,K_10h_e,K_6h_g,K_28h_g,K_29h_g,K_30h_g,K_31h_g,K_32h_g,K_34h_g,K_36h_g,K_10h_g,hc,hm,hb]
  | false =>
  refine pure_of Try.func5 en_5 rfl rfl (W_run mixed ⟨[K_6,K_28,K_29,K_30,K_31,K_32,K_34,K_36,K_10],[K_6h,K_28h,K_29h,K_30h,K_31h,K_32h,K_34h,K_36h,K_10h],[27,33,35],181,0,[0,1,4,5,6,7,8,9,10,11,12,13,15,16,17,19,20,21,22,23,24,25,26,27,28,29,30,31,32,33,34,35,38,65,70,77,78,79,80,81,91,92,93,94,95,120],[38,56,61,65,67,70,77,81,91,95,107,111,114,120,166,171,176]⟩ (fun _=>[]) (by kernel_rfl) ?_)
  simp only [Try.f5,stripX,stripOps,pickOps]
  simp [K_6_f,K_6_e,K_28_f,K_28_e,K_29_f,K_29_e,K_30_f,K_30_e,K_31_f,K_31_e,K_32_f,K_32_e,K_34_f,K_34_e,K_36_f,K_36_e,K_10_f,K_10_e,K_6h_f,K_6h_e,K_28h_f,K_28h_e,K_29h_f,K_29h_e,K_30h_f,K_30h_e,K_31h_f,K_31h_e,K_32h_f,K_32h_e,K_34h_f,K_34h_e,K_36h_f,K_36h_e,K_10h_f,K_10h_e,K_6h_g,K_28h_g,K_29h_g,K_30h_g,K_31h_g,K_32h_g,K_34h_g,K_36h_g,K_10h_g,hc,hm,hb]
  rw [aft_call]
  refine ((drawCheck_p code hc).calls rfl).mono ?_
  rintro r H1 ⟨rfl,F,rfl,hF⟩
  cases hg:goodF F with
  | false =>
    simp [K_6_f,K_6_e,K_28_f,K_28_e,K_29_f,K_29_e,K_30_f,K_30_e,K_31_f,K_31_e,K_32_f,K_32_e,K_34_f,K_34_e,K_36_f,K_36_e,K_10_f,K_10_e,K_6h_f,K_6h_e,K_28h_f,K_28h_e,K_29h_f,K_29h_e,K_30h_f,K_30h_e,K_31h_f,K_31h_e,K_32h_f,K_32h_e,K_34h_f,K_34h_e,K_36h_f,K_36h_e,K_10h_f,K_10h_e,K_6h_g,K_28h_g,K_29h_g,K_30h_g,K_31h_g,K_32h_g,K_34h_g,K_36h_g,K_10h_g,hF,checkR,hg]
    rw [aft_call]
    refine ((drawThere_p more hm).calls rfl).mono ?_
    rintro r H2 ⟨rfl,G,x,b',at',rfl,hG,hx⟩
    have hxg:Enc.good x:=⟨by omega,by omega⟩
    obtain ⟨v1,v2,hv⟩:=there_two G x b' at'
    simp [K_6_f,K_6_e,K_28_f,K_28_e,K_29_f,K_29_e,K_30_f,K_30_e,K_31_f,K_31_e,K_32_f,K_32_e,K_34_f,K_34_e,K_36_f,K_36_e,K_10_f,K_10_e,K_6h_f,K_6h_e,K_28h_f,K_28h_e,K_29h_f,K_29h_e,K_30h_f,K_30h_e,K_31h_f,K_31h_e,K_32h_f,K_32h_e,K_34h_f,K_34h_e,K_36h_f,K_36h_e,K_10h_f,K_10h_e,K_6h_g,K_28h_g,K_29h_g,K_30h_g,K_31h_g,K_32h_g,K_34h_g,K_36h_g,K_10h_g,hG,hxg,hv]
    rw [aft_call]
    refine ((drawLive_p more hm).calls rfl).mono ?_
    rintro r H3 ⟨rfl,K,y,rfl,hK⟩
    have hll:=live_len K y
    simp [K_6_f,K_6_e,K_28_f,K_28_e,K_29_f,K_29_e,K_30_f,K_30_e,K_31_f,K_31_e,K_32_f,K_32_e,K_34_f,K_34_e,K_36_f,K_36_e,K_10_f,K_10_e,K_6h_f,K_6h_e,K_28h_f,K_28h_e,K_29h_f,K_29h_e,K_30h_f,K_30h_e,K_31h_f,K_31h_e,K_32h_f,K_32h_e,K_34h_f,K_34h_e,K_36h_f,K_36h_e,K_10h_f,K_10h_e,K_6h_g,K_28h_g,K_29h_g,K_30h_g,K_31h_g,K_32h_g,K_34h_g,K_36h_g,K_10h_g,hG,hK,hv,liveR,hll]
  | true =>
    by_cases h0:(checkS F).1=0
    · simp [K_6_f,K_6_e,K_28_f,K_28_e,K_29_f,K_29_e,K_30_f,K_30_e,K_31_f,K_31_e,K_32_f,K_32_e,K_34_f,K_34_e,K_36_f,K_36_e,K_10_f,K_10_e,K_6h_f,K_6h_e,K_28h_f,K_28h_e,K_29h_f,K_29h_e,K_30h_f,K_30h_e,K_31h_f,K_31h_e,K_32h_f,K_32h_e,K_34h_f,K_34h_e,K_36h_f,K_36h_e,K_10h_f,K_10h_e,K_6h_g,K_28h_g,K_29h_g,K_30h_g,K_31h_g,K_32h_g,K_34h_g,K_36h_g,K_10h_g,hF,checkR,hg,h0,reachedR,reachedV]
      have hr8:(allR F).length≤8:=fromL_len (good_flow hg).2.1 _ _
      have hlaw:=fun (k x:Int) (hk:k∈allR F) (hx:x∈liveV F k)=>live_law hg h0 hk hx
      have hblk:∀ k∈allR F,isBlk F k=true:=fun k hk=>all_blk hg hk
      have hmany:=(many_rng hg).2
      generalize hrl:allR F=rl at hr8 hlaw hblk
      refine W_loopA (fun k:Nat=>[(1,.d (dBytS more)),(5,.ptr 0 2 0 0),(78,.d (dIntS rl)),(79,.d (.int .i64 rl.length)),(80,.d (.int .i64 k))]) (fun _=>[.row 2 [[.d (.int .i64 F.params_),.d (dBlockS F.blocks_)]]]) (fun k=>k≤rl.length) (fun k=>rl.length - k) 0 ?_ ?_ ?_
      · simp
      · simp
      intro k hk
      by_cases hkl:k < rl.length
      · obtain ⟨q,hq⟩:∃ q,q=rl[k]?.getD 0:=⟨_,rfl⟩
        have hq0:=hq.symm
        have hq1:∀ h:k < rl.length,rl[k]=q:=fun h=>by rw [hq,List.getElem?_eq_getElem h];rfl
        have hqm:q∈rl:=by rw [← hq1 hkl];exact List.getElem_mem hkl
        have hqb:=hblk q hqm
        have hl8:=live_len F q
        have hlq:=fun x hx=>hlaw q x hqm hx
        have wk:IntKind.i64.wrap ((k:Int) + 1)=((k + 1:Nat):Int):=by rw [wrap_id] <;> omega
        have hgood:∀ x∈liveV F q,Enc.good x:=fun x hx=>by
          unfold liveV at hx
          rw [if_pos hqb,mem_liveL] at hx
          exact ⟨by omega,by omega⟩
        refine W_run mixed ⟨[K_6,K_28,K_29,K_30,K_31,K_32,K_34,K_36,K_10],[K_6h,K_28h,K_29h,K_30h,K_31h,K_32h,K_34h,K_36h,K_10h],[27,33,35],181,0,[0,1,4,5,6,7,8,9,10,11,12,13,15,16,17,19,20,21,22,23,24,25,26,27,28,29,30,31,32,33,34,35,38,65,70,77,78,79,80,81,91,92,93,94,95,120],[38,56,61,65,67,70,77,81,91,95,107,111,114,120,166,171,176]⟩ (fun _=>[]) (by kernel_rfl) ?_
        simp only [stripX,stripOps,pickOps]
        simp [K_6_f,K_6_e,K_28_f,K_28_e,K_29_f,K_29_e,K_30_f,K_30_e,K_31_f,K_31_e,K_32_f,K_32_e,K_34_f,K_34_e,K_36_f,K_36_e,K_10_f,K_10_e,K_6h_f,K_6h_e,K_28h_f,K_28h_e,K_29h_f,K_29h_e,K_30h_f,K_30h_e,K_31h_f,K_31h_e,K_32h_f,K_32h_e,K_34h_f,K_34h_e,K_36h_f,K_36h_e,K_10h_f,K_10h_e,K_6h_g,K_28h_g,K_29h_g,K_30h_g,K_31h_g,K_32h_g,K_34h_g,K_36h_g,K_10h_g,hF,hkl,hq0,hq1,liveR,hqb]
        generalize hll:liveV F q=ll at hl8 hlq hgood
        refine W_loopA (fun j:Nat=>[(1,.d (dBytS more)),(5,.ptr 0 2 0 0),(15,.d (.int .i64 q)),(78,.d (dIntS rl)),(79,.d (.int .i64 rl.length)),(80,.d (.int .i64 k)),(92,.d (dIntS ll)),(93,.d (.int .i64 ll.length)),(94,.d (.int .i64 j))]) (fun _=>[.row 2 [[.d (.int .i64 F.params_),.d (dBlockS F.blocks_)]]]) (fun j=>j≤ll.length) (fun j=>ll.length - j) 0 ?_ ?_ ?_
        · simp
        · simp
        intro j hj
        by_cases hjl:j < ll.length
        · obtain ⟨x,hx⟩:∃ x,x=ll[j]?.getD 0:=⟨_,rfl⟩
          have hx0:=hx.symm
          have hx1:∀ h:j < ll.length,ll[j]=x:=fun h=>by rw [hx,List.getElem?_eq_getElem h];rfl
          have hxm:x∈ll:=by rw [← hx1 hjl];exact List.getElem_mem hjl
          obtain ⟨i1,i2,_⟩:=hlq x hxm
          have hxg:=hgood x hxm
          have wj:IntKind.i64.wrap ((j:Int) + 1)=((j + 1:Nat):Int):=by rw [wrap_id] <;> omega
          by_cases hq00:q=0
          · have i3:=i2 hq00
            rw [hq00] at i1
            have i4:¬ F.params_≤x:=by omega
            refine W_run mixed ⟨[K_6,K_28,K_29,K_30,K_31,K_32,K_34,K_36,K_10],[K_6h,K_28h,K_29h,K_30h,K_31h,K_32h,K_34h,K_36h,K_10h],[27,33,35],181,0,[0,1,4,5,6,7,8,9,10,11,12,13,15,16,17,19,20,21,22,23,24,25,26,27,28,29,30,31,32,33,34,35,38,65,70,77,78,79,80,81,91,92,93,94,95,120],[38,56,61,65,67,70,77,81,91,95,107,111,114,120,166,171,176]⟩ (fun _=>[]) (by kernel_rfl) ?_
            simp only [stripX,stripOps,pickOps]
            simp [K_6_f,K_6_e,K_28_f,K_28_e,K_29_f,K_29_e,K_30_f,K_30_e,K_31_f,K_31_e,K_32_f,K_32_e,K_34_f,K_34_e,K_36_f,K_36_e,K_10_f,K_10_e,K_6h_f,K_6h_e,K_28h_f,K_28h_e,K_29h_f,K_29h_e,K_30h_f,K_30h_e,K_31h_f,K_31h_e,K_32h_f,K_32h_e,K_34h_f,K_34h_e,K_36h_f,K_36h_e,K_10h_f,K_10h_e,K_6h_g,K_28h_g,K_29h_g,K_30h_g,K_31h_g,K_32h_g,K_34h_g,K_36h_g,K_10h_g,hF,hjl,hx0,hx1,hxg,i1,hq00,i3,i4,wj]
            exact ⟨j + 1,by omega,by omega,by omega⟩
          · refine W_run mixed ⟨[K_6,K_28,K_29,K_30,K_31,K_32,K_34,K_36,K_10],[K_6h,K_28h,K_29h,K_30h,K_31h,K_32h,K_34h,K_36h,K_10h],[27,33,35],181,0,[0,1,4,5,6,7,8,9,10,11,12,13,15,16,17,19,20,21,22,23,24,25,26,27,28,29,30,31,32,33,34,35,38,65,70,77,78,79,80,81,91,92,93,94,95,120],[38,56,61,65,67,70,77,81,91,95,107,111,114,120,166,171,176]⟩ (fun _=>[]) (by kernel_rfl) ?_
            simp only [stripX,stripOps,pickOps]
            simp [K_6_f,K_6_e,K_28_f,K_28_e,K_29_f,K_29_e,K_30_f,K_30_e,K_31_f,K_31_e,K_32_f,K_32_e,K_34_f,K_34_e,K_36_f,K_36_e,K_10_f,K_10_e,K_6h_f,K_6h_e,K_28h_f,K_28h_e,K_29h_f,K_29h_e,K_30h_f,K_30h_e,K_31h_f,K_31h_e,K_32h_f,K_32h_e,K_34h_f,K_34h_e,K_36h_f,K_36h_e,K_10h_f,K_10h_e,K_6h_g,K_28h_g,K_29h_g,K_30h_g,K_31h_g,K_32h_g,K_34h_g,K_36h_g,K_10h_g,hF,hjl,hx0,hx1,hxg,i1,hq00,wj]
            exact ⟨j + 1,by omega,by omega,by omega⟩
        · refine W_run mixed ⟨[K_6,K_28,K_29,K_30,K_31,K_32,K_34,K_36,K_10],[K_6h,K_28h,K_29h,K_30h,K_31h,K_32h,K_34h,K_36h,K_10h],[27,33,35],181,0,[0,1,4,5,6,7,8,9,10,11,12,13,15,16,17,19,20,21,22,23,24,25,26,27,28,29,30,31,32,33,34,35,38,65,70,77,78,79,80,81,91,92,93,94,95,120],[38,56,61,65,67,70,77,81,91,95,107,111,114,120,166,171,176]⟩ (fun _=>[]) (by kernel_rfl) ?_
          simp only [stripX,stripOps,pickOps]
          simp [K_6_f,K_6_e,K_28_f,K_28_e,K_29_f,K_29_e,K_30_f,K_30_e,K_31_f,K_31_e,K_32_f,K_32_e,K_34_f,K_34_e,K_36_f,K_36_e,K_10_f,K_10_e,K_6h_f,K_6h_e,K_28h_f,K_28h_e,K_29h_f,K_29h_e,K_30h_f,K_30h_e,K_31h_f,K_31h_e,K_32h_f,K_32h_e,K_34h_f,K_34h_e,K_36h_f,K_36h_e,K_10h_f,K_10h_e,K_6h_g,K_28h_g,K_29h_g,K_30h_g,K_31h_g,K_32h_g,K_34h_g,K_36h_g,K_10h_g,hjl,wk]
          exact ⟨k + 1,by omega,by omega,rfl⟩
      · refine W_run mixed ⟨[K_6,K_28,K_29,K_30,K_31,K_32,K_34,K_36,K_10],[K_6h,K_28h,K_29h,K_30h,K_31h,K_32h,K_34h,K_36h,K_10h],[27,33,35],181,0,[0,1,4,5,6,7,8,9,10,11,12,13,15,16,17,19,20,21,22,23,24,25,26,27,28,29,30,31,32,33,34,35,38,65,70,77,78,79,80,81,91,92,93,94,95,120],[38,56,61,65,67,70,77,81,91,95,107,111,114,120,166,171,176]⟩ (fun _=>[]) (by kernel_rfl) ?_
        simp only [stripX,stripOps,pickOps]
        simp [K_6_f,K_6_e,K_28_f,K_28_e,K_29_f,K_29_e,K_30_f,K_30_e,K_31_f,K_31_e,K_32_f,K_32_e,K_34_f,K_34_e,K_36_f,K_36_e,K_10_f,K_10_e,K_6h_f,K_6h_e,K_28h_f,K_28h_e,K_29h_f,K_29h_e,K_30h_f,K_30h_e,K_31h_f,K_31h_e,K_32h_f,K_32h_e,K_34h_f,K_34h_e,K_36h_f,K_36h_e,K_10h_f,K_10h_e,K_6h_g,K_28h_g,K_29h_g,K_30h_g,K_31h_g,K_32h_g,K_34h_g,K_36h_g,K_10h_g,hkl]
        rw [aft_call]
        refine ((drawThere_p more hm).calls rfl).mono ?_
        rintro r H2 ⟨rfl,G,x,b',at',rfl,hG,hx⟩
        have hxg:Enc.good x:=⟨by omega,by omega⟩
        obtain ⟨v1,v2,hv⟩:=there_two G x b' at'
        simp [K_6_f,K_6_e,K_28_f,K_28_e,K_29_f,K_29_e,K_30_f,K_30_e,K_31_f,K_31_e,K_32_f,K_32_e,K_34_f,K_34_e,K_36_f,K_36_e,K_10_f,K_10_e,K_6h_f,K_6h_e,K_28h_f,K_28h_e,K_29h_f,K_29h_e,K_30h_f,K_30h_e,K_31h_f,K_31h_e,K_32h_f,K_32h_e,K_34h_f,K_34h_e,K_36h_f,K_36h_e,K_10h_f,K_10h_e,K_6h_g,K_28h_g,K_29h_g,K_30h_g,K_31h_g,K_32h_g,K_34h_g,K_36h_g,K_10h_g,hG,hxg,hv]
        rw [aft_call]
        refine ((drawLive_p more hm).calls rfl).mono ?_
        rintro r H3 ⟨rfl,K,y,rfl,hK⟩
        have hll:=live_len K y
        simp [K_6_f,K_6_e,K_28_f,K_28_e,K_29_f,K_29_e,K_30_f,K_30_e,K_31_f,K_31_e,K_32_f,K_32_e,K_34_f,K_34_e,K_36_f,K_36_e,K_10_f,K_10_e,K_6h_f,K_6h_e,K_28h_f,K_28h_e,K_29h_f,K_29h_e,K_30h_f,K_30h_e,K_31h_f,K_31h_e,K_32h_f,K_32h_e,K_34h_f,K_34h_e,K_36h_f,K_36h_e,K_10h_f,K_10h_e,K_6h_g,K_28h_g,K_29h_g,K_30h_g,K_31h_g,K_32h_g,K_34h_g,K_36h_g,K_10h_g,hG,hK,hv,liveR,hll]
    · simp [K_6_f,K_6_e,K_28_f,K_28_e,K_29_f,K_29_e,K_30_f,K_30_e,K_31_f,K_31_e,K_32_f,K_32_e,K_34_f,K_34_e,K_36_f,K_36_e,K_10_f,K_10_e,K_6h_f,K_6h_e,K_28h_f,K_28h_e,K_29h_f,K_29h_e,K_30h_f,K_30h_e,K_31h_f,K_31h_e,K_32h_f,K_32h_e,K_34h_f,K_34h_e,K_36h_f,K_36h_e,K_10h_f,K_10h_e,K_6h_g,K_28h_g,K_29h_g,K_30h_g,K_31h_g,K_32h_g,K_34h_g,K_36h_g,K_10h_g,hF,checkR,hg,h0]
      rw [aft_call]
      refine ((drawThere_p more hm).calls rfl).mono ?_
      rintro r H2 ⟨rfl,G,x,b',at',rfl,hG,hx⟩
      have hxg:Enc.good x:=⟨by omega,by omega⟩
      obtain ⟨v1,v2,hv⟩:=there_two G x b' at'
      simp [K_6_f,K_6_e,K_28_f,K_28_e,K_29_f,K_29_e,K_30_f,K_30_e,K_31_f,K_31_e,K_32_f,K_32_e,K_34_f,K_34_e,K_36_f,K_36_e,K_10_f,K_10_e,K_6h_f,K_6h_e,K_28h_f,K_28h_e,K_29h_f,K_29h_e,K_30h_f,K_30h_e,K_31h_f,K_31h_e,K_32h_f,K_32h_e,K_34h_f,K_34h_e,K_36h_f,K_36h_e,K_10h_f,K_10h_e,K_6h_g,K_28h_g,K_29h_g,K_30h_g,K_31h_g,K_32h_g,K_34h_g,K_36h_g,K_10h_g,hG,hxg,hv]
      rw [aft_call]
      refine ((drawLive_p more hm).calls rfl).mono ?_
      rintro r H3 ⟨rfl,K,y,rfl,hK⟩
      have hll:=live_len K y
      simp [K_6_f,K_6_e,K_28_f,K_28_e,K_29_f,K_29_e,K_30_f,K_30_e,K_31_f,K_31_e,K_32_f,K_32_e,K_34_f,K_34_e,K_36_f,K_36_e,K_10_f,K_10_e,K_6h_f,K_6h_e,K_28h_f,K_28h_e,K_29h_f,K_29h_e,K_30h_f,K_30h_e,K_31h_f,K_31h_e,K_32h_f,K_32h_e,K_34h_f,K_34h_e,K_36h_f,K_36h_e,K_10h_f,K_10h_e,K_6h_g,K_28h_g,K_29h_g,K_30h_g,K_31h_g,K_32h_g,K_34h_g,K_36h_g,K_10h_g,hG,hK,hv,liveR,hll]
namespace fnThere
open Go.ChangeShapes Go.WideShapes Go.RowKit
theorem own:ownKnob Try.prog.godebug=none:=by kernel_rfl
theorem lifted (os:Os) (started:os.Started) (H:Type) (enc:TypeId × Value→H) :
    ReturnsInHanded {} Try.checked os 5 .any (Rows.fnThereSpec.pre6 enc Try.prog Try.f5 Rows.fnThereRow.domain false) (Rows.fnThereSpec.post enc Try.prog Try.f5 false true false false):=by
  refine returnsInHanded_of_change (C:=Try.checked) own started (by kernel_rfl) Try.func5
    (ChangeSpec.witness6 (enc:=enc) (C:=Try.checked) false ⟨#[],#[.slice none 0 0,.slice none 0 0],[]⟩ 8 (by kernel_rfl) (by kernel_rfl) (by kernel_rfl) (by kernel_rfl)) ?_
  intro W base args ds gs before hval hW hcnd _
  have hW':=hW
  obtain ⟨p,q,hA,hV,_,_,_⟩:=hW
  rw [Try.params5] at hA hval
  obtain ⟨v0,vs0,d0,ds0,p0,q0,hargs,rfl,rfl,h0,r0⟩:=trodAll_cons hA
  obtain ⟨v1,vs1,d1,ds1,p1,q1,rfl,rfl,rfl,h1,r1⟩:=trodAll_cons r0
  obtain ⟨rfl,rfl,rfl⟩:=trodAll_nil r1
  obtain rfl:args=#[v0,v1]:=by cases args;simp_all
  obtain ⟨code,hcode,hv0⟩:=arg_of rd_LByt (hval 0 22 v0 rfl rfl) h0
  obtain ⟨more,hmore,hv1⟩:=arg_of rd_LByt (hval 1 22 v1 rfl rfl) h1
  obtain ⟨rfl,rfl⟩:=trodVars_none hV
  exact row_end (by kernel_rfl) (by kernel_rfl) (by kernel_rfl) Try.underlying4 hW' rfl rfl rfl rfl (vs:=[argV code,argV more]) (by exact ⟨v0,_,rfl,hv0,⟨v1,_,rfl,hv1,rfl⟩⟩) (law_There code more hcode hmore)
theorem over:Rows.fnThereRow.holds Try.pinned (OpenSpec.ofChange Rows.fnThereSpec) :=
  OpenClaim.holds_of_wide 5 Try.f5 rfl rfl rfl rfl rfl rfl rfl ⟨rfl,rfl,rfl,rfl,rfl⟩ rfl rfl rfl rfl rfl (by kernel_rfl) Try.func5 (by kernel_rfl)
    (of_decide_eq_true (by kernel_rfl)) (by unfold Func.isWrapper;first | (rw [if_pos (by decide +kernel)];kernel_rfl) | (rw [if_neg (by decide +kernel)];exact ⟨rfl,rfl⟩))
    (fun os started H enc _=>lifted os started H enc)
end fnThere
theorem fnThere_holds:Rows.FnThereSaid:=fnThere.over
end Go.Proofs.Ytnomiclfiijniaa
end
