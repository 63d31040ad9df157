/- The program's ImmediateOf, closed. No condition. -/
import Derived.Test.YthafdegfjadijaaGreatQS140
namespace Go.Proofs.YthafdegfjadijaaGreat
set_option maxRecDepth 100000
set_option linter.unusedSimpArgs false
set_option linter.unusedVariables false
def imF (ds:List (List Int)) (k:Int):List Int→Int × Int→Int × Int
  | [],p=>p
  | d :: l,p=>imF ds k l (if d ≠ k∧p.2 < ((ds[d.toNat]?.getD default).length:Int) then (d,((ds[d.toNat]?.getD default).length:Int)) else p)
noncomputable def imP (F:Func) (k:Int):Int × Int:=imF (allS F) k ((allS F)[k.toNat]?.getD default) (0,0)
noncomputable def imR (F:Func) (k:Int):V:=if isBlk F k=true∧k ≠ 0 then .tup [.d (.int .i64 (imP F k).1),.d (.bool (decide (0 < (imP F k).2)))] else .tup [.d (.int .i64 0),.d (.bool false)]
set_option maxHeartbeats 4000000 in
theorem imI_c (F : Func) (k : Int) (hF : Enc.good F) : PureP Tryz.prog 21 [vFunc F, .d (.int .i64 k)] (· = imR F k) := by
  cases hg:goodF F with
  | false =>
    have hb:isBlk F k=false:=by simp [isBlk,hg]
    refine pure_of Tryz.func21 en_21 rfl rfl (W_run mixed ⟨[K_33,K_44,K_35,K_34,K_36],[K_33h,K_44h,K_35h,K_34h,K_36h],[],60,0,[0,1,2,4,5,6,7,8,9,11,12,26,34,35,36,37,53],[17,23,26,37,49,53]⟩ (fun _=>[]) (by kernel_rfl) ?_)
    simp only [Tryz.f21,stripX,stripOps,pickOps]
    simp [K_33_f,K_33_e,K_44_f,K_44_e,K_35_f,K_35_e,K_34_f,K_34_e,K_36_f,K_36_e,K_33h_f,K_33h_e,K_44h_f,K_44h_e,K_35h_f,K_35h_e,K_34h_f,K_34h_e,K_36h_f,K_36h_e,K_33h_g,K_44h_g,K_35h_g,K_34h_g,K_36h_g,hF,viewV_f hg]
    simp [imR,hb]
  | true =>
    cases hv:inR k 0 (IntKind.i64.wrap (F.blocks_.length - 1)) with
    | false =>
      have hb:isBlk F k=false:=by simp [isBlk,hg,hv]
      refine pure_of Tryz.func21 en_21 rfl rfl (W_run mixed ⟨[K_33,K_44,K_35,K_34,K_36],[K_33h,K_44h,K_35h,K_34h,K_36h],[],60,0,[0,1,2,4,5,6,7,8,9,11,12,26,34,35,36,37,53],[17,23,26,37,49,53]⟩ (fun _=>[]) (by kernel_rfl) ?_)
      simp only [Tryz.f21,stripX,stripOps,pickOps]
      simp [K_33_f,K_33_e,K_44_f,K_44_e,K_35_f,K_35_e,K_34_f,K_34_e,K_36_f,K_36_e,K_33h_f,K_33h_e,K_44h_f,K_44h_e,K_35h_f,K_35h_e,K_34h_f,K_34h_e,K_36h_f,K_36h_e,K_33h_g,K_44h_g,K_35h_g,K_34h_g,K_36h_g,hF,viewV_t hg,viewD_blocks,hv]
      simp [imR,hb]
    | true =>
      have hb:isBlk F k=true:=by simp [isBlk,hg,hv]
      by_cases hk0:k=0
      · refine pure_of Tryz.func21 en_21 rfl rfl (W_run mixed ⟨[K_33,K_44,K_35,K_34,K_36],[K_33h,K_44h,K_35h,K_34h,K_36h],[],60,0,[0,1,2,4,5,6,7,8,9,11,12,26,34,35,36,37,53],[17,23,26,37,49,53]⟩ (fun _=>[]) (by kernel_rfl) ?_)
        simp only [Tryz.f21,stripX,stripOps,pickOps]
        simp [K_33_f,K_33_e,K_44_f,K_44_e,K_35_f,K_35_e,K_34_f,K_34_e,K_36_f,K_36_e,K_33h_f,K_33h_e,K_44h_f,K_44h_e,K_35h_f,K_35h_e,K_34h_f,K_34h_e,K_36h_f,K_36h_e,K_33h_g,K_44h_g,K_35h_g,K_34h_g,K_36h_g,hF,viewV_t hg,viewD_blocks,hv,hk0]
        simp [imR,hk0]
      · obtain ⟨_,h0,h1⟩:=isBlk_n hF hb
        obtain ⟨hv1,hn1,hp1⟩:=good_flow hg
        have hv8:=hv1.1
        have hln:(nextL F.blocks_).length=F.blocks_.length:=by simp [nextL]
        have hp2:0 < (nextL F.blocks_).length:=by omega
        obtain ⟨q,rfl⟩:=Int.eq_ofNat_of_zero_le h0
        have hq:q < F.blocks_.length:=by omega
        have hdl:(domL (nextL F.blocks_)).length=F.blocks_.length:=by simp [domL,hln]
        obtain ⟨D,hD⟩:∃ D,D=domL (nextL F.blocks_):=⟨_,rfl⟩
        have hrow:∀ j:Nat,j < F.blocks_.length→(D[j]?.getD default).length≤8∧listB (D[j]?.getD default)=(allS F)[j]?.getD default:=fun j hj=>⟨by rw [hD];simp [domL,hln,hj];omega,by rw [hD];exact domR_same hj⟩
        rw [← hD] at hdl
        obtain ⟨r1,r2⟩:=hrow q hq
        obtain ⟨dq,hdq⟩:∃ dq,dq=D[q]?.getD default:=⟨_,rfl⟩
        have hq0:D[q]?.getD []=dq:=hdq.symm
        have hq1:∀ h:q < D.length,D[q]=dq:=fun h=>by rw [hdq,List.getElem?_eq_getElem h];rfl
        rw [← hdq] at r1 r2
        have hq00:¬ q=0:=by omega
        refine pure_of Tryz.func21 en_21 rfl rfl (W_run mixed ⟨[K_33,K_44,K_35,K_34,K_36],[K_33h,K_44h,K_35h,K_34h,K_36h],[],60,0,[0,1,2,4,5,6,7,8,9,11,12,26,34,35,36,37,53],[17,23,26,37,49,53]⟩ (fun _=>[]) (by kernel_rfl) ?_)
        simp only [Tryz.f21,stripX,stripOps,pickOps]
        simp [K_33_f,K_33_e,K_44_f,K_44_e,K_35_f,K_35_e,K_34_f,K_34_e,K_36_f,K_36_e,K_33h_f,K_33h_e,K_44h_f,K_44h_e,K_35h_f,K_35h_e,K_34h_f,K_34h_e,K_36h_f,K_36h_e,K_33h_g,K_44h_g,K_35h_g,K_34h_g,K_36h_g,hF,viewV_t hg,viewD_blocks,hv,hk0,hq00,hv1,hn1,hp2,← hD,hdl,hq,hq0,hq1,r1,r2]
        obtain ⟨l,hl⟩:∃ l,l=(allS F)[q]?.getD default:=⟨_,rfl⟩
        have hlr:∀ d∈l,0≤d∧d < F.blocks_.length:=fun d hd=>by
          rw [hl,← r2] at hd
          unfold listB at hd
          have h2:=mem_numsOf.1 hd
          have h3:dq.length=F.blocks_.length:=by rw [hdq,hD];simp [domL,hln,hq]
          omega
        have hl8:l.length≤8:=by
          have:=numsOf_len (fun k=>dq[k]?.getD false) dq.length
          rw [hl,← r2];unfold listB;omega
        have him:imP F q=imF (allS F) q l (0,0):=by unfold imP;rw [Int.toNat_natCast,← hl]
        rw [← hl]
        refine W_loopA (fun a:Nat × Int × Int=>[(1,.d (.int .i64 q)),(7,.d (dBoolSS D)),(8,.d (.int .i64 a.2.1)),(9,.d (.int .i64 a.2.2)),(34,.d (dIntS l)),(35,.d (.int .i64 l.length)),(36,.d (.int .i64 a.1))])
          (fun _=>[.row 2 [[.d (.int .i64 F.params_),.d (dBlockS F.blocks_)]]]) (fun a=>a.1≤l.length∧imF (allS F) q (l.drop a.1) a.2=imP F q) (fun a=>l.length - a.1) (0,0,0) ?_ ?_ ?_
        · simp
        · simp [him]
        rintro ⟨i,b,m⟩ ⟨hi,hm⟩
        dsimp only at hi hm
        by_cases h:i < l.length
        · obtain ⟨d,hd⟩:∃ d,d=l[i]?.getD 0:=⟨_,rfl⟩
          have hd0:=hd.symm
          have hd1:∀ h:i < l.length,l[i]=d:=fun h=>by rw [hd,List.getElem?_eq_getElem h];rfl
          have hdm:d∈l:=by rw [← hd1 h];exact List.getElem_mem h
          have hdr:=hlr d hdm
          rw [List.drop_eq_getElem_cons h,hd1 h] at hm
          unfold imF at hm
          obtain ⟨e,rfl⟩:=Int.eq_ofNat_of_zero_le hdr.1
          have he:e < F.blocks_.length:=by omega
          obtain ⟨s1,s2⟩:=hrow e he
          obtain ⟨de,hde⟩:∃ de,de=D[e]?.getD default:=⟨_,rfl⟩
          have he0:D[e]?.getD []=de:=hde.symm
          have he1:∀ h:e < D.length,D[e]=de:=fun h=>by rw [hde,List.getElem?_eq_getElem h];rfl
          rw [← hde] at s1 s2
          rw [Int.toNat_natCast] at hm
          obtain ⟨w,hw⟩:∃ w,w=(allS F)[e]?.getD default:=⟨_,rfl⟩
          rw [← hw] at hm s2
          have wi:IntKind.i64.wrap ((i:Int) + 1)=((i + 1:Nat):Int):=by rw [wrap_id] <;> omega
          by_cases c:(e:Int) ≠ q∧m < (w.length:Int)
          · rw [if_pos c] at hm
            have c1:¬ (e:Int)=q:=c.1
            have c2:=c.2
            refine W_run mixed ⟨[K_33,K_44,K_35,K_34,K_36],[K_33h,K_44h,K_35h,K_34h,K_36h],[],60,0,[0,1,2,4,5,6,7,8,9,11,12,26,34,35,36,37,53],[17,23,26,37,49,53]⟩ (fun _=>[]) (by kernel_rfl) ?_
            simp only [stripX,stripOps,pickOps]
            simp [K_33_f,K_33_e,K_44_f,K_44_e,K_35_f,K_35_e,K_34_f,K_34_e,K_36_f,K_36_e,K_33h_f,K_33h_e,K_44h_f,K_44h_e,K_35h_f,K_35h_e,K_34h_f,K_34h_e,K_36h_f,K_36h_e,K_33h_g,K_44h_g,K_35h_g,K_34h_g,K_36h_g,h,hd0,hd1,he0,he1,he,hdl,s1,s2,c1,c2,wi]
            exact ⟨i + 1,_,_,⟨by omega,hm⟩,by omega,rfl,rfl,rfl⟩
          · rw [if_neg c] at hm
            by_cases c1:(e:Int)=q
            · refine W_run mixed ⟨[K_33,K_44,K_35,K_34,K_36],[K_33h,K_44h,K_35h,K_34h,K_36h],[],60,0,[0,1,2,4,5,6,7,8,9,11,12,26,34,35,36,37,53],[17,23,26,37,49,53]⟩ (fun _=>[]) (by kernel_rfl) ?_
              simp only [stripX,stripOps,pickOps]
              simp [K_33_f,K_33_e,K_44_f,K_44_e,K_35_f,K_35_e,K_34_f,K_34_e,K_36_f,K_36_e,K_33h_f,K_33h_e,K_44h_f,K_44h_e,K_35h_f,K_35h_e,K_34h_f,K_34h_e,K_36h_f,K_36h_e,K_33h_g,K_44h_g,K_35h_g,K_34h_g,K_36h_g,h,hd0,hd1,he0,he1,he,hdl,s1,s2,c1,wi]
              exact ⟨hq,(hrow q hq).1,i + 1,_,_,⟨by omega,hm⟩,by omega,rfl,rfl,rfl⟩
            · have c2:¬ m < (w.length:Int):=fun h=>c ⟨c1,h⟩
              refine W_run mixed ⟨[K_33,K_44,K_35,K_34,K_36],[K_33h,K_44h,K_35h,K_34h,K_36h],[],60,0,[0,1,2,4,5,6,7,8,9,11,12,26,34,35,36,37,53],[17,23,26,37,49,53]⟩ (fun _=>[]) (by kernel_rfl) ?_
              simp only [stripX,stripOps,pickOps]
              simp [K_33_f,K_33_e,K_44_f,K_44_e,K_35_f,K_35_e,K_34_f,K_34_e,K_36_f,K_36_e,K_33h_f,K_33h_e,K_44h_f,K_44h_e,K_35h_f,K_35h_e,K_34h_f,K_34h_e,K_36h_f,K_36h_e,K_33h_g,K_44h_g,K_35h_g,K_34h_g,K_36h_g,h,hd0,hd1,he0,he1,he,hdl,s1,s2,c1,c2,wi]
              exact ⟨i + 1,_,_,⟨by omega,hm⟩,by omega,rfl,rfl,rfl⟩
        · rw [List.drop_eq_nil_of_le (by omega)] at hm
          unfold imF at hm
          refine W_run mixed ⟨[K_33,K_44,K_35,K_34,K_36],[K_33h,K_44h,K_35h,K_34h,K_36h],[],60,0,[0,1,2,4,5,6,7,8,9,11,12,26,34,35,36,37,53],[17,23,26,37,49,53]⟩ (fun _=>[]) (by kernel_rfl) ?_
          simp only [stripX,stripOps,pickOps]
          simp [K_33_f,K_33_e,K_44_f,K_44_e,K_35_f,K_35_e,K_34_f,K_34_e,K_36_f,K_36_e,K_33h_f,K_33h_e,K_44h_f,K_44h_e,K_35h_f,K_35h_e,K_34h_f,K_34h_e,K_36h_f,K_36h_e,K_33h_g,K_44h_g,K_35h_g,K_34h_g,K_36h_g,h]
          rw [imR,if_pos ⟨hb,hk0⟩,← hm]
noncomputable def K_21:Ent Tryz.prog:=Ent.p2 (α:=Func) (β:=Int) 21 (fun F k=>Enc.good F) (fun F k=>imR F k) (fun F k hc=>imI_c F k hc)
theorem K_21_f:K_21.f=21:=rfl
theorem K_21_e (F0:Int) (F1:List Block) (k:Int):K_21.e [.agg [.d (.int .i64 F0),.d (dBlockS F1)],.d (.int .i64 k)]=some (Enc.good (Func.mk F0 F1),imR (Func.mk F0 F1) k,[]):=by unfold K_21;exact Ent.p2_eq (α:=Func) (β:=Int) (Func.mk F0 F1) k
noncomputable def K_21h:EntH Tryz.prog:=EntH.pk2 (α:=Func) (β:=Int) 21 (fun F k=>Enc.good F) (fun F k=>imR F k) (fun F k=>[]) (fun F k hc=>PureP.ans (imI_c F k hc))
theorem K_21h_f:K_21h.f=21:=rfl
theorem K_21h_g:K_21h.gro=true:=rfl
theorem K_21h_e {x1 x2:V} {H:Heap}:K_21h.e [x1,x2] H=guardR ((decA (α:=Func) H x1).1∧(decA (α:=Int) H x2).1) (peekR (Enc.good (decA (α:=Func) H x1).2) (imR (decA (α:=Func) H x1).2 (decA (α:=Int) H x2).2) ([]) H):=rfl
end Go.Proofs.YthafdegfjadijaaGreat
