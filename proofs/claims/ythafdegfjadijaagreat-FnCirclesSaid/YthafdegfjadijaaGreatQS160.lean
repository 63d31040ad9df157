/- IsReducible of the reference, closed. No condition. -/
import Derived.Test.YthafdegfjadijaaGreatQS159
namespace Go.Proofs.YthafdegfjadijaaGreat
set_option maxRecDepth 100000
set_option linter.unusedSimpArgs false
set_option linter.unusedVariables false
open Classical in
noncomputable def rdB (F:Func):Bool:=goodF F && decide (Red (nextL F.blocks_))
noncomputable def rdR (F:Func):V:=.tup [.d (.bool (rdB F)),.d (.bool (goodF F))]
theorem mem_bkL {F:Func} (hg:goodF F=true) {m k:Int} (hm:0≤m∧m < F.blocks_.length):[m,k]∈bkL F ↔ k∈nextS F m∧Dm (nextL F.blocks_) k m:=by
  unfold bkL
  rw [mem_bkTo]
  constructor
  · rintro ⟨q,x,h1,h2,h3⟩
    simp only [List.cons.injEq,and_true] at h3
    obtain ⟨rfl,rfl⟩:=h3
    have:=List.mem_filter.1 h2
    exact ⟨this.1,(mem_dS hg hm).1 (hasL_iff.1 this.2)⟩
  · rintro ⟨h1,h2⟩
    obtain ⟨q,rfl⟩:=Int.eq_ofNat_of_zero_le hm.1
    exact ⟨q,k,by omega,List.mem_filter.2 ⟨h1,hasL_iff.2 ((mem_dS hg hm).2 h2)⟩,rfl⟩
theorem fw_iff {F:Func} (hg:goodF F=true) {m k:Int} (hm:0≤m∧m < F.blocks_.length):k∈(forthL (nextL F.blocks_))[m.toNat]?.getD default ↔ k∈nextS F m∧[m,k] ∉ bkL F:=by
  have hln:(nextL F.blocks_).length=F.blocks_.length:=by simp [nextL]
  rw [mem_forth (by omega),mem_bkL hg hm,← mem_nextS]
  exact ⟨fun h=>⟨h.1,fun q=>h.2 q.2⟩,fun h=>⟨h.1,fun q=>h.2 ⟨h.1,q⟩⟩⟩
set_option maxHeartbeats 4000000 in
theorem rdS_c (F : Func) (hF : Enc.good F) : PureP Tryz.prog 26 [vFunc F] (· = rdR F) := by
  cases hg:goodF F with
  | false =>
    have e:rdR F=.tup [.d (.bool false),.d (.bool false)]:=by simp [rdR,rdB,hg]
    rw [e]
    refine pure_of Tryz.func26 en_26 rfl rfl (W_run mixed ⟨[K_37,K_40,K_52,K_48,K_53,K_54,K_55],[K_37h,K_40h,K_52h,K_48h,K_53h,K_54h,K_55h],[],54,0,[0,1,2,3,4,5,6,8,9,11,14,19,20,21,22,23,26,27,28,29,43,46],[14,19,23,29,37,43,46]⟩ (fun _=>[]) (by kernel_rfl) ?_)
    simp only [Tryz.f26,stripX,stripOps,pickOps]
    simp [K_37_f,K_37_e,K_40_f,K_40_e,K_52_f,K_52_e,K_48_f,K_48_e,K_53_f,K_53_e,K_54_f,K_54_e,K_55_f,K_55_e,K_37h_f,K_37h_e,K_40h_f,K_40h_e,K_52h_f,K_52h_e,K_48h_f,K_48h_e,K_53h_f,K_53h_e,K_54h_f,K_54h_e,K_55h_f,K_55h_e,K_37h_g,K_40h_g,K_52h_g,K_48h_g,K_53h_g,K_54h_g,K_55h_g,hF,hg]
  | true =>
    obtain ⟨hv1,hn1,hp1⟩:=good_flow hg
    have hv8:=hv1.1
    have hln:(nextL F.blocks_).length=F.blocks_.length:=by simp [nextL]
    have hp1':(0:Int) < F.blocks_.length:=by omega
    obtain ⟨bk,hbk⟩:∃ bk,bk=bkL F:=⟨_,rfl⟩
    have bk8:bk.length≤1000:=by have:=bkL_len hg;rw [hbk];omega
    have bkm:∀ e∈bk,∃ a b:Int,e=[a,b]:=fun e he=>by
      rw [hbk] at he
      obtain ⟨k,x,h1,h2,rfl⟩:=mem_bkTo.1 he
      exact ⟨_,_,rfl⟩
    obtain ⟨R,hR⟩:∃ R,R=allR F:=⟨_,rfl⟩
    have hR':fromL F 0 (-1)=R:=hR.symm
    have R8:R.length≤8:=by rw [hR];exact fromL_len hn1 0 (-1)
    have Rm:∀ x,x∈R ↔ Rch (nextL F.blocks_) 0 (-1) x:=fun x=>by rw [hR];exact mem_allR hg
    have Rr:∀ x∈R,0≤x∧x < F.blocks_.length:=fun x hx=>by
      have:=((Rm x).1 hx).rng hn1 (by omega);omega
    have hRn:nzD R=dIntS R:=by
      have:(0:Int)∈R:=(Rm 0).2 (.base (by decide))
      exact if_neg fun e=>by rw [e] at this;cases this
    refine pure_of Tryz.func26 en_26 rfl rfl (W_run mixed ⟨[K_37,K_40,K_52,K_48,K_53,K_54,K_55],[K_37h,K_40h,K_52h,K_48h,K_53h,K_54h,K_55h],[],54,0,[0,1,2,3,4,5,6,8,9,11,14,19,20,21,22,23,26,27,28,29,43,46],[14,19,23,29,37,43,46]⟩ (fun _=>[]) (by kernel_rfl) ?_)
    simp only [Tryz.f26,stripX,stripOps,pickOps]
    simp [K_37_f,K_37_e,K_40_f,K_40_e,K_52_f,K_52_e,K_48_f,K_48_e,K_53_f,K_53_e,K_54_f,K_54_e,K_55_f,K_55_e,K_37h_f,K_37h_e,K_40h_f,K_40h_e,K_52h_f,K_52h_e,K_48h_f,K_48h_e,K_53h_f,K_53h_e,K_54h_f,K_54h_e,K_55h_f,K_55h_e,K_37h_g,K_40h_g,K_52h_g,K_48h_g,K_53h_g,K_54h_g,K_55h_g,hF,hg,hv1,hn1,hp1,hp1',hR',← hbk]
    refine W_loopA (α:=List Int × Bool) (fun a=>[(1,.ptr 0 2 0 0),(4,.d (nzD a.1)),(5,.d (dIntSS bk)),(6,.d (.bool a.2))])
      (fun _=>[.row 2 [[.d (.int .i64 F.params_),.d (dBlockS F.blocks_)]]]) (fun a=>Lf (nextL F.blocks_) R a.1∧a.1.length≤8∧(a.2=false→∀ x∈a.1,Stay (nextL F.blocks_) a.1 x)) (fun a=>a.1.length * 2 + if a.2=true then 1 else 0) (R,true) ?_ ⟨⟨fun _ h=>h,fun x h1 h2=>absurd h1 h2⟩,R8,fun h=>by cases h⟩ ?_
    · simp [hRn]
    rintro ⟨left,more⟩ ⟨qL,l8,hst⟩
    dsimp only at qL l8 hst
    cases more with
    | false =>
      have hd:=qL.done hn1 Rm (fun x hx=>(Rr x hx).1) (hst rfl)
      have er:rdR F=.tup [.d (.bool (decide (left=[]))),.d (.bool true)]:=by
        rw [rdR,rdB,hg,Bool.true_and]
        congr 4
        exact decide_eq_decide.2 hd.symm
      rw [er]
      by_cases hl:left=[]
      · subst hl
        have e0:nzD []=.nilsl:=if_pos rfl
        refine W_run mixed ⟨[K_37,K_40,K_52,K_48,K_53,K_54,K_55],[K_37h,K_40h,K_52h,K_48h,K_53h,K_54h,K_55h],[],54,0,[0,1,2,3,4,5,6,8,9,11,14,19,20,21,22,23,26,27,28,29,43,46],[14,19,23,29,37,43,46]⟩ (fun _=>[]) (by kernel_rfl) ?_
        simp only [stripX,stripOps,pickOps]
        simp [K_37_f,K_37_e,K_40_f,K_40_e,K_52_f,K_52_e,K_48_f,K_48_e,K_53_f,K_53_e,K_54_f,K_54_e,K_55_f,K_55_e,K_37h_f,K_37h_e,K_40h_f,K_40h_e,K_52h_f,K_52h_e,K_48h_f,K_48h_e,K_53h_f,K_53h_e,K_54h_f,K_54h_e,K_55h_f,K_55h_e,K_37h_g,K_40h_g,K_52h_g,K_48h_g,K_53h_g,K_54h_g,K_55h_g,e0]
      · have e0:nzD left=dIntS left:=if_neg hl
        have hl':¬ left.length=0:=fun q=>hl (List.length_eq_zero_iff.1 q)
        refine W_run mixed ⟨[K_37,K_40,K_52,K_48,K_53,K_54,K_55],[K_37h,K_40h,K_52h,K_48h,K_53h,K_54h,K_55h],[],54,0,[0,1,2,3,4,5,6,8,9,11,14,19,20,21,22,23,26,27,28,29,43,46],[14,19,23,29,37,43,46]⟩ (fun _=>[]) (by kernel_rfl) ?_
        simp only [stripX,stripOps,pickOps]
        simp [K_37_f,K_37_e,K_40_f,K_40_e,K_52_f,K_52_e,K_48_f,K_48_e,K_53_f,K_53_e,K_54_f,K_54_e,K_55_f,K_55_e,K_37h_f,K_37h_e,K_40h_f,K_40h_e,K_52h_f,K_52h_e,K_48h_f,K_48h_e,K_53h_f,K_53h_e,K_54h_f,K_54h_e,K_55h_f,K_55h_e,K_37h_g,K_40h_g,K_52h_g,K_48h_g,K_53h_g,K_54h_g,K_55h_g,e0,hl,hl']
    | true =>
      by_cases hl:left=[]
      · subst hl
        have e0:nzD []=.nilsl:=if_pos rfl
        refine W_run mixed ⟨[K_37,K_40,K_52,K_48,K_53,K_54,K_55],[K_37h,K_40h,K_52h,K_48h,K_53h,K_54h,K_55h],[],54,0,[0,1,2,3,4,5,6,8,9,11,14,19,20,21,22,23,26,27,28,29,43,46],[14,19,23,29,37,43,46]⟩ (fun _=>[]) (by kernel_rfl) ?_
        simp only [stripX,stripOps,pickOps]
        simp [K_37_f,K_37_e,K_40_f,K_40_e,K_52_f,K_52_e,K_48_f,K_48_e,K_53_f,K_53_e,K_54_f,K_54_e,K_55_f,K_55_e,K_37h_f,K_37h_e,K_40h_f,K_40h_e,K_52h_f,K_52h_e,K_48h_f,K_48h_e,K_53h_f,K_53h_e,K_54h_f,K_54h_e,K_55h_f,K_55h_e,K_37h_g,K_40h_g,K_52h_g,K_48h_g,K_53h_g,K_54h_g,K_55h_g,e0]
        refine W_rounds 1 (WR_succ ?_)
        refine W_run mixed ⟨[K_37,K_40,K_52,K_48,K_53,K_54,K_55],[K_37h,K_40h,K_52h,K_48h,K_53h,K_54h,K_55h],[],54,0,[0,1,2,3,4,5,6,8,9,11,14,19,20,21,22,23,26,27,28,29,43,46],[14,19,23,29,37,43,46]⟩ (fun _=>[]) (by kernel_rfl) ?_
        simp only [stripX,stripOps,pickOps]
        simp [K_37_f,K_37_e,K_40_f,K_40_e,K_52_f,K_52_e,K_48_f,K_48_e,K_53_f,K_53_e,K_54_f,K_54_e,K_55_f,K_55_e,K_37h_f,K_37h_e,K_40h_f,K_40h_e,K_52h_f,K_52h_e,K_48h_f,K_48h_e,K_53h_f,K_53h_e,K_54h_f,K_54h_e,K_55h_f,K_55h_e,K_37h_g,K_40h_g,K_52h_g,K_48h_g,K_53h_g,K_54h_g,K_55h_g,e0]
        exact ⟨[],⟨qL,Nat.zero_le _,fun x hx=>absurd hx List.not_mem_nil⟩,rfl,e0.symm⟩
      · have e0 : nzD left = dIntS left := if_neg hl
        refine W_run mixed ⟨[K_37,K_40,K_52,K_48,K_53,K_54,K_55],[K_37h,K_40h,K_52h,K_48h,K_53h,K_54h,K_55h],[],54,0,[0,1,2,3,4,5,6,8,9,11,14,19,20,21,22,23,26,27,28,29,43,46],[14,19,23,29,37,43,46]⟩ (fun _=>[]) (by kernel_rfl) ?_
        simp only [stripX,stripOps,pickOps]
        simp [K_37_f,K_37_e,K_40_f,K_40_e,K_52_f,K_52_e,K_48_f,K_48_e,K_53_f,K_53_e,K_54_f,K_54_e,K_55_f,K_55_e,K_37h_f,K_37h_e,K_40h_f,K_40h_e,K_52h_f,K_52h_e,K_48h_f,K_48h_e,K_53h_f,K_53h_e,K_54h_f,K_54h_e,K_55h_f,K_55h_e,K_37h_g,K_40h_g,K_52h_g,K_48h_g,K_53h_g,K_54h_g,K_55h_g,e0]
        refine W_loopA (α:=Nat) (fun i=>[(1,.ptr 0 2 0 0),(4,.d (dIntS left)),(5,.d (dIntSS bk)),(6,.d (.bool false)),(20,.d (dIntS left)),(21,.d (.int .i64 left.length)),(22,.d (.int .i64 i))])
          (fun _=>[.row 2 [[.d (.int .i64 F.params_),.d (dBlockS F.blocks_)]]]) (fun i=>i≤left.length∧∀ x∈left.take i,Stay (nextL F.blocks_) left x) (fun i=>left.length - i) 0 ?_ ⟨Nat.zero_le _,fun x hx=>absurd hx (by simp)⟩ ?_
        · simp
        rintro i ⟨hi,hsi⟩
        by_cases h:i < left.length
        · obtain ⟨k,hk⟩:∃ k,k=left[i]?.getD 0:=⟨_,rfl⟩
          have k0:=hk.symm
          have k1:∀ h:i < left.length,left[i]=k:=fun h=>by rw [hk,List.getElem?_eq_getElem h];rfl
          have hkl:k∈left:=by rw [← k1 h];exact List.getElem_mem h
          have wi:IntKind.i64.wrap ((i:Int) + 1)=((i + 1:Nat):Int):=by rw [wrap_id] <;> omega
          refine W_run mixed ⟨[K_37,K_40,K_52,K_48,K_53,K_54,K_55],[K_37h,K_40h,K_52h,K_48h,K_53h,K_54h,K_55h],[],54,0,[0,1,2,3,4,5,6,8,9,11,14,19,20,21,22,23,26,27,28,29,43,46],[14,19,23,29,37,43,46]⟩ (fun _=>[]) (by kernel_rfl) ?_
          simp only [stripX,stripOps,pickOps]
          simp [K_37_f,K_37_e,K_40_f,K_40_e,K_52_f,K_52_e,K_48_f,K_48_e,K_53_f,K_53_e,K_54_f,K_54_e,K_55_f,K_55_e,K_37h_f,K_37h_e,K_40h_f,K_40h_e,K_52h_f,K_52h_e,K_48h_f,K_48h_e,K_53h_f,K_53h_e,K_54h_f,K_54h_e,K_55h_f,K_55h_e,K_37h_g,K_40h_g,K_52h_g,K_48h_g,K_53h_g,K_54h_g,K_55h_g,h,k0,k1]
          refine W_loopA (α:=Nat × Bool) (fun a=>[(1,.ptr 0 2 0 0),(4,.d (dIntS left)),(5,.d (dIntSS bk)),(6,.d (.bool false)),(8,.d (.int .i64 k)),(9,.d (.bool a.2)),(20,.d (dIntS left)),(21,.d (.int .i64 left.length)),(22,.d (.int .i64 i)),(26,.d (dIntS left)),(27,.d (.int .i64 left.length)),(28,.d (.int .i64 a.1))])
            (fun _=>[.row 2 [[.d (.int .i64 F.params_),.d (dBlockS F.blocks_)]]]) (fun a=>a.1≤left.length∧(a.2=true ↔ Stay (nextL F.blocks_) (left.take a.1) k)) (fun a=>left.length - a.1) (0,false) ?_ ⟨Nat.zero_le _,Iff.intro (fun h=>absurd h (by decide)) (fun h=>h.elim fun m hm=>absurd hm.1 (by simp))⟩ ?_
          · simp
          rintro ⟨j,st⟩ ⟨hj,hst⟩
          dsimp only at hj hst
          by_cases hjl:j < left.length
          · obtain ⟨m,hm⟩:∃ m,m=left[j]?.getD 0:=⟨_,rfl⟩
            have m0:=hm.symm
            have m1:∀ h:j < left.length,left[j]=m:=fun h=>by rw [hm,List.getElem?_eq_getElem h];rfl
            have hmr:=Rr m (qL.sub m (by rw [← m1 hjl];exact List.getElem_mem hjl))
            obtain ⟨r0,r1⟩:=hmr
            have wj:IntKind.i64.wrap ((j:Int) + 1)=((j + 1:Nat):Int):=by rw [wrap_id] <;> omega
            have n8:(nextS F m).length≤1000:=by
              obtain ⟨q,rfl⟩:=Int.eq_ofNat_of_zero_le r0
              have:=nextS_len hg q;omega
            have fw:=fw_iff hg (m:=m) (k:=k) ⟨r0,r1⟩
            rw [← hbk] at fw
            have step:Stay (nextL F.blocks_) (left.take (j + 1)) k ↔ Stay (nextL F.blocks_) (left.take j) k∨(k∈nextS F m∧[m,k] ∉ bk):=by
              rw [← fw]
              unfold Stay
              rw [List.take_succ_eq_append_getElem hjl,m1 hjl]
              constructor
              · rintro ⟨y,hy,hz⟩
                rcases List.mem_append.1 hy with hy | hy
                · exact .inl ⟨y,hy,hz⟩
                · rw [List.mem_singleton.1 hy] at hz;exact .inr hz
              · rintro (⟨y,hy,hz⟩ | hz)
                · exact ⟨y,List.mem_append_left _ hy,hz⟩
                · exact ⟨m,List.mem_append_right _ (List.mem_singleton.2 rfl),hz⟩
            cases hx1:hasL (nextS F m) k with
            | false =>
              have hno:k ∉ nextS F m:=fun q=>by rw [hasL_iff.2 q] at hx1;cases hx1
              refine W_run mixed ⟨[K_37,K_40,K_52,K_48,K_53,K_54,K_55],[K_37h,K_40h,K_52h,K_48h,K_53h,K_54h,K_55h],[],54,0,[0,1,2,3,4,5,6,8,9,11,14,19,20,21,22,23,26,27,28,29,43,46],[14,19,23,29,37,43,46]⟩ (fun _=>[]) (by kernel_rfl) ?_
              simp only [stripX,stripOps,pickOps]
              simp [K_37_f,K_37_e,K_40_f,K_40_e,K_52_f,K_52_e,K_48_f,K_48_e,K_53_f,K_53_e,K_54_f,K_54_e,K_55_f,K_55_e,K_37h_f,K_37h_e,K_40h_f,K_40h_e,K_52h_f,K_52h_e,K_48h_f,K_48h_e,K_53h_f,K_53h_e,K_54h_f,K_54h_e,K_55h_f,K_55h_e,K_37h_g,K_40h_g,K_52h_g,K_48h_g,K_53h_g,K_54h_g,K_55h_g,hjl,m0,m1,hv1,r0,r1,n8,hx1,bk8,wj]
              have hst':st=true ↔ Stay (nextL F.blocks_) (left.take (j + 1)) k:=by rw [step,hst];exact ⟨.inl,fun h=>h.resolve_right fun q=>hno q.1⟩
              refine ⟨j + 1, ?_⟩
              cases st with
              | false=>exact .inl ⟨⟨by omega,fun q=>by have:=hst'.2 q;cases this⟩,by omega,rfl,rfl⟩
              | true=>exact .inr ⟨⟨by omega,hst'.1 rfl⟩,by omega,rfl,rfl⟩
            | true =>
              have hyes:k∈nextS F m:=hasL_iff.1 hx1
              by_cases hx2:[m,k]∈bk
              · refine W_run mixed ⟨[K_37,K_40,K_52,K_48,K_53,K_54,K_55],[K_37h,K_40h,K_52h,K_48h,K_53h,K_54h,K_55h],[],54,0,[0,1,2,3,4,5,6,8,9,11,14,19,20,21,22,23,26,27,28,29,43,46],[14,19,23,29,37,43,46]⟩ (fun _=>[]) (by kernel_rfl) ?_
                simp only [stripX,stripOps,pickOps]
                simp [K_37_f,K_37_e,K_40_f,K_40_e,K_52_f,K_52_e,K_48_f,K_48_e,K_53_f,K_53_e,K_54_f,K_54_e,K_55_f,K_55_e,K_37h_f,K_37h_e,K_40h_f,K_40h_e,K_52h_f,K_52h_e,K_48h_f,K_48h_e,K_53h_f,K_53h_e,K_54h_f,K_54h_e,K_55h_f,K_55h_e,K_37h_g,K_40h_g,K_52h_g,K_48h_g,K_53h_g,K_54h_g,K_55h_g,hjl,m0,m1,hv1,r0,r1,n8,hx1,hx2,bk8,wj]
                have hst':st=true ↔ Stay (nextL F.blocks_) (left.take (j + 1)) k:=by rw [step,hst];exact ⟨.inl,fun h=>h.resolve_right fun q=>q.2 hx2⟩
                refine ⟨bkm,j + 1, ?_⟩
                cases st with
                | false=>exact .inl ⟨⟨by omega,fun q=>by have:=hst'.2 q;cases this⟩,by omega,rfl,rfl⟩
                | true=>exact .inr ⟨⟨by omega,hst'.1 rfl⟩,by omega,rfl,rfl⟩
              · refine W_run mixed ⟨[K_37,K_40,K_52,K_48,K_53,K_54,K_55],[K_37h,K_40h,K_52h,K_48h,K_53h,K_54h,K_55h],[],54,0,[0,1,2,3,4,5,6,8,9,11,14,19,20,21,22,23,26,27,28,29,43,46],[14,19,23,29,37,43,46]⟩ (fun _=>[]) (by kernel_rfl) ?_
                simp only [stripX,stripOps,pickOps]
                simp [K_37_f,K_37_e,K_40_f,K_40_e,K_52_f,K_52_e,K_48_f,K_48_e,K_53_f,K_53_e,K_54_f,K_54_e,K_55_f,K_55_e,K_37h_f,K_37h_e,K_40h_f,K_40h_e,K_52h_f,K_52h_e,K_48h_f,K_48h_e,K_53h_f,K_53h_e,K_54h_f,K_54h_e,K_55h_f,K_55h_e,K_37h_g,K_40h_g,K_52h_g,K_48h_g,K_53h_g,K_54h_g,K_55h_g,hjl,m0,m1,hv1,r0,r1,n8,hx1,hx2,bk8,wj]
                exact ⟨bkm,j + 1,⟨by omega,step.2 (.inr ⟨hyes,hx2⟩)⟩,by omega,rfl⟩
          · rw [List.take_of_length_le (by omega)] at hst
            cases st with
            | true =>
              have hk1:=hst.1 rfl
              refine W_run mixed ⟨[K_37,K_40,K_52,K_48,K_53,K_54,K_55],[K_37h,K_40h,K_52h,K_48h,K_53h,K_54h,K_55h],[],54,0,[0,1,2,3,4,5,6,8,9,11,14,19,20,21,22,23,26,27,28,29,43,46],[14,19,23,29,37,43,46]⟩ (fun _=>[]) (by kernel_rfl) ?_
              simp only [stripX,stripOps,pickOps]
              simp [K_37_f,K_37_e,K_40_f,K_40_e,K_52_f,K_52_e,K_48_f,K_48_e,K_53_f,K_53_e,K_54_f,K_54_e,K_55_f,K_55_e,K_37h_f,K_37h_e,K_40h_f,K_40h_e,K_52h_f,K_52h_e,K_48h_f,K_48h_e,K_53h_f,K_53h_e,K_54h_f,K_54h_e,K_55h_f,K_55h_e,K_37h_g,K_40h_g,K_52h_g,K_48h_g,K_53h_g,K_54h_g,K_55h_g,hjl,wi]
              refine ⟨i + 1,⟨by omega,fun x hx=>?_⟩,by omega,rfl⟩
              rw [List.take_succ_eq_append_getElem h,k1 h] at hx
              rcases List.mem_append.1 hx with hx | hx
              · exact hsi x hx
              · rw [List.mem_singleton.1 hx];exact hk1
            | false =>
              have hno:¬ Stay (nextL F.blocks_) left k:=fun q=>by have:=hst.2 q;cases this
              have qd:=qL.drop hn1 Rm hkl (Rr k (qL.sub k hkl)).1 hno
              have ld:(drL k left).length < left.length:=by
                unfold drL
                refine Nat.lt_of_le_of_ne (List.length_filter_le ..) fun e=>?_
                have:=(List.length_filter_eq_length_iff.1 e) k hkl
                simp at this
              have l9:left.length≤1000:=by omega
              refine W_run mixed ⟨[K_37,K_40,K_52,K_48,K_53,K_54,K_55],[K_37h,K_40h,K_52h,K_48h,K_53h,K_54h,K_55h],[],54,0,[0,1,2,3,4,5,6,8,9,11,14,19,20,21,22,23,26,27,28,29,43,46],[14,19,23,29,37,43,46]⟩ (fun _=>[]) (by kernel_rfl) ?_
              simp only [stripX,stripOps,pickOps]
              simp [K_37_f,K_37_e,K_40_f,K_40_e,K_52_f,K_52_e,K_48_f,K_48_e,K_53_f,K_53_e,K_54_f,K_54_e,K_55_f,K_55_e,K_37h_f,K_37h_e,K_40h_f,K_40h_e,K_52h_f,K_52h_e,K_48h_f,K_48h_e,K_53h_f,K_53h_e,K_54h_f,K_54h_e,K_55h_f,K_55h_e,K_37h_g,K_40h_g,K_52h_g,K_48h_g,K_53h_g,K_54h_g,K_55h_g,hjl,l9]
              exact ⟨drL k left,⟨qd,by omega⟩,ld,rfl⟩
        · rw [List.take_of_length_le (by omega)] at hsi
          refine W_run mixed ⟨[K_37,K_40,K_52,K_48,K_53,K_54,K_55],[K_37h,K_40h,K_52h,K_48h,K_53h,K_54h,K_55h],[],54,0,[0,1,2,3,4,5,6,8,9,11,14,19,20,21,22,23,26,27,28,29,43,46],[14,19,23,29,37,43,46]⟩ (fun _=>[]) (by kernel_rfl) ?_
          simp only [stripX,stripOps,pickOps]
          simp [K_37_f,K_37_e,K_40_f,K_40_e,K_52_f,K_52_e,K_48_f,K_48_e,K_53_f,K_53_e,K_54_f,K_54_e,K_55_f,K_55_e,K_37h_f,K_37h_e,K_40h_f,K_40h_e,K_52h_f,K_52h_e,K_48h_f,K_48h_e,K_53h_f,K_53h_e,K_54h_f,K_54h_e,K_55h_f,K_55h_e,K_37h_g,K_40h_g,K_52h_g,K_48h_g,K_53h_g,K_54h_g,K_55h_g,h]
          exact ⟨left,⟨qL,l8,hsi⟩,by omega,e0.symm⟩
noncomputable def K_26:Ent Tryz.prog:=Ent.p1 (α:=Func) 26 (fun F=>Enc.good F) (fun F=>rdR F) (fun F hc=>rdS_c F hc)
theorem K_26_f:K_26.f=26:=rfl
theorem K_26_e (F0:Int) (F1:List Block):K_26.e [.agg [.d (.int .i64 F0),.d (dBlockS F1)]]=some (Enc.good (Func.mk F0 F1),rdR (Func.mk F0 F1),[]):=by unfold K_26;exact Ent.p1_eq (α:=Func) (Func.mk F0 F1)
noncomputable def K_26h:EntH Tryz.prog:=EntH.pk1 (α:=Func) 26 (fun F=>Enc.good F) (fun F=>rdR F) (fun F=>[]) (fun F hc=>PureP.ans (rdS_c F hc))
theorem K_26h_f:K_26h.f=26:=rfl
theorem K_26h_g:K_26h.gro=true:=rfl
theorem K_26h_e {x1:V} {H:Heap}:K_26h.e [x1] H=guardR ((decA (α:=Func) H x1).1) (peekR (Enc.good (decA (α:=Func) H x1).2) (rdR (decA (α:=Func) H x1).2) ([]) H):=rfl
end Go.Proofs.YthafdegfjadijaaGreat
