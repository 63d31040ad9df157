/- The loop of a head: the reference. No condition. -/
import Derived.Test.YthafdegfjadijaaGreatQS156
namespace Go.Proofs.YthafdegfjadijaaGreat
set_option maxRecDepth 100000
set_option linter.unusedSimpArgs false
set_option linter.unusedVariables false
def nzD (l:List Int):D:=if l=[] then .nilsl else dIntS l
theorem putD_c (l:List Int) (n:Int) (h8:l.length≤1000):PureP Tryz.prog 70 [.d (nzD l),.d (.int .i64 n)] (· = .d (nzD (putL l n))):=by
  have hp:putL l n ≠ []:=fun q=>by have:=(mem_putL (l:=l) (n:=n) (x:=n)).2 (.inl rfl);rw [q] at this;cases this
  have e2:nzD (putL l n)=dIntS (putL l n):=if_neg hp
  rw [e2]
  by_cases h:l=[]
  · subst h
    have e1:nzD []=.nilsl:=if_pos rfl
    rw [e1]
    exact (l1Put_c [] n h8).rdB (Rd1.list (vs:=[.d .nilsl,.d (.int .i64 n)]) (vs':=[.d (dIntS []),.d (.int .i64 n)]) ⟨Rd1.nilL,Rd1.d,trivial⟩)
  · have e1:nzD l=dIntS l:=if_neg h
    rw [e1]
    exact l1Put_c l n h8
structure Lo (F:Func) (h:Int) (st:List Int) (O:List Int):Prop where
  sorted:O.Pairwise (· < ·)
  mem:∀ x,x∈O ↔ st ≠ []∧(x=h∨(x∈allR F∧∃ s∈st,s∈fromL F x h))
structure LoJ (F:Func) (h a:Int) (O0:List Int) (j:Nat) (O:List Int):Prop where
  sorted:O.Pairwise (· < ·)
  mem:∀ x,x∈O ↔ x∈O0∨x=h∨(x∈(allR F).take j∧a∈fromL F x h)
theorem loLen {F:Func} (hg:goodF F=true) {h:Int} (hh:0≤h∧h < F.blocks_.length) {O:List Int} (hs:O.Pairwise (· < ·)) (hm:∀ x∈O,x=h∨x∈allR F):O.length≤8:=by
  obtain ⟨hv1,hn1,hp1⟩:=good_flow hg
  have hln:(nextL F.blocks_).length=F.blocks_.length:=by simp [nextL]
  have:=sorted_len (n:=F.blocks_.length) hs fun x hx=>by
    rcases hm x hx with rfl | h
    · exact hh
    · have:=((mem_allR hg).1 h).rng hn1 (by omega);omega
  have:=hv1.1
  omega
theorem lo_done {F : Func} (hg : goodF F = true) {h : Int} (hh : 0 ≤ h ∧ h < F.blocks_.length) {O : List Int} (q : Lo F h (stN (nextL F.blocks_) h) O) : nzD O = lpD (nextL F.blocks_) h := by
  obtain ⟨hv1,hn1,hp1⟩:=good_flow hg
  have hln:(nextL F.blocks_).length=F.blocks_.length:=by simp [nextL]
  by_cases hs:stN (nextL F.blocks_) h=[]
  · have:O=[]:=List.eq_nil_iff_forall_not_mem.2 fun x hx=>((q.mem x).1 hx).1 hs
    rw [this,lpD,if_pos hs];rfl
  · have hO : O = lpL (nextL F.blocks_) h := by
      refine sorted_ext q.sorted (numsOf_sorted _ _) fun x=>?_
      rw [q.mem,show lpL (nextL F.blocks_) h=numsOf (lpN (nextL F.blocks_) h) (nextL F.blocks_).length from rfl,mem_numsOf,hln]
      constructor
      · rintro ⟨_,hx⟩
        have hr:0≤x∧x < F.blocks_.length:=by
          rcases hx with rfl | ⟨hx,_⟩
          · exact hh
          · have:=((mem_allR hg).1 hx).rng hn1 (by omega);omega
        refine ⟨hr.1,hr.2, ?_⟩
        rw [lpN,show ((x.toNat:Nat):Int)=x by omega]
        rcases hx with rfl | ⟨h1,s,h2,h3⟩
        · simp
        · have a1:(rchB (nextL F.blocks_) 0 (-1))[x.toNat]?.getD false=true:=(rchB_get (by omega)).2 (by rw [show ((x.toNat:Nat):Int)=x by omega];exact (mem_allR hg).1 h1)
          have a2:=listB_rchB.1 h3
          have a3:(rchB (nextL F.blocks_) x h)[s.toNat]?.getD false=true:=(rchB_get (by omega)).2 (by rw [show ((s.toNat:Nat):Int)=s by omega];exact a2.2.2)
          have a4:((stN (nextL F.blocks_) h).any fun s=>(rchB (nextL F.blocks_) x h)[s.toNat]?.getD false)=true:=List.any_eq_true.2 ⟨s,h2,a3⟩
          rw [a1,a4];simp
      · rintro ⟨h0,h1,h2⟩
        refine ⟨hs, ?_⟩
        rw [lpN,show ((x.toNat:Nat):Int)=x by omega,Bool.or_eq_true,Bool.and_eq_true,decide_eq_true_eq] at h2
        rcases h2 with h2 | ⟨h2,h3⟩
        · exact .inl h2
        · obtain ⟨s,h4,h5⟩:=List.any_eq_true.1 h3
          have b1:=(rchB_get (by omega)).1 h2
          rw [show ((x.toNat:Nat):Int)=x by omega] at b1
          refine .inr ⟨(mem_allR hg).2 b1,s,h4,listB_rchB.2 ?_⟩
          have hsr:0≤s∧s < (nextL F.blocks_).length:=by
            rw [stN] at h4
            obtain ⟨e,he,rfl⟩:=List.mem_map.1 h4
            obtain ⟨k,y,k1,k2,rfl⟩:=mem_bkTo.1 (List.mem_filter.1 he).1
            exact ⟨Int.natCast_nonneg k,by show ((k:Nat):Int) < _;omega⟩
          have b2:=(rchB_get (by omega)).1 h5
          rw [show ((s.toNat:Nat):Int)=s by omega] at b2
          exact ⟨hsr.1,hsr.2,b2⟩
    have hpos:=lpL_pos (nx:=nextL F.blocks_) (h:=h) (by omega)
    rw [hO,lpD,if_neg hs,nzD,if_neg fun e=>by rw [e] at hpos;exact absurd hpos (by decide)]
set_option maxHeartbeats 4000000 in
theorem loopS_c (F : Func) (hd : Int) (hg : goodF F = true) (hh : 0 ≤ hd ∧ hd < F.blocks_.length) : PureP Tryz.prog 58 [vFunc F, .d (.int .i64 hd)] (· = .d (lpD (nextL F.blocks_) hd)) := by
  obtain ⟨hv1,hn1,hp1⟩:=good_flow hg
  have hln:(nextL F.blocks_).length=F.blocks_.length:=by simp [nextL]
  have hp1':(0:Int) < F.blocks_.length:=by omega
  obtain ⟨bk,hbk⟩:∃ bk,bk=bkL F:=⟨_,rfl⟩
  have bk8:bk.length≤16:=by rw [hbk];exact bkL_len hg
  have hst:stN (nextL F.blocks_) hd=stP bk hd bk.length:=by
    rw [stP_done (Nat.le_refl _),hbk,stN,hln,bkL]
    rw [bkTo_congr fun k hk=>bk_same hk]
  have bkm:∀ e∈bk,∃ a b:Int,e=[a,b]:=fun e he=>by
    rw [hbk] at he
    obtain ⟨k,x,h1,h2,rfl⟩:=mem_bkTo.1 he
    exact ⟨_,_,rfl⟩
  obtain ⟨R,hR⟩:∃ R,R=allR F:=⟨_,rfl⟩
  have hR':fromL F 0 (-1)=R:=hR.symm
  have R8:R.length≤8:=by rw [hR];exact fromL_len hn1 0 (-1)
  have Rr:∀ x∈R,0≤x∧x < F.blocks_.length:=fun x hx=>by
    rw [hR] at hx
    have:=((mem_allR hg).1 hx).rng hn1 (by omega);omega
  refine pure_of Tryz.func58 en_58 rfl rfl (W_run mixed ⟨[K_40,K_52,K_53],[K_40h,K_52h,K_53h],[70],48,0,[0,1,2,4,5,6,8,10,14,15,16,17,24,28,29,30,31,41],[17,24,31,41]⟩ (fun | 11=>[1,2,4,5,0,3,6,7] | _=>[]) (by kernel_rfl) ?_)
  simp only [Tryz.f58,stripX,stripOps,pickOps]
  simp [K_40_f,K_40_e,K_52_f,K_52_e,K_53_f,K_53_e,K_40h_f,K_40h_e,K_52h_f,K_52h_e,K_53h_f,K_53h_e,K_40h_g,K_52h_g,K_53h_g,hg,hv1,hn1,hp1',hR',← hbk]
  refine ⟨hp1, ?_⟩
  refine W_loopA (α:=Nat × List Int) (fun a=>[(1,.d (.int .i64 hd)),(2,.ptr 0 2 0 0),(4,.d .nilsl),(5,.d (nzD a.2)),(6,.d (dIntS R)),(14,.d (dIntSS bk)),(15,.d (.int .i64 bk.length)),(16,.d (.int .i64 a.1))])
    (fun _=>[.row 2 [[.d (.int .i64 F.params_),.d (dBlockS F.blocks_)]]]) (fun a=>a.1≤bk.length∧Lo F hd (stP bk hd a.1) a.2) (fun a=>bk.length - a.1) (0,[]) ?_ ⟨Nat.zero_le _,List.Pairwise.nil,fun x=>⟨fun h=>absurd h List.not_mem_nil,fun h=>absurd rfl h.1⟩⟩ ?_
  · simp [nzD]
  rintro ⟨i,O⟩ ⟨hi,q⟩
  dsimp only at hi q
  by_cases h:i < bk.length
  · obtain ⟨e,he⟩:∃ e,e=bk[i]?.getD []:=⟨_,rfl⟩
    have e0:=he.symm
    have e1:∀ h:i < bk.length,bk[i]=e:=fun h=>by rw [he,List.getElem?_eq_getElem h];rfl
    have st:=stP_step (h:=hd) h (e1 h)
    obtain ⟨a,b,rfl⟩:=bkm e (by rw [← e1 h];exact List.getElem_mem h)
    have wi:IntKind.i64.wrap ((i:Int) + 1)=((i + 1:Nat):Int):=by rw [wrap_id] <;> omega
    have hO8:=loLen hg hh q.sorted fun x hx=>((q.mem x).1 hx).2.imp id fun h=>h.1
    by_cases hb:b=hd
    · subst hb
      have st2:stP bk b (i + 1)=stP bk b i++[a]:=by rw [st];simp
      refine W_run mixed ⟨[K_40,K_52,K_53],[K_40h,K_52h,K_53h],[70],48,0,[0,1,2,4,5,6,8,10,14,15,16,17,24,28,29,30,31,41],[17,24,31,41]⟩ (fun | 11=>[1,2,4,5,0,3,6,7] | _=>[]) (by kernel_rfl) ?_
      simp only [stripX,stripOps,pickOps]
      simp [K_40_f,K_40_e,K_52_f,K_52_e,K_53_f,K_53_e,K_40h_f,K_40h_e,K_52h_f,K_52h_e,K_53h_f,K_53h_e,K_40h_g,K_52h_g,K_53h_g,h,e0,e1]
      rw [aft_call]
      refine ((putD_c O b (by omega)).calls rfl).mono ?_
      rintro r H1 ⟨rfl,rfl⟩
      simp [K_40_f,K_40_e,K_52_f,K_52_e,K_53_f,K_53_e,K_40h_f,K_40h_e,K_52h_f,K_52h_e,K_53h_f,K_53h_e,K_40h_g,K_52h_g,K_53h_g,h,e0,e1]
      refine W_loopA (α:=Nat × List Int) (fun c=>[(1,.d (.int .i64 b)),(2,.ptr 0 2 0 0),(4,.d .nilsl),(5,.d (nzD c.2)),(6,.d (dIntS R)),(8,.d (dIntS [a,b])),(14,.d (dIntSS bk)),(15,.d (.int .i64 bk.length)),(16,.d (.int .i64 i)),(28,.d (dIntS R)),(29,.d (.int .i64 R.length)),(30,.d (.int .i64 c.1))])
        (fun _=>[.row 2 [[.d (.int .i64 F.params_),.d (dBlockS F.blocks_)]]]) (fun c=>c.1≤R.length∧LoJ F b a O c.1 c.2) (fun c=>R.length - c.1) (0,putL O b) ?_ ⟨Nat.zero_le _,putL_sorted q.sorted,fun x=>?_⟩ ?_
      · simp
      · rw [mem_putL]
        constructor
        · rintro (h | h)
          · exact .inr (.inl h)
          · exact .inl h
        · rintro (h | h | h)
          · exact .inr h
          · exact .inl h
          · exact absurd h.1 (by simp)
      rintro ⟨j,P⟩ ⟨hj,qj⟩
      dsimp only at hj qj
      have hP8:=loLen hg hh qj.sorted fun x hx=>by
        rcases (qj.mem x).1 hx with h | h | h
        · exact ((q.mem x).1 h).2.imp id fun h=>h.1
        · exact .inl h
        · exact .inr (List.mem_of_mem_take h.1)
      by_cases hjR:j < R.length
      · obtain ⟨x,hx⟩:∃ x,x=R[j]?.getD 0:=⟨_,rfl⟩
        have x0:=hx.symm
        have x1:∀ h:j < R.length,R[j]=x:=fun h=>by rw [hx,List.getElem?_eq_getElem h];rfl
        obtain ⟨r0,r1⟩:=Rr x (by rw [← x1 hjR];exact List.getElem_mem hjR)
        have wj:IntKind.i64.wrap ((j:Int) + 1)=((j + 1:Nat):Int):=by rw [wrap_id] <;> omega
        have ht:(allR F).take (j + 1)=(allR F).take j++[x]:=by rw [← hR,List.take_succ_eq_append_getElem hjR,x1 hjR]
        have f8:(fromL F x b).length≤1000:=by have:=fromL_len hn1 x b;omega
        cases hxa:hasL (fromL F x b) a with
        | false =>
          refine W_run mixed ⟨[K_40,K_52,K_53],[K_40h,K_52h,K_53h],[70],48,0,[0,1,2,4,5,6,8,10,14,15,16,17,24,28,29,30,31,41],[17,24,31,41]⟩ (fun | 11=>[1,2,4,5,0,3,6,7] | _=>[]) (by kernel_rfl) ?_
          simp only [stripX,stripOps,pickOps]
          simp [K_40_f,K_40_e,K_52_f,K_52_e,K_53_f,K_53_e,K_40h_f,K_40h_e,K_52h_f,K_52h_e,K_53h_f,K_53h_e,K_40h_g,K_52h_g,K_53h_g,hjR,x0,x1,hv1,hn1,r0,r1,f8,hxa,wj]
          refine ⟨j + 1,P,⟨by omega,qj.sorted,fun y=>?_⟩,by omega,rfl,rfl⟩
          have hxn:a ∉ fromL F x b:=fun q=>by rw [hasL_iff.2 q] at hxa;cases hxa
          rw [qj.mem,ht]
          refine or_congr Iff.rfl (or_congr Iff.rfl ⟨fun h=>⟨List.mem_append_left _ h.1,h.2⟩,fun h=>?_⟩)
          rcases List.mem_append.1 h.1 with h1 | h1
          · exact ⟨h1,h.2⟩
          · have h2:=h.2
            rw [List.mem_singleton.1 h1] at h2
            exact absurd h2 hxn
        | true =>
          refine W_run mixed ⟨[K_40,K_52,K_53],[K_40h,K_52h,K_53h],[70],48,0,[0,1,2,4,5,6,8,10,14,15,16,17,24,28,29,30,31,41],[17,24,31,41]⟩ (fun | 11=>[1,2,4,5,0,3,6,7] | _=>[]) (by kernel_rfl) ?_
          simp only [stripX,stripOps,pickOps]
          simp [K_40_f,K_40_e,K_52_f,K_52_e,K_53_f,K_53_e,K_40h_f,K_40h_e,K_52h_f,K_52h_e,K_53h_f,K_53h_e,K_40h_g,K_52h_g,K_53h_g,hjR,x0,x1,hv1,hn1,r0,r1,f8,hxa,wj]
          rw [aft_call]
          refine ((putD_c P x (by omega)).calls rfl).mono ?_
          rintro r H1 ⟨rfl,rfl⟩
          simp [K_40_f,K_40_e,K_52_f,K_52_e,K_53_f,K_53_e,K_40h_f,K_40h_e,K_52h_f,K_52h_e,K_53h_f,K_53h_e,K_40h_g,K_52h_g,K_53h_g,wj]
          refine ⟨j + 1,putL P x,⟨by omega,putL_sorted qj.sorted,fun y=>?_⟩,by omega,rfl,rfl⟩
          have hxn:a∈fromL F x b:=hasL_iff.1 hxa
          rw [mem_putL,qj.mem,ht,List.mem_append,List.mem_singleton]
          constructor
          · rintro (rfl | h | h | h)
            · exact .inr (.inr ⟨.inr rfl,hxn⟩)
            · exact .inl h
            · exact .inr (.inl h)
            · exact .inr (.inr ⟨.inl h.1,h.2⟩)
          · rintro (h | h | ⟨h | h,h2⟩)
            · exact .inr (.inl h)
            · exact .inr (.inr (.inl h))
            · exact .inr (.inr (.inr ⟨h,h2⟩))
            · exact .inl h
      · refine W_run mixed ⟨[K_40,K_52,K_53],[K_40h,K_52h,K_53h],[70],48,0,[0,1,2,4,5,6,8,10,14,15,16,17,24,28,29,30,31,41],[17,24,31,41]⟩ (fun | 11=>[1,2,4,5,0,3,6,7] | _=>[]) (by kernel_rfl) ?_
        simp only [stripX,stripOps,pickOps]
        simp [K_40_f,K_40_e,K_52_f,K_52_e,K_53_f,K_53_e,K_40h_f,K_40h_e,K_52h_f,K_52h_e,K_53h_f,K_53h_e,K_40h_g,K_52h_g,K_53h_g,hjR,wi]
        refine ⟨i + 1,P,⟨by omega,qj.sorted,fun x=>?_⟩,by omega,rfl,rfl⟩
        rw [qj.mem,q.mem,List.take_of_length_le (by rw [← hR];omega),st2]
        constructor
        · rintro (⟨_,h | ⟨h1,s,h2,h3⟩⟩ | h | ⟨h1,h2⟩)
          · exact ⟨by simp,.inl h⟩
          · exact ⟨by simp,.inr ⟨h1,s,List.mem_append_left _ h2,h3⟩⟩
          · exact ⟨by simp,.inl h⟩
          · exact ⟨by simp,.inr ⟨h1,a,List.mem_append_right _ (List.mem_singleton.2 rfl),h2⟩⟩
        · rintro ⟨_,h | ⟨h1,s,h2,h3⟩⟩
          · exact .inr (.inl h)
          · rcases List.mem_append.1 h2 with h2 | h2
            · exact .inl ⟨fun e=>by rw [e] at h2;exact absurd h2 List.not_mem_nil,.inr ⟨h1,s,h2,h3⟩⟩
            · rw [List.mem_singleton.1 h2] at h3
              exact .inr (.inr ⟨h1,h3⟩)
    · have st2:stP bk hd (i + 1)=stP bk hd i:=by rw [st];simp [hb]
      refine W_run mixed ⟨[K_40,K_52,K_53],[K_40h,K_52h,K_53h],[70],48,0,[0,1,2,4,5,6,8,10,14,15,16,17,24,28,29,30,31,41],[17,24,31,41]⟩ (fun | 11=>[1,2,4,5,0,3,6,7] | _=>[]) (by kernel_rfl) ?_
      simp only [stripX,stripOps,pickOps]
      simp [K_40_f,K_40_e,K_52_f,K_52_e,K_53_f,K_53_e,K_40h_f,K_40h_e,K_52h_f,K_52h_e,K_53h_f,K_53h_e,K_40h_g,K_52h_g,K_53h_g,h,e0,e1,hb,wi]
      exact ⟨i + 1,O,⟨by omega,by rw [st2];exact q⟩,by omega,rfl,rfl⟩
  · have ei:i=bk.length:=by omega
    subst ei
    rw [← hst] at q
    have e:=lo_done hg hh q
    have e2:(V.d (lpD (nextL F.blocks_) hd)).one=true:=by rw [lpD];split <;> rfl
    refine W_run mixed ⟨[K_40,K_52,K_53],[K_40h,K_52h,K_53h],[70],48,0,[0,1,2,4,5,6,8,10,14,15,16,17,24,28,29,30,31,41],[17,24,31,41]⟩ (fun | 11=>[1,2,4,5,0,3,6,7] | _=>[]) (by kernel_rfl) ?_
    simp only [stripX,stripOps,pickOps]
    simp [K_40_f,K_40_e,K_52_f,K_52_e,K_53_f,K_53_e,K_40h_f,K_40h_e,K_52h_f,K_52h_e,K_53h_f,K_53h_e,K_40h_g,K_52h_g,K_53h_g,h,e,e2]
noncomputable def K_58:Ent Tryz.prog:=Ent.p2 (α:=Func) (β:=Int) 58 (fun F hd=>goodF F=true∧0≤hd∧hd < F.blocks_.length) (fun F hd=>.d (lpD (nextL F.blocks_) hd)) (fun F hd hc=>loopS_c F hd hc.1 hc.2)
theorem K_58_f:K_58.f=58:=rfl
theorem K_58_e (F0:Int) (F1:List Block) (hd:Int):K_58.e [.agg [.d (.int .i64 F0),.d (dBlockS F1)],.d (.int .i64 hd)]=some (goodF (Func.mk F0 F1)=true∧0≤hd∧hd < (Func.mk F0 F1).blocks_.length,.d (lpD (nextL (Func.mk F0 F1).blocks_) hd),[]):=by unfold K_58;exact Ent.p2_eq (α:=Func) (β:=Int) (Func.mk F0 F1) hd
noncomputable def K_58h:EntH Tryz.prog:=EntH.pk2 (α:=Func) (β:=Int) 58 (fun F hd=>goodF F=true∧0≤hd∧hd < F.blocks_.length) (fun F hd=>.d (lpD (nextL F.blocks_) hd)) (fun F hd=>[]) (fun F hd hc=>PureP.ans (loopS_c F hd hc.1 hc.2))
theorem K_58h_f:K_58h.f=58:=rfl
theorem K_58h_g:K_58h.gro=true:=rfl
theorem K_58h_e {x1 x2:V} {H:Heap}:K_58h.e [x1,x2] H=guardR ((decA (α:=Func) H x1).1∧(decA (α:=Int) H x2).1) (peekR (goodF (decA (α:=Func) H x1).2=true∧0≤(decA (α:=Int) H x2).2∧(decA (α:=Int) H x2).2 < (decA (α:=Func) H x1).2.blocks_.length) (.d (lpD (nextL (decA (α:=Func) H x1).2.blocks_) (decA (α:=Int) H x2).2)) ([]) H):=rfl
theorem loS_c (F : Func) (h : Int) (hF : Enc.good F) : PureP Tryz.prog 29 [vFunc F, .d (.int .i64 h)] (· = loR F h) := by
  refine PureP.of_own ?_
  cases hb:isBlk F h with
  | false =>
    have e:loR F h=.tup [.d (dIntS []),.d (.bool false)]:=by simp [loR,loB,hb]
    have hw:PureP Tryz.prog 29 [vFunc F,.d (.int .i64 h)] (· = .tup [.d .nilsl,.d (.bool false)]):=by
      refine pure_of Tryz.func29 en_29 rfl rfl (W_run mixed ⟨[K_47,K_58],[K_47h,K_58h],[],20,0,[0,1,2,4,5,16],[10,16]⟩ (fun _=>[]) (by kernel_rfl) ?_)
      simp only [Tryz.f29,stripX,stripOps,pickOps]
      simp [K_47_f,K_47_e,K_58_f,K_58_e,K_47h_f,K_47h_e,K_58h_f,K_58h_e,K_47h_g,K_58h_g,hF,hb]
    refine hw.ans.mono ?_
    rintro r H' ⟨rfl,rfl⟩
    rw [e]
    exact Rd1.tup ⟨Rd1.nilL,Rd1.d,trivial⟩
  | true =>
    obtain ⟨hg,h0,h1⟩:=isBlk_n hF hb
    have hln:(nextL F.blocks_).length=F.blocks_.length:=by simp [nextL]
    have h2:h < F.blocks_.length:=by omega
    by_cases hs:stN (nextL F.blocks_) h=[]
    · have e:loR F h=.tup [.d (dIntS []),.d (.bool false)]:=by simp [loR,loB,hb,hs]
      have ed:lpD (nextL F.blocks_) h=.nilsl:=if_pos hs
      have hw:PureP Tryz.prog 29 [vFunc F,.d (.int .i64 h)] (· = .tup [.d .nilsl,.d (.bool false)]):=by
        refine pure_of Tryz.func29 en_29 rfl rfl (W_run mixed ⟨[K_47,K_58],[K_47h,K_58h],[],20,0,[0,1,2,4,5,16],[10,16]⟩ (fun _=>[]) (by kernel_rfl) ?_)
        simp only [Tryz.f29,stripX,stripOps,pickOps]
        simp [K_47_f,K_47_e,K_58_f,K_58_e,K_47h_f,K_47h_e,K_58h_f,K_58h_e,K_47h_g,K_58h_g,hF,hb,hg,h0,h2,ed]
      refine hw.ans.mono ?_
      rintro r H' ⟨rfl,rfl⟩
      rw [e]
      exact Rd1.tup ⟨Rd1.nilL,Rd1.d,trivial⟩
    · have e:loR F h=.tup [.d (dIntS (lpL (nextL F.blocks_) h)),.d (.bool true)]:=by simp [loR,loB,loV,hb,hs]
      have ed:lpD (nextL F.blocks_) h=dIntS (lpL (nextL F.blocks_) h):=if_neg hs
      have hpos:=lpL_pos (nx:=nextL F.blocks_) (h:=h) ⟨h0,by omega⟩
      have hne:¬ (lpL (nextL F.blocks_) h)=[]:=fun q=>by rw [q] at hpos;exact absurd hpos (by decide)
      have hw:PureP Tryz.prog 29 [vFunc F,.d (.int .i64 h)] (· = .tup [.d (dIntS (lpL (nextL F.blocks_) h)),.d (.bool true)]):=by
        refine pure_of Tryz.func29 en_29 rfl rfl (W_run mixed ⟨[K_47,K_58],[K_47h,K_58h],[],20,0,[0,1,2,4,5,16],[10,16]⟩ (fun _=>[]) (by kernel_rfl) ?_)
        simp only [Tryz.f29,stripX,stripOps,pickOps]
        simp [K_47_f,K_47_e,K_58_f,K_58_e,K_47h_f,K_47h_e,K_58h_f,K_58h_e,K_47h_g,K_58h_g,hF,hb,hg,h0,h2,ed,hne]
      refine hw.ans.mono ?_
      rintro r H' ⟨rfl,rfl⟩
      rw [e]
      exact Rd1.tup ⟨Rd1.d,Rd1.d,trivial⟩
noncomputable def K_29:Ent Tryz.prog:=Ent.p2 (α:=Func) (β:=Int) 29 (fun F h=>Enc.good F) (fun F h=>loR F h) (fun F h hc=>loS_c F h hc)
theorem K_29_f:K_29.f=29:=rfl
theorem K_29_e (F0:Int) (F1:List Block) (h:Int):K_29.e [.agg [.d (.int .i64 F0),.d (dBlockS F1)],.d (.int .i64 h)]=some (Enc.good (Func.mk F0 F1),loR (Func.mk F0 F1) h,[]):=by unfold K_29;exact Ent.p2_eq (α:=Func) (β:=Int) (Func.mk F0 F1) h
noncomputable def K_29h:EntH Tryz.prog:=EntH.pk2 (α:=Func) (β:=Int) 29 (fun F h=>Enc.good F) (fun F h=>loR F h) (fun F h=>[]) (fun F h hc=>PureP.ans (loS_c F h hc))
theorem K_29h_f:K_29h.f=29:=rfl
theorem K_29h_g:K_29h.gro=true:=rfl
theorem K_29h_e {x1 x2:V} {H:Heap}:K_29h.e [x1,x2] H=guardR ((decA (α:=Func) H x1).1∧(decA (α:=Int) H x2).1) (peekR (Enc.good (decA (α:=Func) H x1).2) (loR (decA (α:=Func) H x1).2 (decA (α:=Int) H x2).2) ([]) H):=rfl
end Go.Proofs.YthafdegfjadijaaGreat
