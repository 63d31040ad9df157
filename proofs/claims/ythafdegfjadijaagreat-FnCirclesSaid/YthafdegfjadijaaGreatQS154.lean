/- The back edges of the reference, closed. No condition. -/
import Derived.Test.YthafdegfjadijaaGreatQS153
namespace Go.Proofs.YthafdegfjadijaaGreat
set_option maxRecDepth 100000
set_option linter.unusedSimpArgs false
set_option linter.unusedVariables false
set_option maxHeartbeats 4000000 in
theorem backsS_own (F : Func) (hg : goodF F = true) : CallsD Tryz.prog 52 [vFunc F] [] fun r H' => ∃ s : AS (AS Int), r = s.v ∧ Tr.era s = bkL F ∧ Own H' s := by
  have hf:=good_flow hg
  obtain ⟨hv1,hn1,hp1⟩:=hf
  have hv8:=hv1.1
  obtain ⟨n,hn⟩:∃ n,n=F.blocks_.length:=⟨_,rfl⟩
  obtain ⟨D,hD⟩:∃ D,D=allS F:=⟨_,rfl⟩
  have hDl:D.length=n:=by rw [hD,hn];simp [allS]
  have hDk:∀ k:Nat,D[k]?.getD []=dS F k:=fun k=>by rw [hD,dS,Int.toNat_natCast];rfl
  obtain ⟨H,hH⟩:∃ H:Heap,H=[.row 2 [[.d (.int .i64 F.params_),.d (dBlockS F.blocks_)]]]:=⟨_,rfl⟩
  have hf':okFlow F:=⟨hv1,hn1,hp1⟩
  refine calls_of Tryz.func52 en_52 rfl (of_decide_eq_true rfl) (W_run mixed ⟨[K_38,K_48,K_53],[K_38h,K_48h,K_53h],[],39,0,[0,1,2,3,4,5,7,12,13,14,18,19,20,21,29],[14,21,29]⟩ (fun _=>[]) (by kernel_rfl) ?_)
  simp only [Tryz.f52,stripX,stripOps,pickOps]
  simp [K_38_f,K_38_e,K_48_f,K_48_e,K_53_f,K_53_e,K_38h_f,K_38h_e,K_48h_f,K_48h_e,K_53h_f,K_53h_e,K_38h_g,K_48h_g,K_53h_g,-V.flat,-V.one,one_int,one_bool,one_str,one_nilp,one_rp,one_nilsl,one_ro,one_cl,one_nilf,one_nili,one_ifc,one_ptr,one_sl,one_clo,flat_d,flat_ptr,flat_sl,flat_clo,flat_agg,hf',← hD,← hn]
  refine W_loopH (α:=Nat × AS (AS Int) × Heap) (fun a=>[(1,.ptr 0 2 0 0),(3,.d (dIntSS D)),(4,a.2.1.v),(12,.d (.int .i64 n)),(13,.d (.int .i64 a.1))]) (fun a=>a.2.2)
    (fun a=>a.1≤n∧Bk H a.2.2 a.2.1 (bkTo (bkS F) a.1)) (fun a=>n - a.1) (0,⟨.d .nilsl,[]⟩,H) ?_ ⟨Nat.zero_le _, ?_⟩ ?_
  · simp [hH]
  · exact ⟨ways_nil _,fun j hj=>absurd hj List.not_mem_nil,rfl,⟨Nat.le_refl _,fun _ _ _=>rfl⟩,.inl ⟨rfl,rfl⟩⟩
  rintro ⟨i,s,G⟩ ⟨hi,q⟩
  dsimp only at hi q
  have ov:s.v.one=true:=q.own.ok.1.scl.2
  have lH:H.length=1:=by rw [hH];rfl
  have h0:G[0]? = some (.row 2 [[.d (.int .i64 F.params_),.d (dBlockS F.blocks_)]]):=(q.only.at_ 0 (by omega) List.not_mem_nil).trans (by rw [hH];rfl)
  by_cases h:i < n
  · obtain ⟨d,hd⟩:∃ d,d=dS F i:=⟨_,rfl⟩
    have d0:D[i]?.getD []=d:=by rw [hDk,hd]
    have d1:∀ h:i < D.length,D[i]=d:=fun h=>by rw [← d0,List.getElem?_eq_getElem h];rfl
    have d8:d.length≤1000:=by have:=dS_len hg i;rw [hd];omega
    obtain ⟨L,hL⟩:∃ L,L=nextS F i:=⟨_,rfl⟩
    have hL2:=nextS_len hg i
    rw [← hL] at hL2
    have hbk:bkS F i=L.filter (hasL d):=by rw [bkS,hL,hd]
    have wi:IntKind.i64.wrap ((i:Int) + 1)=((i + 1:Nat):Int):=by rw [wrap_id] <;> omega
    have hv1':fewJumps F.blocks_:=hv1
    have hib:(i:Int) < F.blocks_.length:=by omega
    refine W_run mixed ⟨[K_38,K_48,K_53],[K_38h,K_48h,K_53h],[],39,0,[0,1,2,3,4,5,7,12,13,14,18,19,20,21,29],[14,21,29]⟩ (fun _=>[]) (by kernel_rfl) ?_
    simp only [stripX,stripOps,pickOps]
    simp [K_38_f,K_38_e,K_48_f,K_48_e,K_53_f,K_53_e,K_38h_f,K_38h_e,K_48h_f,K_48h_e,K_53h_f,K_53h_e,K_38h_g,K_48h_g,K_53h_g,-V.flat,-V.one,one_int,one_bool,one_str,one_nilp,one_rp,one_nilsl,one_ro,one_cl,one_nilf,one_nili,one_ifc,one_ptr,one_sl,one_clo,flat_d,flat_ptr,flat_sl,flat_clo,flat_agg,h,h0,hv1,hib,← hL]
    refine W_loopH (α:=Nat × AS (AS Int) × Heap) (fun a=>[(1,.ptr 0 2 0 0),(3,.d (dIntSS D)),(4,a.2.1.v),(5,.d (.int .i64 i)),(12,.d (.int .i64 n)),(13,.d (.int .i64 i)),(18,.d (dIntS L)),(19,.d (.int .i64 L.length)),(20,.d (.int .i64 a.1))]) (fun a=>a.2.2)
      (fun a=>a.1≤L.length∧Bk H a.2.2 a.2.1 (bkTo (bkS F) i++bkP (hasL d) i L a.1)) (fun a=>L.length - a.1) (0,s,G) ?_ ⟨Nat.zero_le _,by simpa [bkP] using q⟩ ?_
    · simp
    rintro ⟨j,s,G⟩ ⟨hj,q⟩
    dsimp only at hj q
    have ov:s.v.one=true:=q.own.ok.1.scl.2
    have hlen:=q.len
    by_cases hjl:j < L.length
    · obtain ⟨x,hx⟩:∃ x,x=L[j]?.getD 0:=⟨_,rfl⟩
      have x0:=hx.symm
      have x1:∀ h:j < L.length,L[j]=x:=fun h=>by rw [hx,List.getElem?_eq_getElem h];rfl
      have st:=bkP_step (p:=hasL d) (k:=i) hjl (x1 hjl)
      have wj:IntKind.i64.wrap ((j:Int) + 1)=((j + 1:Nat):Int):=by rw [wrap_id] <;> omega
      cases hx':hasL d x with
      | false =>
        rw [hx',if_neg (by decide),List.append_nil] at st
        refine W_run mixed ⟨[K_38,K_48,K_53],[K_38h,K_48h,K_53h],[],39,0,[0,1,2,3,4,5,7,12,13,14,18,19,20,21,29],[14,21,29]⟩ (fun _=>[]) (by kernel_rfl) ?_
        simp only [stripX,stripOps,pickOps]
        simp [K_38_f,K_38_e,K_48_f,K_48_e,K_53_f,K_53_e,K_38h_f,K_38h_e,K_48h_f,K_48h_e,K_53h_f,K_53h_e,K_38h_g,K_48h_g,K_53h_g,-V.flat,-V.one,one_int,one_bool,one_str,one_nilp,one_rp,one_nilsl,one_ro,one_cl,one_nilf,one_nili,one_ifc,one_ptr,one_sl,one_clo,flat_d,flat_ptr,flat_sl,flat_clo,flat_agg,hjl,x0,x1,h,hDl,d0,d1,d8,hx',wj]
        exact ⟨j + 1,s,_,⟨by omega,by rw [st];exact q⟩,by omega,rfl,rfl,rfl⟩
      | true =>
        rw [hx',if_pos rfl] at st
        have big:(bkTo (bkS F) i++bkP (hasL d) i L j).length≤100000:=by
          have e1:=bkTo_len (bkS F) 2 (bkS_len hg) i
          have e2:=bkP_len (hasL d) i L j
          rw [List.length_append];omega
        rcases q.vw with ⟨v0,l0⟩ | ⟨v0,rr,fr⟩
        · refine W_run mixed ⟨[K_38,K_48,K_53],[K_38h,K_48h,K_53h],[],39,0,[0,1,2,3,4,5,7,12,13,14,18,19,20,21,29],[14,21,29]⟩ (fun _=>[]) (by kernel_rfl) ?_
          simp only [stripX,stripOps,pickOps]
          simp [K_38_f,K_38_e,K_48_f,K_48_e,K_53_f,K_53_e,K_38h_f,K_38h_e,K_48h_f,K_48h_e,K_53h_f,K_53h_e,K_38h_g,K_48h_g,K_53h_g,-V.flat,-V.one,one_int,one_bool,one_str,one_nilp,one_rp,one_nilsl,one_ro,one_cl,one_nilf,one_nili,one_ifc,one_ptr,one_sl,one_clo,flat_d,flat_ptr,flat_sl,flat_clo,flat_agg,hjl,x0,x1,h,hDl,d0,d1,d8,hx',wj,v0]
          have h0:(bkTo (bkS F) i++bkP (hasL d) i L j).length=0:=by rw [← hlen,l0];rfl
          refine ⟨j + 1,⟨.sl (G.length + 2) 1 0 1,s.l++[⟨.sl G.length 1 0 2,[(i:Int),x]⟩]⟩,_,⟨by omega, ?_⟩,by omega,rfl,rfl,rfl⟩
          rw [st,← List.append_assoc]
          refine q.push (by omega) ?_ ?_ fun j' hj' _=>List.getElem?_append_left hj'
          · rw [List.getElem?_append_right (Nat.le_refl _),Nat.sub_self];rfl
          · rw [List.getElem?_append_right (by omega),l0];simp
        · have ls:=(List.getElem?_eq_some_iff.1 rr).1
          obtain ⟨m,hm⟩:∃ m,m=(bkTo (bkS F) i++bkP (hasL d) i L j).length:=⟨_,rfl⟩
          rw [← hm] at v0 big hlen
          have rR:∀ R:Heap,(G++R)[s.id]? = some (.row 1 (s.l.map Tr.cells)):=fun R=>(List.getElem?_append_left ls).trans rr
          have dR:∀ (R:Heap),(G++R).set s.id .dead=G.set s.id .dead++R:=fun R=>List.set_append_left _ _ ls
          refine W_run mixed ⟨[K_38,K_48,K_53],[K_38h,K_48h,K_53h],[],39,0,[0,1,2,3,4,5,7,12,13,14,18,19,20,21,29],[14,21,29]⟩ (fun _=>[]) (by kernel_rfl) ?_
          simp only [stripX,stripOps,pickOps]
          simp [K_38_f,K_38_e,K_48_f,K_48_e,K_53_f,K_53_e,K_38h_f,K_38h_e,K_48h_f,K_48h_e,K_53h_f,K_53h_e,K_38h_g,K_48h_g,K_53h_g,-V.flat,-V.one,one_int,one_bool,one_str,one_nilp,one_rp,one_nilsl,one_ro,one_cl,one_nilf,one_nili,one_ifc,one_ptr,one_sl,one_clo,flat_d,flat_ptr,flat_sl,flat_clo,flat_agg,hjl,x0,x1,h,hDl,d0,d1,d8,hx',wj,v0,rR,dR,hlen]
          refine ⟨⟨by omega,by omega⟩,j + 1,⟨.sl (G.length + 2) 1 0 (m + 1),s.l++[⟨.sl G.length 1 0 2,[(i:Int),x]⟩]⟩,_,⟨by omega, ?_⟩,by omega,rfl,rfl,rfl⟩
          rw [st,← List.append_assoc]
          refine q.push (by omega) ?_ ?_ fun j' hj' h'=>?_
          · rw [List.getElem?_append_right (by simp)];simp
          · rw [List.getElem?_append_right (by simp),List.take_of_length_le (by rw [List.length_map];omega)];simp
          · have hne:j' ≠ s.id:=h'.resolve_left fun e=>by rw [v0] at e;cases e
            rw [List.getElem?_append_left (by simpa using hj'),List.getElem?_set_ne fun e=>hne e.symm]
    · have e:=bkP_done (p:=hasL d) (L:=L) (j:=j) (by omega) hbk
      rw [e] at q
      refine W_run mixed ⟨[K_38,K_48,K_53],[K_38h,K_48h,K_53h],[],39,0,[0,1,2,3,4,5,7,12,13,14,18,19,20,21,29],[14,21,29]⟩ (fun _=>[]) (by kernel_rfl) ?_
      simp only [stripX,stripOps,pickOps]
      simp [K_38_f,K_38_e,K_48_f,K_48_e,K_53_f,K_53_e,K_38h_f,K_38h_e,K_48h_f,K_48h_e,K_53h_f,K_53h_e,K_38h_g,K_48h_g,K_53h_g,-V.flat,-V.one,one_int,one_bool,one_str,one_nilp,one_rp,one_nilsl,one_ro,one_cl,one_nilf,one_nili,one_ifc,one_ptr,one_sl,one_clo,flat_d,flat_ptr,flat_sl,flat_clo,flat_agg,hjl,wi]
      exact ⟨i + 1,s,_,⟨by omega,q⟩,by omega,rfl,rfl,rfl⟩
  · have e:i=n:=by omega
    subst e
    refine W_run mixed ⟨[K_38,K_48,K_53],[K_38h,K_48h,K_53h],[],39,0,[0,1,2,3,4,5,7,12,13,14,18,19,20,21,29],[14,21,29]⟩ (fun _=>[]) (by kernel_rfl) ?_
    simp only [stripX,stripOps,pickOps]
    simp [K_38_f,K_38_e,K_48_f,K_48_e,K_53_f,K_53_e,K_38h_f,K_38h_e,K_48h_f,K_48h_e,K_53h_f,K_53h_e,K_38h_g,K_48h_g,K_53h_g,-V.flat,-V.one,one_int,one_bool,one_str,one_nilp,one_rp,one_nilsl,one_ro,one_cl,one_nilf,one_nili,one_ifc,one_ptr,one_sl,one_clo,flat_d,flat_ptr,flat_sl,flat_clo,flat_agg,h,ov,retQ]
    exact ⟨_,_,Fin.same (Nat.zero_le _),s,rfl,by rw [q.era,hn];rfl,q.own⟩
theorem backsS_c (F:Func) (hg:goodF F=true):PureP Tryz.prog 52 [vFunc F] (· = .d (dIntSS (bkL F))):=by
  refine PureP.of_own ((backsS_own F hg).mono ?_)
  rintro r H' ⟨s,rfl,e,ho⟩
  rw [← e]
  exact Rd1.slice ho
noncomputable def K_52:Ent Tryz.prog:=Ent.p1 (α:=Func) 52 (fun F=>goodF F=true) (fun F=>.d (dIntSS (bkL F))) (fun F hc=>backsS_c F hc)
theorem K_52_f:K_52.f=52:=rfl
theorem K_52_e (F0:Int) (F1:List Block):K_52.e [.agg [.d (.int .i64 F0),.d (dBlockS F1)]]=some (goodF (Func.mk F0 F1)=true,.d (dIntSS (bkL (Func.mk F0 F1))),[]):=by unfold K_52;exact Ent.p1_eq (α:=Func) (Func.mk F0 F1)
noncomputable def K_52h:EntH Tryz.prog:=EntH.pk1 (α:=Func) 52 (fun F=>goodF F=true) (fun F=>.d (dIntSS (bkL F))) (fun F=>[]) (fun F hc=>PureP.ans (backsS_c F hc))
theorem K_52h_f:K_52h.f=52:=rfl
theorem K_52h_g:K_52h.gro=true:=rfl
theorem K_52h_e {x1:V} {H:Heap}:K_52h.e [x1] H=guardR ((decA (α:=Func) H x1).1) (peekR (goodF (decA (α:=Func) H x1).2=true) (.d (dIntSS (bkL (decA (α:=Func) H x1).2))) ([]) H):=rfl
theorem beS_c (F:Func) (hF:Enc.good F):PureP Tryz.prog 24 [vFunc F] (· = beR F):=by
  cases hg:goodF F with
  | false =>
    have h:PureP Tryz.prog 24 [vFunc F] (· = .tup [.d .nilsl,.d (.bool false)]):=by
      refine pure_of Tryz.func24 en_24 rfl rfl (W_run mixed ⟨[K_37,K_52],[K_37h,K_52h],[],9,0,[0,1,2,3,6],[6]⟩ (fun _=>[]) (by kernel_rfl) ?_)
      simp only [Tryz.f24,stripX,stripOps,pickOps]
      simp [K_37_f,K_37_e,K_52_f,K_52_e,K_37h_f,K_37h_e,K_52h_f,K_52h_e,K_37h_g,K_52h_g,hF,hg]
    refine PureP.of_own (h.ans.mono ?_)
    rintro r H' ⟨rfl,rfl⟩
    simp only [beR,beV,hg]
    exact Rd1.tup ⟨Rd1.nilL,Rd1.d,trivial⟩
  | true =>
    refine pure_of Tryz.func24 en_24 rfl rfl (W_run mixed ⟨[K_37,K_52],[K_37h,K_52h],[],9,0,[0,1,2,3,6],[6]⟩ (fun _=>[]) (by kernel_rfl) ?_)
    simp only [Tryz.f24,stripX,stripOps,pickOps]
    simp [K_37_f,K_37_e,K_52_f,K_52_e,K_37h_f,K_37h_e,K_52h_f,K_52h_e,K_37h_g,K_52h_g,hF,hg]
    simp [beR,beV,hg]
noncomputable def K_24:Ent Tryz.prog:=Ent.p1 (α:=Func) 24 (fun F=>Enc.good F) (fun F=>beR F) (fun F hc=>beS_c F hc)
theorem K_24_f:K_24.f=24:=rfl
theorem K_24_e (F0:Int) (F1:List Block):K_24.e [.agg [.d (.int .i64 F0),.d (dBlockS F1)]]=some (Enc.good (Func.mk F0 F1),beR (Func.mk F0 F1),[]):=by unfold K_24;exact Ent.p1_eq (α:=Func) (Func.mk F0 F1)
noncomputable def K_24h:EntH Tryz.prog:=EntH.pk1 (α:=Func) 24 (fun F=>Enc.good F) (fun F=>beR F) (fun F=>[]) (fun F hc=>PureP.ans (beS_c F hc))
theorem K_24h_f:K_24h.f=24:=rfl
theorem K_24h_g:K_24h.gro=true:=rfl
theorem K_24h_e {x1:V} {H:Heap}:K_24h.e [x1] H=guardR ((decA (α:=Func) H x1).1) (peekR (Enc.good (decA (α:=Func) H x1).2) (beR (decA (α:=Func) H x1).2) ([]) H):=rfl
end Go.Proofs.YthafdegfjadijaaGreat
