/- The back edges: both programs, walked. No condition. -/
import Derived.Test.YthafdegfjadijaaGreatQS152
namespace Go.Proofs.YthafdegfjadijaaGreat
set_option maxRecDepth 100000
set_option linter.unusedSimpArgs false
set_option linter.unusedVariables false
def bkP (p:Int→Bool) (k:Nat) (L:List Int) (j:Nat):List (List Int):=((L.take j).filter p).map fun x=>[(k:Int),x]
theorem bkP_step {p:Int→Bool} {k j:Nat} {L:List Int} {x:Int} (h:j < L.length) (hx:L[j]=x):bkP p k L (j + 1)=bkP p k L j++(if p x=true then [[(k:Int),x]] else []):=by
  unfold bkP
  rw [List.take_succ_eq_append_getElem h,hx,List.filter_append,List.map_append]
  congr 1
  by_cases e:p x=true
  · rw [if_pos e,List.filter_cons_of_pos e];rfl
  · rw [if_neg e,List.filter_cons_of_neg e];rfl
theorem bkP_done {p:Int→Bool} {k:Nat} {L:List Int} {j:Nat} (h:L.length≤j) {g:Nat→List Int} (hg:g k=L.filter p):bkTo g k++bkP p k L j=bkTo g (k + 1):=by
  unfold bkP
  rw [List.take_of_length_le h,bkTo,bkOne,hg]
theorem bkP_len (p:Int→Bool) (k:Nat) (L:List Int) (j:Nat):(bkP p k L j).length≤L.length:=by
  unfold bkP
  rw [List.length_map]
  exact Nat.le_trans (List.length_filter_le ..) (by rw [List.length_take];exact Nat.min_le_right ..)
theorem bkN_len {nx:List (List Int)} (hn:okNext nx) (k:Nat):(bkN nx k).length≤8:=by
  have h1:=numsOf_len (fun j=>((domL nx)[k]?.getD default)[j]?.getD false) ((domL nx)[k]?.getD default).length
  have h2:((domL nx)[k]?.getD default).length≤8:=by
    by_cases h:k < nx.length
    · simp [domL,h];exact hn.1
    · rw [List.getElem?_eq_none (by simp [domL];omega)];exact Nat.zero_le _
  exact Nat.le_trans (List.length_filter_le ..) (Nat.le_trans h1 h2)
set_option maxHeartbeats 4000000 in
theorem backsI_own (H : Heap) (nx : List (List Int)) (hn : okNext nx) (hp : 0 < nx.length) : CallsD Tryz.prog 51 [.d (dIntSS nx)] H fun r H' => ∃ s : AS (AS Int), r = s.v ∧ Tr.era s = bkTo (bkN nx) nx.length ∧ New H H' s := by
  have hdl:(domL nx).length=nx.length:=by simp [domL]
  have h8:=hn.1
  refine calls_of Tryz.func51 en_51 rfl (of_decide_eq_true rfl) (W_run mixed ⟨[K_34,K_36,K_49],[K_34h,K_36h,K_49h],[],39,H.length,[0,2,3,4,5,7,10,11,12,13,18,19,20,21,29],[13,21,29]⟩ (fun _=>[]) (by kernel_rfl) ?_)
  simp only [Tryz.f51,stripX,stripOps,pickOps]
  simp [K_34_f,K_34_e,K_36_f,K_36_e,K_49_f,K_49_e,K_34h_f,K_34h_e,K_36h_f,K_36h_e,K_49h_f,K_49h_e,K_34h_g,K_36h_g,K_49h_g,-V.flat,-V.one,one_int,one_bool,one_str,one_nilp,one_rp,one_nilsl,one_ro,one_cl,one_nilf,one_nili,one_ifc,one_ptr,one_sl,one_clo,flat_d,flat_ptr,flat_sl,flat_clo,flat_agg,hn,hp,hdl]
  refine W_loopH (α:=Nat × AS (AS Int) × Heap) (fun a=>[(0,.d (dIntSS nx)),(3,a.2.1.v),(10,.d (dBoolSS (domL nx))),(11,.d (.int .i64 nx.length)),(12,.d (.int .i64 a.1))]) (fun a=>a.2.2)
    (fun a=>a.1≤nx.length∧Bk H a.2.2 a.2.1 (bkTo (bkN nx) a.1)) (fun a=>nx.length - a.1) (0,⟨.sl H.length 1 0 0,[]⟩,H++[.row 1 []]) ?_ ⟨Nat.zero_le _, ?_⟩ ?_
  · simp
  · have hr:(H++[Place.row 1 []])[H.length]? = some (.row 1 (([]:List (AS Int)).map Tr.cells)):=by rw [List.getElem?_append_right (Nat.le_refl _),Nat.sub_self];rfl
    have o:=Own.mkS (α:=AS Int) (id:=H.length) (l:=[]) OwnL.nil hr List.not_mem_nil
    exact ⟨o,fun j hj=>by rw [ids_sl (s:=(⟨.sl H.length 1 0 0,[]⟩:AS (AS Int))) rfl] at hj;rcases List.mem_cons.1 hj with rfl | hj;exact Nat.le_refl _;exact absurd hj List.not_mem_nil,rfl,Only.app [] _ _,.inr ⟨rfl,hr,Nat.le_refl _⟩⟩
  rintro ⟨i,s,G⟩ ⟨hi,q⟩
  dsimp only at hi q
  have ov:s.v.one=true:=q.own.ok.1.scl.2
  by_cases h:i < nx.length
  · obtain ⟨row,hrow⟩:∃ row,row=(domL nx)[i]?.getD default:=⟨_,rfl⟩
    have r0:(domL nx)[i]?.getD []=row:=hrow.symm
    have r1:∀ h:i < (domL nx).length,(domL nx)[i]=row:=fun h=>by rw [hrow,List.getElem?_eq_getElem h];rfl
    obtain ⟨js,hjs⟩:∃ js,js=nx[i]?.getD default:=⟨_,rfl⟩
    have j0:nx[i]?.getD []=js:=hjs.symm
    have j1:∀ h:i < nx.length,nx[i]=js:=fun h=>by rw [hjs,List.getElem?_eq_getElem h];rfl
    have jl:js.length≤1000:=by have:=(okNext_get hn i).1;rw [hjs];omega
    have row8:row.length≤8:=by rw [hrow];simp [domL,h];omega
    obtain ⟨L,hL⟩:∃ L,L=listB row:=⟨_,rfl⟩
    have hL8:L.length≤8:=by
      have:=numsOf_len (fun k=>row[k]?.getD false) row.length
      rw [hL,listB];omega
    have hbk:bkN nx i=L.filter (hasL js):=by rw [bkN,← hrow,← hjs,hL]
    have wi:IntKind.i64.wrap ((i:Int) + 1)=((i + 1:Nat):Int):=by rw [wrap_id] <;> omega
    refine W_run mixed ⟨[K_34,K_36,K_49],[K_34h,K_36h,K_49h],[],39,H.length,[0,2,3,4,5,7,10,11,12,13,18,19,20,21,29],[13,21,29]⟩ (fun _=>[]) (by kernel_rfl) ?_
    simp only [stripX,stripOps,pickOps]
    simp [K_34_f,K_34_e,K_36_f,K_36_e,K_49_f,K_49_e,K_34h_f,K_34h_e,K_36h_f,K_36h_e,K_49h_f,K_49h_e,K_34h_g,K_36h_g,K_49h_g,-V.flat,-V.one,one_int,one_bool,one_str,one_nilp,one_rp,one_nilsl,one_ro,one_cl,one_nilf,one_nili,one_ifc,one_ptr,one_sl,one_clo,flat_d,flat_ptr,flat_sl,flat_clo,flat_agg,h,hdl,r0,r1,row8,← hL]
    refine W_loopH (α:=Nat × AS (AS Int) × Heap) (fun a=>[(0,.d (dIntSS nx)),(3,a.2.1.v),(4,.d (.int .i64 i)),(10,.d (dBoolSS (domL nx))),(11,.d (.int .i64 nx.length)),(12,.d (.int .i64 i)),(18,.d (dIntS L)),(19,.d (.int .i64 L.length)),(20,.d (.int .i64 a.1))]) (fun a=>a.2.2)
      (fun a=>a.1≤L.length∧Bk H a.2.2 a.2.1 (bkTo (bkN nx) i++bkP (hasL js) i L a.1)) (fun a=>L.length - a.1) (0,s,G) ?_ ⟨Nat.zero_le _,by simpa [bkP] using q⟩ ?_
    · simp
    rintro ⟨j,s,G⟩ ⟨hj,q⟩
    dsimp only at hj q
    have ov:s.v.one=true:=q.own.ok.1.scl.2
    have hlen:=q.len
    by_cases hjl:j < L.length
    · obtain ⟨x,hx⟩:∃ x,x=L[j]?.getD 0:=⟨_,rfl⟩
      have x0:=hx.symm
      have x1:∀ h:j < L.length,L[j]=x:=fun h=>by rw [hx,List.getElem?_eq_getElem h];rfl
      have st:=bkP_step (p:=hasL js) (k:=i) hjl (x1 hjl)
      have wj:IntKind.i64.wrap ((j:Int) + 1)=((j + 1:Nat):Int):=by rw [wrap_id] <;> omega
      cases hx':hasL js x with
      | false =>
        rw [hx',if_neg (by decide),List.append_nil] at st
        refine W_run mixed ⟨[K_34,K_36,K_49],[K_34h,K_36h,K_49h],[],39,H.length,[0,2,3,4,5,7,10,11,12,13,18,19,20,21,29],[13,21,29]⟩ (fun _=>[]) (by kernel_rfl) ?_
        simp only [stripX,stripOps,pickOps]
        simp [K_34_f,K_34_e,K_36_f,K_36_e,K_49_f,K_49_e,K_34h_f,K_34h_e,K_36h_f,K_36h_e,K_49h_f,K_49h_e,K_34h_g,K_36h_g,K_49h_g,-V.flat,-V.one,one_int,one_bool,one_str,one_nilp,one_rp,one_nilsl,one_ro,one_cl,one_nilf,one_nili,one_ifc,one_ptr,one_sl,one_clo,flat_d,flat_ptr,flat_sl,flat_clo,flat_agg,hjl,x0,x1,h,j0,j1,jl,hx',wj]
        exact ⟨j + 1,s,_,⟨by omega,by rw [st];exact q⟩,by omega,rfl,rfl,rfl⟩
      | true =>
        rw [hx',if_pos rfl] at st
        have big:(bkTo (bkN nx) i++bkP (hasL js) i L j).length≤100000:=by
          have e1:=bkTo_len (bkN nx) 8 (bkN_len hn) i
          have e2:=bkP_len (hasL js) i L j
          rw [List.length_append];omega
        rcases q.vw with ⟨v0,l0⟩ | ⟨v0,rr,fr⟩
        · refine W_run mixed ⟨[K_34,K_36,K_49],[K_34h,K_36h,K_49h],[],39,H.length,[0,2,3,4,5,7,10,11,12,13,18,19,20,21,29],[13,21,29]⟩ (fun _=>[]) (by kernel_rfl) ?_
          simp only [stripX,stripOps,pickOps]
          simp [K_34_f,K_34_e,K_36_f,K_36_e,K_49_f,K_49_e,K_34h_f,K_34h_e,K_36h_f,K_36h_e,K_49h_f,K_49h_e,K_34h_g,K_36h_g,K_49h_g,-V.flat,-V.one,one_int,one_bool,one_str,one_nilp,one_rp,one_nilsl,one_ro,one_cl,one_nilf,one_nili,one_ifc,one_ptr,one_sl,one_clo,flat_d,flat_ptr,flat_sl,flat_clo,flat_agg,hjl,x0,x1,h,j0,j1,jl,hx',wj,v0]
          have h0:(bkTo (bkN nx) i++bkP (hasL js) i L j).length=0:=by rw [← hlen,l0];rfl
          refine ⟨j + 1,⟨.sl (G.length + 2) 1 0 1,s.l++[⟨.sl G.length 1 0 2,[(i:Int),x]⟩]⟩,_,⟨by omega, ?_⟩,by omega,rfl,rfl,rfl⟩
          rw [st,← List.append_assoc]
          refine q.push (by omega) ?_ ?_ fun j' hj' _=>List.getElem?_append_left hj'
          · rw [List.getElem?_append_right (Nat.le_refl _),Nat.sub_self];rfl
          · rw [List.getElem?_append_right (by omega),l0];simp
        · have ls:=(List.getElem?_eq_some_iff.1 rr).1
          obtain ⟨m,hm⟩:∃ m,m=(bkTo (bkN nx) i++bkP (hasL js) i L j).length:=⟨_,rfl⟩
          rw [← hm] at v0 big hlen
          have rR:∀ R:Heap,(G++R)[s.id]? = some (.row 1 (s.l.map Tr.cells)):=fun R=>(List.getElem?_append_left ls).trans rr
          have dR:∀ (R:Heap),(G++R).set s.id .dead=G.set s.id .dead++R:=fun R=>List.set_append_left _ _ ls
          refine W_run mixed ⟨[K_34,K_36,K_49],[K_34h,K_36h,K_49h],[],39,H.length,[0,2,3,4,5,7,10,11,12,13,18,19,20,21,29],[13,21,29]⟩ (fun _=>[]) (by kernel_rfl) ?_
          simp only [stripX,stripOps,pickOps]
          simp [K_34_f,K_34_e,K_36_f,K_36_e,K_49_f,K_49_e,K_34h_f,K_34h_e,K_36h_f,K_36h_e,K_49h_f,K_49h_e,K_34h_g,K_36h_g,K_49h_g,-V.flat,-V.one,one_int,one_bool,one_str,one_nilp,one_rp,one_nilsl,one_ro,one_cl,one_nilf,one_nili,one_ifc,one_ptr,one_sl,one_clo,flat_d,flat_ptr,flat_sl,flat_clo,flat_agg,hjl,x0,x1,h,j0,j1,jl,hx',wj,v0,rR,dR,hlen]
          refine ⟨⟨by omega,by omega⟩,j + 1,⟨.sl (G.length + 2) 1 0 (m + 1),s.l++[⟨.sl G.length 1 0 2,[(i:Int),x]⟩]⟩,_,⟨by omega, ?_⟩,by omega,rfl,rfl,rfl⟩
          rw [st,← List.append_assoc]
          refine q.push (by omega) ?_ ?_ fun j' hj' h'=>?_
          · rw [List.getElem?_append_right (by simp)];simp
          · rw [List.getElem?_append_right (by simp),List.take_of_length_le (by rw [List.length_map];omega)];simp
          · have hne:j' ≠ s.id:=h'.resolve_left fun e=>by rw [v0] at e;cases e
            rw [List.getElem?_append_left (by simpa using hj'),List.getElem?_set_ne fun e=>hne e.symm]
    · have e:=bkP_done (p:=hasL js) (L:=L) (j:=j) (by omega) hbk
      rw [e] at q
      refine W_run mixed ⟨[K_34,K_36,K_49],[K_34h,K_36h,K_49h],[],39,H.length,[0,2,3,4,5,7,10,11,12,13,18,19,20,21,29],[13,21,29]⟩ (fun _=>[]) (by kernel_rfl) ?_
      simp only [stripX,stripOps,pickOps]
      simp [K_34_f,K_34_e,K_36_f,K_36_e,K_49_f,K_49_e,K_34h_f,K_34h_e,K_36h_f,K_36h_e,K_49h_f,K_49h_e,K_34h_g,K_36h_g,K_49h_g,-V.flat,-V.one,one_int,one_bool,one_str,one_nilp,one_rp,one_nilsl,one_ro,one_cl,one_nilf,one_nili,one_ifc,one_ptr,one_sl,one_clo,flat_d,flat_ptr,flat_sl,flat_clo,flat_agg,hjl,wi]
      exact ⟨i + 1,s,_,⟨by omega,q⟩,by omega,rfl,rfl,rfl⟩
  · have e:i=nx.length:=by omega
    subst e
    refine W_run mixed ⟨[K_34,K_36,K_49],[K_34h,K_36h,K_49h],[],39,H.length,[0,2,3,4,5,7,10,11,12,13,18,19,20,21,29],[13,21,29]⟩ (fun _=>[]) (by kernel_rfl) ?_
    simp only [stripX,stripOps,pickOps]
    simp [K_34_f,K_34_e,K_36_f,K_36_e,K_49_f,K_49_e,K_34h_f,K_34h_e,K_36h_f,K_36h_e,K_49h_f,K_49h_e,K_34h_g,K_36h_g,K_49h_g,-V.flat,-V.one,one_int,one_bool,one_str,one_nilp,one_rp,one_nilsl,one_ro,one_cl,one_nilf,one_nili,one_ifc,one_ptr,one_sl,one_clo,flat_d,flat_ptr,flat_sl,flat_clo,flat_agg,h,ov,retQ]
    exact fin_new q.own q.only q.fr fun H' h'=>⟨s,rfl,q.era,h'⟩
theorem backsI_c (nx:List (List Int)) (h:okNext nx∧0 < nx.length):PureP Tryz.prog 51 [.d (dIntSS nx)] (· = .d (dIntSS (bkTo (bkN nx) nx.length))):=by
  refine PureP.of_own ((backsI_own [] nx h.1 h.2).mono ?_)
  rintro r H' ⟨s,rfl,e,hn⟩
  rw [← e]
  exact Rd1.slice hn.own
noncomputable def K_51:Ent Tryz.prog:=Ent.p1 (α:=List (List Int)) 51 (fun nx=>okNext nx∧0 < nx.length) (fun nx=>.d (dIntSS (bkTo (bkN nx) nx.length))) (fun nx hc=>backsI_c nx hc)
theorem K_51_f:K_51.f=51:=rfl
theorem K_51_e (nx:List (List Int)):K_51.e [.d (dIntSS nx)]=some (okNext nx∧0 < nx.length,.d (dIntSS (bkTo (bkN nx) nx.length)),[]):=by unfold K_51;exact Ent.p1_eq (α:=List (List Int)) nx
noncomputable def K_51h:EntH Tryz.prog:=EntH.pk1 (α:=List (List Int)) 51 (fun nx=>okNext nx∧0 < nx.length) (fun nx=>.d (dIntSS (bkTo (bkN nx) nx.length))) (fun nx=>[]) (fun nx hc=>PureP.ans (backsI_c nx hc))
theorem K_51h_f:K_51h.f=51:=rfl
theorem K_51h_g:K_51h.gro=true:=rfl
theorem K_51h_e {x1:V} {H:Heap}:K_51h.e [x1] H=guardR ((decA (α:=List (List Int)) H x1).1) (peekR (okNext (decA (α:=List (List Int)) H x1).2∧0 < (decA (α:=List (List Int)) H x1).2.length) (.d (dIntSS (bkTo (bkN (decA (α:=List (List Int)) H x1).2) (decA (α:=List (List Int)) H x1).2.length))) ([]) H):=rfl
noncomputable def beV (F:Func):List (List Int):=if goodF F=true then bkL F else []
noncomputable def beR (F:Func):V:=.tup [.d (dIntSS (beV F)),.d (.bool (goodF F))]
theorem beI_c (F:Func) (hF:Enc.good F):PureP Tryz.prog 23 [vFunc F] (· = beR F):=by
  cases hg:goodF F with
  | false =>
    have h:PureP Tryz.prog 23 [vFunc F] (· = .tup [.d .nilsl,.d (.bool false)]):=by
      refine pure_of Tryz.func23 en_23 rfl rfl (W_run mixed ⟨[K_33,K_35,K_51],[K_33h,K_35h,K_51h],[],12,0,[0,1,2,3,4,8],[8]⟩ (fun _=>[]) (by kernel_rfl) ?_)
      simp only [Tryz.f23,stripX,stripOps,pickOps]
      simp [K_33_f,K_33_e,K_35_f,K_35_e,K_51_f,K_51_e,K_33h_f,K_33h_e,K_35h_f,K_35h_e,K_51h_f,K_51h_e,K_33h_g,K_35h_g,K_51h_g,hF,viewV_f hg]
    refine PureP.of_own (h.ans.mono ?_)
    rintro r H' ⟨rfl,rfl⟩
    simp only [beR,beV,hg]
    exact Rd1.tup ⟨Rd1.nilL,Rd1.d,trivial⟩
  | true =>
    obtain ⟨hv1,hn1,hp1⟩:=good_flow hg
    have hln:(nextL F.blocks_).length=F.blocks_.length:=by simp [nextL]
    have hp2:0 < (nextL F.blocks_).length:=by omega
    have e:bkTo (bkN (nextL F.blocks_)) (nextL F.blocks_).length=bkL F:=by rw [hln];exact bkTo_congr fun k hk=>bk_same hk
    refine pure_of Tryz.func23 en_23 rfl rfl (W_run mixed ⟨[K_33,K_35,K_51],[K_33h,K_35h,K_51h],[],12,0,[0,1,2,3,4,8],[8]⟩ (fun _=>[]) (by kernel_rfl) ?_)
    simp only [Tryz.f23,stripX,stripOps,pickOps]
    simp [K_33_f,K_33_e,K_35_f,K_35_e,K_51_f,K_51_e,K_33h_f,K_33h_e,K_35h_f,K_35h_e,K_51h_f,K_51h_e,K_33h_g,K_35h_g,K_51h_g,hF,viewV_t hg,viewD_blocks,hv1,hn1,hp2,e]
    simp [beR,beV,hg]
noncomputable def K_23:Ent Tryz.prog:=Ent.p1 (α:=Func) 23 (fun F=>Enc.good F) (fun F=>beR F) (fun F hc=>beI_c F hc)
theorem K_23_f:K_23.f=23:=rfl
theorem K_23_e (F0:Int) (F1:List Block):K_23.e [.agg [.d (.int .i64 F0),.d (dBlockS F1)]]=some (Enc.good (Func.mk F0 F1),beR (Func.mk F0 F1),[]):=by unfold K_23;exact Ent.p1_eq (α:=Func) (Func.mk F0 F1)
noncomputable def K_23h:EntH Tryz.prog:=EntH.pk1 (α:=Func) 23 (fun F=>Enc.good F) (fun F=>beR F) (fun F=>[]) (fun F hc=>PureP.ans (beI_c F hc))
theorem K_23h_f:K_23h.f=23:=rfl
theorem K_23h_g:K_23h.gro=true:=rfl
theorem K_23h_e {x1:V} {H:Heap}:K_23h.e [x1] H=guardR ((decA (α:=Func) H x1).1) (peekR (Enc.good (decA (α:=Func) H x1).2) (beR (decA (α:=Func) H x1).2) ([]) H):=rfl
end Go.Proofs.YthafdegfjadijaaGreat
