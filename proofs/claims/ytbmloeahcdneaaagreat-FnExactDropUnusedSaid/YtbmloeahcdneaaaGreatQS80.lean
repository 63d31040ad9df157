/- A function of the program without some of its values and blocks: without. No condition. -/
import Derived.Test.YtbmloeahcdneaaaGreatQE10
import Derived.Test.YtbmloeahcdneaaaGreatQS82
namespace Go.Proofs.YtbmloeahcdneaaaGreat
set_option maxRecDepth 100000
set_option linter.unusedSimpArgs false
set_option linter.unusedVariables false
structure WA (H:Heap) (tot nb c7 nr br:Nat) (G:Heap):Prop where
  cell:G[c7]? = some (.row 1 [[.sl nr 1 0 tot]])
  rn:G[nr]? = some (.row 1 (List.replicate tot [.d (.int .i64 0)]))
  rb:G[br]? = some (.row 1 (List.replicate nb [.d (.int .i64 0)]))
  res:G[H.length]? = some (.row 2 [[.d (.int .i64 0),.d .nilsl]])
  only:Only [] H G
  ge:H.length < c7∧H.length < nr∧H.length < br
  ne:c7 ≠ nr∧c7 ≠ br∧nr ≠ br
structure WB (H:Heap) (F:Func) (pv pb:Int→Bool) (tot nb c7 nr br:Nat) (F0:Func) (t13 t14:Nat) (B:AFunc) (G:Heap):Prop where
  cell:G[c7]? = some (.row 1 [[.sl nr 1 0 tot]])
  rn:G[nr]? = some (.row 1 (fillR tot tot (fun j=>[.d (.int .i64 (numW F pv pb j))]) [.d (.int .i64 0)]))
  rb:G[br]? = some (.row 1 (fillR nb nb (fun j=>[.d (.int .i64 (bnoW pb j))]) [.d (.int .i64 0)]))
  res:G[H.length]? = some (.row 2 [[.d (.int .i64 0),.d .nilsl]])
  clone:G[t13]? = some (.row 2 [[.d (.int .i64 B.params_),B.blocks_.v]])
  out:G[t14]? = some (.row 2 [[.d (.int .i64 F.params_),.d .nilsl]])
  own:Own G B
  sol:solF B
  era:Tr.era B=F0
  only:Only [] H G
  ge:H.length < t13∧H.length < t14
  ne:t13 ≠ t14∧t13 ≠ c7∧t13 ≠ nr∧t13 ≠ br∧t14 ≠ c7∧t14 ≠ nr∧t14 ≠ br
  fr:∀ j∈ids B,H.length < j∧j ≠ c7∧j ≠ nr∧j ≠ br∧j ≠ t13∧j ≠ t14
theorem without1_wr (F:Func) (pv pb:Int→Bool) (tot c7 nr:Nat):Wr 159 [.ptr c7 1 0 0] (fun H=>H[c7]? = some (.row 1 [[.sl nr 1 0 tot]])∧H[nr]? = some (.row 1 (fillR tot tot (fun j=>[.d (.int .i64 (numW F pv pb j))]) [.d (.int .i64 0)]))) [c7,nr] (fun x=>0≤x∧x < tot) (fun x=>numW F pv pb x.toNat):=by
  refine ⟨fun H id e es i j x c hE hH hes hc hce hx hid=>?_,fun H H' hk hE=>⟨(hk _ (by simp)).trans hE.1,(hk _ (by simp)).trans hE.2⟩⟩
  obtain ⟨h1,h2⟩:=hE
  obtain ⟨x0,x1⟩:=hx
  have hil:i < es.length:=(List.getElem?_eq_some_iff.1 hes).1
  have hjl:j < c.length:=(List.getElem?_eq_some_iff.1 hc).1
  have hje:j + 1≤e:=by omega
  have hgi:∀ h:i < es.length,es[i]=c:=fun h=>by
    have:=List.getElem?_eq_getElem h
    rw [hes] at this
    exact (Option.some.inj this).symm
  have hdt:(c.drop j).take 1=[.d (.int .i64 x)]:=by
    rw [List.drop_eq_getElem_cons hjl]
    have:=List.getElem?_eq_getElem hjl
    rw [hc] at this
    rw [← Option.some.inj this];rfl
  have hidl:id < H.length:=(List.getElem?_eq_some_iff.1 hH).1
  have hxt:x.toNat < tot:=by omega
  have hg:=fillR_get tot tot (fun j=>[V.d (.int .i64 (numW F pv pb j))]) [.d (.int .i64 0)] hxt
  rw [if_pos hxt] at hg
  have hg2:∀ h:x.toNat < (fillR tot tot (fun j=>[V.d (.int .i64 (numW F pv pb j))]) [.d (.int .i64 0)]).length,(fillR tot tot (fun j=>[V.d (.int .i64 (numW F pv pb j))]) [.d (.int .i64 0)])[x.toNat]=[.d (.int .i64 (numW F pv pb x.toNat))]:=fun h=>by
    have:=List.getElem?_eq_getElem h
    rw [hg] at this
    exact (Option.some.inj this).symm
  refine calls_of Tryz.func159 en_159 rfl (of_decide_eq_true rfl) (W_run mixed ⟨[],[],[],11,H.length,[0,1],[]⟩ (fun | 0=>[0,2,3,1,4,5,6,7,8] | _=>[]) (by kernel_rfl) ?_)
  simp only [Tryz.f159,stripX,stripOps,pickOps]
  simp [retQ,hH,hil,hgi,hdt,hje,h1,h2,x0,x1,hxt,hg,hg2]
  exact Fin.same (by simp)
set_option maxHeartbeats 4000000 in
theorem without_own (H : Heap) (A : AFunc) (F : Func) (w f b : Nat) (hw : VW 0 A F w f b H) (hO : Own H A) (hs : solF A) (hF : Tr.era A = F) (hg : goodF F = true)
    {fv fb:Nat} {cv cb:List V} {Ev Eb:Heap→Prop} {Kv Kb:List Nat} {pv pb:Int→Bool} (hv:Pd fv cv Ev Kv (fun n=>0≤n∧n < many F) pv) (hb:Pd fb cb Eb Kb (fun n=>n < F.blocks_.length) pb) (hKv:∀ k∈Kv,k < H.length) (hKb:∀ k∈Kb,k < H.length) (hEv:Ev H) (hEb:Eb H)
    (hnv:¬ 145=fv∧¬ 48=fv∧¬ 91=fv) (hnb:¬ 145=fb∧¬ 48=fb∧¬ 91=fb) :
    CallsD Tryz.prog 107 [.ptr w 5 0 0,.clo fv cv,.clo fb cb] H fun r H'=>∃ B:AFunc,r=.agg (Tr.cells B)∧Tr.era B=withoutF F pv pb∧New H H' B∧(0 < (withoutF F pv pb).blocks_.length→solF B):=by
  have hL:=lay hg
  obtain ⟨v1,v2,v3⟩:=hnv
  obtain ⟨b1,b2,b3⟩:=hnb
  obtain ⟨m0,m80⟩:=many_rng hg
  have hview:=hw.view
  have hlw:=(List.getElem?_eq_some_iff.1 hview).1
  obtain ⟨tot,htot⟩:∃ n:Nat,many F=n:=⟨(many F).toNat,by omega⟩
  have ht80:tot≤80:=by omega
  have hlF:F.blocks_.length=A.blocks_.l.length:=by rw [← hF];exact era_len A
  have hpF:A.params_=F.params_:=by rw [← hF];rfl
  obtain ⟨nb,hnb⟩:∃ n:Nat,A.blocks_.l.length=n:=⟨_,rfl⟩
  have hb8:nb≤8:=by have:=hL.len.1;omega
  have hp4:0≤F.params_∧F.params_≤4:=(goodF_spec hg).1
  rw [htot,hnb,hpF] at hview
  refine calls_of Tryz.func107 en_107 rfl (of_decide_eq_true rfl) (W_runCut mixed 1 ⟨[],[K_145h],[48,91],171,H.length,[0,1,2,6,7,8,9,10,11,12,13,14,15,16,17,18,19,20,39,40,41,43,55,80,81,82,87,109,110,111,112,118,121,122,123,124,134,144,145,146],[41,43,55,60,82,87,112,118,124,134,146]⟩ (fun | 1=>[0,1,2,5,6,7,8,12,13,14,15,3,9,10,16,4,11,17,18,19,20,21] | 18=>[0,1,2,5,6,7,8,3,9,10,4,11,12,13,14] | 35=>[0,2,3,4,6,1,5,7,8,9,10,11,12,13,14] | _=>[]) (by kernel_rfl) ?_)
  simp only [Tryz.f107,stripCut,stripX,stripOps,pickOps]
  simp [K_145h_f,K_145h_e,K_145h_g,-V.flat,-V.one,one_int,one_bool,one_str,one_nilp,one_rp,one_nilsl,one_ro,one_cl,one_nilf,one_nili,one_ifc,one_ptr,one_sl,one_clo,flat_d,flat_ptr,flat_sl,flat_clo,flat_agg,-decA,decA_int,decA_bool,decA_str,hview]
  refine W_seqR (α:=Nat × Nat × Nat × Heap) (fun a=>[(0,.ptr w 5 0 0),(1,.clo fv cv),(2,.clo fb cb),(6,.ptr H.length 2 0 0),(7,.ptr a.1 1 0 0),(8,.sl a.2.2.1 1 0 nb),(9,.d (.int .i64 F.params_)),(10,.d (.int .i64 0))]) (fun a=>a.2.2.2)
    (fun a=>WA H tot nb a.1 a.2.1 a.2.2.1 a.2.2.2) ?_ ?_
  · have f1:(tot:Int) * 8≤140737488355328:=by omega
    have f2:(tot:Int)≤140737488355328:=by omega
    have f3:(nb:Int) * 8≤140737488355328:=by omega
    have f4:(nb:Int)≤140737488355328:=by omega
    have hvR:∀ R:Heap,(H++R)[w]? = _:=fun R=>(List.getElem?_append_left hlw).trans hview
    refine W_drawB mixed ⟨[],[K_145h],[48,91],171,H.length,[0,1,2,6,7,8,9,10,11,12,13,14,15,16,17,18,19,20,39,40,41,43,55,80,81,82,87,109,110,111,112,118,121,122,123,124,134,144,145,146],[41,43,55,60,82,87,112,118,124,134,146]⟩ 48 [0,1,2,3,5,6,7,8,9,10,12,13,14,15,16] [4,11,17,18] [19,20,21] (.alt 4 (.alt 11 (.alt 17 (.alt 18 .leaf .nil) .nil) (.alt 17 (.alt 11 (.alt 18 .leaf .nil) (.alt 18 (.alt 11 .leaf .nil) .nil)) .nil)) (.alt 11 (.alt 4 (.alt 17 (.alt 18 .leaf .nil) .nil) (.alt 17 (.alt 4 (.alt 18 .leaf .nil) .nil) .nil)) (.alt 17 (.alt 4 (.alt 11 (.alt 18 .leaf .nil) (.alt 18 (.alt 11 .leaf .nil) .nil)) (.alt 11 (.alt 4 (.alt 18 .leaf .nil) .nil) .nil)) .nil))) [0,1,2,6,7,8,9,10,11,12,13,14,15,16,17,18,19,20,39,40,41,43,55,80,81,82,87,109,110,111,112,118,121,122,123,124,134,144,145,146,21,22,23,24,25,26,27,28,29,30,31,32,33,34,35,36,37] (by kernel_rfl) (by kernel_rfl) (by intro vs;simp [tabG,tab,K_145h_f]) ?_
    simp only [stripOps,pickOps]
    simp [denB,demB,isDem,isSt,newS,stripOps,pickOps,K_145h_f,K_145h_e,K_145h_g,-V.flat,-V.one,one_int,one_bool,one_str,one_nilp,one_rp,one_nilsl,one_ro,one_cl,one_nilf,one_nili,one_ifc,one_ptr,one_sl,one_clo,flat_d,flat_ptr,flat_sl,flat_clo,flat_agg,-decA,decA_int,decA_bool,decA_str,hvR,f1,f2,f3,f4]
    exact ⟨⟨⟨H.length + 3,H.length + 1,H.length + 2,_,⟨by simp,by simp,by simp,by simp,Only.app _ _ _,by omega,by omega⟩,HLe.refl _,rfl,rfl⟩,⟨H.length + 2,H.length + 1,H.length + 3,_,⟨by simp,by simp,by simp,by simp,Only.app _ _ _,by omega,by omega⟩,HLe.refl _,rfl,rfl⟩⟩,⟨⟨H.length + 3,H.length + 2,H.length + 1,_,⟨by simp,by simp,by simp,by simp,Only.app _ _ _,by omega,by omega⟩,HLe.refl _,rfl,rfl⟩,⟨H.length + 2,H.length + 3,H.length + 1,_,⟨by simp,by simp,by simp,by simp,Only.app _ _ _,by omega,by omega⟩,HLe.refl _,rfl,rfl⟩⟩,⟨⟨H.length + 1,H.length + 2,H.length + 3,_,⟨by simp,by simp,by simp,by simp,Only.app _ _ _,by omega,by omega⟩,HLe.refl _,rfl,rfl⟩,⟨H.length + 1,H.length + 3,H.length + 2,_,⟨by simp,by simp,by simp,by simp,Only.app _ _ _,by omega,by omega⟩,HLe.refl _,rfl,rfl⟩⟩⟩
  rintro ⟨c7,nr,br,G⟩ wa
  simp only [] at wa ⊢
  have oG:=wa.only
  have lG:=oG.len
  obtain ⟨ge1,ge2,ge3⟩:=wa.ge
  obtain ⟨ne1,ne2,ne3⟩:=wa.ne
  have vG:G[w]? = _:=(oG.at_ w hlw List.not_mem_nil).trans hview
  have bG:G[b]? = some (.row 1 (rI (viewD F).block_)):=(oG.at_ b (List.getElem?_eq_some_iff.1 hw.br).1 List.not_mem_nil).trans hw.br
  have hlb:=(List.getElem?_eq_some_iff.1 hw.br).1
  have lnr:=(List.getElem?_eq_some_iff.1 wa.rn).1
  -- the numbers of the values
  refine W_seqR (α:=Unit) (fun _=>[(0,.ptr w 5 0 0),(1,.clo fv cv),(2,.clo fb cb),(6,.ptr H.length 2 0 0),(7,.ptr c7 1 0 0),(8,.sl br 1 0 nb),(10,.d (.int .i64 0))]) (fun _=>G.set nr (.row 1 (fillR tot tot (fun j=>[.d (.int .i64 (numW F pv pb j))]) [.d (.int .i64 0)]))) (fun _=>True) ?_ ?_
  · have gc := wa.cell
    refine W_run mixed ⟨[],[K_145h],[48,91],171,H.length,[0,1,2,6,7,8,9,10,11,12,13,14,15,16,17,18,19,20,39,40,41,43,55,80,81,82,87,109,110,111,112,118,121,122,123,124,134,144,145,146],[41,43,55,60,82,87,112,118,124,134,146]⟩ (fun | 1=>[0,1,2,5,6,7,8,12,13,14,15,3,9,10,16,4,11,17,18,19,20,21] | 18=>[0,1,2,5,6,7,8,3,9,10,4,11,12,13,14] | 35=>[0,2,3,4,6,1,5,7,8,9,10,11,12,13,14] | _=>[]) (by kernel_rfl) ?_
    simp only [stripX,stripOps,pickOps]
    simp [K_145h_f,K_145h_e,K_145h_g,-V.flat,-V.one,one_int,one_bool,one_str,one_nilp,one_rp,one_nilsl,one_ro,one_cl,one_nilf,one_nili,one_ifc,one_ptr,one_sl,one_clo,flat_d,flat_ptr,flat_sl,flat_clo,flat_agg,-decA,decA_int,decA_bool,decA_str,gc]
    refine W_loopH (α:=Nat) (fun k=>[(0,.ptr w 5 0 0),(1,.clo fv cv),(2,.clo fb cb),(6,.ptr H.length 2 0 0),(7,.ptr c7 1 0 0),(8,.sl br 1 0 nb),(9,.d (.int .i64 (nxt F pv pb k))),(10,.d (.int .i64 0)),(39,.d (.int .i64 tot)),(40,.d (.int .i64 k))]) (fun k=>G.set nr (.row 1 (fillR tot k (fun j=>[.d (.int .i64 (numW F pv pb j))]) [.d (.int .i64 0)])))
      (fun k=>k≤tot) (fun k=>tot - k) 0 ?_ (Nat.zero_le _) ?_
    · have e0:G.set nr (.row 1 (fillR tot 0 (fun j=>[V.d (.int .i64 (numW F pv pb j))]) [.d (.int .i64 0)]))=G:=by exact list_set_self (wa.rn.trans (by rw [fillR_zero tot (fun j=>[V.d (.int .i64 (numW F pv pb j))])]))
      have e1:F.params_=(nxt F pv pb 0:Int):=by rw [nxt_par F pv pb (Nat.zero_le _)];exact hL.par.symm
      simp only [e0]
      rw [← e1]
      simp
    intro k hk
    replace hk:k≤tot:=hk
    generalize hHk:G.set nr (.row 1 (fillR tot k (fun j=>[.d (.int .i64 (numW F pv pb j))]) [.d (.int .i64 0)]))=Gk
    have gk:∀ j,j ≠ nr→Gk[j]? = G[j]?:=fun j hj=>by rw [← hHk];exact List.getElem?_set_ne hj.symm
    have gkn:Gk[nr]? = some (.row 1 (fillR tot k (fun j=>[.d (.int .i64 (numW F pv pb j))]) [.d (.int .i64 0)])):=by rw [← hHk];exact List.getElem?_set_self lnr
    have gkw:Gk[w]? = _:=(gk w (by omega)).trans vG
    have gkb:Gk[b]? = _:=(gk b (by omega)).trans bG
    have gkc:Gk[c7]? = _:=(gk c7 ne1).trans wa.cell
    have gks:∀ p,Gk.set nr p=G.set nr p:=fun p=>by rw [← hHk,List.set_set]
    have ol:Only [nr] G Gk:=by rw [← hHk];exact Only.set
    have eV:Ev Gk:=hv.keep H Gk (fun j hj=>(gk j (by have:=hKv j hj;omega)).trans (oG.at_ j (hKv j hj) List.not_mem_nil)) hEv
    have eB:Eb Gk:=hb.keep H Gk (fun j hj=>(gk j (by have:=hKb j hj;omega)).trans (oG.at_ j (hKb j hj) List.not_mem_nil)) hEb
    by_cases hkt:k < tot
    · have wk:IntKind.i64.wrap ((k:Int) + 1)=((k + 1:Nat):Int):=by rw [wrap_id] <;> omega
      have hkb:k < (viewD F).block_.length:=blk_len hg (by have:=hL.many;omega)
      have hfs:=fillR_set tot k (fun j=>[V.d (.int .i64 (numW F pv pb j))]) [.d (.int .i64 0)] hkt
      by_cases hkp:(k:Int) < F.params_
      · have hn:numW F pv pb k=k:=by unfold numW;rw [if_pos (by omega)]
        refine W_run mixed ⟨[],[K_145h],[48,91],171,H.length,[0,1,2,6,7,8,9,10,11,12,13,14,15,16,17,18,19,20,39,40,41,43,55,80,81,82,87,109,110,111,112,118,121,122,123,124,134,144,145,146],[41,43,55,60,82,87,112,118,124,134,146]⟩ (fun | 1=>[0,1,2,5,6,7,8,12,13,14,15,3,9,10,16,4,11,17,18,19,20,21] | 18=>[0,1,2,5,6,7,8,3,9,10,4,11,12,13,14] | 35=>[0,2,3,4,6,1,5,7,8,9,10,11,12,13,14] | _=>[]) (by kernel_rfl) ?_
        simp only [stripX,stripOps,pickOps]
        simp [K_145h_f,K_145h_e,K_145h_g,-V.flat,-V.one,one_int,one_bool,one_str,one_nilp,one_rp,one_nilsl,one_ro,one_cl,one_nilf,one_nili,one_ifc,one_ptr,one_sl,one_clo,flat_d,flat_ptr,flat_sl,flat_clo,flat_agg,-decA,decA_int,decA_bool,decA_str,hkt,gkw,gkc,gkn,gks,hkp,v1,v2,v3]
        exact ⟨k + 1,hkt,by omega,by rw [← hfs,hn],by rw [nxt_par F pv pb (k:=k) (by omega),nxt_par F pv pb (k:=k + 1) (by omega)],wk⟩
      · refine W_run mixed ⟨[],[K_145h],[48,91],171,H.length,[0,1,2,6,7,8,9,10,11,12,13,14,15,16,17,18,19,20,39,40,41,43,55,80,81,82,87,109,110,111,112,118,121,122,123,124,134,144,145,146],[41,43,55,60,82,87,112,118,124,134,146]⟩ (fun | 1=>[0,1,2,5,6,7,8,12,13,14,15,3,9,10,16,4,11,17,18,19,20,21] | 18=>[0,1,2,5,6,7,8,3,9,10,4,11,12,13,14] | 35=>[0,2,3,4,6,1,5,7,8,9,10,11,12,13,14] | _=>[]) (by kernel_rfl) ?_
        simp only [stripX,stripOps,pickOps]
        simp [K_145h_f,K_145h_e,K_145h_g,-V.flat,-V.one,one_int,one_bool,one_str,one_nilp,one_rp,one_nilsl,one_ro,one_cl,one_nilf,one_nili,one_ifc,one_ptr,one_sl,one_clo,flat_d,flat_ptr,flat_sl,flat_clo,flat_agg,-decA,decA_int,decA_bool,decA_str,hkt,gkw,gkc,gkn,gks,hkp,v1,v2,v3]
        rw [aft_call]
        refine (hv.call Gk k eV ⟨by omega,by omega⟩).mono ?_
        rintro r H1 ⟨rfl,rfl⟩
        cases hpv:pv k with
        | true =>
          simp [K_145h_f,K_145h_e,K_145h_g,-V.flat,-V.one,one_int,one_bool,one_str,one_nilp,one_rp,one_nilsl,one_ro,one_cl,one_nilf,one_nili,one_ifc,one_ptr,one_sl,one_clo,flat_d,flat_ptr,flat_sl,flat_clo,flat_agg,-decA,decA_int,decA_bool,decA_str,hkt,gkw,gkc,gkn,gks,hkp,v1,v2,v3]
          have hkf:kpt F pv pb k=false:=by unfold kpt;rw [decide_eq_false (by omega),hpv];rfl
          have hn:numW F pv pb k=0:=by unfold numW;rw [if_neg (by omega),if_neg (by rw [hkf];simp)]
          exact ⟨k + 1,hkt,by omega,by rw [← hHk,← hfs,hn,fillR_hole hkt],by rw [nxt_succ F pv pb (k:=k) (by omega),hkf];rfl,wk⟩
        | false =>
          simp [K_145h_f,K_145h_e,K_145h_g,-V.flat,-V.one,one_int,one_bool,one_str,one_nilp,one_rp,one_nilsl,one_ro,one_cl,one_nilf,one_nili,one_ifc,one_ptr,one_sl,one_clo,flat_d,flat_ptr,flat_sl,flat_clo,flat_agg,-decA,decA_int,decA_bool,decA_str,hkt,gkw,gkc,gkn,gks,gkb,hkp,b1,b2,b3]
          have ebk:(viewD F).block_[k]?.getD 0=bk (viewD F) k:=by unfold bk;rw [Int.toNat_natCast]
          have hbl:bk (viewD F) k < F.blocks_.length:=by
            rcases hL.find k (by have:=hL.many;omega) with q | ⟨m,q1,q2,q3⟩
            · rw [hL.bkP k q];omega
            · rw [hL.bkB m k q1 q2 q3];omega
          refine ⟨hkb, ?_⟩
          rw [ebk,aft_call]
          refine (hb.call _ (bk (viewD F) k) eB hbl).mono ?_
          rintro r H1 ⟨rfl,rfl⟩
          cases hpb:pb (bk (viewD F) k) with
          | true =>
            have hkf:kpt F pv pb k=false:=by unfold kpt;rw [decide_eq_false (by omega),hpv,hpb];rfl
            have hn:numW F pv pb k=0:=by unfold numW;rw [if_neg (by omega),if_neg (by rw [hkf];simp)]
            simp [K_145h_f,K_145h_e,K_145h_g,-V.flat,-V.one,one_int,one_bool,one_str,one_nilp,one_rp,one_nilsl,one_ro,one_cl,one_nilf,one_nili,one_ifc,one_ptr,one_sl,one_clo,flat_d,flat_ptr,flat_sl,flat_clo,flat_agg,-decA,decA_int,decA_bool,decA_str,hkt,gkw,gkc,gkn,gks,gkb,hkp]
            exact ⟨k + 1,hkt,by omega,by rw [← hHk,← hfs,hn,fillR_hole hkt],by rw [nxt_succ F pv pb (k:=k) (by omega),hkf];rfl,wk⟩
          | false =>
            have hkf:kpt F pv pb k=true:=by unfold kpt;rw [hpv,hpb];simp
            have hn:numW F pv pb k=(nxt F pv pb k:Int):=by unfold numW;rw [if_neg (by omega),if_pos hkf]
            have hnle:=nxt_le F pv pb k
            have wn:IntKind.i64.wrap ((nxt F pv pb k:Int) + 1)=((nxt F pv pb (k + 1):Nat):Int):=by rw [nxt_succ F pv pb (k:=k) (by omega),hkf,wrap_id] <;> (try simp) <;> omega
            simp [K_145h_f,K_145h_e,K_145h_g,-V.flat,-V.one,one_int,one_bool,one_str,one_nilp,one_rp,one_nilsl,one_ro,one_cl,one_nilf,one_nili,one_ifc,one_ptr,one_sl,one_clo,flat_d,flat_ptr,flat_sl,flat_clo,flat_agg,-decA,decA_int,decA_bool,decA_str,hkt,gkw,gkc,gkn,gks,gkb,hkp]
            exact ⟨k + 1,hkt,by omega,by rw [← hfs,hn],wn,wk⟩
    · refine W_run mixed ⟨[],[K_145h],[48,91],171,H.length,[0,1,2,6,7,8,9,10,11,12,13,14,15,16,17,18,19,20,39,40,41,43,55,80,81,82,87,109,110,111,112,118,121,122,123,124,134,144,145,146],[41,43,55,60,82,87,112,118,124,134,146]⟩ (fun | 1=>[0,1,2,5,6,7,8,12,13,14,15,3,9,10,16,4,11,17,18,19,20,21] | 18=>[0,1,2,5,6,7,8,3,9,10,4,11,12,13,14] | 35=>[0,2,3,4,6,1,5,7,8,9,10,11,12,13,14] | _=>[]) (by kernel_rfl) ?_
      simp only [stripX,stripOps,pickOps]
      simp [K_145h_f,K_145h_e,K_145h_g,-V.flat,-V.one,one_int,one_bool,one_str,one_nilp,one_rp,one_nilsl,one_ro,one_cl,one_nilf,one_nili,one_ifc,one_ptr,one_sl,one_clo,flat_d,flat_ptr,flat_sl,flat_clo,flat_agg,-decA,decA_int,decA_bool,decA_str,hkt]
      have:k=tot:=by omega
      subst this
      exact HLe.of_eq hHk.symm
  rintro ⟨⟩ _
  generalize hG1:G.set nr (.row 1 (fillR tot tot (fun j=>[.d (.int .i64 (numW F pv pb j))]) [.d (.int .i64 0)]))=G1
  have o1:Only [nr] G G1:=by rw [← hG1];exact Only.set
  have oH1:Only [] H G1:=⟨by have:=o1.len;omega,fun j hj _=>(o1.at_ j (by omega) (by simp;omega)).trans (oG.at_ j hj List.not_mem_nil)⟩
  have g1n:G1[nr]? = some (.row 1 (fillR tot tot (fun j=>[.d (.int .i64 (numW F pv pb j))]) [.d (.int .i64 0)])):=by rw [← hG1];exact List.getElem?_set_self lnr
  have g1b:G1[br]? = _:=(o1.at_ br (List.getElem?_eq_some_iff.1 wa.rb).1 (by simp;exact fun h=>ne3 h.symm)).trans wa.rb
  have g1c:G1[c7]? = _:=(o1.at_ c7 (List.getElem?_eq_some_iff.1 wa.cell).1 (by simp;exact ne1)).trans wa.cell
  have lbr:=(List.getElem?_eq_some_iff.1 g1b).1
  -- the numbers of the blocks
  refine W_seqR (α:=Unit) (fun _=>[(0,.ptr w 5 0 0),(1,.clo fv cv),(2,.clo fb cb),(6,.ptr H.length 2 0 0),(7,.ptr c7 1 0 0),(8,.sl br 1 0 nb)]) (fun _=>G1.set br (.row 1 (fillR nb nb (fun j=>[.d (.int .i64 (bnoW pb j))]) [.d (.int .i64 0)]))) (fun _=>True) ?_ ?_
  · refine W_run mixed ⟨[],[K_145h],[48,91],171,H.length,[0,1,2,6,7,8,9,10,11,12,13,14,15,16,17,18,19,20,39,40,41,43,55,80,81,82,87,109,110,111,112,118,121,122,123,124,134,144,145,146],[41,43,55,60,82,87,112,118,124,134,146]⟩ (fun | 1=>[0,1,2,5,6,7,8,12,13,14,15,3,9,10,16,4,11,17,18,19,20,21] | 18=>[0,1,2,5,6,7,8,3,9,10,4,11,12,13,14] | 35=>[0,2,3,4,6,1,5,7,8,9,10,11,12,13,14] | _=>[]) (by kernel_rfl) ?_
    simp only [stripX,stripOps,pickOps]
    simp [K_145h_f,K_145h_e,K_145h_g,-V.flat,-V.one,one_int,one_bool,one_str,one_nilp,one_rp,one_nilsl,one_ro,one_cl,one_nilf,one_nili,one_ifc,one_ptr,one_sl,one_clo,flat_d,flat_ptr,flat_sl,flat_clo,flat_agg,-decA,decA_int,decA_bool,decA_str]
    refine W_loopH (α:=Nat) (fun k=>[(0,.ptr w 5 0 0),(1,.clo fv cv),(2,.clo fb cb),(6,.ptr H.length 2 0 0),(7,.ptr c7 1 0 0),(8,.sl br 1 0 nb),(10,.d (.int .i64 (cntW pb k))),(80,.d (.int .i64 nb)),(81,.d (.int .i64 k))]) (fun k=>G1.set br (.row 1 (fillR nb k (fun j=>[.d (.int .i64 (bnoW pb j))]) [.d (.int .i64 0)])))
      (fun k=>k≤nb) (fun k=>nb - k) 0 ?_ (Nat.zero_le _) ?_
    · have e0:G1.set br (.row 1 (fillR nb 0 (fun j=>[V.d (.int .i64 (bnoW pb j))]) [.d (.int .i64 0)]))=G1:=list_set_self (g1b.trans (by rw [fillR_zero nb (fun j=>[V.d (.int .i64 (bnoW pb j))])]))
      simp only [e0]
      simp [cntW]
    intro k hk
    replace hk:k≤nb:=hk
    generalize hHk:G1.set br (.row 1 (fillR nb k (fun j=>[.d (.int .i64 (bnoW pb j))]) [.d (.int .i64 0)]))=Gk
    have gkn:Gk[br]? = some (.row 1 (fillR nb k (fun j=>[.d (.int .i64 (bnoW pb j))]) [.d (.int .i64 0)])):=by rw [← hHk];exact List.getElem?_set_self lbr
    have gks:∀ p,Gk.set br p=G1.set br p:=fun p=>by rw [← hHk,List.set_set]
    have eB:Eb Gk:=hb.keep H Gk (fun j hj=>by have:=hKb j hj;rw [← hHk,List.getElem?_set_ne (by omega)];exact oH1.at_ j this List.not_mem_nil) hEb
    by_cases hkt:k < nb
    · have wk:IntKind.i64.wrap ((k:Int) + 1)=((k + 1:Nat):Int):=by rw [wrap_id] <;> omega
      have hfs:=fillR_set nb k (fun j=>[V.d (.int .i64 (bnoW pb j))]) [.d (.int .i64 0)] hkt
      refine W_run mixed ⟨[],[K_145h],[48,91],171,H.length,[0,1,2,6,7,8,9,10,11,12,13,14,15,16,17,18,19,20,39,40,41,43,55,80,81,82,87,109,110,111,112,118,121,122,123,124,134,144,145,146],[41,43,55,60,82,87,112,118,124,134,146]⟩ (fun | 1=>[0,1,2,5,6,7,8,12,13,14,15,3,9,10,16,4,11,17,18,19,20,21] | 18=>[0,1,2,5,6,7,8,3,9,10,4,11,12,13,14] | 35=>[0,2,3,4,6,1,5,7,8,9,10,11,12,13,14] | _=>[]) (by kernel_rfl) ?_
      simp only [stripX,stripOps,pickOps]
      simp [K_145h_f,K_145h_e,K_145h_g,-V.flat,-V.one,one_int,one_bool,one_str,one_nilp,one_rp,one_nilsl,one_ro,one_cl,one_nilf,one_nili,one_ifc,one_ptr,one_sl,one_clo,flat_d,flat_ptr,flat_sl,flat_clo,flat_agg,-decA,decA_int,decA_bool,decA_str,hkt,gkn,gks,b1,b2,b3]
      rw [aft_call]
      refine (hb.call _ k eB (show (k:Int) < F.blocks_.length by omega)).mono ?_
      rintro r H1 ⟨rfl,rfl⟩
      have hcs:=cntW_succ pb k
      cases hpb:pb k with
      | true =>
        have hn:bnoW pb k=0:=by unfold bnoW;rw [if_pos hpb]
        rw [hpb] at hcs
        simp [K_145h_f,K_145h_e,K_145h_g,-V.flat,-V.one,one_int,one_bool,one_str,one_nilp,one_rp,one_nilsl,one_ro,one_cl,one_nilf,one_nili,one_ifc,one_ptr,one_sl,one_clo,flat_d,flat_ptr,flat_sl,flat_clo,flat_agg,-decA,decA_int,decA_bool,decA_str,hkt,gkn,gks]
        exact ⟨k + 1,hkt,by omega,by rw [← hHk,← hfs,hn,fillR_hole hkt],by rw [hcs];rfl,wk⟩
      | false =>
        have hn:bnoW pb k=(cntW pb k:Int):=by unfold bnoW;rw [if_neg (by rw [hpb];simp)]
        have hcl:=cntW_le pb k
        have wn:IntKind.i64.wrap ((cntW pb k:Int) + 1)=((cntW pb (k + 1):Nat):Int):=by rw [hcs,hpb,wrap_id] <;> (try simp) <;> omega
        simp [K_145h_f,K_145h_e,K_145h_g,-V.flat,-V.one,one_int,one_bool,one_str,one_nilp,one_rp,one_nilsl,one_ro,one_cl,one_nilf,one_nili,one_ifc,one_ptr,one_sl,one_clo,flat_d,flat_ptr,flat_sl,flat_clo,flat_agg,-decA,decA_int,decA_bool,decA_str,hkt,gkn,gks]
        exact ⟨k + 1,hkt,by omega,by rw [← hfs,hn],wn,wk⟩
    · refine W_run mixed ⟨[],[K_145h],[48,91],171,H.length,[0,1,2,6,7,8,9,10,11,12,13,14,15,16,17,18,19,20,39,40,41,43,55,80,81,82,87,109,110,111,112,118,121,122,123,124,134,144,145,146],[41,43,55,60,82,87,112,118,124,134,146]⟩ (fun | 1=>[0,1,2,5,6,7,8,12,13,14,15,3,9,10,16,4,11,17,18,19,20,21] | 18=>[0,1,2,5,6,7,8,3,9,10,4,11,12,13,14] | 35=>[0,2,3,4,6,1,5,7,8,9,10,11,12,13,14] | _=>[]) (by kernel_rfl) ?_
      simp only [stripX,stripOps,pickOps]
      simp [K_145h_f,K_145h_e,K_145h_g,-V.flat,-V.one,one_int,one_bool,one_str,one_nilp,one_rp,one_nilsl,one_ro,one_cl,one_nilf,one_nili,one_ifc,one_ptr,one_sl,one_clo,flat_d,flat_ptr,flat_sl,flat_clo,flat_agg,-decA,decA_int,decA_bool,decA_str,hkt]
      have:k=nb:=by omega
      subst this
      exact HLe.of_eq hHk.symm
  rintro ⟨⟩ _
  generalize hG2:G1.set br (.row 1 (fillR nb nb (fun j=>[.d (.int .i64 (bnoW pb j))]) [.d (.int .i64 0)]))=G2
  have o2:Only [br] G1 G2:=by rw [← hG2];exact Only.set
  have oH2:Only [] H G2:=⟨by have:=o2.len;have:=o1.len;omega,fun j hj _=>(o2.at_ j (by have:=o1.len;omega) (by simp;omega)).trans (oH1.at_ j hj List.not_mem_nil)⟩
  have g2b:G2[br]? = some (.row 1 (fillR nb nb (fun j=>[.d (.int .i64 (bnoW pb j))]) [.d (.int .i64 0)])):=by rw [← hG2];exact List.getElem?_set_self lbr
  have g2n:G2[nr]? = _:=(o2.at_ nr (List.getElem?_eq_some_iff.1 g1n).1 (by simp;exact ne3)).trans g1n
  have g2c:G2[c7]? = _:=(o2.at_ c7 (List.getElem?_eq_some_iff.1 g1c).1 (by simp;exact ne2)).trans g1c
  have g2r:G2[H.length]? = some (.row 2 [[.d (.int .i64 0),.d .nilsl]]):=(o2.at_ _ (by have:=o1.len;omega) (by simp;omega)).trans ((o1.at_ _ (by omega) (by simp;omega)).trans wa.res)
  have g2w:G2[w]? = _:=(oH2.at_ w hlw List.not_mem_nil).trans hview
  -- the copy
  refine W_seqR (α:=Nat × Nat × AFunc × Heap) (fun a=>[(0,.ptr w 5 0 0),(1,.clo fv cv),(2,.clo fb cb),(6,.ptr H.length 2 0 0),(7,.ptr c7 1 0 0),(8,.sl br 1 0 nb),(13,.ptr a.1 2 0 0),(14,.ptr a.2.1 2 0 0)]) (fun a=>a.2.2.2)
    (fun a=>WB H F pv pb tot nb c7 nr br F a.1 a.2.1 a.2.2.1 a.2.2.2) ?_ ?_
  · have hvR:∀ R:Heap,(G2++R)[w]? = _:=fun R=>(List.getElem?_append_left (List.getElem?_eq_some_iff.1 g2w).1).trans g2w
    refine W_drawB mixed ⟨[],[K_145h],[48,91],171,H.length,[0,1,2,6,7,8,9,10,11,12,13,14,15,16,17,18,19,20,39,40,41,43,55,80,81,82,87,109,110,111,112,118,121,122,123,124,134,144,145,146],[41,43,55,60,82,87,112,118,124,134,146]⟩ 48 [0,1,2,3,5,6,7,8,9,10] [4,11,12] [13,14] (.alt 4 (.alt 11 (.alt 12 .leaf .nil) (.alt 12 (.alt 11 .leaf .nil) .nil)) (.alt 11 (.alt 4 (.alt 12 .leaf .nil) (.alt 12 (.alt 4 .leaf .nil) .nil)) (.alt 12 (.alt 4 (.alt 11 .leaf .nil) (.alt 11 (.alt 4 .leaf .nil) .nil)) .nil))) [0,1,2,6,7,8,9,10,11,12,13,14,15,16,17,18,19,20,39,40,41,43,55,80,81,82,87,109,110,111,112,118,121,122,123,124,134,144,145,146,95,96,97,98,99,100,101,102,103,104,105] (by kernel_rfl) (by kernel_rfl) (by intro vs;simp [tabG,tab,K_145h_f]) ?_
    simp only [stripOps,pickOps]
    simp [denB,demB,isDem,isSt,newS,stripOps,pickOps,K_145h_f,K_145h_e,K_145h_g,-V.flat,-V.one,one_int,one_bool,one_str,one_nilp,one_rp,one_nilsl,one_ro,one_cl,one_nilf,one_nili,one_ifc,one_ptr,one_sl,one_clo,flat_d,flat_ptr,flat_sl,flat_clo,flat_agg,-decA,decA_int,decA_bool,decA_str,g2w,hvR]
    have hclA:∀ G3:Heap,Only [] H G3→CallsD Tryz.prog 48 [.agg [.d (.int .i64 F.params_),.sl A.blocks_.id 5 0 nb]] G3 fun r H'=>∃ B:AFunc,r=.agg (Tr.cells B)∧(Tr.era B=F∧solF B)∧New G3 H' B:=fun G3 h3=>by
      have ow:Own G3 A:=hO.frame h3 fun j _ hj=>absurd hj List.not_mem_nil
      have hrd:=Rd1.aggs ow (rfl:Enc.agg Func=true)
      have ec:V.agg (Tr.cells A)=.agg [.d (.int .i64 F.params_),.sl A.blocks_.id 5 0 nb]:=by rw [← hpF,← hnb,← hs.1];rfl
      rw [ec,hF] at hrd
      refine (CallsD.peekN (T:=fun r (B:AFunc)=>r=.agg (Tr.cells B)∧(Tr.era B=F∧solF B)) ((cloneFunc_sol (deads _) F (good_small hg)).mono fun r H' ⟨B,q1,q2,q3⟩=>⟨B,⟨q1,q2⟩,q3⟩) (Rd1.list (vs:=[_]) (vs':=[vFunc F]) ⟨hrd,trivial⟩) ?_).mono fun r H' ⟨B,⟨q1,q2⟩,q3⟩=>⟨B,q1,q2,q3⟩
      rintro r B hok ⟨rfl,_⟩
      have hok:okS B.blocks_:=hok
      simp [cells_AFunc,V.scl2,sclL2,hok.1.scl.1,D.scl2]
    have mkW:∀ (G':Heap) (a b:Nat) (B:AFunc),Only [] G2 G'→G'[a]? = some (.row 2 [[.d (.int .i64 B.params_),B.blocks_.v]])→G'[b]? = some (.row 2 [[.d (.int .i64 F.params_),.d .nilsl]])→G2.length≤a→G2.length≤b→a ≠ b →
        Own G' B→solF B→Tr.era B=F→(∀ j∈ids B,G2.length≤j∧j ≠ a∧j ≠ b)→WB H F pv pb tot nb c7 nr br F a b B G':=fun G' a b B h1 h2 h3 h4 h5 h6 h7 h8 h9 h10=>by
      have l2:=oH2.len
      have k1:=(List.getElem?_eq_some_iff.1 g2c).1
      have k2:=(List.getElem?_eq_some_iff.1 g2n).1
      have k3:=(List.getElem?_eq_some_iff.1 g2b).1
      have k4:=(List.getElem?_eq_some_iff.1 g2r).1
      exact ⟨(h1.at_ _ k1 List.not_mem_nil).trans g2c,(h1.at_ _ k2 List.not_mem_nil).trans g2n,(h1.at_ _ k3 List.not_mem_nil).trans g2b,(h1.at_ _ k4 List.not_mem_nil).trans g2r,h2,h3,h7,h8,h9,
        oH2.trans h1 (fun j hj=>hj) fun j hj _=>hj,⟨by omega,by omega⟩,⟨h6,by omega,by omega,by omega,by omega,by omega,by omega⟩,fun j hj=>by have:=h10 j hj;exact ⟨by omega,by omega,by omega,by omega,this.2.1,this.2.2⟩⟩
    have cB:∀ B:AFunc,Tr.cells B=[.d (.int .i64 B.params_),B.blocks_.v]:=fun B=>rfl
    have lf:∀ {B:AFunc} {G3 H':Heap},New G3 H' B→(V.agg (Tr.cells B)).flat=[.d (.int .i64 B.params_),B.blocks_.v]∧B.blocks_.v.one=true:=fun {B G3 H'} hn=>⟨rfl,hn.own.ok.1.scl.2⟩
    have lg:∀ {p:Int} {v:V},v.one=true→∀ x∈[V.d (.int .i64 p),v],x.one=true:=fun {p v} h x hx=>by
      rcases List.mem_cons.1 hx with rfl | hx
      · rfl
      · rw [List.mem_singleton.1 hx];exact h
    have hp:∀ {R0 H':Heap} (G':Heap) {B:AFunc},New (G2++R0) H' B→(∀ j,(j < G2.length∨G2.length + R0.length≤j)→j < H'.length→G'[j]? = H'[j]?)→H'.length≤G'.length →
        Only [] G2 G'∧Own G' B∧∀ j∈ids B,G2.length + R0.length≤j∧j < H'.length:=fun {R0 H'} G' {B} hn he hl'=>by
      have hl:=hn.only.len
      rw [List.length_append] at hl
      have fr:∀ j∈ids B,G2.length + R0.length≤j:=fun j hj=>by have:=hn.fresh j hj;rwa [List.length_append] at this
      exact ⟨⟨by omega,fun j hj _=>(he j (.inl hj) (by omega)).trans ((hn.only.at_ j (by rw [List.length_append];omega) List.not_mem_nil).trans (List.getElem?_append_left hj))⟩,
        hn.own.same fun j hj hlj=>he j (.inr (fr j hj)) hlj,fun j hj=>⟨fr j hj,hn.own.lt hj⟩⟩
    refine ⟨?_, ?_, ?_⟩
    · refine (hclA G2 oH2).mono ?_
      rintro r H' ⟨B,rfl,⟨hB,hsol⟩,hn⟩
      obtain ⟨hfl,hone⟩:=lf hn
      have hl:=hn.only.len
      have hlt:=fun j (hj:j∈ids B)=>hn.own.lt hj
      have hfr:=hn.fresh
      rw [hfl]
      refine ⟨hn.only.tail,⟨⟨rfl, ?_⟩,_,_,B,_, ?_,HLe.refl _,rfl,rfl⟩,⟨rfl, ?_⟩,_,_,B,_, ?_,HLe.refl _,rfl,rfl⟩
      · exact lg hone
      · refine mkW _ _ _ B (hn.only.trans (Only.app [] _ _) (fun j hj=>hj) fun j hj _=>hj) (by simp) (by simp) (by omega) (by omega) (by omega) (hn.own.frame (Only.app [] _ _) fun j _ hj=>absurd hj List.not_mem_nil) hsol hB fun j hj=>?_
        have:=hlt j hj;have:=hfr j hj;omega
      · exact lg hone
      · refine mkW _ _ _ B (hn.only.trans (Only.app [] _ _) (fun j hj=>hj) fun j hj _=>hj) (by simp) (by simp) (by omega) (by omega) (by omega) (hn.own.frame (Only.app [] _ _) fun j _ hj=>absurd hj List.not_mem_nil) hsol hB fun j hj=>?_
        have:=hlt j hj;have:=hfr j hj;omega
    · refine ⟨?_, ?_⟩
      · refine (hclA _ (oH2.trans (Only.app [] _ _) (fun j hj=>hj) fun j hj _=>hj)).mono ?_
        rintro r H' ⟨B,rfl,⟨hB,hsol⟩,hn⟩
        obtain ⟨hfl,hone⟩:=lf hn
        have hl:=hn.only.len
        simp only [List.length_append,List.length_cons,List.length_nil] at hl
        have hc0:H'[G2.length]? = some (.row 2 [[.d (.int .i64 0),.d .nilsl]]):=(hn.only.at_ _ (by simp) List.not_mem_nil).trans (by simp)
        have hc1:∀ R:Heap,(H'++R)[G2.length]? = some (.row 2 [[.d (.int .i64 0),.d .nilsl]]):=fun R=>(List.getElem?_append_left (by omega)).trans hc0
        have hc2:∀ (R:Heap) p,(H'++R).set G2.length p=H'.set G2.length p++R:=fun R p=>List.set_append_left _ _ (by omega)
        simp [K_145h_f,K_145h_e,K_145h_g,-V.flat,-V.one,one_int,one_bool,one_str,one_nilp,one_rp,one_nilsl,one_ro,one_cl,one_nilf,one_nili,one_ifc,one_ptr,one_sl,one_clo,flat_d,flat_ptr,flat_sl,flat_clo,flat_agg,-decA,decA_int,decA_bool,decA_str,hfl,hone,hc0,hc1,hc2]
        obtain ⟨X,hX⟩:=hn.only.tail
        obtain ⟨o1,o2,o3⟩:=hp (H'.set G2.length (.row 2 [[.d (.int .i64 B.params_),B.blocks_.v]])++[(.row 2 [[.d (.int .i64 F.params_),.d .nilsl]])]) hn (fun j h1 h2=>by simp only [List.length_cons,List.length_nil] at h1;rw [List.getElem?_append_left (by simpa using h2),List.getElem?_set_ne (by omega)]) (by simp)
        refine ⟨⟨X,by rw [hX];simp only [List.append_assoc,List.cons_append,List.nil_append]⟩,_,_,B,_,mkW _ _ _ B o1 (by rw [List.getElem?_append_left (by simp;omega)];exact List.getElem?_set_self (by omega)) (by rw [List.getElem?_append_right (by simp)];simp) (by omega) (by omega) (by omega) o2 hsol hB fun j hj=>?_,HLe.refl _,rfl,rfl⟩
        have:=o3 j hj
        simp only [List.length_cons,List.length_nil] at this
        omega
      · refine (hclA _ (oH2.trans (Only.app [] _ _) (fun j hj=>hj) fun j hj _=>hj)).mono ?_
        rintro r H' ⟨B,rfl,⟨hB,hsol⟩,hn⟩
        obtain ⟨hfl,hone⟩:=lf hn
        have hl:=hn.only.len
        simp only [List.length_append,List.length_cons,List.length_nil] at hl
        have hc0:H'[G2.length]? = some (.row 2 [[.d (.int .i64 0),.d .nilsl]]):=(hn.only.at_ _ (by simp) List.not_mem_nil).trans (by simp)
        have hc2:H'[G2.length + 1]? = some (.row 2 [[.d (.int .i64 0),.d .nilsl]]):=(hn.only.at_ _ (by simp) List.not_mem_nil).trans (by simp)
        simp [K_145h_f,K_145h_e,K_145h_g,-V.flat,-V.one,one_int,one_bool,one_str,one_nilp,one_rp,one_nilsl,one_ro,one_cl,one_nilf,one_nili,one_ifc,one_ptr,one_sl,one_clo,flat_d,flat_ptr,flat_sl,flat_clo,flat_agg,-decA,decA_int,decA_bool,decA_str,hfl,hone,hc0,hc2]
        obtain ⟨X,hX⟩:=hn.only.tail
        obtain ⟨o1,o2,o3⟩:=hp ((H'.set G2.length (.row 2 [[.d (.int .i64 B.params_),B.blocks_.v]])).set (G2.length + 1) (.row 2 [[.d (.int .i64 F.params_),.d .nilsl]])) hn (fun j h1 h2=>by simp only [List.length_cons,List.length_nil] at h1;rw [List.getElem?_set_ne (by omega),List.getElem?_set_ne (by omega)]) (by simp)
        refine ⟨⟨X,by rw [hX];simp only [List.append_assoc,List.cons_append,List.nil_append]⟩,_,_,B,_,mkW _ _ _ B o1 (by rw [List.getElem?_set_ne (by omega)];exact List.getElem?_set_self (by omega)) (by exact List.getElem?_set_self (by simp;omega)) (by omega) (by omega) (by omega) o2 hsol hB fun j hj=>?_,HLe.refl _,rfl,rfl⟩
        have:=o3 j hj
        simp only [List.length_cons,List.length_nil] at this
        omega
    · refine ⟨?_, ?_⟩
      · refine (hclA _ (oH2.trans (Only.app [] _ _) (fun j hj=>hj) fun j hj _=>hj)).mono ?_
        rintro r H' ⟨B,rfl,⟨hB,hsol⟩,hn⟩
        obtain ⟨hfl,hone⟩:=lf hn
        have hl:=hn.only.len
        simp only [List.length_append,List.length_cons,List.length_nil] at hl
        have hc0:H'[G2.length]? = some (.row 2 [[.d (.int .i64 0),.d .nilsl]]):=(hn.only.at_ _ (by simp) List.not_mem_nil).trans (by simp)
        have hc1:∀ R:Heap,(H'++R)[G2.length]? = some (.row 2 [[.d (.int .i64 0),.d .nilsl]]):=fun R=>(List.getElem?_append_left (by omega)).trans hc0
        have hc2:∀ (R:Heap) p,(H'++R).set G2.length p=H'.set G2.length p++R:=fun R p=>List.set_append_left _ _ (by omega)
        simp [K_145h_f,K_145h_e,K_145h_g,-V.flat,-V.one,one_int,one_bool,one_str,one_nilp,one_rp,one_nilsl,one_ro,one_cl,one_nilf,one_nili,one_ifc,one_ptr,one_sl,one_clo,flat_d,flat_ptr,flat_sl,flat_clo,flat_agg,-decA,decA_int,decA_bool,decA_str,hfl,hone,hc0,hc1,hc2]
        obtain ⟨X,hX⟩:=hn.only.tail
        obtain ⟨o1,o2,o3⟩:=hp (H'.set G2.length (.row 2 [[.d (.int .i64 F.params_),.d .nilsl]])++[(.row 2 [[.d (.int .i64 B.params_),B.blocks_.v]])]) hn (fun j h1 h2=>by simp only [List.length_cons,List.length_nil] at h1;rw [List.getElem?_append_left (by simpa using h2),List.getElem?_set_ne (by omega)]) (by simp)
        refine ⟨⟨X,by rw [hX];simp only [List.append_assoc,List.cons_append,List.nil_append]⟩,_,_,B,_,mkW _ _ _ B o1 (by rw [List.getElem?_append_right (by simp)];simp) (by rw [List.getElem?_append_left (by simp;omega)];exact List.getElem?_set_self (by omega)) (by omega) (by omega) (by omega) o2 hsol hB fun j hj=>?_,HLe.refl _,rfl,rfl⟩
        have:=o3 j hj
        simp only [List.length_cons,List.length_nil] at this
        omega
      · refine (hclA _ (oH2.trans (Only.app [] _ _) (fun j hj=>hj) fun j hj _=>hj)).mono ?_
        rintro r H' ⟨B,rfl,⟨hB,hsol⟩,hn⟩
        obtain ⟨hfl,hone⟩:=lf hn
        have hl:=hn.only.len
        simp only [List.length_append,List.length_cons,List.length_nil] at hl
        have hc0:H'[G2.length]? = some (.row 2 [[.d (.int .i64 0),.d .nilsl]]):=(hn.only.at_ _ (by simp) List.not_mem_nil).trans (by simp)
        have hc2:H'[G2.length + 1]? = some (.row 2 [[.d (.int .i64 0),.d .nilsl]]):=(hn.only.at_ _ (by simp) List.not_mem_nil).trans (by simp)
        simp [K_145h_f,K_145h_e,K_145h_g,-V.flat,-V.one,one_int,one_bool,one_str,one_nilp,one_rp,one_nilsl,one_ro,one_cl,one_nilf,one_nili,one_ifc,one_ptr,one_sl,one_clo,flat_d,flat_ptr,flat_sl,flat_clo,flat_agg,-decA,decA_int,decA_bool,decA_str,hfl,hone,hc0,hc2]
        obtain ⟨X,hX⟩:=hn.only.tail
        obtain ⟨o1,o2,o3⟩:=hp ((H'.set (G2.length + 1) (.row 2 [[.d (.int .i64 B.params_),B.blocks_.v]])).set G2.length (.row 2 [[.d (.int .i64 F.params_),.d .nilsl]])) hn (fun j h1 h2=>by simp only [List.length_cons,List.length_nil] at h1;rw [List.getElem?_set_ne (by omega),List.getElem?_set_ne (by omega)]) (by simp)
        refine ⟨⟨X,by rw [hX];simp only [List.append_assoc,List.cons_append,List.nil_append]⟩,_,_,B,_,mkW _ _ _ B o1 (by rw [List.getElem?_set_ne (by omega)];exact List.getElem?_set_self (by omega)) (by exact List.getElem?_set_self (by simp;omega)) (by omega) (by omega) (by omega) o2 hsol hB fun j hj=>?_,HLe.refl _,rfl,rfl⟩
        have:=o3 j hj
        simp only [List.length_cons,List.length_nil] at this
        omega
  rintro ⟨t13,t14,B,G3⟩ hB
  simp only [] at hB ⊢
  -- all uses get their new numbers
  refine W_seqR (α:=AFunc × Heap) (fun a=>[(0,.ptr w 5 0 0),(1,.clo fv cv),(2,.clo fb cb),(6,.ptr H.length 2 0 0),(8,.sl br 1 0 nb),(13,.ptr t13 2 0 0),(14,.ptr t14 2 0 0)]) (fun a=>a.2)
    (fun a=>WB H F pv pb tot nb c7 nr br (mpF (fun x=>numW F pv pb x.toNat) F) t13 t14 a.1 a.2) ?_ ?_
  · have hrow:=hB.clone
    have hBF:=hB.era
    refine W_run mixed ⟨[],[K_145h],[48,91],171,H.length,[0,1,2,6,7,8,9,10,11,12,13,14,15,16,17,18,19,20,39,40,41,43,55,80,81,82,87,109,110,111,112,118,121,122,123,124,134,144,145,146],[41,43,55,60,82,87,112,118,124,134,146]⟩ (fun | 1=>[0,1,2,5,6,7,8,12,13,14,15,3,9,10,16,4,11,17,18,19,20,21] | 18=>[0,1,2,5,6,7,8,3,9,10,4,11,12,13,14] | 35=>[0,2,3,4,6,1,5,7,8,9,10,11,12,13,14] | _=>[]) (by kernel_rfl) ?_
    simp only [stripX,stripOps,pickOps]
    simp [K_145h_f,K_145h_e,K_145h_g,-V.flat,-V.one,one_int,one_bool,one_str,one_nilp,one_rp,one_nilsl,one_ro,one_cl,one_nilf,one_nili,one_ifc,one_ptr,one_sl,one_clo,flat_d,flat_ptr,flat_sl,flat_clo,flat_agg,-decA,decA_int,decA_bool,decA_str]
    refine (usesT (without1_wr F pv pb tot c7 nr) (A:=B) (idf:=t13) hrow ⟨hB.cell,hB.rn⟩ hB.own (fun q=>(hB.fr _ q).2.2.2.2.1 rfl) (fun k hk=>?_) (fun b hb x hx=>?_) (smallA_of (good_small hg) hBF)).mono ?_
    · rcases List.mem_cons.1 hk with rfl | hk
      · exact ⟨fun q=>(hB.fr _ q).2.1 rfl,(List.getElem?_eq_some_iff.1 hB.cell).1⟩
      · rw [List.mem_singleton.1 hk]
        exact ⟨fun q=>(hB.fr _ q).2.2.1 rfl,(List.getElem?_eq_some_iff.1 hB.rn).1⟩
    · rw [hBF] at hb
      have:=good_all hg hb x hx
      omega
    rintro r G4 ⟨rfl,bs,hm,he,hsb⟩
    simp [K_145h_f,K_145h_e,K_145h_g,-V.flat,-V.one,one_int,one_bool,one_str,one_nilp,one_rp,one_nilsl,one_ro,one_cl,one_nilf,one_nili,one_ifc,one_ptr,one_sl,one_clo,flat_d,flat_ptr,flat_sl,flat_clo,flat_agg,-decA,decA_int,decA_bool,decA_str]
    have hv:bs.v=B.blocks_.v:=List.head_eq_of_cons_eq hm.cells
    have hlen:bs.l.length=B.blocks_.l.length:=by
      have:=congrArg List.length he
      rw [List.length_map] at this
      simpa [Tr.era] using this
    have kp:∀ j P,G3[j]? = some P→j ∉ ids B→G4[j]? = some P:=fun j P h hn=>(hm.only.at_ j (List.getElem?_eq_some_iff.1 h).1 hn).trans h
    refine ⟨⟨B.params_,bs⟩,G4,⟨kp _ _ hB.cell fun q=>(hB.fr _ q).2.1 rfl,kp _ _ hB.rn fun q=>(hB.fr _ q).2.2.1 rfl,kp _ _ hB.rb fun q=>(hB.fr _ q).2.2.2.1 rfl,kp _ _ hB.res fun q=>Nat.lt_irrefl _ (hB.fr _ q).1,
      (kp _ _ hB.clone fun q=>(hB.fr _ q).2.2.2.2.1 rfl).trans (by rw [← hv]),kp _ _ hB.out fun q=>(hB.fr _ q).2.2.2.2.2 rfl,AFunc.own hm.own,⟨?_,hsb hB.sol.2⟩, ?_,hB.only.trans hm.only (fun j hj=>hj) fun j hj hl=>absurd (hB.fr j hj).1 (by omega),hB.ge,hB.ne,fun j hj=>hB.fr j ?_⟩,HLe.refl _⟩
    · show bs.v=.sl bs.v.slId 5 0 bs.l.length
      rw [hv,hlen];exact hB.sol.1
    · show Func.mk B.params_ (Tr.era bs)=_
      rw [he,← hBF];rfl
    · have:ids bs=ids B.blocks_:=hm.ids
      exact this ▸ hj
  rintro ⟨B,G4⟩ hB
  simp only [] at hB ⊢
  obtain ⟨q1,q2,q3,q4,q5,q6,q7⟩:=hB.ne
  have hBe:=hB.era
  have hlB:B.blocks_.l.length=nb:=by
    have:=congrArg (fun F:Func=>F.blocks_.length) hBe
    simpa [Tr.era,mpF,hlF,hnb] using this
  have hcl:=hB.clone
  have hsv:=hB.sol.1
  rw [hsv,hlB] at hcl
  have hBp:(B.blocks_.id,Place.row 5 (B.blocks_.l.map Tr.cells))∈Tr.pls B.blocks_:=by rw [pls_S,plsS_sl hsv];exact List.mem_cons_self
  have hBi:B.blocks_.id∈ids B:=List.mem_map.2 ⟨_,hBp,rfl⟩
  have hBr:G4[B.blocks_.id]? = some (.row 5 (B.blocks_.l.map Tr.cells)):=hB.own.at_ _ hBp
  have hidB:ids B.blocks_=B.blocks_.id :: B.blocks_.l.flatMap ids:=ids_sl hsv
  have hBnd:B.blocks_.id ∉ B.blocks_.l.flatMap ids:=by
    have:(ids B.blocks_).Nodup:=hB.own.nd
    rw [hidB] at this
    exact (List.nodup_cons.1 this).1
  have hsub:∀ j∈B.blocks_.l.flatMap ids,j∈ids B:=fun j hj=>by
    show j∈ids B.blocks_
    rw [hidB];exact List.mem_cons_of_mem _ hj
  have hdV:∀ G',Only [] H G'→decA (α:=Ptr View) G' (.ptr w 5 0 0)=(True,⟨viewD F⟩):=fun G' h'=>by
    have kp:∀ j P,H[j]? = some P→G'[j]? = some P:=fun j P q=>(h'.at_ j (List.getElem?_eq_some_iff.1 q).1 List.not_mem_nil).trans q
    have ow:Own G' A:=hO.frame h' fun j _ hj=>absurd hj List.not_mem_nil
    have:=vw_dec2 (A:=A) (F:=F) (w:=w) (f:=f) (b:=b) (G:=G') (n0:=0) ⟨kp _ _ hw.view,kp _ _ hw.fr,kp _ _ hw.br,hw.ge⟩ hs.1 hpF (l:=A.blocks_.l) (AFunc.own_blocks_ ow) rfl
    rw [this,← hF];rfl
  refine W_run mixed ⟨[],[K_145h],[48,91],171,H.length,[0,1,2,6,7,8,9,10,11,12,13,14,15,16,17,18,19,20,39,40,41,43,55,80,81,82,87,109,110,111,112,118,121,122,123,124,134,144,145,146],[41,43,55,60,82,87,112,118,124,134,146]⟩ (fun | 1=>[0,1,2,5,6,7,8,12,13,14,15,3,9,10,16,4,11,17,18,19,20,21] | 18=>[0,1,2,5,6,7,8,3,9,10,4,11,12,13,14] | 35=>[0,2,3,4,6,1,5,7,8,9,10,11,12,13,14] | _=>[]) (by kernel_rfl) ?_
  simp only [stripX,stripOps,pickOps]
  simp [K_145h_f,K_145h_e,K_145h_g,-V.flat,-V.one,one_int,one_bool,one_str,one_nilp,one_rp,one_nilsl,one_ro,one_cl,one_nilf,one_nili,one_ifc,one_ptr,one_sl,one_clo,flat_d,flat_ptr,flat_sl,flat_clo,flat_agg,-decA,decA_int,decA_bool,decA_str,hcl]
  refine blocksW (H:=H) (A:=A) (F:=F) (w:=w) hg hdV (nb:=nb) (br:=br) (t14:=t14) (by rw [hlF,hnb]) hv hb hKv hKb hEv hEb ⟨v1,v2,v3⟩ ⟨b1,b2,b3⟩ (bs:=B.blocks_) hB.sol.2 ?_ ⟨hB.ge.2,q7,fun e=>(hB.fr _ hBi).2.2.2.2.2 e.symm,ge3,(hB.fr _ hBi).1⟩
    (s6:=.ptr H.length 2 0 0) (s13:=.ptr t13 2 0 0) rfl ?_ ⟨?_,hBr,hB.out,hB.rb,hB.res,.inl ⟨rfl,rfl⟩, ?_,hB.only,rfl,Nat.zero_le _⟩ fun l' H5 vo lo e6 e14 hE hSE=>?_
  · exact congrArg Func.blocks_ hBe
  · simp
  · rw [List.nil_append,List.drop_zero]
    exact (AFunc.own_blocks_ hB.own).elems
  · intro j hj
    rw [List.nil_append,List.drop_zero] at hj
    have:=hB.fr j (hsub j hj)
    exact ⟨this.1,this.2.2.2.2.2,this.2.2.2.1,fun e=>hBnd (e ▸ hj)⟩
  have eo:=hE.out
  have er:=hE.res
  have lr:=(List.getElem?_eq_some_iff.1 er).1
  have es:∀ p,(H5.set H.length p)[H.length]? = some p:=fun p=>List.getElem?_set_self lr
  have vone:vo.one=true:=by
    rcases hE.vo with ⟨_,rfl⟩ | ⟨id,rfl,_⟩ <;> rfl
  simp [K_145h_f,K_145h_e,K_145h_g,-V.flat,-V.one,one_int,one_bool,one_str,one_nilp,one_rp,one_nilsl,one_ro,one_cl,one_nilf,one_nili,one_ifc,one_ptr,one_sl,one_clo,flat_d,flat_ptr,flat_sl,flat_clo,flat_agg,-decA,decA_int,decA_bool,decA_str,e6,e14,eo,er,es,vone,retQ]
  have hown:=hE.own
  rw [List.drop_of_length_le (by rw [hlB];exact Nat.le_refl _),List.append_nil] at hown
  have hfr:=hE.fr
  rw [List.drop_of_length_le (by rw [hlB];exact Nat.le_refl _),List.append_nil] at hfr
  have oS:Own H5 (⟨vo,lo⟩:AS ABlock)∧∀ j∈ids (⟨vo,lo⟩:AS ABlock),H.length < j:=by
    rcases hE.vo with ⟨p1,p2⟩ | ⟨id,p1,p2,p3,p4,p5,p6,p7,p8⟩
    · subst p1;subst p2
      exact ⟨⟨⟨.inr ⟨rfl,.inl rfl⟩,fun a h=>absurd h List.not_mem_nil⟩,fun q h=>absurd h List.not_mem_nil,List.nodup_nil⟩,fun j hj=>absurd hj List.not_mem_nil⟩
    · subst p1
      rw [List.drop_of_length_le (by rw [hlB];exact Nat.le_refl _),List.append_nil] at p8
      refine ⟨Own.mkS hown p3 p8,fun j hj=>?_⟩
      replace hj:j∈id :: lo.flatMap ids:=(ids_sl (s:=(⟨.sl id 5 0 lo.length,lo⟩:AS ABlock)) rfl) ▸ hj
      rcases List.mem_cons.1 hj with rfl | hj
      · exact p4
      · exact (hfr j hj).1
  refine fin_new (a:=(⟨F.params_,⟨vo,lo⟩⟩:AFunc)) (AFunc.own (oS.1.frame (S:=[H.length]) Only.set fun j hj q=>?_)) ⟨by simp;exact hE.only.len,fun j hj _=>?_⟩ (fun j hj=>Nat.le_of_lt (oS.2 j hj)) fun H' h'=>⟨⟨F.params_,⟨vo,lo⟩⟩,rfl, ?_,h',fun hp=>⟨?_,hSE⟩⟩
  · have:=oS.2 j hj
    rw [List.mem_singleton.1 q] at this
    exact Nat.lt_irrefl _ this
  · rw [List.getElem?_set_ne (by omega)]
    exact hE.only.at_ j hj List.not_mem_nil
  · show Func.mk F.params_ (lo.map Tr.era)=_
    rw [hE.era,withoutF,hlF,hnb]
  · rcases hE.vo with ⟨p1,p2⟩ | ⟨id,p1,_⟩
    · have:=congrArg List.length hE.era
      rw [p1] at this
      unfold withoutF at hp
      rw [hlF,hnb,← this] at hp
      exact absurd hp (by simp)
    · subst p1;rfl
end Go.Proofs.YtbmloeahcdneaaaGreat
