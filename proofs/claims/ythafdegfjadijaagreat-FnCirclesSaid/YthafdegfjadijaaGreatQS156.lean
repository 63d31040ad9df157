/- The loop of a head: the program, walked. No condition. -/
import Derived.Test.YthafdegfjadijaaGreatQS155
namespace Go.Proofs.YthafdegfjadijaaGreat
set_option maxRecDepth 100000
set_option linter.unusedSimpArgs false
set_option linter.unusedVariables false
def stP (bk:List (List Int)) (h:Int) (i:Nat):List Int:=((bk.take i).filter fun e=>decide (e[1]?.getD 0=h)).map fun e=>e[0]?.getD 0
theorem stP_step {bk:List (List Int)} {h:Int} {i:Nat} {e:List Int} (hi:i < bk.length) (he:bk[i]=e):stP bk h (i + 1)=stP bk h i++(if e[1]?.getD 0=h then [e[0]?.getD 0] else []):=by
  unfold stP
  rw [List.take_succ_eq_append_getElem hi,he,List.filter_append,List.map_append]
  congr 1
  by_cases c:e[1]?.getD 0=h
  · rw [if_pos c,List.filter_cons_of_pos (by simpa using c)];rfl
  · rw [if_neg c,List.filter_cons_of_neg (by simpa using c)];rfl
theorem stP_done {bk:List (List Int)} {h:Int} {i:Nat} (hi:bk.length≤i):stP bk h i=(bk.filter fun e=>decide (e[1]?.getD 0=h)).map fun e=>e[0]?.getD 0:=by
  unfold stP;rw [List.take_of_length_le hi]
theorem stP_len (bk:List (List Int)) (h:Int) (i:Nat):(stP bk h i).length≤bk.length:=by
  unfold stP
  rw [List.length_map]
  exact Nat.le_trans (List.length_filter_le ..) (by rw [List.length_take];exact Nat.min_le_right ..)
set_option maxHeartbeats 4000000 in
theorem loopI_own (nx : List (List Int)) (hn : okNext nx) (hp : 0 < nx.length) (hd : Nat) (hh : hd < nx.length) : CallsD Tryz.prog 56 [.d (dIntSS nx), .d (.int .i64 hd)] [] fun r H' => r = .d (lpD nx hd) := by
  have h8:=hn.1
  obtain ⟨bk,hbk⟩:∃ bk,bk=bkTo (bkN nx) nx.length:=⟨_,rfl⟩
  have bk8:bk.length≤64:=by have:=bkTo_len (bkN nx) 8 (bkN_len hn) nx.length;rw [hbk];omega
  have hst:stN nx hd=stP bk hd bk.length:=by rw [stP_done (Nat.le_refl _),hbk];rfl
  have bkm:∀ e∈bk,∃ a b:Int,e=[a,b]∧0≤a∧a < nx.length:=fun e he=>by
    rw [hbk] at he
    obtain ⟨k,x,h1,h2,rfl⟩:=mem_bkTo.1 he
    exact ⟨_,_,rfl,by omega,by omega⟩
  refine calls_of Tryz.func56 en_56 rfl (of_decide_eq_true rfl) (W_run mixed ⟨[K_51,K_39],[K_51h,K_39h],[36,76],70,0,[0,1,4,5,7,8,9,11,12,15,16,17,18,25,35,45,46,47,48],[18,25,35,48,61]⟩ (fun | 10=>[0,1,2,3,5,4,6] | _=>[]) (by kernel_rfl) ?_)
  simp only [Tryz.f56,stripX,stripOps,pickOps]
  simp [K_51_f,K_51_e,K_39_f,K_39_e,K_51h_f,K_51h_e,K_39h_f,K_39h_e,K_51h_g,K_39h_g,-V.flat,-V.one,one_int,one_bool,one_str,one_nilp,one_rp,one_nilsl,one_ro,one_cl,one_nilf,one_nili,one_ifc,one_ptr,one_sl,one_clo,flat_d,flat_ptr,flat_sl,flat_clo,flat_agg,hn,hp,← hbk]
  refine W_loopH (α:=Nat × Nat × Heap) (fun a=>[(0,.d (dIntSS nx)),(1,.d (.int .i64 hd)),(4,.d .nilsl),(5,.sl a.2.1 1 0 (stP bk hd a.1).length),(15,.d (dIntSS bk)),(16,.d (.int .i64 bk.length)),(17,.d (.int .i64 a.1))]) (fun a=>a.2.2)
    (fun a=>a.1≤bk.length∧a.2.2[a.2.1]? = some (.row 1 (rI (stP bk hd a.1)))) (fun a=>bk.length - a.1) (0,0,[.row 1 []]) ?_ ⟨Nat.zero_le _,rfl⟩ ?_
  · simp [stP]
  rintro ⟨i,id,G⟩ ⟨hi,hr⟩
  dsimp only at hi hr
  have lid:=(List.getElem?_eq_some_iff.1 hr).1
  have hml:=stP_len bk hd i
  by_cases h:i < bk.length
  · obtain ⟨e,he⟩:∃ e,e=bk[i]?.getD []:=⟨_,rfl⟩
    have e0:=he.symm
    have e1:∀ h:i < bk.length,bk[i]=e:=fun h=>by rw [he,List.getElem?_eq_getElem h];rfl
    have st:=stP_step (h:=(hd:Int)) h (e1 h)
    obtain ⟨a,b,rfl,a0,a1⟩:=bkm e (by rw [← e1 h];exact List.getElem_mem h)
    have wi:IntKind.i64.wrap ((i:Int) + 1)=((i + 1:Nat):Int):=by rw [wrap_id] <;> omega
    obtain ⟨m,hm⟩:∃ m,m=stP bk hd i:=⟨_,rfl⟩
    rw [← hm] at st hr hml ⊢
    by_cases hb:b=(hd:Int)
    · have st2:stP bk hd (i + 1)=m++[a]:=by rw [st];simp [hb]
      have hr':∀ R:Heap,(G++R)[id]? = some (.row 1 (rI m)):=fun R=>(List.getElem?_append_left lid).trans hr
      have hset:∀ (R:Heap) p,(G++R).set id p=G.set id p++R:=fun R p=>List.set_append_left _ _ lid
      refine W_run mixed ⟨[K_51,K_39],[K_51h,K_39h],[36,76],70,0,[0,1,4,5,7,8,9,11,12,15,16,17,18,25,35,45,46,47,48],[18,25,35,48,61]⟩ (fun | 10=>[0,1,2,3,5,4,6] | _=>[]) (by kernel_rfl) ?_
      simp only [stripX,stripOps,pickOps]
      simp [K_51_f,K_51_e,K_39_f,K_39_e,K_51h_f,K_51h_e,K_39h_f,K_39h_e,K_51h_g,K_39h_g,-V.flat,-V.one,one_int,one_bool,one_str,one_nilp,one_rp,one_nilsl,one_ro,one_cl,one_nilf,one_nili,one_ifc,one_ptr,one_sl,one_clo,flat_d,flat_ptr,flat_sl,flat_clo,flat_agg,h,e0,e1,hb,hr',hset,wi]
      exact ⟨⟨by omega,by omega⟩,i + 1,G.length + 1,_,⟨by omega,by rw [st2,List.getElem?_append_right (by simp),List.length_set,show G.length + 1 - G.length=1 by omega];simp [rI]⟩,by omega,rfl,⟨rfl,by rw [st2];simp⟩,rfl⟩
    · have st2:stP bk hd (i + 1)=m:=by rw [st];simp [hb]
      refine W_run mixed ⟨[K_51,K_39],[K_51h,K_39h],[36,76],70,0,[0,1,4,5,7,8,9,11,12,15,16,17,18,25,35,45,46,47,48],[18,25,35,48,61]⟩ (fun | 10=>[0,1,2,3,5,4,6] | _=>[]) (by kernel_rfl) ?_
      simp only [stripX,stripOps,pickOps]
      simp [K_51_f,K_51_e,K_39_f,K_39_e,K_51h_f,K_51h_e,K_39h_f,K_39h_e,K_51h_g,K_39h_g,-V.flat,-V.one,one_int,one_bool,one_str,one_nilp,one_rp,one_nilsl,one_ro,one_cl,one_nilf,one_nili,one_ifc,one_ptr,one_sl,one_clo,flat_d,flat_ptr,flat_sl,flat_clo,flat_agg,h,e0,e1,hb,wi]
      exact ⟨i + 1,id,_,⟨by omega,by rw [st2];exact hr⟩,by omega,rfl,⟨rfl,by rw [st2]⟩,rfl⟩
  · have ei:i=bk.length:=by omega
    subst ei
    rw [← hst] at hr ⊢
    by_cases hs0:stN nx hd=[]
    · refine W_run mixed ⟨[K_51,K_39],[K_51h,K_39h],[36,76],70,0,[0,1,4,5,7,8,9,11,12,15,16,17,18,25,35,45,46,47,48],[18,25,35,48,61]⟩ (fun | 10=>[0,1,2,3,5,4,6] | _=>[]) (by kernel_rfl) ?_
      simp only [stripX,stripOps,pickOps]
      simp [K_51_f,K_51_e,K_39_f,K_39_e,K_51h_f,K_51h_e,K_39h_f,K_39h_e,K_51h_g,K_39h_g,-V.flat,-V.one,one_int,one_bool,one_str,one_nilp,one_rp,one_nilsl,one_ro,one_cl,one_nilf,one_nili,one_ifc,one_ptr,one_sl,one_clo,flat_d,flat_ptr,flat_sl,flat_clo,flat_agg,h,hs0,retQ]
      refine ⟨G, ?_⟩
      rw [show lpD nx hd=.nilsl from if_pos hs0]
      exact Fin.same (Nat.zero_le _)
    · have hsl:(stN nx hd).length ≠ 0:=fun q=>hs0 (List.length_eq_zero_iff.1 q)
      obtain ⟨all,hall⟩:∃ all,all=listB (rchB nx 0 (-1)):=⟨_,rfl⟩
      have rl:(rchB nx 0 (-1)).length=nx.length:=by simp [rchB]
      have al8:all.length≤8:=by
        have:=numsOf_len (fun k=>(rchB nx 0 (-1))[k]?.getD false) (rchB nx 0 (-1)).length
        rw [hall,listB];omega
      have allr:∀ x∈all,0≤x∧x < nx.length:=fun x hx=>by
        rw [hall] at hx
        have:=listB_rchB.1 hx
        exact ⟨this.1,this.2.1⟩
      have str:∀ s∈stN nx hd,0≤s∧s < nx.length:=fun s hs=>by
        rw [stN,← hbk] at hs
        obtain ⟨e,he,rfl⟩:=List.mem_map.1 hs
        obtain ⟨a,b,rfl,a0,a1⟩:=bkm e (List.mem_filter.1 he).1
        exact ⟨a0,a1⟩
      have stg:Enc.good (stN nx hd):=⟨by have:=stP_len bk hd bk.length;rw [hst];omega,fun s hs=>by have:=str s hs;exact ⟨by omega,by omega⟩⟩
      have e0:(List.replicate nx.length [V.d (.bool false)]).set hd [V.d (.bool true)]=rB (lpB nx hd 0):=by
        rw [← lpB_zero,rB,List.map_set,List.map_replicate]
      obtain ⟨m,hm⟩:∃ m,m=stN nx hd:=⟨_,rfl⟩
      rw [← hm] at hr hs0 hsl str stg ⊢
      have hr':∀ R:Heap,(G++R)[id]? = some (.row 1 (rI m)):=fun R=>(List.getElem?_append_left lid).trans hr
      refine W_run mixed ⟨[K_51,K_39],[K_51h,K_39h],[36,76],70,0,[0,1,4,5,7,8,9,11,12,15,16,17,18,25,35,45,46,47,48],[18,25,35,48,61]⟩ (fun | 10=>[0,1,2,3,5,4,6] | _=>[]) (by kernel_rfl) ?_
      simp only [stripX,stripOps,pickOps]
      simp [K_51_f,K_51_e,K_39_f,K_39_e,K_51h_f,K_51h_e,K_39h_f,K_39h_e,K_51h_g,K_39h_g,-V.flat,-V.one,one_int,one_bool,one_str,one_nilp,one_rp,one_nilsl,one_ro,one_cl,one_nilf,one_nili,one_ifc,one_ptr,one_sl,one_clo,flat_d,flat_ptr,flat_sl,flat_clo,flat_agg,h,hs0,hsl,hn,hp,hh]
      refine ⟨by omega, ?_⟩
      rw [aft_call]
      refine ((listOf_c (rchB nx 0 (-1)) (by omega)).calls rfl).mono ?_
      rw [e0,← hall]
      rintro r H1 ⟨rfl,rfl⟩
      simp [K_51_f,K_51_e,K_39_f,K_39_e,K_51h_f,K_51h_e,K_39h_f,K_39h_e,K_51h_g,K_39h_g,-V.flat,-V.one,one_int,one_bool,one_str,one_nilp,one_rp,one_nilsl,one_ro,one_cl,one_nilf,one_nili,one_ifc,one_ptr,one_sl,one_clo,flat_d,flat_ptr,flat_sl,flat_clo,flat_agg,hh]
      refine W_loopH (α:=Nat × Heap) (fun a=>[(0,.d (dIntSS nx)),(1,.d (.int .i64 hd)),(4,.d .nilsl),(5,.sl id 1 0 m.length),(9,.sl G.length 1 0 nx.length),(45,.d (dIntS all)),(46,.d (.int .i64 all.length)),(47,.d (.int .i64 a.1))]) (fun a=>a.2)
        (fun a=>a.1≤all.length∧a.2[id]? = some (.row 1 (rI m))∧a.2[G.length]? = some (.row 1 (rB (lpB nx hd a.1)))) (fun a=>all.length - a.1) (0,G++[.row 1 (rB (lpB nx hd 0))]) ?_ ⟨Nat.zero_le _,hr' _,by rw [List.getElem?_append_right (Nat.le_refl _),Nat.sub_self];rfl⟩ ?_
      · simp
      rintro ⟨j,G2⟩ ⟨hj,hm2,hb2⟩
      dsimp only at hj hm2 hb2
      have lm2:=(List.getElem?_eq_some_iff.1 hm2).1
      have lb2:=(List.getElem?_eq_some_iff.1 hb2).1
      by_cases hja:j < all.length
      · obtain ⟨x,hx⟩:∃ x,x=all[j]?.getD 0:=⟨_,rfl⟩
        have x0:=hx.symm
        have x1:∀ h:j < all.length,all[j]=x:=fun h=>by rw [hx,List.getElem?_eq_getElem h];rfl
        obtain ⟨p0,p1⟩:=allr x (by rw [← x1 hja];exact List.getElem_mem hja)
        obtain ⟨q,rfl⟩:=Int.eq_ofNat_of_zero_le p0
        have hq:q < nx.length:=by omega
        have wj:IntKind.i64.wrap ((j:Int) + 1)=((j + 1:Nat):Int):=by rw [wrap_id] <;> omega
        have stp:=lpB_step (nx:=nx) (h:=(hd:Int)) (j:=j) (x:=q) (by rw [← hall,List.getElem?_eq_getElem hja,x1 hja])
        obtain ⟨B,hB⟩:∃ B,B=lpB nx hd j:=⟨_,rfl⟩
        have bl:B.length=nx.length:=by rw [hB,lpB_len]
        rw [← hB] at hb2 stp
        have hqB:q < B.length:=by omega
        obtain ⟨bt,hbt⟩:∃ bt,bt=B[q]?.getD false:=⟨_,rfl⟩
        have g1:∀ h:q < B.length,B[q]=bt:=fun h=>by rw [hbt,List.getElem?_eq_getElem h];rfl
        rw [← hbt] at stp
        have rR:∀ R:Heap,(G2++R)[G.length]? = some (.row 1 (rB B)):=fun R=>(List.getElem?_append_left lb2).trans hb2
        have sR:∀ (R:Heap) P,(G2++R).set G.length P=G2.set G.length P++R:=fun R P=>List.set_append_left _ _ lb2
        have rS:∀ v:Bool,(List.map (fun n:Bool=>[V.d (.bool n)]) B).set q [V.d (.bool v)]=rB (B.set q v):=fun v=>rB_set B q v
        have fin2:∀ (v:Bool) (R:Heap),rB (B.set q v)=rB (lpB nx hd (j + 1))→(G2.set G.length (.row 1 (rB (B.set q v)))++R)[id]? = some (.row 1 (rI m))∧(G2.set G.length (.row 1 (rB (B.set q v)))++R)[G.length]? = some (.row 1 (rB (lpB nx hd (j + 1)))):=fun v R e=>by
          refine ⟨?_, ?_⟩
          · rw [List.getElem?_append_left (by simpa using lm2),List.getElem?_set_ne (by omega)];exact hm2
          · rw [List.getElem?_append_left (by simpa using lb2),List.getElem?_set_self lb2,e]
        cases bt with
        | true =>
          rw [Bool.true_or] at stp
          refine W_run mixed ⟨[K_51,K_39],[K_51h,K_39h],[36,76],70,0,[0,1,4,5,7,8,9,11,12,15,16,17,18,25,35,45,46,47,48],[18,25,35,48,61]⟩ (fun | 10=>[0,1,2,3,5,4,6] | _=>[]) (by kernel_rfl) ?_
          simp only [stripX,stripOps,pickOps]
          simp [K_51_f,K_51_e,K_39_f,K_39_e,K_51h_f,K_51h_e,K_39h_f,K_39h_e,K_51h_g,K_39h_g,-V.flat,-V.one,one_int,one_bool,one_str,one_nilp,one_rp,one_nilsl,one_ro,one_cl,one_nilf,one_nili,one_ifc,one_ptr,one_sl,one_clo,flat_d,flat_ptr,flat_sl,flat_clo,flat_agg,hja,x0,x1,hn,p1,rR,sR,bl,hqB,hq,g1,← hbt,rS,wj,-List.map_set]
          exact ⟨j + 1,_,⟨by omega,fin2 true _ (by rw [stp])⟩,by omega,rfl,rfl⟩
        | false =>
          rw [Bool.false_or] at stp
          refine W_run mixed ⟨[K_51,K_39],[K_51h,K_39h],[36,76],70,0,[0,1,4,5,7,8,9,11,12,15,16,17,18,25,35,45,46,47,48],[18,25,35,48,61]⟩ (fun | 10=>[0,1,2,3,5,4,6] | _=>[]) (by kernel_rfl) ?_
          simp only [stripX,stripOps,pickOps]
          simp [K_51_f,K_51_e,K_39_f,K_39_e,K_51h_f,K_51h_e,K_39h_f,K_39h_e,K_51h_g,K_39h_g,-V.flat,-V.one,one_int,one_bool,one_str,one_nilp,one_rp,one_nilsl,one_ro,one_cl,one_nilf,one_nili,one_ifc,one_ptr,one_sl,one_clo,flat_d,flat_ptr,flat_sl,flat_clo,flat_agg,hja,x0,x1,hn,p1,rR,sR,bl,hqB,hq,g1,← hbt,rS,wj,-List.map_set]
          have tol:(rchB nx (q:Int) hd).length=nx.length:=by simp [rchB]
          rw [aft_call]
          refine (anyTo_own (sid:=id) (c:=G2.length) (l:=m) (bits:=rchB nx (q:Int) hd) stg (fun s hs=>by rw [tol];exact str s hs) ((List.getElem?_append_left lm2).trans hm2) (by rw [List.getElem?_append_right (Nat.le_refl _),Nat.sub_self];rfl)).mono ?_
          rintro r H1 ⟨rfl,rfl⟩
          rw [hm]
          obtain ⟨v,hv⟩:∃ v,v=(stN nx hd).any fun s=>(rchB nx (q:Int) hd)[s.toNat]?.getD false:=⟨_,rfl⟩
          rw [← hv] at stp ⊢
          simp [K_51_f,K_51_e,K_39_f,K_39_e,K_51h_f,K_51h_e,K_39h_f,K_39h_e,K_51h_g,K_39h_g,-V.flat,-V.one,one_int,one_bool,one_str,one_nilp,one_rp,one_nilsl,one_ro,one_cl,one_nilf,one_nili,one_ifc,one_ptr,one_sl,one_clo,flat_d,flat_ptr,flat_sl,flat_clo,flat_agg,rR,sR,bl,hqB,hq,rS,wj,-List.map_set]
          rw [← hm]
          exact ⟨j + 1,_,⟨by omega,fin2 v _ (by rw [stp])⟩,by omega,rfl,rfl⟩
      · have e:=lpB_done (nx:=nx) (h:=(hd:Int)) (j:=j) (by rw [← hall];omega)
        have bl:=lpB_len nx hd j
        refine W_run mixed ⟨[K_51,K_39],[K_51h,K_39h],[36,76],70,0,[0,1,4,5,7,8,9,11,12,15,16,17,18,25,35,45,46,47,48],[18,25,35,48,61]⟩ (fun | 10=>[0,1,2,3,5,4,6] | _=>[]) (by kernel_rfl) ?_
        simp only [stripX,stripOps,pickOps]
        simp [K_51_f,K_51_e,K_39_f,K_39_e,K_51h_f,K_51h_e,K_39h_f,K_39h_e,K_51h_g,K_39h_g,-V.flat,-V.one,one_int,one_bool,one_str,one_nilp,one_rp,one_nilsl,one_ro,one_cl,one_nilf,one_nili,one_ifc,one_ptr,one_sl,one_clo,flat_d,flat_ptr,flat_sl,flat_clo,flat_agg,hja]
        rw [aft_call,← bl]
        refine (listOf_atB hb2 (by omega)).mono ?_
        rintro r H2 ⟨rfl,k,rfl⟩
        rw [e]
        have ed:lpD nx hd=dIntS (lpL nx hd):=if_neg (by rw [← hm];exact hs0)
        rw [← ed]
        have ld:(V.d (lpD nx hd)).one=true:=by rw [ed];rfl
        simp [K_51_f,K_51_e,K_39_f,K_39_e,K_51h_f,K_51h_e,K_39h_f,K_39h_e,K_51h_g,K_39h_g,-V.flat,-V.one,one_int,one_bool,one_str,one_nilp,one_rp,one_nilsl,one_ro,one_cl,one_nilf,one_nili,one_ifc,one_ptr,one_sl,one_clo,flat_d,flat_ptr,flat_sl,flat_clo,flat_agg,ld,retQ]
        exact ⟨_,Fin.same (Nat.zero_le _)⟩
theorem loopI_c (nx:List (List Int)) (hd:Int) (h:okNext nx∧0≤hd∧hd < nx.length):PureP Tryz.prog 56 [.d (dIntSS nx),.d (.int .i64 hd)] (· = .d (lpD nx hd)):=by
  obtain ⟨hn,h0,h1⟩:=h
  obtain ⟨q,rfl⟩:=Int.eq_ofNat_of_zero_le h0
  refine PureP.of_own ((loopI_own nx hn (by omega) q (by omega)).mono ?_)
  rintro r H' rfl
  exact Rd1.d
noncomputable def K_56:Ent Tryz.prog:=Ent.p2 (α:=List (List Int)) (β:=Int) 56 (fun nx hd=>okNext nx∧0≤hd∧hd < nx.length) (fun nx hd=>.d (lpD nx hd)) (fun nx hd hc=>loopI_c nx hd hc)
theorem K_56_f:K_56.f=56:=rfl
theorem K_56_e (nx:List (List Int)) (hd:Int):K_56.e [.d (dIntSS nx),.d (.int .i64 hd)]=some (okNext nx∧0≤hd∧hd < nx.length,.d (lpD nx hd),[]):=by unfold K_56;exact Ent.p2_eq (α:=List (List Int)) (β:=Int) nx hd
noncomputable def K_56h:EntH Tryz.prog:=EntH.pk2 (α:=List (List Int)) (β:=Int) 56 (fun nx hd=>okNext nx∧0≤hd∧hd < nx.length) (fun nx hd=>.d (lpD nx hd)) (fun nx hd=>[]) (fun nx hd hc=>PureP.ans (loopI_c nx hd hc))
theorem K_56h_f:K_56h.f=56:=rfl
theorem K_56h_g:K_56h.gro=true:=rfl
theorem K_56h_e {x1 x2:V} {H:Heap}:K_56h.e [x1,x2] H=guardR ((decA (α:=List (List Int)) H x1).1∧(decA (α:=Int) H x2).1) (peekR (okNext (decA (α:=List (List Int)) H x1).2∧0≤(decA (α:=Int) H x2).2∧(decA (α:=Int) H x2).2 < (decA (α:=List (List Int)) H x1).2.length) (.d (lpD (decA (α:=List (List Int)) H x1).2 (decA (α:=Int) H x2).2)) ([]) H):=rfl
noncomputable def loV (F:Func) (h:Int):List Int:=if stN (nextL F.blocks_) h=[] then [] else lpL (nextL F.blocks_) h
noncomputable def loB (F:Func) (h:Int):Bool:=isBlk F h && !decide (stN (nextL F.blocks_) h=[])
noncomputable def loR (F:Func) (h:Int):V:=.tup [.d (dIntS (if loB F h=true then loV F h else [])),.d (.bool (loB F h))]
theorem lpL_pos {nx:List (List Int)} {h:Int} (h0:0≤h∧h < nx.length):0 < (lpL nx h).length:=by
  refine List.length_pos_of_mem (a:=h) (mem_numsOf.2 ⟨h0.1,h0.2, ?_⟩)
  rw [lpN,show ((h.toNat:Nat):Int)=h by omega];simp
theorem loI_c (F : Func) (h : Int) (hF : Enc.good F) : PureP Tryz.prog 27 [vFunc F, .d (.int .i64 h)] (· = loR F h) := by
  refine PureP.of_own ?_
  cases hb:isBlk F h with
  | false =>
    have e:loR F h=.tup [.d (dIntS []),.d (.bool false)]:=by simp [loR,loB,hb]
    have hw:PureP Tryz.prog 27 [vFunc F,.d (.int .i64 h)] (· = .tup [.d .nilsl,.d (.bool false)]):=by
      cases hg:goodF F with
      | false =>
        refine pure_of Tryz.func27 en_27 rfl rfl (W_run mixed ⟨[K_33,K_44,K_35,K_56],[K_33h,K_44h,K_35h,K_56h],[],25,0,[0,1,2,4,5,6,7,17],[12,17]⟩ (fun _=>[]) (by kernel_rfl) ?_)
        simp only [Tryz.f27,stripX,stripOps,pickOps]
        simp [K_33_f,K_33_e,K_44_f,K_44_e,K_35_f,K_35_e,K_56_f,K_56_e,K_33h_f,K_33h_e,K_44h_f,K_44h_e,K_35h_f,K_35h_e,K_56h_f,K_56h_e,K_33h_g,K_44h_g,K_35h_g,K_56h_g,hF,viewV_f hg]
      | true =>
        have hv:inR h 0 (IntKind.i64.wrap (F.blocks_.length - 1))=false:=by simpa [isBlk,hg] using hb
        refine pure_of Tryz.func27 en_27 rfl rfl (W_run mixed ⟨[K_33,K_44,K_35,K_56],[K_33h,K_44h,K_35h,K_56h],[],25,0,[0,1,2,4,5,6,7,17],[12,17]⟩ (fun _=>[]) (by kernel_rfl) ?_)
        simp only [Tryz.f27,stripX,stripOps,pickOps]
        simp [K_33_f,K_33_e,K_44_f,K_44_e,K_35_f,K_35_e,K_56_f,K_56_e,K_33h_f,K_33h_e,K_44h_f,K_44h_e,K_35h_f,K_35h_e,K_56h_f,K_56h_e,K_33h_g,K_44h_g,K_35h_g,K_56h_g,hF,viewV_t hg,viewD_blocks,hv]
    refine hw.ans.mono ?_
    rintro r H' ⟨rfl,rfl⟩
    rw [e]
    exact Rd1.tup ⟨Rd1.nilL,Rd1.d,trivial⟩
  | true =>
    obtain ⟨hg,h0,h1⟩:=isBlk_n hF hb
    have hv:inR h 0 (IntKind.i64.wrap (F.blocks_.length - 1))=true:=by simpa [isBlk,hg] using hb
    obtain ⟨hv1,hn1,hp1⟩:=good_flow hg
    have hln:(nextL F.blocks_).length=F.blocks_.length:=by simp [nextL]
    have h2:h < (nextL F.blocks_).length:=by omega
    by_cases hs:stN (nextL F.blocks_) h=[]
    · have e:loR F h=.tup [.d (dIntS []),.d (.bool false)]:=by simp [loR,loB,hb,hs]
      have ed:lpD (nextL F.blocks_) h=.nilsl:=if_pos hs
      have hw:PureP Tryz.prog 27 [vFunc F,.d (.int .i64 h)] (· = .tup [.d .nilsl,.d (.bool false)]):=by
        refine pure_of Tryz.func27 en_27 rfl rfl (W_run mixed ⟨[K_33,K_44,K_35,K_56],[K_33h,K_44h,K_35h,K_56h],[],25,0,[0,1,2,4,5,6,7,17],[12,17]⟩ (fun _=>[]) (by kernel_rfl) ?_)
        simp only [Tryz.f27,stripX,stripOps,pickOps]
        simp [K_33_f,K_33_e,K_44_f,K_44_e,K_35_f,K_35_e,K_56_f,K_56_e,K_33h_f,K_33h_e,K_44h_f,K_44h_e,K_35h_f,K_35h_e,K_56h_f,K_56h_e,K_33h_g,K_44h_g,K_35h_g,K_56h_g,hF,viewV_t hg,viewD_blocks,hv,hv1,hn1,h0,h2,ed]
      refine hw.ans.mono ?_
      rintro r H' ⟨rfl,rfl⟩
      rw [e]
      exact Rd1.tup ⟨Rd1.nilL,Rd1.d,trivial⟩
    · have e:loR F h=.tup [.d (dIntS (lpL (nextL F.blocks_) h)),.d (.bool true)]:=by simp [loR,loB,loV,hb,hs]
      have ed:lpD (nextL F.blocks_) h=dIntS (lpL (nextL F.blocks_) h):=if_neg hs
      have hpos:=lpL_pos (nx:=nextL F.blocks_) (h:=h) ⟨h0,h2⟩
      have hw:PureP Tryz.prog 27 [vFunc F,.d (.int .i64 h)] (· = .tup [.d (dIntS (lpL (nextL F.blocks_) h)),.d (.bool true)]):=by
        refine pure_of Tryz.func27 en_27 rfl rfl (W_run mixed ⟨[K_33,K_44,K_35,K_56],[K_33h,K_44h,K_35h,K_56h],[],25,0,[0,1,2,4,5,6,7,17],[12,17]⟩ (fun _=>[]) (by kernel_rfl) ?_)
        simp only [Tryz.f27,stripX,stripOps,pickOps]
        simp [K_33_f,K_33_e,K_44_f,K_44_e,K_35_f,K_35_e,K_56_f,K_56_e,K_33h_f,K_33h_e,K_44h_f,K_44h_e,K_35h_f,K_35h_e,K_56h_f,K_56h_e,K_33h_g,K_44h_g,K_35h_g,K_56h_g,hF,viewV_t hg,viewD_blocks,hv,hv1,hn1,h0,h2,ed,hpos]
      refine hw.ans.mono ?_
      rintro r H' ⟨rfl,rfl⟩
      rw [e]
      exact Rd1.tup ⟨Rd1.d,Rd1.d,trivial⟩
noncomputable def K_27:Ent Tryz.prog:=Ent.p2 (α:=Func) (β:=Int) 27 (fun F h=>Enc.good F) (fun F h=>loR F h) (fun F h hc=>loI_c F h hc)
theorem K_27_f:K_27.f=27:=rfl
theorem K_27_e (F0:Int) (F1:List Block) (h:Int):K_27.e [.agg [.d (.int .i64 F0),.d (dBlockS F1)],.d (.int .i64 h)]=some (Enc.good (Func.mk F0 F1),loR (Func.mk F0 F1) h,[]):=by unfold K_27;exact Ent.p2_eq (α:=Func) (β:=Int) (Func.mk F0 F1) h
noncomputable def K_27h:EntH Tryz.prog:=EntH.pk2 (α:=Func) (β:=Int) 27 (fun F h=>Enc.good F) (fun F h=>loR F h) (fun F h=>[]) (fun F h hc=>PureP.ans (loI_c F h hc))
theorem K_27h_f:K_27h.f=27:=rfl
theorem K_27h_g:K_27h.gro=true:=rfl
theorem K_27h_e {x1 x2:V} {H:Heap}:K_27h.e [x1,x2] H=guardR ((decA (α:=Func) H x1).1∧(decA (α:=Int) H x2).1) (peekR (Enc.good (decA (α:=Func) H x1).2) (loR (decA (α:=Func) H x1).2 (decA (α:=Int) H x2).2) ([]) H):=rfl
end Go.Proofs.YthafdegfjadijaaGreat
