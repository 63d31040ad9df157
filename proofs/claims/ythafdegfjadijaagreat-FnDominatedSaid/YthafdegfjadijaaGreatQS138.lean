/- ReachedBlocks, AheadOf, NextBlocks (reference), closed. No condition. -/
import Derived.Test.YthafdegfjadijaaGreatQS136
section
namespace Go.Proofs.YthafdegfjadijaaGreat
set_option maxRecDepth 100000
set_option linter.unusedSimpArgs false
set_option linter.unusedVariables false
def flR (n i:Nat) (g:Nat→List Int):List (List V):=(List.range n).map fun j=>if j < i then [V.d (dIntS (g j))] else [V.d .nilsl]
@[simp] theorem flR_len {n i:Nat} {g:Nat→List Int}:(flR n i g).length=n:=by simp [flR]
theorem flR_set {n i:Nat} {g:Nat→List Int} (h:i < n):(flR n i g).set i [V.d (dIntS (g i))]=flR n (i + 1) g:=by
  refine List.ext_getElem? fun j=>?_
  rw [List.getElem?_set,flR_len]
  by_cases hj:j < n
  · by_cases e:i=j
    · subst e;simp [flR,h]
    · rw [if_neg e]
      simp only [flR,List.getElem?_map,List.getElem?_range hj,Option.map_some]
      by_cases q:j < i
      · rw [if_pos q,if_pos (by omega)]
      · rw [if_neg q,if_neg (by omega)]
  · rw [if_neg (by omega),List.getElem?_eq_none (by rw [flR_len];omega),List.getElem?_eq_none (by rw [flR_len];omega)]
theorem domsI_own (F:Func) (hF:Enc.good F) (hg:goodF F=true):CallsD Tryz.prog 7 [vFunc F] [] fun r H'=>∃ o,r=.tup [.sl o 1 0 F.blocks_.length,.d (.bool true)]∧H'[o]? = some (.row 1 (flR F.blocks_.length F.blocks_.length fun j=>listB ((domL (nextL F.blocks_))[j]?.getD default))):=by
  obtain ⟨hv1,hn1,hp1⟩:=good_flow hg
  have hv8:=hv1.1
  have hln:(nextL F.blocks_).length=F.blocks_.length:=by simp [nextL]
  have hp2:0 < (nextL F.blocks_).length:=by omega
  obtain ⟨n,hn⟩:∃ n,n=F.blocks_.length:=⟨_,rfl⟩
  have f1:(n:Int) * 24≤140737488355328:=by omega
  have f2:(n:Int)≤140737488355328:=by omega
  have hdl:(domL (nextL F.blocks_)).length=n:=by simp [domL,hln,hn]
  obtain ⟨g,hgd⟩:∃ g:Nat→List Int,∀ j,g j=listB ((domL (nextL F.blocks_))[j]?.getD default):=⟨_,fun _=>rfl⟩
  rw [← hn,show (fun j=>listB ((domL (nextL F.blocks_))[j]?.getD default))=g from funext fun j=>(hgd j).symm]
  refine calls_of Tryz.func7 en_7 rfl (of_decide_eq_true rfl) (W_run mixed ⟨[K_33,K_35,K_34,K_36],[K_33h,K_35h,K_34h,K_36h],[],35,0,[0,1,2,3,4,5,6,7,11,21,22,23,24],[11,24]⟩ (fun _=>[]) (by kernel_rfl) ?_)
  simp only [Tryz.f7,stripX,stripOps,pickOps]
  simp [K_33_f,K_33_e,K_35_f,K_35_e,K_34_f,K_34_e,K_36_f,K_36_e,K_33h_f,K_33h_e,K_35h_f,K_35h_e,K_34h_f,K_34h_e,K_36h_f,K_36h_e,K_33h_g,K_35h_g,K_34h_g,K_36h_g,-V.flat,-V.one,one_int,one_bool,one_str,one_nilp,one_rp,one_nilsl,one_ro,one_cl,one_nilf,one_nili,one_ifc,one_ptr,one_sl,one_clo,flat_d,flat_ptr,flat_sl,flat_clo,flat_agg,hF,viewV_t hg,viewD_blocks,← hn,f1,f2,hv1,hn1,hp2,hdl]
  refine W_loopH (α:=Nat) (fun i=>[(5,.sl 1 1 0 n),(21,.d (dBoolSS (domL (nextL F.blocks_)))),(22,.d (.int .i64 n)),(23,.d (.int .i64 i))])
    (fun i=>[.row 2 [[.d (.int .i64 F.params_),.d (dBlockS F.blocks_)]],.row 1 (flR n i g)]) (fun i=>i≤n) (fun i=>n - i) 0 ?_ (Nat.zero_le _) ?_
  · have e:flR n 0 g=List.replicate n [V.d .nilsl]:=by
      unfold flR
      rw [show (fun j=>if j < 0 then [V.d (dIntS (g j))] else [V.d D.nilsl])=fun _=>[V.d D.nilsl] from funext fun j=>if_neg (Nat.not_lt_zero _),List.map_const',List.length_range]
    simp [e]
  rintro i hi
  replace hi:i≤n:=hi
  by_cases h:i < n
  · obtain ⟨d,hd⟩:∃ d,d=(domL (nextL F.blocks_))[i]?.getD default:=⟨_,rfl⟩
    have hd0:=hd.symm
    have hd1:∀ h:i < (domL (nextL F.blocks_)).length,(domL (nextL F.blocks_))[i]=d:=fun h=>by rw [hd,List.getElem?_eq_getElem h];rfl
    have hd2:(domL (nextL F.blocks_))[i]?.getD []=d:=hd0
    have hd8:d.length≤8:=by
      rw [hd]
      have:i < F.blocks_.length:=by omega
      simp [domL,hln,this]
      omega
    have hgi:listB d=g i:=by rw [hgd,hd]
    have hset:=flR_set (n:=n) (g:=g) h
    have hl:=flR_len (n:=n) (i:=i) (g:=g)
    have wi:IntKind.i64.wrap ((i:Int) + 1)=((i + 1:Nat):Int):=by rw [wrap_id] <;> omega
    have hfi:(flR n i g)[i]? = some [V.d .nilsl]:=by simp [flR,h]
    generalize hfr:flR n i g=fr at hset hl hfi
    have hfi1:∀ h:i < fr.length,fr[i]=[V.d .nilsl]:=fun h=>Option.some.inj ((List.getElem?_eq_getElem h).symm.trans hfi)
    refine W_run mixed ⟨[K_33,K_35,K_34,K_36],[K_33h,K_35h,K_34h,K_36h],[],35,0,[0,1,2,3,4,5,6,7,11,21,22,23,24],[11,24]⟩ (fun _=>[]) (by kernel_rfl) ?_
    simp only [stripX,stripOps,pickOps]
    simp [K_33_f,K_33_e,K_35_f,K_35_e,K_34_f,K_34_e,K_36_f,K_36_e,K_33h_f,K_33h_e,K_35h_f,K_35h_e,K_34h_f,K_34h_e,K_36h_f,K_36h_e,K_33h_g,K_35h_g,K_34h_g,K_36h_g,-V.flat,-V.one,one_int,one_bool,one_str,one_nilp,one_rp,one_nilsl,one_ro,one_cl,one_nilf,one_nili,one_ifc,one_ptr,one_sl,one_clo,flat_d,flat_ptr,flat_sl,flat_clo,flat_agg,h,hd0,hd1,hd2,hdl,hd8,hgi,hset,hl,hfi1,wi]
    exact ⟨i + 1,by omega,by omega,rfl,by omega⟩
  · have e:i=n:=by omega
    refine W_run mixed ⟨[K_33,K_35,K_34,K_36],[K_33h,K_35h,K_34h,K_36h],[],35,0,[0,1,2,3,4,5,6,7,11,21,22,23,24],[11,24]⟩ (fun _=>[]) (by kernel_rfl) ?_
    simp only [stripX,stripOps,pickOps]
    simp [K_33_f,K_33_e,K_35_f,K_35_e,K_34_f,K_34_e,K_36_f,K_36_e,K_33h_f,K_33h_e,K_35h_f,K_35h_e,K_34h_f,K_34h_e,K_36h_f,K_36h_e,K_33h_g,K_35h_g,K_34h_g,K_36h_g,-V.flat,-V.one,one_int,one_bool,one_str,one_nilp,one_rp,one_nilsl,one_ro,one_cl,one_nilf,one_nili,one_ifc,one_ptr,one_sl,one_clo,flat_d,flat_ptr,flat_sl,flat_clo,flat_agg,h,hdl,retQ]
    exact ⟨_,_,Fin.same (Nat.zero_le _),1,rfl,by rw [e];rfl⟩
theorem domsI_c (F : Func) (hF : Enc.good F) : PureP Tryz.prog 7 [vFunc F] (· = domsR F) := by
  cases hg:goodF F with
  | false =>
    have h:PureP Tryz.prog 7 [vFunc F] (· = .tup [.d .nilsl,.d (.bool false)]):=by
      refine pure_of Tryz.func7 en_7 rfl rfl (W_run mixed ⟨[K_33,K_35,K_34,K_36],[K_33h,K_35h,K_34h,K_36h],[],35,0,[0,1,2,3,4,5,6,7,11,21,22,23,24],[11,24]⟩ (fun _=>[]) (by kernel_rfl) ?_)
      simp only [Tryz.f7,stripX,stripOps,pickOps]
      simp [K_33_f,K_33_e,K_35_f,K_35_e,K_34_f,K_34_e,K_36_f,K_36_e,K_33h_f,K_33h_e,K_35h_f,K_35h_e,K_34h_f,K_34h_e,K_36h_f,K_36h_e,K_33h_g,K_35h_g,K_34h_g,K_36h_g,hF,viewV_f hg]
    refine PureP.of_own (h.ans.mono ?_)
    rintro r H' ⟨rfl,rfl⟩
    simp only [domsR,domsV,hg]
    exact Rd1.tup ⟨Rd1.nilL,Rd1.d,trivial⟩
  | true =>
    refine PureP.of_own ((domsI_own F hF hg).mono ?_)
    rintro r H' ⟨o,rfl,ho⟩
    obtain ⟨g,hgd⟩:∃ g:Nat→List Int,g=fun j=>listB ((domL (nextL F.blocks_))[j]?.getD default):=⟨_,rfl⟩
    rw [← hgd] at ho
    have eg:(List.range F.blocks_.length).map g=allS F:=by
      refine List.ext_getElem? fun j=>?_
      by_cases hj:j < F.blocks_.length
      · have h1:=domR_same hj
        have h2:(allS F)[j]? = some ((allS F)[j]?.getD default):=by
          have:j < (allS F).length:=by simpa [allS] using hj
          rw [List.getElem?_eq_getElem this];rfl
        rw [h2,← h1]
        simp [hj,hgd]
      · rw [List.getElem?_eq_none (by simpa using hj),List.getElem?_eq_none (by simpa [allS] using hj)]
    have hd:decA (α:=List (List Int)) H' (.sl o 1 0 F.blocks_.length)=(True,(List.range F.blocks_.length).map g):=by
      have e:((flR F.blocks_.length F.blocks_.length g).drop 0).take F.blocks_.length=(List.range F.blocks_.length).map fun k=>[V.d (dIntS (g k))]:=by
        rw [List.drop_zero,List.take_of_length_le (by simp)]
        exact List.map_congr_left fun x hx=>if_pos (List.mem_range.1 hx)
      have en:∀ l:List Int,Dec.dec (α:=List Int) H' [V.d (dIntS l)]=(True,l):=fun l=>dec_ro (α:=Int) (H:=H') (l:=l)
      have hd:(Dec.dec (α:=List (List Int)) H' [.sl o 1 0 F.blocks_.length]).1∧(Dec.dec (α:=List (List Int)) H' [.sl o 1 0 F.blocks_.length]).2=(List.range F.blocks_.length).map g:=by
        rw [dec_sl,ho]
        simp only [e]
        refine ⟨⟨⟨rfl,trivial⟩,by simp,fun r hr=>?_⟩, ?_⟩
        · obtain ⟨x,hx,rfl⟩:=List.mem_map.1 hr
          rw [en];trivial
        · rw [List.map_map]
          exact List.map_congr_left fun x _=>by rw [Function.comp,en]
      exact Prod.ext (eq_true ⟨rfl,hd.1⟩) hd.2
    simp only [domsR,domsV,hg,if_true]
    rw [← eg]
    exact Rd1.tup ⟨Rd1.dec (α:=List (List Int)) (by rw [hd];exact ⟨trivial,rfl⟩),Rd1.d,trivial⟩
noncomputable def K_7:Ent Tryz.prog:=Ent.p1 (α:=Func) 7 (fun F=>Enc.good F) (fun F=>domsR F) (fun F hc=>domsI_c F hc)
theorem K_7_f:K_7.f=7:=rfl
theorem K_7_e (F0:Int) (F1:List Block):K_7.e [.agg [.d (.int .i64 F0),.d (dBlockS F1)]]=some (Enc.good (Func.mk F0 F1),domsR (Func.mk F0 F1),[]):=by unfold K_7;exact Ent.p1_eq (α:=Func) (Func.mk F0 F1)
noncomputable def K_7h:EntH Tryz.prog:=EntH.pk1 (α:=Func) 7 (fun F=>Enc.good F) (fun F=>domsR F) (fun F=>[]) (fun F hc=>PureP.ans (domsI_c F hc))
theorem K_7h_f:K_7h.f=7:=rfl
theorem K_7h_g:K_7h.gro=true:=rfl
theorem K_7h_e {x1:V} {H:Heap}:K_7h.e [x1] H=guardR ((decA (α:=Func) H x1).1) (peekR (Enc.good (decA (α:=Func) H x1).2) (domsR (decA (α:=Func) H x1).2) ([]) H):=rfl
end Go.Proofs.YthafdegfjadijaaGreat
end

section
namespace Go.Proofs.YthafdegfjadijaaGreat
set_option maxRecDepth 100000
set_option linter.unusedSimpArgs false
set_option linter.unusedVariables false
noncomputable def rbV (F:Func):List Int:=if goodF F=true then allR F else []
noncomputable def rbR (F:Func):V:=.tup [.d (dIntS (rbV F)),.d (.bool (goodF F))]
theorem rbI_c (F:Func) (hF:Enc.good F):PureP Tryz.prog 9 [vFunc F] (· = rbR F):=by
  cases hg:goodF F with
  | false =>
    have h:PureP Tryz.prog 9 [vFunc F] (· = .tup [.d .nilsl,.d (.bool false)]):=by
      refine pure_of Tryz.func9 en_9 rfl rfl (W_run mixed ⟨[K_33,K_35,K_39,K_36],[K_33h,K_35h,K_39h,K_36h],[],13,0,[0,1,2,3,4,8],[8]⟩ (fun _=>[]) (by kernel_rfl) ?_)
      simp only [Tryz.f9,stripX,stripOps,pickOps]
      simp [K_33_f,K_33_e,K_35_f,K_35_e,K_39_f,K_39_e,K_36_f,K_36_e,K_33h_f,K_33h_e,K_35h_f,K_35h_e,K_39h_f,K_39h_e,K_36h_f,K_36h_e,K_33h_g,K_35h_g,K_39h_g,K_36h_g,hF,viewV_f hg]
    refine PureP.of_own (h.ans.mono ?_)
    rintro r H' ⟨rfl,rfl⟩
    simp only [rbR,rbV,hg]
    exact Rd1.tup ⟨Rd1.nilL,Rd1.d,trivial⟩
  | true =>
    obtain ⟨hv1,hn1,hp1⟩:=good_flow hg
    have hp2:0 < (nextL F.blocks_).length:=by simpa [nextL] using hp1
    refine pure_of Tryz.func9 en_9 rfl rfl (W_run mixed ⟨[K_33,K_35,K_39,K_36],[K_33h,K_35h,K_39h,K_36h],[],13,0,[0,1,2,3,4,8],[8]⟩ (fun _=>[]) (by kernel_rfl) ?_)
    simp only [Tryz.f9,stripX,stripOps,pickOps]
    simp [K_33_f,K_33_e,K_35_f,K_35_e,K_39_f,K_39_e,K_36_f,K_36_e,K_33h_f,K_33h_e,K_35h_f,K_35h_e,K_39h_f,K_39h_e,K_36h_f,K_36h_e,K_33h_g,K_35h_g,K_39h_g,K_36h_g,hF,viewV_t hg,viewD_blocks,hv1,hn1,hp2]
    have hl:(rchB (nextL F.blocks_) 0 (-1)).length=F.blocks_.length:=by simp [rchB,nextL]
    have:=hv1.1
    refine ⟨by omega, ?_⟩
    have e:allR F=listB (rchB (nextL F.blocks_) 0 (-1)):=rfl
    simp [rbR,rbV,hg,e]
noncomputable def K_9:Ent Tryz.prog:=Ent.p1 (α:=Func) 9 (fun F=>Enc.good F) (fun F=>rbR F) (fun F hc=>rbI_c F hc)
theorem K_9_f:K_9.f=9:=rfl
theorem K_9_e (F0:Int) (F1:List Block):K_9.e [.agg [.d (.int .i64 F0),.d (dBlockS F1)]]=some (Enc.good (Func.mk F0 F1),rbR (Func.mk F0 F1),[]):=by unfold K_9;exact Ent.p1_eq (α:=Func) (Func.mk F0 F1)
noncomputable def K_9h:EntH Tryz.prog:=EntH.pk1 (α:=Func) 9 (fun F=>Enc.good F) (fun F=>rbR F) (fun F=>[]) (fun F hc=>PureP.ans (rbI_c F hc))
theorem K_9h_f:K_9h.f=9:=rfl
theorem K_9h_g:K_9h.gro=true:=rfl
theorem K_9h_e {x1:V} {H:Heap}:K_9h.e [x1] H=guardR ((decA (α:=Func) H x1).1) (peekR (Enc.good (decA (α:=Func) H x1).2) (rbR (decA (α:=Func) H x1).2) ([]) H):=rfl
theorem rbS_c (F:Func) (hF:Enc.good F):PureP Tryz.prog 10 [vFunc F] (· = rbR F):=by
  cases hg:goodF F with
  | false =>
    have h:PureP Tryz.prog 10 [vFunc F] (· = .tup [.d .nilsl,.d (.bool false)]):=by
      refine pure_of Tryz.func10 en_10 rfl rfl (W_run mixed ⟨[K_37,K_40],[K_37h,K_40h],[],9,0,[0,1,2,3,6],[6]⟩ (fun _=>[]) (by kernel_rfl) ?_)
      simp only [Tryz.f10,stripX,stripOps,pickOps]
      simp [K_37_f,K_37_e,K_40_f,K_40_e,K_37h_f,K_37h_e,K_40h_f,K_40h_e,K_37h_g,K_40h_g,hF,hg]
    refine PureP.of_own (h.ans.mono ?_)
    rintro r H' ⟨rfl,rfl⟩
    simp only [rbR,rbV,hg]
    exact Rd1.tup ⟨Rd1.nilL,Rd1.d,trivial⟩
  | true =>
    obtain ⟨hv1,hn1,hp1⟩:=good_flow hg
    refine pure_of Tryz.func10 en_10 rfl rfl (W_run mixed ⟨[K_37,K_40],[K_37h,K_40h],[],9,0,[0,1,2,3,6],[6]⟩ (fun _=>[]) (by kernel_rfl) ?_)
    simp only [Tryz.f10,stripX,stripOps,pickOps]
    simp [K_37_f,K_37_e,K_40_f,K_40_e,K_37h_f,K_37h_e,K_40h_f,K_40h_e,K_37h_g,K_40h_g,hF,hg,hv1,hn1,hp1]
    have e:allR F=fromL F 0 (-1):=rfl
    simp [rbR,rbV,hg,e]
noncomputable def K_10:Ent Tryz.prog:=Ent.p1 (α:=Func) 10 (fun F=>Enc.good F) (fun F=>rbR F) (fun F hc=>rbS_c F hc)
theorem K_10_f:K_10.f=10:=rfl
theorem K_10_e (F0:Int) (F1:List Block):K_10.e [.agg [.d (.int .i64 F0),.d (dBlockS F1)]]=some (Enc.good (Func.mk F0 F1),rbR (Func.mk F0 F1),[]):=by unfold K_10;exact Ent.p1_eq (α:=Func) (Func.mk F0 F1)
noncomputable def K_10h:EntH Tryz.prog:=EntH.pk1 (α:=Func) 10 (fun F=>Enc.good F) (fun F=>rbR F) (fun F=>[]) (fun F hc=>PureP.ans (rbS_c F hc))
theorem K_10h_f:K_10h.f=10:=rfl
theorem K_10h_g:K_10h.gro=true:=rfl
theorem K_10h_e {x1:V} {H:Heap}:K_10h.e [x1] H=guardR ((decA (α:=Func) H x1).1) (peekR (Enc.good (decA (α:=Func) H x1).2) (rbR (decA (α:=Func) H x1).2) ([]) H):=rfl
noncomputable def nbV (F:Func) (k:Int):List Int:=if isBlk F k=true then nextS F k else []
noncomputable def nbR (F:Func) (k:Int):V:=.tup [.d (dIntS (nbV F k)),.d (.bool (isBlk F k))]
theorem nbS_c (F:Func) (k:Int) (hF:Enc.good F):PureP Tryz.prog 17 [vFunc F,.d (.int .i64 k)] (· = nbR F k):=by
  cases hb:isBlk F k with
  | false =>
    have h:PureP Tryz.prog 17 [vFunc F,.d (.int .i64 k)] (· = .tup [.d .nilsl,.d (.bool false)]):=by
      refine pure_of Tryz.func17 en_17 rfl rfl (W_run mixed ⟨[K_47,K_48],[K_47h,K_48h],[],13,0,[0,1,2,4,5,9],[9]⟩ (fun _=>[]) (by kernel_rfl) ?_)
      simp only [Tryz.f17,stripX,stripOps,pickOps]
      simp [K_47_f,K_47_e,K_48_f,K_48_e,K_47h_f,K_47h_e,K_48h_f,K_48h_e,K_47h_g,K_48h_g,hF,hb]
    refine PureP.of_own (h.ans.mono ?_)
    rintro r H' ⟨rfl,rfl⟩
    simp only [nbR,nbV,hb]
    exact Rd1.tup ⟨Rd1.nilL,Rd1.d,trivial⟩
  | true =>
    obtain ⟨hg,h0,h1⟩:=isBlk_n hF hb
    have h1':k < F.blocks_.length:=by omega
    have hv1:=(good_flow hg).1
    refine pure_of Tryz.func17 en_17 rfl rfl (W_run mixed ⟨[K_47,K_48],[K_47h,K_48h],[],13,0,[0,1,2,4,5,9],[9]⟩ (fun _=>[]) (by kernel_rfl) ?_)
    simp only [Tryz.f17,stripX,stripOps,pickOps]
    simp [K_47_f,K_47_e,K_48_f,K_48_e,K_47h_f,K_47h_e,K_48h_f,K_48h_e,K_47h_g,K_48h_g,hF,hb,hv1,h0,h1,h1']
    simp [nbR,nbV,hb]
noncomputable def K_17:Ent Tryz.prog:=Ent.p2 (α:=Func) (β:=Int) 17 (fun F k=>Enc.good F) (fun F k=>nbR F k) (fun F k hc=>nbS_c F k hc)
theorem K_17_f:K_17.f=17:=rfl
theorem K_17_e (F0:Int) (F1:List Block) (k:Int):K_17.e [.agg [.d (.int .i64 F0),.d (dBlockS F1)],.d (.int .i64 k)]=some (Enc.good (Func.mk F0 F1),nbR (Func.mk F0 F1) k,[]):=by unfold K_17;exact Ent.p2_eq (α:=Func) (β:=Int) (Func.mk F0 F1) k
noncomputable def K_17h:EntH Tryz.prog:=EntH.pk2 (α:=Func) (β:=Int) 17 (fun F k=>Enc.good F) (fun F k=>nbR F k) (fun F k=>[]) (fun F k hc=>PureP.ans (nbS_c F k hc))
theorem K_17h_f:K_17h.f=17:=rfl
theorem K_17h_g:K_17h.gro=true:=rfl
theorem K_17h_e {x1 x2:V} {H:Heap}:K_17h.e [x1,x2] H=guardR ((decA (α:=Func) H x1).1∧(decA (α:=Int) H x2).1) (peekR (Enc.good (decA (α:=Func) H x1).2) (nbR (decA (α:=Func) H x1).2 (decA (α:=Int) H x2).2) ([]) H):=rfl
end Go.Proofs.YthafdegfjadijaaGreat
end
