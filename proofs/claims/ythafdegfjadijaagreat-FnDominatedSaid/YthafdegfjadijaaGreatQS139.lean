/- slices.Contains of numbers; AheadOf of the program, closed. No condition. -/
import Derived.Test.YthafdegfjadijaaGreatQS138
namespace Go.Proofs.YthafdegfjadijaaGreat
set_option maxRecDepth 100000
set_option linter.unusedSimpArgs false
set_option linter.unusedVariables false
theorem index_p (l:List Int) (n:Int) (h8:l.length≤1000):PureP Tryz.prog 75 [.d (dIntS l),.d (.int .i64 n)] fun r=>∃ j:Int,r=.d (.int .i64 j)∧(0≤j ↔ n∈l):=by
  refine pure_of Tryz.func75 en_75 rfl rfl (W_run mixed ⟨[],[],[],19,0,[0,1,4,5,7,8,9,16],[9,16]⟩ (fun _=>[]) (by kernel_rfl) ?_)
  simp only [Tryz.f75,stripX,stripOps,pickOps]
  simp []
  refine W_loopA (fun i:Nat=>[(0,.d (dIntS l)),(1,.d (.int .i64 n)),(7,.d (.int .i64 l.length)),(8,.d (.int .i64 i))])
    (fun i=>[]) (fun i=>i≤l.length∧n ∉ l.take i) (fun i=>l.length - i) 0 ?_ ?_ ?_
  · simp
  · simp
  rintro i ⟨hi,hn⟩
  by_cases h:i < l.length
  · obtain ⟨x,hx⟩:∃ x,x=l[i]?.getD 0:=⟨_,rfl⟩
    have hx0:=hx.symm
    have hx1:∀ h:i < l.length,l[i]=x:=fun h=>by rw [hx,List.getElem?_eq_getElem h];rfl
    have wi:IntKind.i64.wrap ((i:Int) + 1)=((i + 1:Nat):Int):=by rw [wrap_id] <;> omega
    by_cases e:n=x
    · refine W_run mixed ⟨[],[],[],19,0,[0,1,4,5,7,8,9,16],[9,16]⟩ (fun _=>[]) (by kernel_rfl) ?_
      simp only [stripX,stripOps,pickOps]
      simp [h,hx0,hx1,e]
      rw [← hx1 h]
      exact List.getElem_mem h
    · refine W_run mixed ⟨[],[],[],19,0,[0,1,4,5,7,8,9,16],[9,16]⟩ (fun _=>[]) (by kernel_rfl) ?_
      simp only [stripX,stripOps,pickOps]
      simp [h,hx0,hx1,e,wi]
      refine ⟨i + 1,⟨by omega, ?_⟩,by omega,rfl⟩
      rw [List.take_succ_eq_append_getElem h,hx1 h,List.mem_append,List.mem_singleton]
      rintro (q | q)
      · exact hn q
      · exact e q
  · rw [List.take_of_length_le (by omega)] at hn
    refine W_run mixed ⟨[],[],[],19,0,[0,1,4,5,7,8,9,16],[9,16]⟩ (fun _=>[]) (by kernel_rfl) ?_
    simp only [stripX,stripOps,pickOps]
    simp [h]
    exact hn
theorem contains_c (l:List Int) (n:Int) (h8:l.length≤1000):PureP Tryz.prog 49 [.d (dIntS l),.d (.int .i64 n)] (· = .d (.bool (hasL l n))):=by
  refine pure_of Tryz.func49 en_49 rfl rfl (W_run mixed ⟨[],[],[75],9,0,[0,1,4],[]⟩ (fun _=>[]) (by kernel_rfl) ?_)
  simp only [Tryz.f49,stripX,stripOps,pickOps]
  simp []
  rw [aft_call]
  refine ((index_p l n h8).calls rfl).mono ?_
  rintro r H1 ⟨rfl,j,rfl,hj⟩
  have e:decide (0≤j)=hasL l n:=by unfold hasL;exact decide_eq_decide.2 hj
  simp [e]
noncomputable def K_49:Ent Tryz.prog:=Ent.p2 (α:=List Int) (β:=Int) 49 (fun l n=>l.length≤1000) (fun l n=>.d (.bool (hasL l n))) (fun l n hc=>contains_c l n hc)
theorem K_49_f:K_49.f=49:=rfl
theorem K_49_e (l:List Int) (n:Int):K_49.e [.d (dIntS l),.d (.int .i64 n)]=some (l.length≤1000,.d (.bool (hasL l n)),[]):=by unfold K_49;exact Ent.p2_eq (α:=List Int) (β:=Int) l n
noncomputable def K_49h:EntH Tryz.prog:=EntH.pk2 (α:=List Int) (β:=Int) 49 (fun l n=>l.length≤1000) (fun l n=>.d (.bool (hasL l n))) (fun l n=>[]) (fun l n hc=>PureP.ans (contains_c l n hc))
theorem K_49h_f:K_49h.f=49:=rfl
theorem K_49h_g:K_49h.gro=true:=rfl
theorem K_49h_e {x1 x2:V} {H:Heap}:K_49h.e [x1,x2] H=guardR ((decA (α:=List Int) H x1).1∧(decA (α:=Int) H x2).1) (peekR ((decA (α:=List Int) H x1).2.length≤1000) (.d (.bool (hasL (decA (α:=List Int) H x1).2 (decA (α:=Int) H x2).2))) ([]) H):=rfl
def ahP (F:Func) (k:Int) (j:Nat):Bool:=hasL (tos (F.blocks_[j]?.getD default)) k
def ahV (F:Func) (k:Int):List Int:=if isBlk F k=true then numsOf (ahP F k) F.blocks_.length else []
def ahR (F:Func) (k:Int):V:=.tup [.d (dIntS (ahV F k)),.d (.bool (isBlk F k))]
set_option maxHeartbeats 4000000 in
theorem aheadI_own (F:Func) (k:Int) (hF:Enc.good F) (hg:goodF F=true) (hbi:inR k 0 (IntKind.i64.wrap (F.blocks_.length - 1))=true):CallsD Tryz.prog 18 [vFunc F,.d (.int .i64 k)] [] fun r H'=>∃ id,r=.tup [.sl id 1 0 (numsOf (ahP F k) F.blocks_.length).length,.d (.bool true)]∧H'[id]? = some (.row 1 (rI (numsOf (ahP F k) F.blocks_.length))):=by
  obtain ⟨hv1,hn1,hp1⟩:=good_flow hg
  have hv8:=hv1.1
  have hln:(nextL F.blocks_).length=F.blocks_.length:=by simp [nextL]
  refine calls_of Tryz.func18 en_18 rfl (of_decide_eq_true rfl) (W_run mixed ⟨[K_33,K_44,K_35,K_49],[K_33h,K_44h,K_35h,K_49h],[],38,0,[0,1,2,4,5,6,7,8,9,19,22,23,24,25,31],[14,19,25,31]⟩ (fun _=>[]) (by kernel_rfl) ?_)
  simp only [Tryz.f18,stripX,stripOps,pickOps]
  simp [K_33_f,K_33_e,K_44_f,K_44_e,K_35_f,K_35_e,K_49_f,K_49_e,K_33h_f,K_33h_e,K_44h_f,K_44h_e,K_35h_f,K_35h_e,K_49h_f,K_49h_e,K_33h_g,K_44h_g,K_35h_g,K_49h_g,-V.flat,-V.one,one_int,one_bool,one_str,one_nilp,one_rp,one_nilsl,one_ro,one_cl,one_nilf,one_nili,one_ifc,one_ptr,one_sl,one_clo,flat_d,flat_ptr,flat_sl,flat_clo,flat_agg,hF,viewV_t hg,viewD_blocks,hbi,hv1,hln]
  refine W_loopH (α:=Nat × Nat × Heap) (fun a=>[(1,.d (.int .i64 k)),(7,.sl a.2.1 1 0 (numsOf (ahP F k) a.1).length),(22,.d (dIntSS (nextL F.blocks_))),(23,.d (.int .i64 F.blocks_.length)),(24,.d (.int .i64 a.1))]) (fun a=>a.2.2)
    (fun a=>a.1≤F.blocks_.length∧a.2.2[a.2.1]? = some (.row 1 (rI (numsOf (ahP F k) a.1)))) (fun a=>F.blocks_.length - a.1) (0,1,[.row 2 [[.d (.int .i64 F.params_),.d (dBlockS F.blocks_)]],.row 1 []]) ?_ ⟨Nat.zero_le _,by simp [numsOf]⟩ ?_
  · simp [numsOf]
  rintro ⟨i,id,G⟩ ⟨hi,hr⟩
  dsimp only at hi hr
  have hidl:=(List.getElem?_eq_some_iff.1 hr).1
  have hnl:=numsOf_len (ahP F k) i
  by_cases h:i < F.blocks_.length
  · have hs:=numsOf_succ (ahP F k) i
    obtain ⟨l,hl⟩:∃ l,l=tos (F.blocks_[i]?.getD default):=⟨_,rfl⟩
    have hl0:(nextL F.blocks_)[i]?.getD []=l:=by rw [hl];exact nextL_get _ _
    have hl1:∀ h:i < (nextL F.blocks_).length,(nextL F.blocks_)[i]=l:=fun h=>by rw [← hl0,List.getElem?_eq_getElem h];rfl
    have hl8:l.length≤1000:=by
      have:=(okNext_get hn1 i).1
      rw [nextL_get,← hl] at this
      omega
    have wi:IntKind.i64.wrap ((i:Int) + 1)=((i + 1:Nat):Int):=by rw [wrap_id] <;> omega
    have hp:ahP F k i=hasL l k:=by unfold ahP;rw [hl]
    rw [hp] at hs
    obtain ⟨m,hm⟩:∃ m,m=numsOf (ahP F k) i:=⟨_,rfl⟩
    rw [← hm] at hs hr hnl ⊢
    have hr':∀ R:Heap,(G++R)[id]? = some (.row 1 (rI m)):=fun R=>(List.getElem?_append_left hidl).trans hr
    have hset:∀ (R:Heap) p,(G++R).set id p=G.set id p++R:=fun R p=>List.set_append_left _ _ hidl
    cases hx:hasL l k with
    | true =>
      rw [hx,if_pos rfl] at hs
      refine W_run mixed ⟨[K_33,K_44,K_35,K_49],[K_33h,K_44h,K_35h,K_49h],[],38,0,[0,1,2,4,5,6,7,8,9,19,22,23,24,25,31],[14,19,25,31]⟩ (fun _=>[]) (by kernel_rfl) ?_
      simp only [stripX,stripOps,pickOps]
      simp [K_33_f,K_33_e,K_44_f,K_44_e,K_35_f,K_35_e,K_49_f,K_49_e,K_33h_f,K_33h_e,K_44h_f,K_44h_e,K_35h_f,K_35h_e,K_49h_f,K_49h_e,K_33h_g,K_44h_g,K_35h_g,K_49h_g,-V.flat,-V.one,one_int,one_bool,one_str,one_nilp,one_rp,one_nilsl,one_ro,one_cl,one_nilf,one_nili,one_ifc,one_ptr,one_sl,one_clo,flat_d,flat_ptr,flat_sl,flat_clo,flat_agg,h,hln,hl0,hl1,hl8,hx,hr',hset,wi]
      exact ⟨⟨by omega,by omega⟩,i + 1,G.length + 1,_,⟨by omega,by rw [hs,List.getElem?_append_right (by simp),List.length_set,show G.length + 1 - G.length=1 by omega];simp [rI]⟩,by omega,rfl,⟨by rw [hs];simp,rfl⟩⟩
    | false =>
      rw [hx,if_neg (by decide),List.append_nil] at hs
      refine W_run mixed ⟨[K_33,K_44,K_35,K_49],[K_33h,K_44h,K_35h,K_49h],[],38,0,[0,1,2,4,5,6,7,8,9,19,22,23,24,25,31],[14,19,25,31]⟩ (fun _=>[]) (by kernel_rfl) ?_
      simp only [stripX,stripOps,pickOps]
      simp [K_33_f,K_33_e,K_44_f,K_44_e,K_35_f,K_35_e,K_49_f,K_49_e,K_33h_f,K_33h_e,K_44h_f,K_44h_e,K_35h_f,K_35h_e,K_49h_f,K_49h_e,K_33h_g,K_44h_g,K_35h_g,K_49h_g,-V.flat,-V.one,one_int,one_bool,one_str,one_nilp,one_rp,one_nilsl,one_ro,one_cl,one_nilf,one_nili,one_ifc,one_ptr,one_sl,one_clo,flat_d,flat_ptr,flat_sl,flat_clo,flat_agg,h,hln,hl0,hl1,hl8,hx,wi]
      exact ⟨i + 1,id,_,⟨by omega,by rw [hs];exact hr⟩,by omega,rfl,⟨by rw [hs];exact ⟨rfl,rfl⟩,rfl⟩⟩
  · have he:i=F.blocks_.length:=by omega
    subst he
    refine W_run mixed ⟨[K_33,K_44,K_35,K_49],[K_33h,K_44h,K_35h,K_49h],[],38,0,[0,1,2,4,5,6,7,8,9,19,22,23,24,25,31],[14,19,25,31]⟩ (fun _=>[]) (by kernel_rfl) ?_
    simp only [stripX,stripOps,pickOps]
    simp [K_33_f,K_33_e,K_44_f,K_44_e,K_35_f,K_35_e,K_49_f,K_49_e,K_33h_f,K_33h_e,K_44h_f,K_44h_e,K_35h_f,K_35h_e,K_49h_f,K_49h_e,K_33h_g,K_44h_g,K_35h_g,K_49h_g,-V.flat,-V.one,one_int,one_bool,one_str,one_nilp,one_rp,one_nilsl,one_ro,one_cl,one_nilf,one_nili,one_ifc,one_ptr,one_sl,one_clo,flat_d,flat_ptr,flat_sl,flat_clo,flat_agg,h,hln,retQ]
    exact ⟨_,_,Fin.same (Nat.zero_le _),id,rfl,hr⟩
theorem aheadI_c (F : Func) (k : Int) (hF : Enc.good F) : PureP Tryz.prog 18 [vFunc F, .d (.int .i64 k)] (· = ahR F k) := by
  refine PureP.of_own ?_
  cases hg:goodF F with
  | false =>
    have hb:isBlk F k=false:=by simp [isBlk,hg]
    have h:PureP Tryz.prog 18 [vFunc F,.d (.int .i64 k)] (· = .tup [.d .nilsl,.d (.bool false)]):=by
      refine pure_of Tryz.func18 en_18 rfl rfl (W_run mixed ⟨[K_33,K_44,K_35,K_49],[K_33h,K_44h,K_35h,K_49h],[],38,0,[0,1,2,4,5,6,7,8,9,19,22,23,24,25,31],[14,19,25,31]⟩ (fun _=>[]) (by kernel_rfl) ?_)
      simp only [Tryz.f18,stripX,stripOps,pickOps]
      simp [K_33_f,K_33_e,K_44_f,K_44_e,K_35_f,K_35_e,K_49_f,K_49_e,K_33h_f,K_33h_e,K_44h_f,K_44h_e,K_35h_f,K_35h_e,K_49h_f,K_49h_e,K_33h_g,K_44h_g,K_35h_g,K_49h_g,hF,viewV_f hg]
    refine h.ans.mono ?_
    rintro r H' ⟨rfl,rfl⟩
    simp only [ahR,ahV,hb]
    exact Rd1.tup ⟨Rd1.nilL,Rd1.d,trivial⟩
  | true =>
    cases hv:inR k 0 (IntKind.i64.wrap (F.blocks_.length - 1)) with
    | false =>
      have hb:isBlk F k=false:=by simp [isBlk,hg,hv]
      have h:PureP Tryz.prog 18 [vFunc F,.d (.int .i64 k)] (· = .tup [.d .nilsl,.d (.bool false)]):=by
        refine pure_of Tryz.func18 en_18 rfl rfl (W_run mixed ⟨[K_33,K_44,K_35,K_49],[K_33h,K_44h,K_35h,K_49h],[],38,0,[0,1,2,4,5,6,7,8,9,19,22,23,24,25,31],[14,19,25,31]⟩ (fun _=>[]) (by kernel_rfl) ?_)
        simp only [Tryz.f18,stripX,stripOps,pickOps]
        simp [K_33_f,K_33_e,K_44_f,K_44_e,K_35_f,K_35_e,K_49_f,K_49_e,K_33h_f,K_33h_e,K_44h_f,K_44h_e,K_35h_f,K_35h_e,K_49h_f,K_49h_e,K_33h_g,K_44h_g,K_35h_g,K_49h_g,hF,viewV_t hg,viewD_blocks,hv]
      refine h.ans.mono ?_
      rintro r H' ⟨rfl,rfl⟩
      simp only [ahR,ahV,hb]
      exact Rd1.tup ⟨Rd1.nilL,Rd1.d,trivial⟩
    | true =>
      have hb:isBlk F k=true:=by simp [isBlk,hg,hv]
      refine (aheadI_own F k hF hg hv).mono ?_
      rintro r H' ⟨id,rfl,ho⟩
      simp only [ahR,ahV,hb,if_true]
      have:=Rd1.slice (own_row ho)
      have e2:Tr.era (⟨.sl id 1 0 (numsOf (ahP F k) F.blocks_.length).length,numsOf (ahP F k) F.blocks_.length⟩:AS Int)=numsOf (ahP F k) F.blocks_.length:=era_ints _
      rw [e2] at this
      exact Rd1.tup ⟨this,Rd1.d,trivial⟩
noncomputable def K_18:Ent Tryz.prog:=Ent.p2 (α:=Func) (β:=Int) 18 (fun F k=>Enc.good F) (fun F k=>ahR F k) (fun F k hc=>aheadI_c F k hc)
theorem K_18_f:K_18.f=18:=rfl
theorem K_18_e (F0:Int) (F1:List Block) (k:Int):K_18.e [.agg [.d (.int .i64 F0),.d (dBlockS F1)],.d (.int .i64 k)]=some (Enc.good (Func.mk F0 F1),ahR (Func.mk F0 F1) k,[]):=by unfold K_18;exact Ent.p2_eq (α:=Func) (β:=Int) (Func.mk F0 F1) k
noncomputable def K_18h:EntH Tryz.prog:=EntH.pk2 (α:=Func) (β:=Int) 18 (fun F k=>Enc.good F) (fun F k=>ahR F k) (fun F k=>[]) (fun F k hc=>PureP.ans (aheadI_c F k hc))
theorem K_18h_f:K_18h.f=18:=rfl
theorem K_18h_g:K_18h.gro=true:=rfl
theorem K_18h_e {x1 x2:V} {H:Heap}:K_18h.e [x1,x2] H=guardR ((decA (α:=Func) H x1).1∧(decA (α:=Int) H x2).1) (peekR (Enc.good (decA (α:=Func) H x1).2) (ahR (decA (α:=Func) H x1).2 (decA (α:=Int) H x2).2) ([]) H):=rfl
end Go.Proofs.YthafdegfjadijaaGreat
