/- What is drawn: a function and a block. No condition. -/
import Derived.Test.YthafdegfjadijaaGreatQS161
section
namespace Go.Proofs.YthafdegfjadijaaGreat
set_option maxRecDepth 100000
set_option linter.unusedSimpArgs false
set_option linter.unusedVariables false
theorem order_law {F:Func} (hg:goodF F=true) (hr:Red (nextL F.blocks_)) {i:Nat} {k y:Int} (hk:(boV F)[i]? = some k) (hy:y∈(nextL F.blocks_)[k.toNat]?.getD default) (hd:¬ Dm (nextL F.blocks_) y k):y∈(boV F).drop (i + 1):=by
  obtain ⟨hv1,hn1,hp1⟩:=good_flow hg
  have hln:(nextL F.blocks_).length=F.blocks_.length:=by simp [nextL]
  have V:=boT_vis hg
  obtain ⟨w,w1,w2,w3⟩:=V.left
  obtain ⟨_,_,v,v1,v2⟩:=V.order hn1 0 (List.mem_singleton.2 rfl) (fun x hx=>hx) (fun x hx b hb=>by
    rw [List.mem_singleton.1 hx]
    exact .base fun e=>hb (by rw [← e];exact List.mem_singleton.2 rfl)) (fun x hx=>absurd hx List.not_mem_nil) (fun x hx=>by rw [List.mem_singleton.1 hx];omega) (fun g hg _=>by rw [List.mem_singleton.1 hg];exact .base (by decide))
  simp only [List.append_nil] at v1 w1 v2 w2
  subst v1
  subst w1
  have hb:boV F=0 :: (boT F).2:=by unfold boV;rw [if_pos hg]
  rw [hb] at hk ⊢
  cases i with
  | zero =>
    have hk0:k=0:=by simpa using hk.symm
    subst hk0
    have hy0:y ≠ 0:=fun e=>hd (by rw [e];exact .refl (.base (by decide)))
    show y∈(boT F).2
    exact (w2 y).2 ⟨V.all y hy,fun q=>hy0 (List.mem_singleton.1 q)⟩
  | succ i =>
    have hk':(boT F).2[i]? = some k:=by simpa using hk
    have hil:=(List.getElem?_eq_some_iff.1 hk').1
    have hke:=(List.getElem?_eq_some_iff.1 hk').2
    have hsp:(boT F).2=(boT F).2.take i++k :: (boT F).2.drop (i + 1):=by rw [← hke,← List.drop_eq_getElem_cons hil,List.take_append_drop]
    show y∈(boT F).2.drop (i + 1)
    rcases v2 _ _ k y hsp hy with q | q
    · exact q
    · exfalso
      have hkm:k∈(boT F).2:=List.mem_of_getElem? hk'
      have hkr:Rch (nextL F.blocks_) 0 (-1) k:=(boT_all hg).1 ((w2 k).1 hkm).1
      have hkg:=hkr.rng hn1 (by omega)
      exact hr k hkr ⟨y,(mem_forth hkg).2 ⟨hy,hd⟩,q⟩
theorem edge_law {F:Func} (hg:goodF F=true) {e:List Int} (he:e∈bkL F):∃ a h:Int,e=[a,h]∧loB F h=true∧hasL (loV F h) a=true∧hasL (loV F h) h=true:=by
  obtain ⟨hv1,hn1,hp1⟩:=good_flow hg
  have hln:(nextL F.blocks_).length=F.blocks_.length:=by simp [nextL]
  obtain ⟨a,h,a1,a2,rfl⟩:=mem_bkTo.1 he
  have hd:=(mem_dS hg (x:=h) (k:=(a:Int)) (by omega)).1 (hasL_iff.1 (List.mem_filter.1 a2).2)
  have hr:=hd.rch.rng hn1 (by omega)
  have hst:(a:Int)∈stN (nextL F.blocks_) h:=by
    unfold stN
    refine List.mem_map.2 ⟨[(a:Int),h],List.mem_filter.2 ⟨?_,by simp⟩,by simp⟩
    rw [hln,bkTo_congr fun k hk=>bk_same hk]
    exact he
  have hne:stN (nextL F.blocks_) h ≠ []:=fun q=>by rw [q] at hst;cases hst
  have hb:isBlk F h=true:=by simp only [isBlk,hg,Bool.true_and];exact inR_t.2 (by have:=hv1.1;rw [wrap_id] <;> omega)
  have hl:loV F h=lpL (nextL F.blocks_) h:=if_neg hne
  refine ⟨a,h,rfl,by simp [loB,hb,hne], ?_, ?_⟩
  · rw [hl,hasL_iff]
    refine mem_numsOf.2 ⟨by omega,by omega, ?_⟩
    rw [lpN,Int.toNat_natCast,Bool.or_eq_true,decide_eq_true_eq]
    by_cases e:(a:Int)=h
    · exact .inl e
    · refine .inr ?_
      rw [Bool.and_eq_true]
      refine ⟨(rchB_get (by omega)).2 hd.1,List.any_eq_true.2 ⟨a,hst, ?_⟩⟩
      rw [Int.toNat_natCast]
      exact (rchB_get (by omega)).2 (.base e)
  · rw [hl,hasL_iff]
    refine mem_numsOf.2 ⟨hr.1,hr.2, ?_⟩
    rw [lpN,show ((h.toNat:Nat):Int)=h by omega]
    simp
theorem depth_law {G:Func} {k:Int} (hG:Enc.good G) (h1:loB G k=true):0 < dpN G k G.blocks_.length:=by
  have h2:=h1
  simp only [loB,Bool.and_eq_true,Bool.not_eq_true',decide_eq_false_iff_not] at h2
  obtain ⟨hb,hne⟩:=h2
  obtain ⟨hg,h0,hl⟩:=isBlk_n hG hb
  have hln:(nextL G.blocks_).length=G.blocks_.length:=by simp [nextL]
  unfold dpN
  refine List.countP_pos_iff.2 ⟨k.toNat,List.mem_range.2 hl, ?_⟩
  rw [show ((k.toNat:Nat):Int)=k by omega,hasL_iff,loV,if_neg hne]
  refine mem_numsOf.2 ⟨h0,by omega, ?_⟩
  rw [lpN,show ((k.toNat:Nat):Int)=k by omega]
  simp
theorem drawBack_p (code:List Byt) (hg:Enc.good code):PureP Tryz.prog 22 [.d (dBytS code)] fun r=>∃ F:Func,r=vFunc F∧Enc.good F:=by
  refine pure_of Tryz.func22 en_22 rfl rfl (W_run mixed ⟨[],[],[32],5,0,[0,2],[]⟩ (fun _=>[]) (by kernel_rfl) ?_)
  simp only [Tryz.f22,stripX,stripOps,pickOps]
  simp [hg]
  rw [aft_call]
  refine ((drawReached_p code hg).calls rfl).mono ?_
  rintro r H1 ⟨rfl,F,rfl,hF⟩
  simp [hg]
  exact ⟨F,⟨rfl,rfl,rfl⟩,hF⟩
end Go.Proofs.YthafdegfjadijaaGreat
end

section
namespace Go.Proofs.YthafdegfjadijaaGreat
set_option maxRecDepth 100000
set_option linter.unusedSimpArgs false
set_option linter.unusedVariables false
set_option maxHeartbeats 8000000 in
theorem drawNext_own (code:List Byt) (hg:Enc.good code) :
    CallsD Tryz.prog 57 [.d (dBytS code)] [] fun r H'=>∃ (A:AFunc) (x:Int),r=.tup [.agg (Tr.cells A),.d (.int .i64 x)]∧New [] H' A∧(-1≤x∧x≤9)∧Enc.good (Tr.era A):=by
  refine calls_of Tryz.func57 en_57 rfl (of_decide_eq_true rfl) (W_runS mixed [3] ⟨[],[],[59,78],18,0,[0,2,3,4,5],[]⟩ (fun | 3=>[1,3,0,2,4,5,6,7,8] | _=>[]) (by kernel_rfl) ?_)
  simp only [Tryz.f57,stripS,skip_cons,skip_nil,Nat.reduceBEq,Bool.or_false,Bool.or_self,Bool.or_true,Bool.true_or,cond_true,cond_false,stripX,stripOps,pickOps]
  simp [-V.flat,-V.one,one_int,one_bool,one_str,one_nilp,one_rp,one_nilsl,one_ro,one_cl,one_nilf,one_nili,one_ifc,one_ptr,one_sl,one_clo,flat_d,flat_ptr,flat_sl,flat_clo,flat_agg]
  rw [aft_call]
  refine (ways_own _ 1 code hg 0 0 rfl ⟨by decide,by decide⟩).mono ?_
  rintro r G1 ⟨A,a1,s1,rfl,hn1,hb1,hg1⟩
  have l1:=hn1.only.len
  have gR:G1[0]? = some (.row 2 [[V.d (.int .i64 0),V.d .nilsl]]):=hn1.only.at_ 0 (by simp) List.not_mem_nil
  have gC:G1[1]? = some (rC code a1 s1):=hn1.only.at_ 1 (by simp) List.not_mem_nil
  have fr:∀ j∈ids A,2≤j:=fun j hj=>by have:=hn1.fresh j hj;simpa using this
  have l1':2≤G1.length:=by simpa using l1
  have one1:A.blocks_.v.one=true:=(AFunc.own_blocks_ hn1.own).ok.1.scl.2
  simp [-V.flat,-V.one,one_int,one_bool,one_str,one_nilp,one_rp,one_nilsl,one_ro,one_cl,one_nilf,one_nili,one_ifc,one_ptr,one_sl,one_clo,flat_d,flat_ptr,flat_sl,flat_clo,flat_agg,one1]
  obtain ⟨Ga,hGa⟩:∃ Ga,Ga=G1++[Place.row 2 [[V.d (D.int IntKind.i64 A.params_),A.blocks_.v]]]:=⟨_,rfl⟩
  rw [← hGa]
  have lGa:Ga.length=G1.length + 1:=by rw [hGa];simp
  have oldA:∀ j,j < G1.length→Ga[j]? = G1[j]?:=fun j hj=>by rw [hGa,List.getElem?_append_left hj]
  have fA:Ga[G1.length]? = some (.row 2 [[V.d (.int .i64 A.params_),A.blocks_.v]]):=by rw [hGa,List.getElem?_append_right (Nat.le_refl _)];simp
  have cA:Ga[1]? = some (rC code a1 s1):=(oldA _ (by omega)).trans gC
  have rA:Ga[0]? = some (.row 2 [[V.d (.int .i64 0),V.d .nilsl]]):=(oldA _ (by omega)).trans gR
  refine W_drawC mixed ⟨[],[],[59,78],18,0,[0,2,3,4,5],[]⟩ [0,1,3] [2,4] [5,6,7,8] (.alt 2 (.alt 4 .leaf .nil) .nil) (fun | 2=>[0] | 4=>[0] | _=>[]) [0,2,3,4,5,11,12,13,14,15,16,17] (by kernel_rfl) (by kernel_rfl) ?_
  simp only [stripOps,pickOps]
  simp [-V.flat,-V.one,one_int,one_bool,one_str,one_nilp,one_rp,one_nilsl,one_ro,one_cl,one_nilf,one_nili,one_ifc,one_ptr,one_sl,one_clo,flat_d,flat_ptr,flat_sl,flat_clo,flat_agg,fA,one1]
  refine denC_one ?_
  simp only [demC,stripOps,pickOps]
  simp [loadD,-V.flat,-V.one,one_int,one_bool,one_str,one_nilp,one_rp,one_nilsl,one_ro,one_cl,one_nilf,one_nili,one_ifc,one_ptr,one_sl,one_clo,flat_d,flat_ptr,flat_sl,flat_clo,flat_agg,fA]
  rw [aft_call]
  refine (pick_own Ga 1 code a1 s1 9 cA hg (by omega) (by omega)).mono ?_
  rintro r G2 ⟨x,rfl,hx,a2,s2,hb2,rfl⟩
  obtain ⟨x0,x9⟩:=hx.lt (by decide)
  have f2:(Ga.set 1 (rC code a2 s2))[G1.length]? = some (.row 2 [[V.d (.int .i64 A.params_),A.blocks_.v]]):=(List.getElem?_set_ne (by omega)).trans fA
  have r2:(Ga.set 1 (rC code a2 s2))[0]? = some (.row 2 [[V.d (.int .i64 0),V.d .nilsl]]):=(List.getElem?_set_ne (by omega)).trans rA
  have c2:(Ga.set 1 (rC code a2 s2))[1]? = some (rC code a2 s2):=List.getElem?_set_self (by omega)
  simp [loadD,-V.flat,-V.one,one_int,one_bool,one_str,one_nilp,one_rp,one_nilsl,one_ro,one_cl,one_nilf,one_nili,one_ifc,one_ptr,one_sl,one_clo,flat_d,flat_ptr,flat_sl,flat_clo,flat_agg,fA,f2]
  refine denC_one ?_
  simp only [demC,stripOps,pickOps]
  simp [loadD,-V.flat,-V.one,one_int,one_bool,one_str,one_nilp,one_rp,one_nilsl,one_ro,one_cl,one_nilf,one_nili,one_ifc,one_ptr,one_sl,one_clo,flat_d,flat_ptr,flat_sl,flat_clo,flat_agg,fA,f2]
  rw [aft_call]
  refine (pick_own _ 1 code a2 s2 9 c2 hg (by omega) (by omega)).mono ?_
  rintro r G3 ⟨y,rfl,hy,a3,s3,hb3,rfl⟩
  obtain ⟨y0,y9⟩:=hy.lt (by decide)
  rw [List.set_set]
  have f3:(Ga.set 1 (rC code a3 s3))[G1.length]? = some (.row 2 [[V.d (.int .i64 A.params_),A.blocks_.v]]):=(List.getElem?_set_ne (by omega)).trans fA
  have r3:(Ga.set 1 (rC code a3 s3))[0]? = some (.row 2 [[V.d (.int .i64 0),V.d .nilsl]]):=(List.getElem?_set_ne (by omega)).trans rA
  simp [loadD,-V.flat,-V.one,one_int,one_bool,one_str,one_nilp,one_rp,one_nilsl,one_ro,one_cl,one_nilf,one_nili,one_ifc,one_ptr,one_sl,one_clo,flat_d,flat_ptr,flat_sl,flat_clo,flat_agg,f3]
  refine denC_leaf ?_
  simp only [stripOps,pickOps]
  simp [-V.flat,-V.one,one_int,one_bool,one_str,one_nilp,one_rp,one_nilsl,one_ro,one_cl,one_nilf,one_nili,one_ifc,one_ptr,one_sl,one_clo,flat_d,flat_ptr,flat_sl,flat_clo,flat_agg,f3,r3,retQ]
  refine ⟨one1, ?_⟩
  rw [List.getElem?_set_self (by simp;omega)]
  refine ⟨rfl,_,rfl, ?_⟩
  have hq:0≤y.tdiv 8∧y.tdiv 8≤1:=by rw [Int.tdiv_eq_ediv_of_nonneg y0];omega
  obtain ⟨z,hz⟩:∃ z,z=y.tdiv 8:=⟨_,rfl⟩
  rw [← hz] at hq ⊢
  have w1:IntKind.i64.wrap z=z:=wrap_id (by omega) (by omega)
  rw [w1,wrap_id (n:=x - z) (by omega) (by omega)]
  have oG:Only [1,0] G1 ((Ga.set 1 (rC code a3 s3)).set 0 (.row 2 [[V.d (.int .i64 A.params_),A.blocks_.v]])):=⟨by simp;omega,fun j hj hn=>by
    rw [List.getElem?_set_ne (fun e=>hn (by rw [← e];simp)),List.getElem?_set_ne (fun e=>hn (by rw [← e];simp)),oldA j hj]⟩
  exact fin_new (H0:=[]) (a:=A) (hn1.own.frame oG fun j hj h=>by have:=fr j hj;simp at h;omega) ⟨Nat.zero_le _,fun j hj=>absurd hj (Nat.not_lt_zero _)⟩ (fun _ _=>Nat.zero_le _) fun H' h'=>⟨A,x - z,rfl,h',⟨by omega,by omega⟩,hg1⟩
theorem drawNext_p (code:List Byt) (hg:Enc.good code):PureP Tryz.prog 57 [.d (dBytS code)] fun r=>∃ (F:Func) (x:Int),r=.tup [vFunc F,.d (.int .i64 x)]∧Enc.good F∧(-1≤x∧x≤9):=by
  refine PureP.of_ownQ ((drawNext_own code hg).mono ?_)
  rintro r H' ⟨A,x,rfl,hn,hx,hF⟩
  exact ⟨_,⟨Tr.era A,x,rfl,hF,hx⟩,Rd1.tup ⟨Rd1.aggs hn.own rfl,Rd1.d,trivial⟩⟩
theorem drawLoop_p (code:List Byt) (hg:Enc.good code):PureP Tryz.prog 28 [.d (dBytS code)] fun r=>∃ (F:Func) (x:Int),r=.tup [vFunc F,.d (.int .i64 x)]∧Enc.good F∧(-1≤x∧x≤9):=by
  refine pure_of Tryz.func28 en_28 rfl rfl (W_run mixed ⟨[],[],[57],8,0,[0,2,3],[]⟩ (fun _=>[]) (by kernel_rfl) ?_)
  simp only [Tryz.f28,stripX,stripOps,pickOps]
  simp [hg]
  rw [aft_call]
  refine ((drawNext_p code hg).calls rfl).mono ?_
  rintro r H1 ⟨rfl,F,x,rfl,hF,hx⟩
  simp [hg]
  exact ⟨F,x,⟨⟨rfl,rfl,rfl⟩,rfl⟩,hF,hx⟩
end Go.Proofs.YthafdegfjadijaaGreat
end
