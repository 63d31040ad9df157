/- What is drawn: DrawLiveAt, DrawIsThere. No condition. -/
import Derived.Test.YtnomiclfiijniaaQS129
import Derived.Test.YtnomiclfiijniaaQS108
section
namespace Go.Proofs.Ytnomiclfiijniaa
set_option maxRecDepth 100000
set_option linter.unusedSimpArgs false
set_option linter.unusedVariables false
theorem kill_app2 {H2 X:Heap} {n0:Nat} (h:H2.length=n0):kill n0 [] (H2++X)=H2++List.replicate X.length .dead:=by
  refine List.ext_getElem? fun j=>?_
  rw [kill_get]
  by_cases hj:j < H2.length
  · rw [List.getElem?_append_left hj,List.getElem?_append_left hj,List.getElem?_eq_getElem hj]
    simp [killP];omega
  · rw [List.getElem?_append_right (by omega),List.getElem?_append_right (by omega),List.getElem?_replicate]
    by_cases hx:j - H2.length < X.length
    · rw [List.getElem?_eq_getElem hx,if_pos hx]
      simp [killP];omega
    · rw [List.getElem?_eq_none (by omega),if_neg hx];rfl
theorem value_own (H:Heap) (C:Nat) (code:List Byt) (a s:Int) (A:AFunc) (hA:Own H A) (hgA:Enc.good (Tr.era A)) (hc:H[C]? = some (rC code a s)) (hg:Enc.good code) (h0:0≤a) (h1:a≤800000) :
    CallsD Try.prog 75 [.ptr C 3 0 0,.agg (Tr.cells A)] H fun r H'=>∃ x:Int,r=.d (.int .i64 x)∧(-1≤x∧x≤65534)∧∃ (a' s':Int) (k:Nat),(a≤a'∧a'≤a + 2)∧H'=H.set C (rC code a' s')++List.replicate k .dead:=by
  have lC:=(List.getElem?_eq_some_iff.1 hc).1
  have one1:A.blocks_.v.one=true:=(AFunc.own_blocks_ hA).ok.1.scl.2
  have fl1:A.blocks_.v.flat=[A.blocks_.v]:=(AFunc.own_blocks_ hA).ok.1.flat
  rw [cells_AFunc]
  refine calls_of Try.func75 en_75 rfl (of_decide_eq_true rfl) (W_run mixed ⟨[],[],[39,38],11,H.length,[0,1,3,4],[]⟩ (fun _=>[]) (by kernel_rfl) ?_)
  simp only [Try.f75,stripX,stripOps,pickOps]
  simp [-V.flat,-V.one,one_int,one_bool,one_str,one_nilp,one_rp,one_nilsl,one_ro,one_cl,one_nilf,one_nili,one_ifc,one_ptr,one_sl,one_clo,flat_d,flat_ptr,flat_sl,flat_clo,flat_agg,one1,fl1]
  rw [aft_call]
  have dA:decA (α:=Func) (H++[Place.row 2 [[V.d (.int .i64 A.params_),A.blocks_.v]]]) (.agg [V.d (.int .i64 A.params_),A.blocks_.v])=(True,Tr.era A):=decA_A (hA.frame (S:=[]) (Only.app [] _ _) fun j _ h=>absurd h List.not_mem_nil) rfl
  have cnt:CallsD Try.prog 39 [.agg [V.d (.int .i64 A.params_),A.blocks_.v]] (H++[Place.row 2 [[V.d (.int .i64 A.params_),A.blocks_.v]]]) fun r H'=>r=.d (.int .i64 (cntB (Tr.era A).blocks_ (Tr.era A).params_))∧H'=H++[Place.row 2 [[V.d (.int .i64 A.params_),A.blocks_.v]]]:=by
    refine K_39h.good _ _ _ ?_
    rw [K_39h_e]
    simp only [dA]
    generalize Tr.era A=F at hgA
    simp [hgA]
    exact ⟨rfl,rfl⟩
  refine cnt.mono ?_
  rintro r G2 ⟨rfl,rfl⟩
  generalize cntB (Tr.era A).blocks_ (Tr.era A).params_=cn
  simp [-V.flat,-V.one,one_int,one_bool,one_str,one_nilp,one_rp,one_nilsl,one_ro,one_cl,one_nilf,one_nili,one_ifc,one_ptr,one_sl,one_clo,flat_d,flat_ptr,flat_sl,flat_clo,flat_agg]
  rw [aft_call]
  refine (pick_own _ C code a s _ ((List.getElem?_append_left lC).trans hc) hg (by omega) (by omega)).mono ?_
  rintro r G3 ⟨x,rfl,hx,a2,s2,hb2,rfl⟩
  have x0:=hx.1.1
  have x1:=hx.1.2
  have wx:IntKind.i64.wrap (x - 1)=x - 1:=wrap_id (by omega) (by omega)
  rw [List.set_append_left _ _ lC]
  simp [-V.flat,-V.one,one_int,one_bool,one_str,one_nilp,one_rp,one_nilsl,one_ro,one_cl,one_nilf,one_nili,one_ifc,one_ptr,one_sl,one_clo,flat_d,flat_ptr,flat_sl,flat_clo,flat_agg,wx,retQ]
  exact ⟨_,_,Fin.kill [] (by simp),x - 1,rfl,⟨by omega,by omega⟩,a2,⟨by omega,by omega⟩,s2,_,kill_app2 (by simp)⟩
end Go.Proofs.Ytnomiclfiijniaa
end

section
namespace Go.Proofs.Ytnomiclfiijniaa
set_option maxRecDepth 100000
set_option linter.unusedSimpArgs false
set_option linter.unusedVariables false
set_option maxHeartbeats 8000000 in
theorem drawLive_own (code:List Byt) (hg:Enc.good code) :
    CallsD Try.prog 35 [.d (dBytS code)] [] fun r H'=>∃ (A:AFunc) (x:Int),r=.tup [.agg (Tr.cells A),.d (.int .i64 x)]∧Own H' A∧Enc.good (Tr.era A):=by
  refine calls_of Try.func35 en_35 rfl (of_decide_eq_true rfl) (W_runS mixed [3] ⟨[],[],[37,38],18,0,[0,2,3,4,5],[]⟩ (fun | 3=>[1,3,0,2,4,5,6,7,8] | _=>[]) (by kernel_rfl) ?_)
  simp only [Try.f35,stripS,skip_cons,skip_nil,Nat.reduceBEq,Bool.or_false,Bool.or_self,Bool.or_true,Bool.true_or,cond_true,cond_false,stripX,stripOps,pickOps]
  simp [-V.flat,-V.one,one_int,one_bool,one_str,one_nilp,one_rp,one_nilsl,one_ro,one_cl,one_nilf,one_nili,one_ifc,one_ptr,one_sl,one_clo,flat_d,flat_ptr,flat_sl,flat_clo,flat_agg]
  rw [aft_call]
  refine (anyFn_own _ 1 code hg 0 0 rfl ⟨by decide,by decide⟩).mono ?_
  rintro r G1 ⟨A,a1,s1,rfl,hn1,hb1,hg1,hp1⟩
  have l1:2≤G1.length:=hn1.only.len
  have z1:G1[0]? = some (.row 2 [[V.d (.int .i64 0),V.d .nilsl]]):=hn1.only.at_ 0 (by simp) List.not_mem_nil
  have c1:G1[1]? = some (rC code a1 s1):=hn1.only.at_ 1 (by simp) List.not_mem_nil
  have one1:A.blocks_.v.one=true:=(AFunc.own_blocks_ hn1.own).ok.1.scl.2
  have fr1:∀ j∈ids A,2≤j:=fun j hj=>hn1.fresh j hj
  simp [-V.flat,-V.one,one_int,one_bool,one_str,one_nilp,one_rp,one_nilsl,one_ro,one_cl,one_nilf,one_nili,one_ifc,one_ptr,one_sl,one_clo,flat_d,flat_ptr,flat_sl,flat_clo,flat_agg,one1]
  obtain ⟨Ga,hGa⟩:∃ Ga,Ga=G1++[Place.row 2 [[V.d (D.int IntKind.i64 A.params_),A.blocks_.v]]]:=⟨_,rfl⟩
  rw [← hGa]
  have lGa:Ga.length=G1.length + 1:=by rw [hGa];simp
  have oldA:∀ j,j < G1.length→Ga[j]? = G1[j]?:=fun j hj=>by rw [hGa,List.getElem?_append_left hj]
  have fA:Ga[G1.length]? = some (.row 2 [[V.d (.int .i64 A.params_),A.blocks_.v]]):=by rw [hGa,List.getElem?_append_right (Nat.le_refl _)];simp
  have oA:Own Ga A:=hn1.own.frame (S:=[]) (by rw [hGa];exact Only.app [] _ _) fun j _ h=>absurd h List.not_mem_nil
  refine W_drawC mixed ⟨[],[],[37,38],18,0,[0,2,3,4,5],[]⟩ [0,1,3] [2,4] [5,6,7,8] (.alt 2 (.alt 4 .leaf .nil) .nil) (fun | 2=>[0] | 4=>[0] | _=>[]) [0,2,3,4,5,11,12,13,14,15,16,17] (by kernel_rfl) (by kernel_rfl) ?_
  simp only [stripOps,pickOps]
  simp [-V.flat,-V.one,one_int,one_bool,one_str,one_nilp,one_rp,one_nilsl,one_ro,one_cl,one_nilf,one_nili,one_ifc,one_ptr,one_sl,one_clo,flat_d,flat_ptr,flat_sl,flat_clo,flat_agg,fA,one1]
  refine denC_one ?_
  simp only [demC,stripOps,pickOps]
  simp [loadD,-V.flat,-V.one,one_int,one_bool,one_str,one_nilp,one_rp,one_nilsl,one_ro,one_cl,one_nilf,one_nili,one_ifc,one_ptr,one_sl,one_clo,flat_d,flat_ptr,flat_sl,flat_clo,flat_agg,fA]
  rw [aft_call]
  refine (pick_own Ga 1 code a1 s1 _ ((oldA 1 (by omega)).trans c1) hg (by omega) (by omega)).mono ?_
  rintro r G2 ⟨x,rfl,hx,a2,s2,hb2,hG2⟩
  have l2:G2.length=Ga.length:=by rw [hG2];simp
  have old2:∀ j,j ≠ 1→G2[j]? = Ga[j]?:=fun j h1=>by rw [hG2,List.getElem?_set_ne (fun e=>h1 e.symm)]
  have c2:G2[1]? = some (rC code a2 s2):=by rw [hG2,List.getElem?_set_self (by omega)]
  have f2:G2[G1.length]? = some (.row 2 [[V.d (.int .i64 A.params_),A.blocks_.v]]):=(old2 _ (by omega)).trans fA
  have z2:G2[0]? = some (.row 2 [[V.d (.int .i64 0),V.d .nilsl]]):=(old2 0 (by omega)).trans ((oldA 0 (by omega)).trans z1)
  simp [loadD,-V.flat,-V.one,one_int,one_bool,one_str,one_nilp,one_rp,one_nilsl,one_ro,one_cl,one_nilf,one_nili,one_ifc,one_ptr,one_sl,one_clo,flat_d,flat_ptr,flat_sl,flat_clo,flat_agg,fA,f2]
  refine denC_one ?_
  simp only [demC,stripOps,pickOps]
  simp [loadD,-V.flat,-V.one,one_int,one_bool,one_str,one_nilp,one_rp,one_nilsl,one_ro,one_cl,one_nilf,one_nili,one_ifc,one_ptr,one_sl,one_clo,flat_d,flat_ptr,flat_sl,flat_clo,flat_agg,f2]
  rw [aft_call]
  refine (pick_own G2 1 code a2 s2 _ c2 hg (by omega) (by omega)).mono ?_
  rintro r G3 ⟨y,rfl,hy,a3,s3,hb3,hG3⟩
  have l3:G3.length=G2.length:=by rw [hG3];simp
  have old3:∀ j,j ≠ 1→G3[j]? = G2[j]?:=fun j h1=>by rw [hG3,List.getElem?_set_ne (fun e=>h1 e.symm)]
  have f3:G3[G1.length]? = some (.row 2 [[V.d (.int .i64 A.params_),A.blocks_.v]]):=(old3 _ (by omega)).trans f2
  have z3:G3[0]? = some (.row 2 [[V.d (.int .i64 0),V.d .nilsl]]):=(old3 0 (by omega)).trans z2
  have oA3:Own G3 A:=oA.frame (S:=[1]) ⟨by omega,fun j hj hn=>(old3 j (fun e=>hn (by simp [e]))).trans (old2 j (fun e=>hn (by simp [e])))⟩ fun j hj h=>by have:=fr1 j hj;simp at h;omega
  simp [loadD,-V.flat,-V.one,one_int,one_bool,one_str,one_nilp,one_rp,one_nilsl,one_ro,one_cl,one_nilf,one_nili,one_ifc,one_ptr,one_sl,one_clo,flat_d,flat_ptr,flat_sl,flat_clo,flat_agg,f2,f3]
  refine denC_leaf ?_
  simp only [stripOps,pickOps]
  simp [-V.flat,-V.one,one_int,one_bool,one_str,one_nilp,one_rp,one_nilsl,one_ro,one_cl,one_nilf,one_nili,one_ifc,one_ptr,one_sl,one_clo,flat_d,flat_ptr,flat_sl,flat_clo,flat_agg,f3,z3,one1,retQ]
  rw [List.getElem?_set_self (by omega)]
  exact ⟨rfl,_,rfl,_,_,Fin.same (Nat.zero_le _),A,⟨_,rfl⟩,oA3.frame (S:=[0]) Only.set fun j hj h=>by have:=fr1 j hj;simp at h;omega,hg1⟩
theorem drawLive_p (code:List Byt) (hg:Enc.good code):PureP Try.prog 35 [.d (dBytS code)] fun r=>∃ (F:Func) (x:Int),r=.tup [vFunc F,.d (.int .i64 x)]∧Enc.good F:=by
  refine PureP.of_ownQ ((drawLive_own code hg).mono ?_)
  rintro r H' ⟨A,x,rfl,oA,hF⟩
  exact ⟨_,⟨Tr.era A,x,rfl,hF⟩,Rd1.tup ⟨Rd1.aggs oA rfl,Rd1.d,trivial⟩⟩
set_option maxHeartbeats 8000000 in
theorem drawThere_own (code : List Byt) (hg : Enc.good code) :
    CallsD Try.prog 33 [.d (dBytS code)] [] fun r H'=>∃ (A:AFunc) (n x y:Int),r=.tup [.agg (Tr.cells A),.d (.int .i64 n),.d (.int .i64 x),.d (.int .i64 y)]∧Own H' A∧(-1≤n∧n≤65534)∧Enc.good (Tr.era A):=by
  refine calls_of Try.func33 en_33 rfl (of_decide_eq_true rfl) (W_runS mixed [4] ⟨[],[],[37,75,38],27,0,[0,2,3,4,5,6,7,8],[]⟩ (fun | 4=>[1,2,4,8,0,3,5,6,7,9,10,11,12,13] | _=>[]) (by kernel_rfl) ?_)
  simp only [Try.f33,stripS,skip_cons,skip_nil,Nat.reduceBEq,Bool.or_false,Bool.or_self,Bool.or_true,Bool.true_or,cond_true,cond_false,stripX,stripOps,pickOps]
  simp [-V.flat,-V.one,one_int,one_bool,one_str,one_nilp,one_rp,one_nilsl,one_ro,one_cl,one_nilf,one_nili,one_ifc,one_ptr,one_sl,one_clo,flat_d,flat_ptr,flat_sl,flat_clo,flat_agg]
  rw [aft_call]
  refine (anyFn_own _ 1 code hg 0 0 rfl ⟨by decide,by decide⟩).mono ?_
  rintro r G1 ⟨A,a1,s1,rfl,hn1,hb1,hg1,hp1⟩
  have l1:2≤G1.length:=hn1.only.len
  have z1:G1[0]? = some (.row 2 [[V.d (.int .i64 0),V.d .nilsl]]):=hn1.only.at_ 0 (by simp) List.not_mem_nil
  have c1:G1[1]? = some (rC code a1 s1):=hn1.only.at_ 1 (by simp) List.not_mem_nil
  have one1:A.blocks_.v.one=true:=(AFunc.own_blocks_ hn1.own).ok.1.scl.2
  have fr1:∀ j∈ids A,2≤j:=fun j hj=>hn1.fresh j hj
  simp [-V.flat,-V.one,one_int,one_bool,one_str,one_nilp,one_rp,one_nilsl,one_ro,one_cl,one_nilf,one_nili,one_ifc,one_ptr,one_sl,one_clo,flat_d,flat_ptr,flat_sl,flat_clo,flat_agg,one1]
  rw [aft_call]
  obtain ⟨Ga,hGa⟩:∃ Ga,Ga=G1++[Place.row 2 [[V.d (D.int IntKind.i64 A.params_),A.blocks_.v]]]:=⟨_,rfl⟩
  rw [← hGa]
  have lGa:Ga.length=G1.length + 1:=by rw [hGa];simp
  have oldA:∀ j,j < G1.length→Ga[j]? = G1[j]?:=fun j hj=>by rw [hGa,List.getElem?_append_left hj]
  have fA:Ga[G1.length]? = some (.row 2 [[V.d (.int .i64 A.params_),A.blocks_.v]]):=by rw [hGa,List.getElem?_append_right (Nat.le_refl _)];simp
  have oA:Own Ga A:=hn1.own.frame (S:=[]) (by rw [hGa];exact Only.app [] _ _) fun j _ h=>absurd h List.not_mem_nil
  refine (value_own Ga 1 code a1 s1 A oA hg1 ((oldA 1 (by omega)).trans c1) hg (by omega) (by omega)).mono ?_
  rintro r Gv ⟨nv,rfl,hnv,a0,s0,kk,hb0,hGv⟩
  have lv:Ga.length≤Gv.length:=by rw [hGv];simp
  have oldv:∀ j,j < Ga.length→j ≠ 1→Gv[j]? = Ga[j]?:=fun j hj h1=>by rw [hGv,List.getElem?_append_left (by simpa using hj),List.getElem?_set_ne (fun e=>h1 e.symm)]
  have cv:Gv[1]? = some (rC code a0 s0):=by rw [hGv,List.getElem?_append_left (by simp;omega),List.getElem?_set_self (by omega)]
  have fv:Gv[G1.length]? = some (.row 2 [[V.d (.int .i64 A.params_),A.blocks_.v]]):=(oldv _ (by omega) (by omega)).trans fA
  have zv:Gv[0]? = some (.row 2 [[V.d (.int .i64 0),V.d .nilsl]]):=(oldv 0 (by omega) (by omega)).trans ((oldA 0 (by omega)).trans z1)
  have oAv:Own Gv A:=oA.frame (S:=[1]) ⟨lv,fun j hj hn=>oldv j hj (fun e=>hn (by simp [e]))⟩ fun j hj h=>by have:=fr1 j hj;simp at h;omega
  simp [-V.flat,-V.one,one_int,one_bool,one_str,one_nilp,one_rp,one_nilsl,one_ro,one_cl,one_nilf,one_nili,one_ifc,one_ptr,one_sl,one_clo,flat_d,flat_ptr,flat_sl,flat_clo,flat_agg]
  refine W_drawC mixed ⟨[],[],[37,75,38],27,0,[0,2,3,4,5,6,7,8],[]⟩ [0,1,2,4,8] [3,5,6,7,9,10,11] [12,13] (.alt 3 (.alt 5 (.alt 6 (.alt 7 (.alt 9 (.alt 10 (.alt 11 .leaf .nil) .nil) .nil) (.alt 9 (.alt 7 (.alt 10 (.alt 11 .leaf .nil) .nil) (.alt 10 (.alt 7 (.alt 11 .leaf .nil) (.alt 11 (.alt 7 .leaf .nil) .nil)) .nil)) .nil)) (.alt 9 (.alt 6 (.alt 7 (.alt 10 (.alt 11 .leaf .nil) .nil) (.alt 10 (.alt 7 (.alt 11 .leaf .nil) (.alt 11 (.alt 7 .leaf .nil) .nil)) .nil)) (.alt 10 (.alt 6 (.alt 7 (.alt 11 .leaf .nil) (.alt 11 (.alt 7 .leaf .nil) .nil)) (.alt 11 (.alt 6 (.alt 7 .leaf .nil) .nil) .nil)) .nil)) .nil)) .nil) .nil) (fun | 3=>[0] | 5=>[0] | 6=>[0] | 7=>[0] | 9=>[0] | _=>[]) [0,2,3,4,5,6,7,8,17,18,19,20,21,22,23,24,25,26] (by kernel_rfl) (by kernel_rfl) ?_
  simp only [stripOps,pickOps]
  simp [-V.flat,-V.one,one_int,one_bool,one_str,one_nilp,one_rp,one_nilsl,one_ro,one_cl,one_nilf,one_nili,one_ifc,one_ptr,one_sl,one_clo,flat_d,flat_ptr,flat_sl,flat_clo,flat_agg,fv,one1]
  refine denC_one ?_
  simp only [demC,stripOps,pickOps]
  simp [loadD,-V.flat,-V.one,one_int,one_bool,one_str,one_nilp,one_rp,one_nilsl,one_ro,one_cl,one_nilf,one_nili,one_ifc,one_ptr,one_sl,one_clo,flat_d,flat_ptr,flat_sl,flat_clo,flat_agg,fv]
  rw [aft_call]
  refine (pick_own Gv 1 code a0 s0 _ cv hg (by omega) (by omega)).mono ?_
  rintro r G2 ⟨x,rfl,hx,a2,s2,hb2,hG2⟩
  have l2:G2.length=Gv.length:=by rw [hG2];simp
  have old2:∀ j,j ≠ 1→G2[j]? = Gv[j]?:=fun j h1=>by rw [hG2,List.getElem?_set_ne (fun e=>h1 e.symm)]
  have c2:G2[1]? = some (rC code a2 s2):=by rw [hG2,List.getElem?_set_self (by omega)]
  have f2:G2[G1.length]? = some (.row 2 [[V.d (.int .i64 A.params_),A.blocks_.v]]):=(old2 _ (by omega)).trans fv
  simp [loadD,-V.flat,-V.one,one_int,one_bool,one_str,one_nilp,one_rp,one_nilsl,one_ro,one_cl,one_nilf,one_nili,one_ifc,one_ptr,one_sl,one_clo,flat_d,flat_ptr,flat_sl,flat_clo,flat_agg,fv,f2]
  refine denC_one ?_
  simp only [demC,stripOps,pickOps]
  simp [loadD,-V.flat,-V.one,one_int,one_bool,one_str,one_nilp,one_rp,one_nilsl,one_ro,one_cl,one_nilf,one_nili,one_ifc,one_ptr,one_sl,one_clo,flat_d,flat_ptr,flat_sl,flat_clo,flat_agg,f2]
  rw [aft_call]
  refine (pick_own G2 1 code a2 s2 _ c2 hg (by omega) (by omega)).mono ?_
  rintro r G3 ⟨y,rfl,hy,a3,s3,hb3,hG3⟩
  have l3:G3.length=G2.length:=by rw [hG3];simp
  have old3:∀ j,j ≠ 1→G3[j]? = G2[j]?:=fun j h1=>by rw [hG3,List.getElem?_set_ne (fun e=>h1 e.symm)]
  have c3:G3[1]? = some (rC code a3 s3):=by rw [hG3,List.getElem?_set_self (by omega)]
  have f3:G3[G1.length]? = some (.row 2 [[V.d (.int .i64 A.params_),A.blocks_.v]]):=(old3 _ (by omega)).trans f2
  simp [loadD,-V.flat,-V.one,one_int,one_bool,one_str,one_nilp,one_rp,one_nilsl,one_ro,one_cl,one_nilf,one_nili,one_ifc,one_ptr,one_sl,one_clo,flat_d,flat_ptr,flat_sl,flat_clo,flat_agg,f2,f3]
  refine ⟨?_, ?_⟩
  · simp only [demC,stripOps,pickOps]
    simp [loadD,-V.flat,-V.one,one_int,one_bool,one_str,one_nilp,one_rp,one_nilsl,one_ro,one_cl,one_nilf,one_nili,one_ifc,one_ptr,one_sl,one_clo,flat_d,flat_ptr,flat_sl,flat_clo,flat_agg,f3]
    refine ⟨?_, ?_⟩
    · simp only [demC,stripOps,pickOps]
      simp [loadD,-V.flat,-V.one,one_int,one_bool,one_str,one_nilp,one_rp,one_nilsl,one_ro,one_cl,one_nilf,one_nili,one_ifc,one_ptr,one_sl,one_clo,flat_d,flat_ptr,flat_sl,flat_clo,flat_agg,f3]
      refine denC_one ?_
      simp only [demC,stripOps,pickOps]
      simp [loadD,-V.flat,-V.one,one_int,one_bool,one_str,one_nilp,one_rp,one_nilsl,one_ro,one_cl,one_nilf,one_nili,one_ifc,one_ptr,one_sl,one_clo,flat_d,flat_ptr,flat_sl,flat_clo,flat_agg,f3]
      rw [aft_call]
      refine (pick_own G3 1 code a3 s3 _ c3 hg (by omega) (by omega)).mono ?_
      rintro r G4 ⟨z,rfl,hz,a4,s4,hb4,hG4⟩
      have l4:G4.length=G3.length:=by rw [hG4];simp
      have old4:∀ j,j ≠ 1→G4[j]? = G3[j]?:=fun j h1=>by rw [hG4,List.getElem?_set_ne (fun e=>h1 e.symm)]
      have f4:G4[G1.length]? = some (.row 2 [[V.d (.int .i64 A.params_),A.blocks_.v]]):=(old4 _ (by omega)).trans f3
      have z4:G4[0]? = some (.row 2 [[V.d (.int .i64 0),V.d .nilsl]]):=(old4 0 (by omega)).trans ((old3 0 (by omega)).trans ((old2 0 (by omega)).trans zv))
      have oA4:Own G4 A:=oAv.frame (S:=[1]) ⟨by omega,fun j hj hn=>(old4 j (fun e=>hn (by simp [e]))).trans ((old3 j (fun e=>hn (by simp [e]))).trans (old2 j (fun e=>hn (by simp [e]))))⟩ fun j hj h=>by have:=fr1 j hj;simp at h;omega
      have s4:∀ P,(G4.set 0 P)[G1.length]? = some (.row 2 [[V.d (.int .i64 A.params_),A.blocks_.v]]):=fun P=>(List.getElem?_set_ne (by omega)).trans f4
      simp [loadD,-V.flat,-V.one,one_int,one_bool,one_str,one_nilp,one_rp,one_nilsl,one_ro,one_cl,one_nilf,one_nili,one_ifc,one_ptr,one_sl,one_clo,flat_d,flat_ptr,flat_sl,flat_clo,flat_agg,f3,f4]
      refine denC_one ?_
      simp only [demC,stripOps,pickOps]
      simp [loadD,-V.flat,-V.one,one_int,one_bool,one_str,one_nilp,one_rp,one_nilsl,one_ro,one_cl,one_nilf,one_nili,one_ifc,one_ptr,one_sl,one_clo,flat_d,flat_ptr,flat_sl,flat_clo,flat_agg,f4,z4,one1]
      refine denC_one ?_
      simp only [demC,stripOps,pickOps]
      simp [loadD,-V.flat,-V.one,one_int,one_bool,one_str,one_nilp,one_rp,one_nilsl,one_ro,one_cl,one_nilf,one_nili,one_ifc,one_ptr,one_sl,one_clo,flat_d,flat_ptr,flat_sl,flat_clo,flat_agg,f4,s4,one1]
      refine denC_leaf ?_
      simp only [stripOps,pickOps]
      simp [-V.flat,-V.one,one_int,one_bool,one_str,one_nilp,one_rp,one_nilsl,one_ro,one_cl,one_nilf,one_nili,one_ifc,one_ptr,one_sl,one_clo,flat_d,flat_ptr,flat_sl,flat_clo,flat_agg,f4,z4,one1,retQ]
      rw [List.getElem?_set_self (by omega)]
      exact ⟨rfl,_,rfl,_,_,Fin.same (Nat.zero_le _),A,nv,⟨_,_,rfl⟩,oA4.frame (S:=[0]) Only.set fun j hj h=>by have:=fr1 j hj;simp at h;omega,hnv,hg1⟩
    · refine denC_one ?_
      simp only [demC,stripOps,pickOps]
      simp [loadD,-V.flat,-V.one,one_int,one_bool,one_str,one_nilp,one_rp,one_nilsl,one_ro,one_cl,one_nilf,one_nili,one_ifc,one_ptr,one_sl,one_clo,flat_d,flat_ptr,flat_sl,flat_clo,flat_agg,f3]
      rw [aft_call]
      refine (pick_own G3 1 code a3 s3 _ c3 hg (by omega) (by omega)).mono ?_
      rintro r G4 ⟨z,rfl,hz,a4,s4,hb4,hG4⟩
      have l4:G4.length=G3.length:=by rw [hG4];simp
      have old4:∀ j,j ≠ 1→G4[j]? = G3[j]?:=fun j h1=>by rw [hG4,List.getElem?_set_ne (fun e=>h1 e.symm)]
      have f4:G4[G1.length]? = some (.row 2 [[V.d (.int .i64 A.params_),A.blocks_.v]]):=(old4 _ (by omega)).trans f3
      have z4:G4[0]? = some (.row 2 [[V.d (.int .i64 0),V.d .nilsl]]):=(old4 0 (by omega)).trans ((old3 0 (by omega)).trans ((old2 0 (by omega)).trans zv))
      have oA4:Own G4 A:=oAv.frame (S:=[1]) ⟨by omega,fun j hj hn=>(old4 j (fun e=>hn (by simp [e]))).trans ((old3 j (fun e=>hn (by simp [e]))).trans (old2 j (fun e=>hn (by simp [e]))))⟩ fun j hj h=>by have:=fr1 j hj;simp at h;omega
      have s4:∀ P,(G4.set 0 P)[G1.length]? = some (.row 2 [[V.d (.int .i64 A.params_),A.blocks_.v]]):=fun P=>(List.getElem?_set_ne (by omega)).trans f4
      simp [loadD,-V.flat,-V.one,one_int,one_bool,one_str,one_nilp,one_rp,one_nilsl,one_ro,one_cl,one_nilf,one_nili,one_ifc,one_ptr,one_sl,one_clo,flat_d,flat_ptr,flat_sl,flat_clo,flat_agg,f3,f4]
      refine ⟨?_, ?_⟩
      · simp only [demC,stripOps,pickOps]
        simp [loadD,-V.flat,-V.one,one_int,one_bool,one_str,one_nilp,one_rp,one_nilsl,one_ro,one_cl,one_nilf,one_nili,one_ifc,one_ptr,one_sl,one_clo,flat_d,flat_ptr,flat_sl,flat_clo,flat_agg,f4,z4,one1]
        refine denC_one ?_
        simp only [demC,stripOps,pickOps]
        simp [loadD,-V.flat,-V.one,one_int,one_bool,one_str,one_nilp,one_rp,one_nilsl,one_ro,one_cl,one_nilf,one_nili,one_ifc,one_ptr,one_sl,one_clo,flat_d,flat_ptr,flat_sl,flat_clo,flat_agg,f4,z4,one1]
        refine denC_one ?_
        simp only [demC,stripOps,pickOps]
        simp [loadD,-V.flat,-V.one,one_int,one_bool,one_str,one_nilp,one_rp,one_nilsl,one_ro,one_cl,one_nilf,one_nili,one_ifc,one_ptr,one_sl,one_clo,flat_d,flat_ptr,flat_sl,flat_clo,flat_agg,f4,s4,one1]
        refine denC_leaf ?_
        simp only [stripOps,pickOps]
        simp [-V.flat,-V.one,one_int,one_bool,one_str,one_nilp,one_rp,one_nilsl,one_ro,one_cl,one_nilf,one_nili,one_ifc,one_ptr,one_sl,one_clo,flat_d,flat_ptr,flat_sl,flat_clo,flat_agg,f4,z4,one1,retQ]
        rw [List.getElem?_set_self (by omega)]
        exact ⟨rfl,_,rfl,_,_,Fin.same (Nat.zero_le _),A,nv,⟨_,_,rfl⟩,oA4.frame (S:=[0]) Only.set fun j hj h=>by have:=fr1 j hj;simp at h;omega,hnv,hg1⟩
      · refine denC_one ?_
        simp only [demC,stripOps,pickOps]
        simp [loadD,-V.flat,-V.one,one_int,one_bool,one_str,one_nilp,one_rp,one_nilsl,one_ro,one_cl,one_nilf,one_nili,one_ifc,one_ptr,one_sl,one_clo,flat_d,flat_ptr,flat_sl,flat_clo,flat_agg,f4,z4,one1]
        refine ⟨?_, ?_⟩
        · simp only [demC,stripOps,pickOps]
          simp [loadD,-V.flat,-V.one,one_int,one_bool,one_str,one_nilp,one_rp,one_nilsl,one_ro,one_cl,one_nilf,one_nili,one_ifc,one_ptr,one_sl,one_clo,flat_d,flat_ptr,flat_sl,flat_clo,flat_agg,f4,s4,one1]
          refine denC_one ?_
          simp only [demC,stripOps,pickOps]
          simp [loadD,-V.flat,-V.one,one_int,one_bool,one_str,one_nilp,one_rp,one_nilsl,one_ro,one_cl,one_nilf,one_nili,one_ifc,one_ptr,one_sl,one_clo,flat_d,flat_ptr,flat_sl,flat_clo,flat_agg,f4,s4,one1]
          refine denC_leaf ?_
          simp only [stripOps,pickOps]
          simp [-V.flat,-V.one,one_int,one_bool,one_str,one_nilp,one_rp,one_nilsl,one_ro,one_cl,one_nilf,one_nili,one_ifc,one_ptr,one_sl,one_clo,flat_d,flat_ptr,flat_sl,flat_clo,flat_agg,f4,z4,one1,retQ]
          rw [List.getElem?_set_self (by omega)]
          exact ⟨rfl,_,rfl,_,_,Fin.same (Nat.zero_le _),A,nv,⟨_,_,rfl⟩,oA4.frame (S:=[0]) Only.set fun j hj h=>by have:=fr1 j hj;simp at h;omega,hnv,hg1⟩
        · refine denC_one ?_
          simp only [demC,stripOps,pickOps]
          simp [loadD,-V.flat,-V.one,one_int,one_bool,one_str,one_nilp,one_rp,one_nilsl,one_ro,one_cl,one_nilf,one_nili,one_ifc,one_ptr,one_sl,one_clo,flat_d,flat_ptr,flat_sl,flat_clo,flat_agg,f4,s4,one1]
          refine denC_one ?_
          simp only [demC,stripOps,pickOps]
          simp [loadD,-V.flat,-V.one,one_int,one_bool,one_str,one_nilp,one_rp,one_nilsl,one_ro,one_cl,one_nilf,one_nili,one_ifc,one_ptr,one_sl,one_clo,flat_d,flat_ptr,flat_sl,flat_clo,flat_agg,f4,s4,one1]
          refine denC_leaf ?_
          simp only [stripOps,pickOps]
          simp [-V.flat,-V.one,one_int,one_bool,one_str,one_nilp,one_rp,one_nilsl,one_ro,one_cl,one_nilf,one_nili,one_ifc,one_ptr,one_sl,one_clo,flat_d,flat_ptr,flat_sl,flat_clo,flat_agg,f4,z4,one1,retQ]
          rw [List.getElem?_set_self (by omega)]
          exact ⟨rfl,_,rfl,_,_,Fin.same (Nat.zero_le _),A,nv,⟨_,_,rfl⟩,oA4.frame (S:=[0]) Only.set fun j hj h=>by have:=fr1 j hj;simp at h;omega,hnv,hg1⟩
  · refine denC_one ?_
    simp only [demC,stripOps,pickOps]
    simp [loadD,-V.flat,-V.one,one_int,one_bool,one_str,one_nilp,one_rp,one_nilsl,one_ro,one_cl,one_nilf,one_nili,one_ifc,one_ptr,one_sl,one_clo,flat_d,flat_ptr,flat_sl,flat_clo,flat_agg,f3]
    rw [aft_call]
    refine (pick_own G3 1 code a3 s3 _ c3 hg (by omega) (by omega)).mono ?_
    rintro r G4 ⟨z,rfl,hz,a4,s4,hb4,hG4⟩
    have l4:G4.length=G3.length:=by rw [hG4];simp
    have old4:∀ j,j ≠ 1→G4[j]? = G3[j]?:=fun j h1=>by rw [hG4,List.getElem?_set_ne (fun e=>h1 e.symm)]
    have f4:G4[G1.length]? = some (.row 2 [[V.d (.int .i64 A.params_),A.blocks_.v]]):=(old4 _ (by omega)).trans f3
    have z4:G4[0]? = some (.row 2 [[V.d (.int .i64 0),V.d .nilsl]]):=(old4 0 (by omega)).trans ((old3 0 (by omega)).trans ((old2 0 (by omega)).trans zv))
    have oA4:Own G4 A:=oAv.frame (S:=[1]) ⟨by omega,fun j hj hn=>(old4 j (fun e=>hn (by simp [e]))).trans ((old3 j (fun e=>hn (by simp [e]))).trans (old2 j (fun e=>hn (by simp [e]))))⟩ fun j hj h=>by have:=fr1 j hj;simp at h;omega
    have s4:∀ P,(G4.set 0 P)[G1.length]? = some (.row 2 [[V.d (.int .i64 A.params_),A.blocks_.v]]):=fun P=>(List.getElem?_set_ne (by omega)).trans f4
    simp [loadD,-V.flat,-V.one,one_int,one_bool,one_str,one_nilp,one_rp,one_nilsl,one_ro,one_cl,one_nilf,one_nili,one_ifc,one_ptr,one_sl,one_clo,flat_d,flat_ptr,flat_sl,flat_clo,flat_agg,f3,f4]
    refine ⟨?_, ?_⟩
    · simp only [demC,stripOps,pickOps]
      simp [loadD,-V.flat,-V.one,one_int,one_bool,one_str,one_nilp,one_rp,one_nilsl,one_ro,one_cl,one_nilf,one_nili,one_ifc,one_ptr,one_sl,one_clo,flat_d,flat_ptr,flat_sl,flat_clo,flat_agg,f4,z4,one1]
      refine ⟨?_, ?_⟩
      · simp only [demC,stripOps,pickOps]
        simp [loadD,-V.flat,-V.one,one_int,one_bool,one_str,one_nilp,one_rp,one_nilsl,one_ro,one_cl,one_nilf,one_nili,one_ifc,one_ptr,one_sl,one_clo,flat_d,flat_ptr,flat_sl,flat_clo,flat_agg,f4,z4,one1]
        refine denC_one ?_
        simp only [demC,stripOps,pickOps]
        simp [loadD,-V.flat,-V.one,one_int,one_bool,one_str,one_nilp,one_rp,one_nilsl,one_ro,one_cl,one_nilf,one_nili,one_ifc,one_ptr,one_sl,one_clo,flat_d,flat_ptr,flat_sl,flat_clo,flat_agg,f4,z4,one1]
        refine denC_one ?_
        simp only [demC,stripOps,pickOps]
        simp [loadD,-V.flat,-V.one,one_int,one_bool,one_str,one_nilp,one_rp,one_nilsl,one_ro,one_cl,one_nilf,one_nili,one_ifc,one_ptr,one_sl,one_clo,flat_d,flat_ptr,flat_sl,flat_clo,flat_agg,f4,s4,one1]
        refine denC_leaf ?_
        simp only [stripOps,pickOps]
        simp [-V.flat,-V.one,one_int,one_bool,one_str,one_nilp,one_rp,one_nilsl,one_ro,one_cl,one_nilf,one_nili,one_ifc,one_ptr,one_sl,one_clo,flat_d,flat_ptr,flat_sl,flat_clo,flat_agg,f4,z4,one1,retQ]
        rw [List.getElem?_set_self (by omega)]
        exact ⟨rfl,_,rfl,_,_,Fin.same (Nat.zero_le _),A,nv,⟨_,_,rfl⟩,oA4.frame (S:=[0]) Only.set fun j hj h=>by have:=fr1 j hj;simp at h;omega,hnv,hg1⟩
      · refine denC_one ?_
        simp only [demC,stripOps,pickOps]
        simp [loadD,-V.flat,-V.one,one_int,one_bool,one_str,one_nilp,one_rp,one_nilsl,one_ro,one_cl,one_nilf,one_nili,one_ifc,one_ptr,one_sl,one_clo,flat_d,flat_ptr,flat_sl,flat_clo,flat_agg,f4,z4,one1]
        refine ⟨?_, ?_⟩
        · simp only [demC,stripOps,pickOps]
          simp [loadD,-V.flat,-V.one,one_int,one_bool,one_str,one_nilp,one_rp,one_nilsl,one_ro,one_cl,one_nilf,one_nili,one_ifc,one_ptr,one_sl,one_clo,flat_d,flat_ptr,flat_sl,flat_clo,flat_agg,f4,s4,one1]
          refine denC_one ?_
          simp only [demC,stripOps,pickOps]
          simp [loadD,-V.flat,-V.one,one_int,one_bool,one_str,one_nilp,one_rp,one_nilsl,one_ro,one_cl,one_nilf,one_nili,one_ifc,one_ptr,one_sl,one_clo,flat_d,flat_ptr,flat_sl,flat_clo,flat_agg,f4,s4,one1]
          refine denC_leaf ?_
          simp only [stripOps,pickOps]
          simp [-V.flat,-V.one,one_int,one_bool,one_str,one_nilp,one_rp,one_nilsl,one_ro,one_cl,one_nilf,one_nili,one_ifc,one_ptr,one_sl,one_clo,flat_d,flat_ptr,flat_sl,flat_clo,flat_agg,f4,z4,one1,retQ]
          rw [List.getElem?_set_self (by omega)]
          exact ⟨rfl,_,rfl,_,_,Fin.same (Nat.zero_le _),A,nv,⟨_,_,rfl⟩,oA4.frame (S:=[0]) Only.set fun j hj h=>by have:=fr1 j hj;simp at h;omega,hnv,hg1⟩
        · refine denC_one ?_
          simp only [demC,stripOps,pickOps]
          simp [loadD,-V.flat,-V.one,one_int,one_bool,one_str,one_nilp,one_rp,one_nilsl,one_ro,one_cl,one_nilf,one_nili,one_ifc,one_ptr,one_sl,one_clo,flat_d,flat_ptr,flat_sl,flat_clo,flat_agg,f4,s4,one1]
          refine denC_one ?_
          simp only [demC,stripOps,pickOps]
          simp [loadD,-V.flat,-V.one,one_int,one_bool,one_str,one_nilp,one_rp,one_nilsl,one_ro,one_cl,one_nilf,one_nili,one_ifc,one_ptr,one_sl,one_clo,flat_d,flat_ptr,flat_sl,flat_clo,flat_agg,f4,s4,one1]
          refine denC_leaf ?_
          simp only [stripOps,pickOps]
          simp [-V.flat,-V.one,one_int,one_bool,one_str,one_nilp,one_rp,one_nilsl,one_ro,one_cl,one_nilf,one_nili,one_ifc,one_ptr,one_sl,one_clo,flat_d,flat_ptr,flat_sl,flat_clo,flat_agg,f4,z4,one1,retQ]
          rw [List.getElem?_set_self (by omega)]
          exact ⟨rfl,_,rfl,_,_,Fin.same (Nat.zero_le _),A,nv,⟨_,_,rfl⟩,oA4.frame (S:=[0]) Only.set fun j hj h=>by have:=fr1 j hj;simp at h;omega,hnv,hg1⟩
    · refine denC_one ?_
      simp only [demC,stripOps,pickOps]
      simp [loadD,-V.flat,-V.one,one_int,one_bool,one_str,one_nilp,one_rp,one_nilsl,one_ro,one_cl,one_nilf,one_nili,one_ifc,one_ptr,one_sl,one_clo,flat_d,flat_ptr,flat_sl,flat_clo,flat_agg,f4,z4,one1]
      refine ⟨?_, ?_⟩
      · simp only [demC,stripOps,pickOps]
        simp [loadD,-V.flat,-V.one,one_int,one_bool,one_str,one_nilp,one_rp,one_nilsl,one_ro,one_cl,one_nilf,one_nili,one_ifc,one_ptr,one_sl,one_clo,flat_d,flat_ptr,flat_sl,flat_clo,flat_agg,f4,s4,one1]
        refine ⟨?_, ?_⟩
        · simp only [demC,stripOps,pickOps]
          simp [loadD,-V.flat,-V.one,one_int,one_bool,one_str,one_nilp,one_rp,one_nilsl,one_ro,one_cl,one_nilf,one_nili,one_ifc,one_ptr,one_sl,one_clo,flat_d,flat_ptr,flat_sl,flat_clo,flat_agg,f4,s4,one1]
          refine denC_one ?_
          simp only [demC,stripOps,pickOps]
          simp [loadD,-V.flat,-V.one,one_int,one_bool,one_str,one_nilp,one_rp,one_nilsl,one_ro,one_cl,one_nilf,one_nili,one_ifc,one_ptr,one_sl,one_clo,flat_d,flat_ptr,flat_sl,flat_clo,flat_agg,f4,s4,one1]
          refine denC_leaf ?_
          simp only [stripOps,pickOps]
          simp [-V.flat,-V.one,one_int,one_bool,one_str,one_nilp,one_rp,one_nilsl,one_ro,one_cl,one_nilf,one_nili,one_ifc,one_ptr,one_sl,one_clo,flat_d,flat_ptr,flat_sl,flat_clo,flat_agg,f4,z4,one1,retQ]
          rw [List.getElem?_set_self (by omega)]
          exact ⟨rfl,_,rfl,_,_,Fin.same (Nat.zero_le _),A,nv,⟨_,_,rfl⟩,oA4.frame (S:=[0]) Only.set fun j hj h=>by have:=fr1 j hj;simp at h;omega,hnv,hg1⟩
        · refine denC_one ?_
          simp only [demC,stripOps,pickOps]
          simp [loadD,-V.flat,-V.one,one_int,one_bool,one_str,one_nilp,one_rp,one_nilsl,one_ro,one_cl,one_nilf,one_nili,one_ifc,one_ptr,one_sl,one_clo,flat_d,flat_ptr,flat_sl,flat_clo,flat_agg,f4,s4,one1]
          refine denC_one ?_
          simp only [demC,stripOps,pickOps]
          simp [loadD,-V.flat,-V.one,one_int,one_bool,one_str,one_nilp,one_rp,one_nilsl,one_ro,one_cl,one_nilf,one_nili,one_ifc,one_ptr,one_sl,one_clo,flat_d,flat_ptr,flat_sl,flat_clo,flat_agg,f4,s4,one1]
          refine denC_leaf ?_
          simp only [stripOps,pickOps]
          simp [-V.flat,-V.one,one_int,one_bool,one_str,one_nilp,one_rp,one_nilsl,one_ro,one_cl,one_nilf,one_nili,one_ifc,one_ptr,one_sl,one_clo,flat_d,flat_ptr,flat_sl,flat_clo,flat_agg,f4,z4,one1,retQ]
          rw [List.getElem?_set_self (by omega)]
          exact ⟨rfl,_,rfl,_,_,Fin.same (Nat.zero_le _),A,nv,⟨_,_,rfl⟩,oA4.frame (S:=[0]) Only.set fun j hj h=>by have:=fr1 j hj;simp at h;omega,hnv,hg1⟩
      · refine denC_one ?_
        simp only [demC,stripOps,pickOps]
        simp [loadD,-V.flat,-V.one,one_int,one_bool,one_str,one_nilp,one_rp,one_nilsl,one_ro,one_cl,one_nilf,one_nili,one_ifc,one_ptr,one_sl,one_clo,flat_d,flat_ptr,flat_sl,flat_clo,flat_agg,f4,s4,one1]
        refine denC_one ?_
        simp only [demC,stripOps,pickOps]
        simp [loadD,-V.flat,-V.one,one_int,one_bool,one_str,one_nilp,one_rp,one_nilsl,one_ro,one_cl,one_nilf,one_nili,one_ifc,one_ptr,one_sl,one_clo,flat_d,flat_ptr,flat_sl,flat_clo,flat_agg,f4,s4,one1]
        refine denC_one ?_
        simp only [demC,stripOps,pickOps]
        simp [loadD,-V.flat,-V.one,one_int,one_bool,one_str,one_nilp,one_rp,one_nilsl,one_ro,one_cl,one_nilf,one_nili,one_ifc,one_ptr,one_sl,one_clo,flat_d,flat_ptr,flat_sl,flat_clo,flat_agg,f4,s4,one1]
        refine denC_leaf ?_
        simp only [stripOps,pickOps]
        simp [-V.flat,-V.one,one_int,one_bool,one_str,one_nilp,one_rp,one_nilsl,one_ro,one_cl,one_nilf,one_nili,one_ifc,one_ptr,one_sl,one_clo,flat_d,flat_ptr,flat_sl,flat_clo,flat_agg,f4,z4,one1,retQ]
        rw [List.getElem?_set_self (by omega)]
        exact ⟨rfl,_,rfl,_,_,Fin.same (Nat.zero_le _),A,nv,⟨_,_,rfl⟩,oA4.frame (S:=[0]) Only.set fun j hj h=>by have:=fr1 j hj;simp at h;omega,hnv,hg1⟩
theorem drawThere_p (code:List Byt) (hg:Enc.good code):PureP Try.prog 33 [.d (dBytS code)] fun r=>∃ (F:Func) (n x y:Int),r=.tup [vFunc F,.d (.int .i64 n),.d (.int .i64 x),.d (.int .i64 y)]∧Enc.good F∧(-1≤n∧n≤65534):=by
  refine PureP.of_ownQ ((drawThere_own code hg).mono ?_)
  rintro r H' ⟨A,n,x,y,rfl,oA,hn,hF⟩
  exact ⟨_,⟨Tr.era A,n,x,y,rfl,hF,hn⟩,Rd1.tup ⟨Rd1.aggs oA rfl,Rd1.d,Rd1.d,Rd1.d,trivial⟩⟩
end Go.Proofs.Ytnomiclfiijniaa
end
