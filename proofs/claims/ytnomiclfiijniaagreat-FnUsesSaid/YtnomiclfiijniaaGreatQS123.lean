/- What is drawn: DrawUsesOf, DrawBlockOf and DrawRedirect. No condition. -/
import Derived.Test.YtnomiclfiijniaaGreatQS111
import Derived.Test.YtnomiclfiijniaaGreatQS108
namespace Go.Proofs.YtnomiclfiijniaaGreat
set_option maxRecDepth 100000
set_option linter.unusedSimpArgs false
set_option linter.unusedVariables false
theorem kill_app2 {H2 X:Heap} {n0:Nat} (h:H2.length=n0):kill n0 [] (H2++X)=H2++List.replicate X.length .dead:=by
  refine List.ext_getElem? fun j=>?_
  rw [kill_get]
  by_cases hj:j < H2.length
  · rw [List.getElem?_append_left hj,List.getElem?_append_left hj,List.getElem?_eq_getElem hj]
    simp [killP];omega
  · rw [List.getElem?_append_right (by omega),List.getElem?_append_right (by omega),List.getElem?_replicate]
    by_cases hx:j - H2.length < X.length
    · rw [List.getElem?_eq_getElem hx,if_pos hx]
      simp [killP];omega
    · rw [List.getElem?_eq_none (by omega),if_neg hx];rfl
theorem value_own (H:Heap) (C:Nat) (code:List Byt) (a s:Int) (A:AFunc) (hA:Own H A) (hgA:Enc.good (Tr.era A)) (hc:H[C]? = some (rC code a s)) (hg:Enc.good code) (h0:0≤a) (h1:a≤800000) :
    CallsD Tryz.prog 61 [.ptr C 3 0 0,.agg (Tr.cells A)] H fun r H'=>∃ x:Int,r=.d (.int .i64 x)∧(-1≤x∧x≤65534)∧∃ (a' s':Int) (k:Nat),(a≤a'∧a'≤a + 2)∧H'=H.set C (rC code a' s')++List.replicate k .dead:=by
  have lC:=(List.getElem?_eq_some_iff.1 hc).1
  have one1:A.blocks_.v.one=true:=(AFunc.own_blocks_ hA).ok.1.scl.2
  have fl1:A.blocks_.v.flat=[A.blocks_.v]:=(AFunc.own_blocks_ hA).ok.1.flat
  rw [cells_AFunc]
  refine calls_of Tryz.func61 en_61 rfl (of_decide_eq_true rfl) (W_run mixed ⟨[],[],[103,107],11,H.length,[0,1,3,4],[]⟩ (fun _=>[]) (by kernel_rfl) ?_)
  simp only [Tryz.f61,stripX,stripOps,pickOps]
  simp [-V.flat,-V.one,one_int,one_bool,one_str,one_nilp,one_rp,one_nilsl,one_ro,one_cl,one_nilf,one_nili,one_ifc,one_ptr,one_sl,one_clo,flat_d,flat_ptr,flat_sl,flat_clo,flat_agg,one1,fl1]
  rw [aft_call]
  have dA:decA (α:=Func) (H++[Place.row 2 [[V.d (.int .i64 A.params_),A.blocks_.v]]]) (.agg [V.d (.int .i64 A.params_),A.blocks_.v])=(True,Tr.era A):=decA_A (hA.frame (S:=[]) (Only.app [] _ _) fun j _ h=>absurd h List.not_mem_nil) rfl
  have cnt:CallsD Tryz.prog 103 [.agg [V.d (.int .i64 A.params_),A.blocks_.v]] (H++[Place.row 2 [[V.d (.int .i64 A.params_),A.blocks_.v]]]) fun r H'=>r=.d (.int .i64 (cntB (Tr.era A).blocks_ (Tr.era A).params_))∧H'=H++[Place.row 2 [[V.d (.int .i64 A.params_),A.blocks_.v]]]:=by
    refine K_103h.good _ _ _ ?_
    rw [K_103h_e]
    simp only [dA]
    generalize Tr.era A=F at hgA
    simp [hgA]
    exact ⟨rfl,rfl⟩
  refine cnt.mono ?_
  rintro r G2 ⟨rfl,rfl⟩
  generalize cntB (Tr.era A).blocks_ (Tr.era A).params_=cn
  simp [-V.flat,-V.one,one_int,one_bool,one_str,one_nilp,one_rp,one_nilsl,one_ro,one_cl,one_nilf,one_nili,one_ifc,one_ptr,one_sl,one_clo,flat_d,flat_ptr,flat_sl,flat_clo,flat_agg]
  rw [aft_call]
  refine (pick_own _ C code a s _ ((List.getElem?_append_left lC).trans hc) hg (by omega) (by omega)).mono ?_
  rintro r G3 ⟨x,rfl,hx,a2,s2,hb2,rfl⟩
  have x0:=hx.1.1
  have x1:=hx.1.2
  have wx:IntKind.i64.wrap (x - 1)=x - 1:=wrap_id (by omega) (by omega)
  rw [List.set_append_left _ _ lC]
  simp [-V.flat,-V.one,one_int,one_bool,one_str,one_nilp,one_rp,one_nilsl,one_ro,one_cl,one_nilf,one_nili,one_ifc,one_ptr,one_sl,one_clo,flat_d,flat_ptr,flat_sl,flat_clo,flat_agg,wx,retQ]
  exact ⟨_,_,Fin.kill [] (by simp),x - 1,rfl,⟨by omega,by omega⟩,a2,⟨by omega,by omega⟩,s2,_,kill_app2 (by simp)⟩
set_option maxHeartbeats 8000000 in
theorem drawBlock_own (code:List Byt) (hg:Enc.good code) :
    CallsD Tryz.prog 47 [.d (dBytS code)] [] fun r H'=>∃ (A:AFunc) (x:Int),r=.tup [.agg (Tr.cells A),.d (.int .i64 x)]∧Own H' A∧(-1≤x∧x≤65534)∧Enc.good (Tr.era A):=by
  refine calls_of Tryz.func47 en_47 rfl (of_decide_eq_true rfl) (W_runS mixed [3] ⟨[],[],[60,61],15,0,[0,2,3,4,5],[]⟩ (fun | 3=>[1,0,2,3,4,5] | _=>[]) (by kernel_rfl) ?_)
  simp only [Tryz.f47,stripS,skip_cons,skip_nil,Nat.reduceBEq,Bool.or_false,Bool.or_self,Bool.or_true,Bool.true_or,cond_true,cond_false,stripX,stripOps,pickOps]
  simp [-V.flat,-V.one,one_int,one_bool,one_str,one_nilp,one_rp,one_nilsl,one_ro,one_cl,one_nilf,one_nili,one_ifc,one_ptr,one_sl,one_clo,flat_d,flat_ptr,flat_sl,flat_clo,flat_agg]
  rw [aft_call]
  refine (anyFn_own _ 1 code hg 0 0 rfl ⟨by decide,by decide⟩).mono ?_
  rintro r G1 ⟨A,a1,s1,rfl,hn1,hb1,hg1,hp1⟩
  have l1:2≤G1.length:=hn1.only.len
  have z1:G1[0]? = some (.row 2 [[V.d (.int .i64 0),V.d .nilsl]]):=hn1.only.at_ 0 (by simp) List.not_mem_nil
  have c1:G1[1]? = some (rC code a1 s1):=hn1.only.at_ 1 (by simp) List.not_mem_nil
  have one1:A.blocks_.v.one=true:=(AFunc.own_blocks_ hn1.own).ok.1.scl.2
  have fr1:∀ j∈ids A,2≤j:=fun j hj=>hn1.fresh j hj
  simp [-V.flat,-V.one,one_int,one_bool,one_str,one_nilp,one_rp,one_nilsl,one_ro,one_cl,one_nilf,one_nili,one_ifc,one_ptr,one_sl,one_clo,flat_d,flat_ptr,flat_sl,flat_clo,flat_agg,one1]
  obtain ⟨Ga,hGa⟩:∃ Ga,Ga=G1++[Place.row 2 [[V.d (D.int IntKind.i64 A.params_),A.blocks_.v]]]:=⟨_,rfl⟩
  rw [← hGa]
  have lGa:Ga.length=G1.length + 1:=by rw [hGa];simp
  have oldA:∀ j,j < G1.length→Ga[j]? = G1[j]?:=fun j hj=>by rw [hGa,List.getElem?_append_left hj]
  have fA:Ga[G1.length]? = some (.row 2 [[V.d (.int .i64 A.params_),A.blocks_.v]]):=by rw [hGa,List.getElem?_append_right (Nat.le_refl _)];simp
  have oA:Own Ga A:=hn1.own.frame (S:=[]) (by rw [hGa];exact Only.app [] _ _) fun j _ h=>absurd h List.not_mem_nil
  refine W_drawC mixed ⟨[],[],[60,61],15,0,[0,2,3,4,5],[]⟩ [0,1,2] [3] [4,5] (.alt 3 .leaf .nil) (fun | 3=>[0] | _=>[]) [0,2,3,4,5,11,12,13,14] (by kernel_rfl) (by kernel_rfl) ?_
  simp only [stripOps,pickOps]
  simp [-V.flat,-V.one,one_int,one_bool,one_str,one_nilp,one_rp,one_nilsl,one_ro,one_cl,one_nilf,one_nili,one_ifc,one_ptr,one_sl,one_clo,flat_d,flat_ptr,flat_sl,flat_clo,flat_agg,fA,one1]
  refine denC_one ?_
  simp only [demC,stripOps,pickOps]
  simp [loadD,-V.flat,-V.one,one_int,one_bool,one_str,one_nilp,one_rp,one_nilsl,one_ro,one_cl,one_nilf,one_nili,one_ifc,one_ptr,one_sl,one_clo,flat_d,flat_ptr,flat_sl,flat_clo,flat_agg,fA]
  rw [aft_call]
  refine (value_own Ga 1 code a1 s1 A oA hg1 ((oldA 1 (by omega)).trans c1) hg (by omega) (by omega)).mono ?_
  rintro r G2 ⟨x,rfl,hx,a2,s2,kk,hb2,rfl⟩
  have f2:(Ga.set 1 (rC code a2 s2)++List.replicate kk .dead)[G1.length]? = some (.row 2 [[V.d (.int .i64 A.params_),A.blocks_.v]]):=(List.getElem?_append_left (by simp;omega)).trans ((List.getElem?_set_ne (by omega)).trans fA)
  have z2:(Ga.set 1 (rC code a2 s2)++List.replicate kk .dead)[0]? = some (.row 2 [[V.d (.int .i64 0),V.d .nilsl]]):=(List.getElem?_append_left (by simp;omega)).trans ((List.getElem?_set_ne (by omega)).trans ((oldA 0 (by omega)).trans z1))
  simp [loadD,-V.flat,-V.one,one_int,one_bool,one_str,one_nilp,one_rp,one_nilsl,one_ro,one_cl,one_nilf,one_nili,one_ifc,one_ptr,one_sl,one_clo,flat_d,flat_ptr,flat_sl,flat_clo,flat_agg,fA,f2]
  refine denC_leaf ?_
  simp only [stripOps,pickOps]
  simp [-V.flat,-V.one,one_int,one_bool,one_str,one_nilp,one_rp,one_nilsl,one_ro,one_cl,one_nilf,one_nili,one_ifc,one_ptr,one_sl,one_clo,flat_d,flat_ptr,flat_sl,flat_clo,flat_agg,f2,z2,one1,retQ]
  rw [List.getElem?_set_self (by simp;omega)]
  refine ⟨rfl,_,rfl,_,_,Fin.same (Nat.zero_le _),A,x,rfl,oA.frame (S:=[0,1]) ⟨by simp,fun j hj hn=>?_⟩ (fun j hj h=>by have:=fr1 j hj;simp at h;omega),hx,hg1⟩
  simp only [List.mem_cons,List.not_mem_nil,or_false,not_or] at hn
  rw [List.getElem?_set_ne (fun e=>hn.1 e.symm),List.getElem?_append_left (by simpa using hj),List.getElem?_set_ne (fun e=>hn.2 e.symm)]
theorem drawBlock_p (code:List Byt) (hg:Enc.good code):PureP Tryz.prog 47 [.d (dBytS code)] fun r=>∃ (F:Func) (x:Int),r=.tup [vFunc F,.d (.int .i64 x)]∧Enc.good F∧(-1≤x∧x≤65534):=by
  refine PureP.of_ownQ ((drawBlock_own code hg).mono ?_)
  rintro r H' ⟨A,x,rfl,oA,hx,hF⟩
  exact ⟨_,⟨Tr.era A,x,rfl,hF,hx⟩,Rd1.tup ⟨Rd1.aggs oA rfl,Rd1.d,trivial⟩⟩
theorem drawUses_p (code:List Byt) (hg:Enc.good code):PureP Tryz.prog 7 [.d (dBytS code)] fun r=>∃ (F:Func) (x:Int),r=.tup [vFunc F,.d (.int .i64 x)]∧Enc.good F∧(-1≤x∧x≤65534):=by
  refine pure_of Tryz.func7 en_7 rfl rfl (W_run mixed ⟨[],[],[47],8,0,[0,2,3],[]⟩ (fun _=>[]) (by kernel_rfl) ?_)
  simp only [Tryz.f7,stripX,stripOps,pickOps]
  simp []
  rw [aft_call]
  refine ((drawBlock_p code hg).calls rfl).mono ?_
  rintro r H1 ⟨rfl,F,x,rfl,hF,hx⟩
  simp []
  exact ⟨F,x,⟨⟨rfl,rfl,rfl⟩,rfl⟩,hF,hx⟩
set_option maxHeartbeats 8000000 in
theorem drawRed_own (code:List Byt) (hg:Enc.good code) :
    CallsD Tryz.prog 17 [.d (dBytS code)] [] fun r H'=>∃ (A:AFunc) (x y:Int),r=.tup [.agg (Tr.cells A),.d (.int .i64 x),.d (.int .i64 y)]∧Own H' A∧(-1≤x∧x≤65534)∧(-1≤y∧y≤65534)∧Enc.good (Tr.era A):=by
  refine calls_of Tryz.func17 en_17 rfl (of_decide_eq_true rfl) (W_runS mixed [4] ⟨[],[],[60,61],21,0,[0,2,3,4,5,6,7],[]⟩ (fun | 4=>[1,2,0,3,4,5,6,7] | _=>[]) (by kernel_rfl) ?_)
  simp only [Tryz.f17,stripS,skip_cons,skip_nil,Nat.reduceBEq,Bool.or_false,Bool.or_self,Bool.or_true,Bool.true_or,cond_true,cond_false,stripX,stripOps,pickOps]
  simp [-V.flat,-V.one,one_int,one_bool,one_str,one_nilp,one_rp,one_nilsl,one_ro,one_cl,one_nilf,one_nili,one_ifc,one_ptr,one_sl,one_clo,flat_d,flat_ptr,flat_sl,flat_clo,flat_agg]
  rw [aft_call]
  refine (anyFn_own _ 1 code hg 0 0 rfl ⟨by decide,by decide⟩).mono ?_
  rintro r G1 ⟨A,a1,s1,rfl,hn1,hb1,hg1,hp1⟩
  have l1:2≤G1.length:=hn1.only.len
  have z1:G1[0]? = some (.row 2 [[V.d (.int .i64 0),V.d .nilsl]]):=hn1.only.at_ 0 (by simp) List.not_mem_nil
  have c1:G1[1]? = some (rC code a1 s1):=hn1.only.at_ 1 (by simp) List.not_mem_nil
  have one1:A.blocks_.v.one=true:=(AFunc.own_blocks_ hn1.own).ok.1.scl.2
  have fr1:∀ j∈ids A,2≤j:=fun j hj=>hn1.fresh j hj
  simp [-V.flat,-V.one,one_int,one_bool,one_str,one_nilp,one_rp,one_nilsl,one_ro,one_cl,one_nilf,one_nili,one_ifc,one_ptr,one_sl,one_clo,flat_d,flat_ptr,flat_sl,flat_clo,flat_agg,one1]
  rw [aft_call]
  obtain ⟨Ga,hGa⟩:∃ Ga,Ga=G1++[Place.row 2 [[V.d (D.int IntKind.i64 A.params_),A.blocks_.v]]]:=⟨_,rfl⟩
  rw [← hGa]
  have lGa:Ga.length=G1.length + 1:=by rw [hGa];simp
  have oldA:∀ j,j < G1.length→Ga[j]? = G1[j]?:=fun j hj=>by rw [hGa,List.getElem?_append_left hj]
  have fA:Ga[G1.length]? = some (.row 2 [[V.d (.int .i64 A.params_),A.blocks_.v]]):=by rw [hGa,List.getElem?_append_right (Nat.le_refl _)];simp
  have oA:Own Ga A:=hn1.own.frame (S:=[]) (by rw [hGa];exact Only.app [] _ _) fun j _ h=>absurd h List.not_mem_nil
  refine (value_own Ga 1 code a1 s1 A oA hg1 ((oldA 1 (by omega)).trans c1) hg (by omega) (by omega)).mono ?_
  rintro r G2 ⟨x,rfl,hx,a2,s2,kk,hb2,hG2⟩
  have l2:Ga.length≤G2.length:=by rw [hG2];simp
  have old2:∀ j,j < Ga.length→j ≠ 1→G2[j]? = Ga[j]?:=fun j hj h1=>by rw [hG2,List.getElem?_append_left (by simpa using hj),List.getElem?_set_ne (fun e=>h1 e.symm)]
  have c2:G2[1]? = some (rC code a2 s2):=by rw [hG2,List.getElem?_append_left (by simp;omega),List.getElem?_set_self (by omega)]
  have f2:G2[G1.length]? = some (.row 2 [[V.d (.int .i64 A.params_),A.blocks_.v]]):=(old2 _ (by omega) (by omega)).trans fA
  have z2:G2[0]? = some (.row 2 [[V.d (.int .i64 0),V.d .nilsl]]):=(old2 0 (by omega) (by omega)).trans ((oldA 0 (by omega)).trans z1)
  have oA2:Own G2 A:=oA.frame (S:=[1]) ⟨l2,fun j hj hn=>old2 j hj (fun e=>hn (by simp [e]))⟩ fun j hj h=>by have:=fr1 j hj;simp at h;omega
  simp [-V.flat,-V.one,one_int,one_bool,one_str,one_nilp,one_rp,one_nilsl,one_ro,one_cl,one_nilf,one_nili,one_ifc,one_ptr,one_sl,one_clo,flat_d,flat_ptr,flat_sl,flat_clo,flat_agg]
  refine W_drawC mixed ⟨[],[],[60,61],21,0,[0,2,3,4,5,6,7],[]⟩ [0,1,2,3] [4] [5,6,7] (.alt 4 .leaf .nil) (fun | 4=>[0] | _=>[]) [0,2,3,4,5,6,7,16,17,18,19,20] (by kernel_rfl) (by kernel_rfl) ?_
  simp only [stripOps,pickOps]
  simp [-V.flat,-V.one,one_int,one_bool,one_str,one_nilp,one_rp,one_nilsl,one_ro,one_cl,one_nilf,one_nili,one_ifc,one_ptr,one_sl,one_clo,flat_d,flat_ptr,flat_sl,flat_clo,flat_agg,f2,one1]
  refine denC_one ?_
  simp only [demC,stripOps,pickOps]
  simp [loadD,-V.flat,-V.one,one_int,one_bool,one_str,one_nilp,one_rp,one_nilsl,one_ro,one_cl,one_nilf,one_nili,one_ifc,one_ptr,one_sl,one_clo,flat_d,flat_ptr,flat_sl,flat_clo,flat_agg,f2]
  rw [aft_call]
  refine (value_own G2 1 code a2 s2 A oA2 hg1 c2 hg (by omega) (by omega)).mono ?_
  rintro r G3 ⟨y,rfl,hy,a3,s3,k3,hb3,hG3⟩
  have l3:G2.length≤G3.length:=by rw [hG3];simp
  have old3:∀ j,j < G2.length→j ≠ 1→G3[j]? = G2[j]?:=fun j hj h1=>by rw [hG3,List.getElem?_append_left (by simpa using hj),List.getElem?_set_ne (fun e=>h1 e.symm)]
  have f3:G3[G1.length]? = some (.row 2 [[V.d (.int .i64 A.params_),A.blocks_.v]]):=(old3 _ (by omega) (by omega)).trans f2
  have z3:G3[0]? = some (.row 2 [[V.d (.int .i64 0),V.d .nilsl]]):=(old3 0 (by omega) (by omega)).trans z2
  have oA3:Own G3 A:=oA2.frame (S:=[1]) ⟨l3,fun j hj hn=>old3 j hj (fun e=>hn (by simp [e]))⟩ fun j hj h=>by have:=fr1 j hj;simp at h;omega
  simp [loadD,-V.flat,-V.one,one_int,one_bool,one_str,one_nilp,one_rp,one_nilsl,one_ro,one_cl,one_nilf,one_nili,one_ifc,one_ptr,one_sl,one_clo,flat_d,flat_ptr,flat_sl,flat_clo,flat_agg,f2,f3]
  refine denC_leaf ?_
  simp only [stripOps,pickOps]
  simp [-V.flat,-V.one,one_int,one_bool,one_str,one_nilp,one_rp,one_nilsl,one_ro,one_cl,one_nilf,one_nili,one_ifc,one_ptr,one_sl,one_clo,flat_d,flat_ptr,flat_sl,flat_clo,flat_agg,f3,z3,one1,retQ]
  rw [List.getElem?_set_self (by omega)]
  exact ⟨rfl,_,rfl,_,_,Fin.same (Nat.zero_le _),A,x,y,rfl,oA3.frame (S:=[0]) Only.set fun j hj h=>by have:=fr1 j hj;simp at h;omega,hx,hy,hg1⟩
theorem drawRed_p (code:List Byt) (hg:Enc.good code):PureP Tryz.prog 17 [.d (dBytS code)] fun r=>∃ (F:Func) (x y:Int),r=.tup [vFunc F,.d (.int .i64 x),.d (.int .i64 y)]∧Enc.good F∧(-1≤x∧x≤65534)∧(-1≤y∧y≤65534):=by
  refine PureP.of_ownQ ((drawRed_own code hg).mono ?_)
  rintro r H' ⟨A,x,y,rfl,oA,hx,hy,hF⟩
  exact ⟨_,⟨Tr.era A,x,y,rfl,hF,hx,hy⟩,Rd1.tup ⟨Rd1.aggs oA rfl,Rd1.d,Rd1.d,trivial⟩⟩
end Go.Proofs.YtnomiclfiijniaaGreat
