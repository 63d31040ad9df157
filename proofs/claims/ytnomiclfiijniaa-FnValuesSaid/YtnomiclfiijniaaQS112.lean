/- What is drawn, as closed data: DrawArgsOf and DrawFirstOf; the law FnValues. No condition. -/
import Derived.Test.YtnomiclfiijniaaRows
import Derived.Test.YtnomiclfiijniaaQS2
import Derived.Test.YtnomiclfiijniaaQS108
import Derived.Test.YtnomiclfiijniaaQS111
section
namespace Go.Proofs.Ytnomiclfiijniaa
set_option maxRecDepth 100000
set_option linter.unusedSimpArgs false
set_option linter.unusedVariables false
set_option maxHeartbeats 8000000 in
theorem argsOf_own (H:Heap) (code:List Byt) (hg:Enc.good code) :
    CallsD Try.prog 7 [.d (dBytS code)] H fun r H'=>∃ (A:AFunc) (x:Int),r=.tup [.agg (Tr.cells A),.d (.int .i64 x)]∧New H H' A∧(-1≤x∧x≤65534)∧Enc.good (Tr.era A):=by
  refine calls_of Try.func7 en_7 rfl (of_decide_eq_true rfl) (W_runS mixed [0,1,2,3,4] ⟨[],[],[37,39,38],18,H.length,[0,2,3,4,5],[]⟩ (fun | 3=>[1,0,2,3,4,5,6,7,8] | _=>[]) (by kernel_rfl) ?_)
  simp only [Try.f7,stripS,skip_cons,skip_nil,Nat.reduceBEq,Bool.or_false,Bool.or_self,Bool.or_true,Bool.true_or,cond_true,cond_false,stripX,stripOps,pickOps]
  simp [-V.flat,-V.one,one_int,one_bool,one_str,one_nilp,one_rp,one_nilsl,one_ro,one_cl,one_nilf,one_nili,one_ifc,one_ptr,one_sl,one_clo,flat_d,flat_ptr,flat_sl,flat_clo,flat_agg]
  rw [aft_call]
  have c0:(H++[Place.row 2 [[V.d (D.int IntKind.i64 0),V.d D.nilsl]],Place.row 3 [[V.d (dBytS code),V.d (D.int IntKind.i64 0),V.d (D.int IntKind.u64 0)]]])[H.length + 1]? = some (rC code 0 0):=by rw [List.getElem?_append_right (by omega)];simp
  refine (anyFn_own _ (H.length + 1) code hg 0 0 c0 ⟨by decide,by decide⟩).mono ?_
  generalize hG0:H++[Place.row 2 [[V.d (D.int IntKind.i64 0),V.d D.nilsl]],Place.row 3 [[V.d (dBytS code),V.d (D.int IntKind.i64 0),V.d (D.int IntKind.u64 0)]]]=G0 at c0
  have l0:G0.length=H.length + 2:=by rw [← hG0];simp
  rintro r G1 ⟨A,a1,s1,rfl,hn1,hb1,hg1⟩
  have l1:=hn1.only.len
  rw [List.length_set,l0] at l1
  have old:∀ j,j < H.length + 2→j ≠ H.length + 1→G1[j]? = G0[j]?:=fun j hj hne=>(hn1.only.at_ j (by rw [List.length_set];omega) List.not_mem_nil).trans (List.getElem?_set_ne hne.symm)
  have gR:G1[H.length]? = some (.row 2 [[V.d (.int .i64 0),V.d .nilsl]]):=(old _ (by omega) (by omega)).trans (by rw [← hG0,List.getElem?_append_right (by omega)];simp)
  have gC:G1[H.length + 1]? = some (rC code a1 s1):=(hn1.only.at_ _ (by rw [List.length_set];omega) List.not_mem_nil).trans (List.getElem?_set_self (by omega))
  have fr:=hn1.fresh
  have one1:A.blocks_.v.one=true:=(AFunc.own_blocks_ hn1.own).ok.1.scl.2
  simp [-V.flat,-V.one,one_int,one_bool,one_str,one_nilp,one_rp,one_nilsl,one_ro,one_cl,one_nilf,one_nili,one_ifc,one_ptr,one_sl,one_clo,flat_d,flat_ptr,flat_sl,flat_clo,flat_agg,one1]
  obtain ⟨Ga,hGa⟩:∃ Ga,Ga=G1++[Place.row 2 [[V.d (D.int IntKind.i64 A.params_),A.blocks_.v]]]:=⟨_,rfl⟩
  rw [← hGa]
  have lGa:Ga.length=G1.length + 1:=by rw [hGa];simp
  have oldA:∀ j,j < G1.length→Ga[j]? = G1[j]?:=fun j hj=>by rw [hGa,List.getElem?_append_left hj]
  have fA:Ga[G1.length]? = some (.row 2 [[V.d (.int .i64 A.params_),A.blocks_.v]]):=by rw [hGa,List.getElem?_append_right (Nat.le_refl _)];simp
  have cA:Ga[H.length + 1]? = some (rC code a1 s1):=(oldA _ (by omega)).trans gC
  have rA:Ga[H.length]? = some (.row 2 [[V.d (.int .i64 0),V.d .nilsl]]):=(oldA _ (by omega)).trans gR
  have dA:decA (α:=Func) Ga (.agg [V.d (.int .i64 A.params_),A.blocks_.v])=(True,Tr.era A):=decA_A (hn1.own.frame (S:=[]) (by rw [hGa];exact Only.app [] _ _) fun j _ h=>absurd h List.not_mem_nil) rfl
  refine W_drawC mixed ⟨[],[],[37,39,38],18,H.length,[0,2,3,4,5],[]⟩ [0,1,2] [3,4,5] [6,7,8] (.alt 3 (.alt 4 (.alt 5 .leaf .nil) .nil) .nil) (fun | 3=>[0] | 4=>[0] | 5=>[0] | _=>[]) [0,2,3,4,5,11,12,13,14,15,16,17] (by kernel_rfl) (by kernel_rfl) ?_
  simp only [stripOps,pickOps]
  simp [-V.flat,-V.one,one_int,one_bool,one_str,one_nilp,one_rp,one_nilsl,one_ro,one_cl,one_nilf,one_nili,one_ifc,one_ptr,one_sl,one_clo,flat_d,flat_ptr,flat_sl,flat_clo,flat_agg,fA,one1]
  refine denC_one ?_
  simp only [demC,stripOps,pickOps]
  simp [loadD,-V.flat,-V.one,one_int,one_bool,one_str,one_nilp,one_rp,one_nilsl,one_ro,one_cl,one_nilf,one_nili,one_ifc,one_ptr,one_sl,one_clo,flat_d,flat_ptr,flat_sl,flat_clo,flat_agg,fA,dA]
  rw [aft_call]
  have cnt:CallsD Try.prog 39 [.agg [V.d (.int .i64 A.params_),A.blocks_.v]] Ga fun r H'=>r=.d (.int .i64 (cntB (Tr.era A).blocks_ (Tr.era A).params_))∧H'=Ga:=by
    refine K_39h.good _ _ _ ?_
    rw [K_39h_e]
    simp only [dA]
    generalize Tr.era A=F at hg1
    simp [hg1]
    exact ⟨rfl,rfl⟩
  refine cnt.mono ?_
  rintro r G2 ⟨rfl,rfl⟩
  generalize cntB (Tr.era A).blocks_ (Tr.era A).params_=cn
  simp [loadD,-V.flat,-V.one,one_int,one_bool,one_str,one_nilp,one_rp,one_nilsl,one_ro,one_cl,one_nilf,one_nili,one_ifc,one_ptr,one_sl,one_clo,flat_d,flat_ptr,flat_sl,flat_clo,flat_agg,fA]
  refine denC_one ?_
  simp only [demC,stripOps,pickOps]
  simp [loadD,-V.flat,-V.one,one_int,one_bool,one_str,one_nilp,one_rp,one_nilsl,one_ro,one_cl,one_nilf,one_nili,one_ifc,one_ptr,one_sl,one_clo,flat_d,flat_ptr,flat_sl,flat_clo,flat_agg,fA]
  refine denC_one ?_
  simp only [demC,stripOps,pickOps]
  simp [loadD,-V.flat,-V.one,one_int,one_bool,one_str,one_nilp,one_rp,one_nilsl,one_ro,one_cl,one_nilf,one_nili,one_ifc,one_ptr,one_sl,one_clo,flat_d,flat_ptr,flat_sl,flat_clo,flat_agg,fA]
  rw [aft_call]
  refine (pick_own _ (H.length + 1) code a1 s1 _ cA hg (by omega) (by omega)).mono ?_
  rintro r G3 ⟨x,rfl,hx,a2,s2,hb2,rfl⟩
  have x0:=hx.1.1
  have x1:=hx.1.2
  have wx:IntKind.i64.wrap (x - 1)=x - 1:=wrap_id (by omega) (by omega)
  have f2:(G2.set (H.length + 1) (rC code a2 s2))[G1.length]? = some (.row 2 [[V.d (.int .i64 A.params_),A.blocks_.v]]):=(List.getElem?_set_ne (by omega)).trans fA
  have r2:(G2.set (H.length + 1) (rC code a2 s2))[H.length]? = some (.row 2 [[V.d (.int .i64 0),V.d .nilsl]]):=(List.getElem?_set_ne (by omega)).trans rA
  simp [loadD,-V.flat,-V.one,one_int,one_bool,one_str,one_nilp,one_rp,one_nilsl,one_ro,one_cl,one_nilf,one_nili,one_ifc,one_ptr,one_sl,one_clo,flat_d,flat_ptr,flat_sl,flat_clo,flat_agg,fA,f2]
  refine denC_leaf ?_
  simp only [stripOps,pickOps]
  simp [-V.flat,-V.one,one_int,one_bool,one_str,one_nilp,one_rp,one_nilsl,one_ro,one_cl,one_nilf,one_nili,one_ifc,one_ptr,one_sl,one_clo,flat_d,flat_ptr,flat_sl,flat_clo,flat_agg,wx,f2,r2,retQ]
  refine ⟨one1, ?_⟩
  rw [List.getElem?_set_self (List.getElem?_eq_some_iff.1 r2).1]
  refine ⟨rfl,_,rfl, ?_⟩
  have oG:Only [H.length + 1,H.length] G1 ((G2.set (H.length + 1) (rC code a2 s2)).set H.length (.row 2 [[V.d (.int .i64 A.params_),A.blocks_.v]])):=⟨by simp;omega,fun j hj hn=>by
    rw [List.getElem?_set_ne (fun e=>hn (by rw [← e];simp)),List.getElem?_set_ne (fun e=>hn (by rw [← e];simp)),oldA j hj]⟩
  have frj:∀ j∈ids A,H.length + 2≤j:=fun j hj=>by have:=fr j hj;rw [List.length_set,l0] at this;exact this
  refine fin_new (a:=A) (hn1.own.frame oG fun j hj h=>by have:=frj j hj;simp at h;omega) ⟨by simp;omega,fun j hj _=>?_⟩ (fun j hj=>by have:=frj j hj;omega) fun H' h'=>⟨A,x - 1,rfl,h',⟨by omega,by omega⟩,hg1⟩
  rw [oG.at_ j (by omega) (by simp;omega),old j (by omega) (by omega),← hG0,List.getElem?_append_left hj]
end Go.Proofs.Ytnomiclfiijniaa
end

section
namespace Go.Proofs.Ytnomiclfiijniaa
set_option maxRecDepth 100000
set_option linter.unusedSimpArgs false
set_option linter.unusedVariables false
set_option maxHeartbeats 8000000 in
theorem firstOf_own (H:Heap) (code:List Byt) (hg:Enc.good code) :
    CallsD Try.prog 11 [.d (dBytS code)] H fun r H'=>∃ (A:AFunc) (x:Int),r=.tup [.agg (Tr.cells A),.d (.int .i64 x)]∧New H H' A∧(-1≤x∧x≤4)∧Enc.good (Tr.era A):=by
  refine calls_of Try.func11 en_11 rfl (of_decide_eq_true rfl) (W_runS mixed [0,1,2,3,4] ⟨[],[],[37,38],15,H.length,[0,2,3,4,5],[]⟩ (fun | 3=>[1,0,2,3,4,5] | _=>[]) (by kernel_rfl) ?_)
  simp only [Try.f11,stripS,skip_cons,skip_nil,Nat.reduceBEq,Bool.or_false,Bool.or_self,Bool.or_true,Bool.true_or,cond_true,cond_false,stripX,stripOps,pickOps]
  simp [-V.flat,-V.one,one_int,one_bool,one_str,one_nilp,one_rp,one_nilsl,one_ro,one_cl,one_nilf,one_nili,one_ifc,one_ptr,one_sl,one_clo,flat_d,flat_ptr,flat_sl,flat_clo,flat_agg]
  rw [aft_call]
  have c0:(H++[Place.row 2 [[V.d (D.int IntKind.i64 0),V.d D.nilsl]],Place.row 3 [[V.d (dBytS code),V.d (D.int IntKind.i64 0),V.d (D.int IntKind.u64 0)]]])[H.length + 1]? = some (rC code 0 0):=by rw [List.getElem?_append_right (by omega)];simp
  refine (anyFn_own _ (H.length + 1) code hg 0 0 c0 ⟨by decide,by decide⟩).mono ?_
  generalize hG0:H++[Place.row 2 [[V.d (D.int IntKind.i64 0),V.d D.nilsl]],Place.row 3 [[V.d (dBytS code),V.d (D.int IntKind.i64 0),V.d (D.int IntKind.u64 0)]]]=G0 at c0
  have l0:G0.length=H.length + 2:=by rw [← hG0];simp
  rintro r G1 ⟨A,a1,s1,rfl,hn1,hb1,hg1⟩
  have l1:=hn1.only.len
  rw [List.length_set,l0] at l1
  have old:∀ j,j < H.length + 2→j ≠ H.length + 1→G1[j]? = G0[j]?:=fun j hj hne=>(hn1.only.at_ j (by rw [List.length_set];omega) List.not_mem_nil).trans (List.getElem?_set_ne hne.symm)
  have gR:G1[H.length]? = some (.row 2 [[V.d (.int .i64 0),V.d .nilsl]]):=(old _ (by omega) (by omega)).trans (by rw [← hG0,List.getElem?_append_right (by omega)];simp)
  have gC:G1[H.length + 1]? = some (rC code a1 s1):=(hn1.only.at_ _ (by rw [List.length_set];omega) List.not_mem_nil).trans (List.getElem?_set_self (by omega))
  have fr:=hn1.fresh
  have one1:A.blocks_.v.one=true:=(AFunc.own_blocks_ hn1.own).ok.1.scl.2
  simp [-V.flat,-V.one,one_int,one_bool,one_str,one_nilp,one_rp,one_nilsl,one_ro,one_cl,one_nilf,one_nili,one_ifc,one_ptr,one_sl,one_clo,flat_d,flat_ptr,flat_sl,flat_clo,flat_agg,one1]
  obtain ⟨Ga,hGa⟩:∃ Ga,Ga=G1++[Place.row 2 [[V.d (D.int IntKind.i64 A.params_),A.blocks_.v]]]:=⟨_,rfl⟩
  rw [← hGa]
  have lGa:Ga.length=G1.length + 1:=by rw [hGa];simp
  have oldA:∀ j,j < G1.length→Ga[j]? = G1[j]?:=fun j hj=>by rw [hGa,List.getElem?_append_left hj]
  have fA:Ga[G1.length]? = some (.row 2 [[V.d (.int .i64 A.params_),A.blocks_.v]]):=by rw [hGa,List.getElem?_append_right (Nat.le_refl _)];simp
  have cA:Ga[H.length + 1]? = some (rC code a1 s1):=(oldA _ (by omega)).trans gC
  have rA:Ga[H.length]? = some (.row 2 [[V.d (.int .i64 0),V.d .nilsl]]):=(oldA _ (by omega)).trans gR
  refine W_drawC mixed ⟨[],[],[37,38],15,H.length,[0,2,3,4,5],[]⟩ [0,1] [2] [3,4,5] (.alt 2 .leaf .nil) (fun | 2=>[0] | _=>[]) [0,2,3,4,5,11,12,13,14] (by kernel_rfl) (by kernel_rfl) ?_
  simp only [stripOps,pickOps]
  simp [-V.flat,-V.one,one_int,one_bool,one_str,one_nilp,one_rp,one_nilsl,one_ro,one_cl,one_nilf,one_nili,one_ifc,one_ptr,one_sl,one_clo,flat_d,flat_ptr,flat_sl,flat_clo,flat_agg,fA,one1]
  refine denC_one ?_
  simp only [demC,stripOps,pickOps]
  simp [loadD,-V.flat,-V.one,one_int,one_bool,one_str,one_nilp,one_rp,one_nilsl,one_ro,one_cl,one_nilf,one_nili,one_ifc,one_ptr,one_sl,one_clo,flat_d,flat_ptr,flat_sl,flat_clo,flat_agg,fA]
  rw [aft_call]
  refine (pick_own Ga (H.length + 1) code a1 s1 6 cA hg (by omega) (by omega)).mono ?_
  rintro r G2 ⟨x,rfl,hx,a2,s2,hb2,rfl⟩
  obtain ⟨x0,x6⟩:=hx.lt (by decide)
  have wx:IntKind.i64.wrap (x - 1)=x - 1:=wrap_id (by omega) (by omega)
  have f2:(Ga.set (H.length + 1) (rC code a2 s2))[G1.length]? = some (.row 2 [[V.d (.int .i64 A.params_),A.blocks_.v]]):=(List.getElem?_set_ne (by omega)).trans fA
  have r2:(Ga.set (H.length + 1) (rC code a2 s2))[H.length]? = some (.row 2 [[V.d (.int .i64 0),V.d .nilsl]]):=(List.getElem?_set_ne (by omega)).trans rA
  simp [loadD,-V.flat,-V.one,one_int,one_bool,one_str,one_nilp,one_rp,one_nilsl,one_ro,one_cl,one_nilf,one_nili,one_ifc,one_ptr,one_sl,one_clo,flat_d,flat_ptr,flat_sl,flat_clo,flat_agg,fA,f2]
  refine denC_leaf ?_
  simp only [stripOps,pickOps]
  simp [-V.flat,-V.one,one_int,one_bool,one_str,one_nilp,one_rp,one_nilsl,one_ro,one_cl,one_nilf,one_nili,one_ifc,one_ptr,one_sl,one_clo,flat_d,flat_ptr,flat_sl,flat_clo,flat_agg,wx,f2,r2,retQ]
  refine ⟨one1, ?_⟩
  rw [List.getElem?_set_self (List.getElem?_eq_some_iff.1 r2).1]
  refine ⟨rfl,_,rfl, ?_⟩
  have oG:Only [H.length + 1,H.length] G1 ((Ga.set (H.length + 1) (rC code a2 s2)).set H.length (.row 2 [[V.d (.int .i64 A.params_),A.blocks_.v]])):=⟨by simp;omega,fun j hj hn=>by
    rw [List.getElem?_set_ne (fun e=>hn (by rw [← e];simp)),List.getElem?_set_ne (fun e=>hn (by rw [← e];simp)),oldA j hj]⟩
  have frj:∀ j∈ids A,H.length + 2≤j:=fun j hj=>by have:=fr j hj;rw [List.length_set,l0] at this;exact this
  refine fin_new (a:=A) (hn1.own.frame oG fun j hj h=>by have:=frj j hj;simp at h;omega) ⟨by simp;omega,fun j hj _=>?_⟩ (fun j hj=>by have:=frj j hj;omega) fun H' h'=>⟨A,x - 1,rfl,h',⟨by omega,by omega⟩,hg1⟩
  rw [oG.at_ j (by omega) (by simp;omega),old j (by omega) (by omega),← hG0,List.getElem?_append_left hj]
end Go.Proofs.Ytnomiclfiijniaa
end

section
namespace Go.Proofs.Ytnomiclfiijniaa
set_option maxRecDepth 100000
set_option linter.unusedSimpArgs false
set_option linter.unusedVariables false
theorem drawArgs_p (code:List Byt) (hg:Enc.good code):PureP Try.prog 7 [.d (dBytS code)] fun r=>∃ (F:Func) (x:Int),r=.tup [vFunc F,.d (.int .i64 x)]∧Enc.good F∧(-1≤x∧x≤65534):=by
  refine PureP.of_ownQ ((argsOf_own [] code hg).mono ?_)
  rintro r H' ⟨A,x,rfl,hn,hx,hF⟩
  exact ⟨_,⟨Tr.era A,x,rfl,hF,hx⟩,Rd1.tup ⟨Rd1.aggs hn.own rfl,Rd1.d,trivial⟩⟩
theorem drawFirst_p (code:List Byt) (hg:Enc.good code):PureP Try.prog 11 [.d (dBytS code)] fun r=>∃ (F:Func) (x:Int),r=.tup [vFunc F,.d (.int .i64 x)]∧Enc.good F∧(-1≤x∧x≤4):=by
  refine PureP.of_ownQ ((firstOf_own [] code hg).mono ?_)
  rintro r H' ⟨A,x,rfl,hn,hx,hF⟩
  exact ⟨_,⟨Tr.era A,x,rfl,hF,hx⟩,Rd1.tup ⟨Rd1.aggs hn.own rfl,Rd1.d,trivial⟩⟩
theorem first_step {F:Func} {k:Int} (hF:Enc.good F) (h:isBlk F k=true) :
    IntKind.i64.wrap (IntKind.i64.wrap (firstV F k + (F.blocks_[k.toNat]?.getD default).params_) + ((F.blocks_[k.toNat]?.getD default).insts_.length:Int))=cntB (F.blocks_.take (k.toNat + 1)) F.params_∧cntB (F.blocks_.take (k.toNat + 1)) F.params_≤many F∧0≤many F∧many F≤80 ∧
    (isBlk F (k + 1)=true→firstV F (k + 1)=cntB (F.blocks_.take (k.toNat + 1)) F.params_)∧(isBlk F (k + 1)=false→many F=cntB (F.blocks_.take (k.toNat + 1)) F.params_):=by
  obtain ⟨hg,h0,h1⟩:=isBlk_n hF h
  obtain ⟨hp,hl,hh,hm,hc,hs,_⟩:=goodF_spec hg
  have hd:=drop_cons h1
  obtain ⟨c1,c2,c3⟩:=cnt_step hh hp (by omega) hd
  have hmem:F.blocks_[k.toNat]?.getD default∈F.blocks_:=by rw [List.getElem?_eq_getElem h1];exact List.getElem_mem h1
  obtain ⟨p0,p1,p2,e,e1,e2⟩:=headOk_sz (List.all_eq_true.1 hh _ hmem)
  have hfv:firstV F k=cntB (F.blocks_.take k.toNat) F.params_:=by simp [firstV,h]
  have hs2:szI (F.blocks_[k.toNat]?.getD default)=(F.blocks_[k.toNat]?.getD default).params_ + ((F.blocks_[k.toNat]?.getD default).insts_.length:Int):=rfl
  have hk1:(k + 1).toNat=k.toNat + 1:=by omega
  have e3:isBlk F (k + 1)=true→k.toNat + 1 < F.blocks_.length:=fun q=>by
    have:=(isBlk_n hF q).2.2;omega
  have e4:isBlk F (k + 1)=false→k.toNat + 1=F.blocks_.length:=fun q=>by
    simp only [isBlk,hg,Bool.true_and] at q
    have:=inR_f.1 q
    rw [wrap_sub (by omega) (by omega)] at this
    omega
  have hle:cntB (F.blocks_.take (k.toNat + 1)) F.params_≤many F:=by
    have hsp:many F=cntB (F.blocks_.drop (k.toNat + 1)) (cntB (F.blocks_.take (k.toNat + 1)) F.params_):=by
      unfold many cntB
      rw [← List.foldl_append,List.take_append_drop]
    have hdh:(F.blocks_.drop (k.toNat + 1)).all headOk=true:=List.all_eq_true.2 fun x hx=>List.all_eq_true.1 hh x (List.mem_of_mem_drop hx)
    have hdl:(F.blocks_.drop (k.toNat + 1)).length≤8:=by rw [List.length_drop];omega
    obtain ⟨d1,d2,d3⟩:=cntB_sum _ (cntB (F.blocks_.take (k.toNat + 1)) F.params_) hdh (by omega) (by omega)
    omega
  refine ⟨?_,hle,by omega,hm,fun q=>by simp only [firstV,q,if_true,hk1],fun q=>?_⟩
  · rw [hfv,wrap_id (n:=cntB (F.blocks_.take k.toNat) F.params_ + _) (by omega) (by omega),wrap_id (by omega) (by omega)]
    omega
  · unfold many
    rw [e4 q,List.take_length]
theorem law_Values (code more:List Byt) (hc:Enc.good code) (hm:Enc.good more):PureP Try.prog 3 [.d (dBytS code),.d (dBytS more)] (· = .d (.bool true)):=by
  cases hb:bigB code more with
  | true => refine pure_of Try.func3 en_3 rfl rfl (W_run mixed ⟨[K_6, K_8, K_9, K_10, K_12, K_13, K_14, K_15, K_16, K_17], [K_6h, K_8h, K_9h, K_10h, K_12h, K_13h, K_14h, K_15h, K_16h, K_17h], [7, 11], 166, 0, [0, 1, 4, 5, 6, 7, 8, 9, 10, 11, 12, 13, 14, 15, 16, 17, 18, 19, 20, 21, 22, 23, 24, 25, 26, 27, 30, 56, 121, 122], [30, 51, 56, 97, 102, 107, 112, 117, 121, 122, 149, 152, 157, 159]⟩ (fun | 18 => [0, 1, 3, 8, 10, 2, 4, 5, 6, 7, 9, 11, 12, 13, 14, 15, 16] | _ => []) (by kernel_rfl) ?_)
            simp only [Try.f3,stripX,stripOps,pickOps]
            simp [K_6_f,K_6_e,K_8_f,K_8_e,K_9_f,K_9_e,K_10_f,K_10_e,K_12_f,K_12_e,K_13_f,K_13_e,K_14_f,K_14_e,K_15_f,K_15_e,K_16_f,K_16_e,K_17_f,K_17_e,K_6h_f,K_6h_e,K_8h_f,K_8h_e,K_9h_f,K_9h_e,K_10h_f,K_10h_e,K_12h_f,K_12h_e,K_13h_f,K_13h_e,K_14h_f,K_14h_e,K_15h_f,K_15h_e,K_16h_f,K_16h_e,K_17h_f,K_17h_e,K_6h_g,K_8h_g,K_9h_g,K_10h_g,K_12h_g,K_13h_g,K_14h_g,K_15h_g,K_16h_g,K_17h_g,hc,hm,hb]
  | false =>
  refine pure_of Try.func3 en_3 rfl rfl (W_run mixed ⟨[K_6,K_8,K_9,K_10,K_12,K_13,K_14,K_15,K_16,K_17],[K_6h,K_8h,K_9h,K_10h,K_12h,K_13h,K_14h,K_15h,K_16h,K_17h],[7,11],166,0,[0,1,4,5,6,7,8,9,10,11,12,13,14,15,16,17,18,19,20,21,22,23,24,25,26,27,30,56,121,122],[30,51,56,97,102,107,112,117,121,122,149,152,157,159]⟩ (fun | 18=>[0,1,3,8,10,2,4,5,6,7,9,11,12,13,14,15,16] | _=>[]) (by kernel_rfl) ?_)
  simp only [Try.f3,stripX,stripOps,pickOps]
  simp [K_6_f,K_6_e,K_8_f,K_8_e,K_9_f,K_9_e,K_10_f,K_10_e,K_12_f,K_12_e,K_13_f,K_13_e,K_14_f,K_14_e,K_15_f,K_15_e,K_16_f,K_16_e,K_17_f,K_17_e,K_6h_f,K_6h_e,K_8h_f,K_8h_e,K_9h_f,K_9h_e,K_10h_f,K_10h_e,K_12h_f,K_12h_e,K_13h_f,K_13h_e,K_14h_f,K_14h_e,K_15h_f,K_15h_e,K_16h_f,K_16h_e,K_17h_f,K_17h_e,K_6h_g,K_8h_g,K_9h_g,K_10h_g,K_12h_g,K_13h_g,K_14h_g,K_15h_g,K_16h_g,K_17h_g,hc,hm,hb]
  rw [aft_call]
  refine ((drawArgs_p code hc).calls rfl).mono ?_
  rintro r H1 ⟨rfl,F,v,rfl,hF,hv⟩
  have hvg:Enc.good v:=⟨by omega,by omega⟩
  have hla:=argL_len (F:=F) (n:=v)
  simp [K_6_f,K_6_e,K_8_f,K_8_e,K_9_f,K_9_e,K_10_f,K_10_e,K_12_f,K_12_e,K_13_f,K_13_e,K_14_f,K_14_e,K_15_f,K_15_e,K_16_f,K_16_e,K_17_f,K_17_e,K_6h_f,K_6h_e,K_8h_f,K_8h_e,K_9h_f,K_9h_e,K_10h_f,K_10h_e,K_12h_f,K_12h_e,K_13h_f,K_13h_e,K_14h_f,K_14h_e,K_15h_f,K_15h_e,K_16h_f,K_16h_e,K_17h_f,K_17h_e,K_6h_g,K_8h_g,K_9h_g,K_10h_g,K_12h_g,K_13h_g,K_14h_g,K_15h_g,K_16h_g,K_17h_g,hc,hm,hF,hvg,hla]
  rw [aft_call]
  refine ((drawFirst_p more hm).calls rfl).mono ?_
  rintro r H2 ⟨rfl,G,b,rfl,hG,hb0⟩
  cases hk:isBlk G b with
  | false =>
    simp [K_6_f,K_6_e,K_8_f,K_8_e,K_9_f,K_9_e,K_10_f,K_10_e,K_12_f,K_12_e,K_13_f,K_13_e,K_14_f,K_14_e,K_15_f,K_15_e,K_16_f,K_16_e,K_17_f,K_17_e,K_6h_f,K_6h_e,K_8h_f,K_8h_e,K_9h_f,K_9h_e,K_10h_f,K_10h_e,K_12h_f,K_12h_e,K_13h_f,K_13h_e,K_14h_f,K_14h_e,K_15h_f,K_15h_e,K_16h_f,K_16h_e,K_17h_f,K_17h_e,K_6h_g,K_8h_g,K_9h_g,K_10h_g,K_12h_g,K_13h_g,K_14h_g,K_15h_g,K_16h_g,K_17h_g,hc,hm,hF,hG,firstR,countR,costR,hk]
  | true =>
    obtain ⟨hgG,k0,k1⟩:=isBlk_n hG hk
    obtain ⟨s1,s2,s3,s4,s5,s6⟩:=first_step hG hk
    have e0:G.blocks_[b.toNat]?.getD default=G.blocks_[b.toNat]:=by rw [List.getElem?_eq_getElem k1];rfl
    rw [e0] at s1
    have wb:IntKind.i64.wrap (b + 1)=b + 1:=wrap_id (by omega) (by omega)
    cases hk2:isBlk G (b + 1) with
    | false =>
      have s7:=s6 hk2
      simp [K_6_f,K_6_e,K_8_f,K_8_e,K_9_f,K_9_e,K_10_f,K_10_e,K_12_f,K_12_e,K_13_f,K_13_e,K_14_f,K_14_e,K_15_f,K_15_e,K_16_f,K_16_e,K_17_f,K_17_e,K_6h_f,K_6h_e,K_8h_f,K_8h_e,K_9h_f,K_9h_e,K_10h_f,K_10h_e,K_12h_f,K_12h_e,K_13h_f,K_13h_e,K_14h_f,K_14h_e,K_15h_f,K_15h_e,K_16h_f,K_16h_e,K_17h_f,K_17h_e,K_6h_g,K_8h_g,K_9h_g,K_10h_g,K_12h_g,K_13h_g,K_14h_g,K_15h_g,K_16h_g,K_17h_g,hc,hm,hF,hG,firstR,countR,costR,hk,hgG,k0,k1,s1,s2,s7,hk2,wb]
      omega
    | true =>
      have s7:=s5 hk2
      simp [K_6_f,K_6_e,K_8_f,K_8_e,K_9_f,K_9_e,K_10_f,K_10_e,K_12_f,K_12_e,K_13_f,K_13_e,K_14_f,K_14_e,K_15_f,K_15_e,K_16_f,K_16_e,K_17_f,K_17_e,K_6h_f,K_6h_e,K_8h_f,K_8h_e,K_9h_f,K_9h_e,K_10h_f,K_10h_e,K_12h_f,K_12h_e,K_13h_f,K_13h_e,K_14h_f,K_14h_e,K_15h_f,K_15h_e,K_16h_f,K_16h_e,K_17h_f,K_17h_e,K_6h_g,K_8h_g,K_9h_g,K_10h_g,K_12h_g,K_13h_g,K_14h_g,K_15h_g,K_16h_g,K_17h_g,hc,hm,hF,hG,firstR,countR,costR,hk,hgG,k0,k1,s1,s2,s7,hk2,wb]
      omega
namespace fnValues
open Go.ChangeShapes Go.WideShapes Go.RowKit
theorem own:ownKnob Try.prog.godebug=none:=by kernel_rfl
theorem lifted (os:Os) (started:os.Started) (H:Type) (enc:TypeId × Value→H) :
    ReturnsInHanded {} Try.checked os 3 .any (Rows.fnValuesSpec.pre6 enc Try.prog Try.f3 Rows.fnValuesRow.domain false) (Rows.fnValuesSpec.post enc Try.prog Try.f3 false true false false):=by
  refine returnsInHanded_of_change (C:=Try.checked) own started (by kernel_rfl) Try.func3
    (ChangeSpec.witness6 (enc:=enc) (C:=Try.checked) false ⟨#[],#[.slice none 0 0,.slice none 0 0],[]⟩ 8 (by kernel_rfl) (by kernel_rfl) (by kernel_rfl) (by kernel_rfl)) ?_
  intro W base args ds gs before hval hW hcnd _
  have hW':=hW
  obtain ⟨p,q,hA,hV,_,_,_⟩:=hW
  rw [Try.params3] at hA hval
  obtain ⟨v0,vs0,d0,ds0,p0,q0,hargs,rfl,rfl,h0,r0⟩:=trodAll_cons hA
  obtain ⟨v1,vs1,d1,ds1,p1,q1,rfl,rfl,rfl,h1,r1⟩:=trodAll_cons r0
  obtain ⟨rfl,rfl,rfl⟩:=trodAll_nil r1
  obtain rfl:args=#[v0,v1]:=by cases args;simp_all
  obtain ⟨code,hcode,hv0⟩:=arg_of rd_LByt (hval 0 22 v0 rfl rfl) h0
  obtain ⟨more,hmore,hv1⟩:=arg_of rd_LByt (hval 1 22 v1 rfl rfl) h1
  obtain ⟨rfl,rfl⟩:=trodVars_none hV
  exact row_end (by kernel_rfl) (by kernel_rfl) (by kernel_rfl) Try.underlying4 hW' rfl rfl rfl rfl (vs:=[argV code,argV more]) (by exact ⟨v0,_,rfl,hv0,⟨v1,_,rfl,hv1,rfl⟩⟩) (law_Values code more hcode hmore)
theorem over:Rows.fnValuesRow.holds Try.pinned (OpenSpec.ofChange Rows.fnValuesSpec) :=
  OpenClaim.holds_of_wide 3 Try.f3 rfl rfl rfl rfl rfl rfl rfl ⟨rfl,rfl,rfl,rfl,rfl⟩ rfl rfl rfl rfl rfl (by kernel_rfl) Try.func3 (by kernel_rfl)
    (of_decide_eq_true (by kernel_rfl)) (by unfold Func.isWrapper;first | (rw [if_pos (by decide +kernel)];kernel_rfl) | (rw [if_neg (by decide +kernel)];exact ⟨rfl,rfl⟩))
    (fun os started H enc _=>lifted os started H enc)
end fnValues
theorem fnValues_holds:Rows.FnValuesSaid:=fnValues.over
end Go.Proofs.Ytnomiclfiijniaa
end
