/- What is drawn: DrawCheckFunc. No condition. -/
import Derived.Test.YtnomiclfiijniaaQS132
section
namespace Go.Proofs.Ytnomiclfiijniaa
set_option maxRecDepth 100000
set_option linter.unusedSimpArgs false
set_option linter.unusedVariables false
theorem only_in {H:Heap} {i:Nat} {S:List Nat} {P:Place} (h:i∈S):Only S H (H.set i P):=⟨by simp,fun j hj hn=>List.getElem?_set_ne fun e=>hn (by rw [← e];exact h)⟩
theorem set0_own {G : Heap} {A : AFunc} (hA : Own G A) (hgA : Enc.good (Tr.era A)) {i k : Nat} {b : ABlock} {o n : Int} {g : AS Int} (hb : A.blocks_.l[i]? = some b) (hx : b.insts_.l[k]? = some ⟨o, n, g⟩) (hl : 0 < g.l.length) {z : Int} (hz : Enc.good z) :
    ∃ A':AFunc,A'.params_=A.params_∧A'.blocks_.v=A.blocks_.v∧ids A'=ids A∧Own (G.set g.id (.row 1 (rI (g.l.set 0 z)))) A'∧Enc.good (Tr.era A')∧g.id∈ids A∧g.v=.sl g.id 1 0 g.l.length∧G[g.id]? = some (.row 1 (rI g.l)):=by
  obtain ⟨pa,bv,bl⟩:=A
  obtain ⟨p,r,rfl⟩:∃ p r,bl=p++b :: r:=List.append_of_mem (List.mem_of_getElem? hb)
  obtain ⟨bp,⟨iv,il⟩,be,bw,bj⟩:=b
  obtain ⟨p1,r1,rfl⟩:∃ p1 r1,il=p1++⟨o,n,g⟩ :: r1:=List.append_of_mem (List.mem_of_getElem? hx)
  obtain ⟨gv,gl⟩:=g
  obtain ⟨y,ys,rfl⟩:∃ y ys,gl=y :: ys:=by cases gl with | nil=>exact absurd hl (Nat.lt_irrefl _) | cons y ys=>exact ⟨_,_,rfl⟩
  have oB:Own G (⟨bv,p++⟨bp,⟨iv,p1++⟨o,n,⟨gv,y :: ys⟩⟩ :: r1⟩,be,bw,bj⟩ :: r⟩:AS ABlock):=AFunc.own_blocks_ hA
  have ob:Own G (⟨bp,⟨iv,p1++⟨o,n,⟨gv,y :: ys⟩⟩ :: r1⟩,be,bw,bj⟩:ABlock):=oB.elems.get (by simp)
  have oI:Own G (⟨iv,p1++⟨o,n,⟨gv,y :: ys⟩⟩ :: r1⟩:AS AInst):=ABlock.own_insts_ ob
  have ox:Own G (⟨o,n,⟨gv,y :: ys⟩⟩:AInst):=oI.elems.get (by simp)
  have og:Own G (⟨gv,y :: ys⟩:AS Int):=AInst.own_args_ ox
  obtain ⟨gv2,gr,_,gi⟩:=og.row (by simp)
  have hgid:AS.id (⟨gv,y :: ys⟩:AS Int)∈ids (⟨gv,y :: ys⟩:AS Int):=by rw [gi];exact List.mem_cons_self
  obtain ⟨o0,i0⟩:=og.setS (p:=[]) (a':=z) trivial rfl
  have hP:(Place.row (Enc.size Int) ((([]:List Int)++z :: ys).map Tr.cells))=.row 1 (rI (z :: ys)):=rfl
  have hid:gv.slId=AS.id (⟨gv,y :: ys⟩:AS Int):=rfl
  rw [hP,hid] at o0
  obtain ⟨id,hide⟩:∃ id,id=AS.id (⟨gv,y :: ys⟩:AS Int):=⟨_,rfl⟩
  rw [← hide] at o0 hgid
  have oi:Own (G.set id (.row 1 (rI (z :: ys)))) (⟨o,n,⟨gv,z :: ys⟩⟩:AInst):=AInst.own o0
  obtain ⟨o1,i1⟩:=oI.putS oi rfl i0 (only_in hgid)
  have mI:id∈ids (⟨iv,p1++⟨o,n,⟨gv,y :: ys⟩⟩ :: r1⟩:AS AInst):=by
    obtain ⟨_,_,_,q⟩:=oI.row (by simp;omega)
    rw [q]
    exact List.mem_cons_of_mem _ (List.mem_flatMap.2 ⟨⟨o,n,⟨gv,y :: ys⟩⟩,by simp,hgid⟩)
  have ap:=ABlock.apart ob
  have o2:Own (G.set id (.row 1 (rI (z :: ys)))) (⟨bp,⟨iv,p1++⟨o,n,⟨gv,z :: ys⟩⟩ :: r1⟩,be,bw,bj⟩:ABlock) :=
    ABlock.own (x:=⟨bp,⟨iv,p1++⟨o,n,⟨gv,z :: ys⟩⟩ :: r1⟩,be,bw,bj⟩) o1 ((ABlock.own_jumps_ ob).frame (S:=[id]) Only.set fun j hj h=>ap id mI (by rw [← List.mem_singleton.1 h];exact hj)) fun j hj=>ap j (by
      have:ids (⟨iv,p1++⟨o,n,⟨gv,z :: ys⟩⟩ :: r1⟩:AS AInst)=ids (⟨iv,p1++⟨o,n,⟨gv,y :: ys⟩⟩ :: r1⟩:AS AInst):=i1
      exact this ▸ hj)
  have i2:ids (⟨bp,⟨iv,p1++⟨o,n,⟨gv,z :: ys⟩⟩ :: r1⟩,be,bw,bj⟩:ABlock)=ids (⟨bp,⟨iv,p1++⟨o,n,⟨gv,y :: ys⟩⟩ :: r1⟩,be,bw,bj⟩:ABlock):=by
    rw [ids_ABlock,ids_ABlock]
    exact congrArg (·++ids bj) i1
  have mB:id∈ids (⟨bp,⟨iv,p1++⟨o,n,⟨gv,y :: ys⟩⟩ :: r1⟩,be,bw,bj⟩:ABlock):=by rw [ids_ABlock];exact List.mem_append_left _ mI
  obtain ⟨o3,i3⟩:=oB.putS o2 rfl i2 (only_in mB)
  have mA:id∈ids (⟨bv,p++⟨bp,⟨iv,p1++⟨o,n,⟨gv,y :: ys⟩⟩ :: r1⟩,be,bw,bj⟩ :: r⟩:AS ABlock):=by
    obtain ⟨_,_,_,q⟩:=oB.row (by simp;omega)
    rw [q]
    exact List.mem_cons_of_mem _ (List.mem_flatMap.2 ⟨⟨bp,⟨iv,p1++⟨o,n,⟨gv,y :: ys⟩⟩ :: r1⟩,be,bw,bj⟩,by simp,mB⟩)
  rw [← hide] at gv2 gr ⊢
  refine ⟨⟨pa,⟨bv,p++⟨bp,⟨iv,p1++⟨o,n,⟨gv,z :: ys⟩⟩ :: r1⟩,be,bw,bj⟩ :: r⟩⟩,rfl,rfl,i3,AFunc.own o3,⟨hgA.1, ?_,fun x hx'=>?_⟩,mA,gv2,gr⟩
  · have h1:((p++(⟨bp,⟨iv,p1++⟨o,n,⟨gv,y :: ys⟩⟩ :: r1⟩,be,bw,bj⟩:ABlock) :: r).map Tr.era).length≤_:=hgA.2.1
    rw [List.length_map,List.length_append,List.length_cons] at h1
    show ((p++_ :: r).map Tr.era).length≤_
    rw [List.length_map,List.length_append,List.length_cons]
    exact h1
  · obtain ⟨d,hd,rfl⟩:=List.mem_map.1 hx'
    have old:∀ d∈p++(⟨bp,⟨iv,p1++⟨o,n,⟨gv,y :: ys⟩⟩ :: r1⟩,be,bw,bj⟩:ABlock) :: r,Enc.good (Tr.era d):=fun d hd=>hgA.2.2 _ (List.mem_map_of_mem hd)
    rcases List.mem_append.1 hd with hd | hd
    · exact old d (List.mem_append_left _ hd)
    · rcases List.mem_cons.1 hd with rfl | hd
      · obtain ⟨g1,⟨g2,g3⟩,g4,g5,g6⟩:=old _ (List.mem_append_right _ List.mem_cons_self)
        refine ⟨g1,⟨?_,fun y' hy=>?_⟩,g4,g5,g6⟩
        · have h1:((p1++(⟨o,n,⟨gv,y :: ys⟩⟩:AInst) :: r1).map Tr.era).length≤_:=g2
          rw [List.length_map,List.length_append,List.length_cons] at h1
          show ((p1++_ :: r1).map Tr.era).length≤_
          rw [List.length_map,List.length_append,List.length_cons]
          exact h1
        · obtain ⟨c,hc,rfl⟩:=List.mem_map.1 hy
          have old2:∀ c∈p1++(⟨o,n,⟨gv,y :: ys⟩⟩:AInst) :: r1,Enc.good (Tr.era c):=fun c hc=>g3 _ (List.mem_map_of_mem hc)
          rcases List.mem_append.1 hc with hc | hc
          · exact old2 c (List.mem_append_left _ hc)
          · rcases List.mem_cons.1 hc with rfl | hc
            · obtain ⟨w1,w2,w3,w4⟩:=old2 _ (List.mem_append_right _ List.mem_cons_self)
              refine ⟨w1,w2,w3,fun v hv=>?_⟩
              rcases List.mem_cons.1 hv with rfl | hv
              · exact hz
              · exact w4 v (List.mem_cons_of_mem _ hv)
            · exact old2 c (List.mem_append_right _ (List.mem_cons_of_mem _ hc))
      · exact old d (List.mem_append_right _ (List.mem_cons_of_mem _ hd))
end Go.Proofs.Ytnomiclfiijniaa
end

section
namespace Go.Proofs.Ytnomiclfiijniaa
set_option maxRecDepth 100000
set_option linter.unusedSimpArgs false
set_option linter.unusedVariables false
set_option maxHeartbeats 16000000 in
theorem drawCheck_own (code : List Byt) (hg : Enc.good code) :
    CallsD Try.prog 27 [.d (dBytS code)] [] fun r H'=>∃ A:AFunc,r=.agg (Tr.cells A)∧Own H' A∧Enc.good (Tr.era A):=by
  refine calls_of Try.func27 en_27 rfl (of_decide_eq_true rfl) (W_runS mixed [6,8] ⟨[],[],[37,38,63,39],54,0,[0,2,3,4,5,6,7,30,45],[27,30,45]⟩ (fun | 6=>[0,2,6,7,1,3,4,5,8,9,10,11,12] | 8=>[0,2,1,3,4,5,6,7] | _=>[]) (by kernel_rfl) ?_)
  simp only [Try.f27,stripS,skip_cons,skip_nil,Nat.reduceBEq,Bool.or_false,Bool.or_self,Bool.or_true,Bool.true_or,cond_true,cond_false,stripX,stripOps,pickOps]
  simp [-V.flat,-V.one,one_int,one_bool,one_str,one_nilp,one_rp,one_nilsl,one_ro,one_cl,one_nilf,one_nili,one_ifc,one_ptr,one_sl,one_clo,flat_d,flat_ptr,flat_sl,flat_clo,flat_agg]
  rw [aft_call]
  refine (anyFn_own2 _ 1 code hg 0 0 rfl ⟨by decide,by decide⟩).mono ?_
  rintro r G1 ⟨A,a1,s1,rfl,hn1,hb1,hg1,hne,hp1⟩
  have hne':0 < A.blocks_.l.length:=hne
  have l1:2≤G1.length:=hn1.only.len
  have z1:G1[0]? = some (.row 2 [[V.d (.int .i64 0),V.d .nilsl]]):=hn1.only.at_ 0 (by simp) List.not_mem_nil
  have c1:G1[1]? = some (rC code a1 s1):=hn1.only.at_ 1 (by simp) List.not_mem_nil
  have oB1:=AFunc.own_blocks_ hn1.own
  obtain ⟨bv,br1,_,_⟩:=oB1.row hne'
  have one1:A.blocks_.v.one=true:=oB1.ok.1.scl.2
  have fr1:∀ j∈ids A,2≤j:=fun j hj=>hn1.fresh j hj
  have lt1:∀ j∈ids A,j < G1.length:=fun j hj=>hn1.own.lt hj
  have hlen8:(A.blocks_.l.map Tr.era).length≤_:=hg1.2.1
  rw [List.length_map] at hlen8
  simp [-V.flat,-V.one,one_int,one_bool,one_str,one_nilp,one_rp,one_nilsl,one_ro,one_cl,one_nilf,one_nili,one_ifc,one_ptr,one_sl,one_clo,flat_d,flat_ptr,flat_sl,flat_clo,flat_agg,one1,bv]
  obtain ⟨bid,hbid⟩:∃ bid,bid=A.blocks_.id:=⟨_,rfl⟩
  rw [← hbid] at bv br1 ⊢
  obtain ⟨Ga,hGa⟩:∃ Ga,Ga=G1++[Place.row 2 [[V.d (D.int IntKind.i64 A.params_),V.sl bid 5 0 A.blocks_.l.length]]]:=⟨_,rfl⟩
  rw [← hGa]
  have lGa:Ga.length=G1.length + 1:=by rw [hGa];simp
  have oldA:∀ j,j < G1.length→Ga[j]? = G1[j]?:=fun j hj=>by rw [hGa,List.getElem?_append_left hj]
  have fA:Ga[G1.length]? = some (.row 2 [[V.d (.int .i64 A.params_),.sl bid 5 0 A.blocks_.l.length]]):=by rw [hGa,List.getElem?_append_right (Nat.le_refl _)];simp
  have oA:Own Ga A:=hn1.own.frame (S:=[]) (by rw [hGa];exact Only.app [] _ _) fun j _ h=>absurd h List.not_mem_nil
  rw [aft_call]
  refine (pick_own Ga 1 code a1 s1 _ ((oldA 1 (by omega)).trans c1) hg (by omega) (by omega)).mono ?_
  rintro r G2 ⟨x,rfl,hx,a2,s2,hb2,hG2⟩
  have l2:G2.length=Ga.length:=by rw [hG2];simp
  have old2:∀ j,j ≠ 1→G2[j]? = Ga[j]?:=fun j h1=>by rw [hG2,List.getElem?_set_ne (fun e=>h1 e.symm)]
  have c2:G2[1]? = some (rC code a2 s2):=by rw [hG2,List.getElem?_set_self (by omega)]
  have f2:G2[G1.length]? = some (.row 2 [[V.d (.int .i64 A.params_),.sl bid 5 0 A.blocks_.l.length]]):=(old2 _ (by omega)).trans fA
  have z2:G2[0]? = some (.row 2 [[V.d (.int .i64 0),V.d .nilsl]]):=(old2 0 (by omega)).trans ((oldA 0 (by omega)).trans z1)
  have oA2:Own G2 A:=oA.frame (S:=[1]) ⟨by omega,fun j hj hn=>old2 j (fun e=>hn (by simp [e]))⟩ fun j hj h=>by have:=fr1 j hj;simp at h;omega
  obtain ⟨x0,x1⟩:=hx.lt (by omega)
  obtain ⟨i,rfl⟩:=Int.eq_ofNat_of_zero_le x0
  have hil:i < A.blocks_.l.length:=by omega
  obtain ⟨b,hb⟩:∃ b,A.blocks_.l[i]? = some b:=⟨_,List.getElem?_eq_getElem hil⟩
  have eb0:∀ h:i < A.blocks_.l.length,A.blocks_.l[i]=b:=fun h=>Option.some.inj ((List.getElem?_eq_getElem h).symm.trans hb)
  have eb1:A.blocks_.l[i]?.getD default=b:=by rw [hb];rfl
  have oB2:=AFunc.own_blocks_ oA2
  obtain ⟨_,br2,_,_⟩:=oB2.row hne'
  rw [← hbid] at br2
  have ob2:Own G2 b:=oB2.elems.get (List.mem_of_getElem? hb)
  have oI2:=ABlock.own_insts_ ob2
  by_cases hm0:b.insts_.l.length=0
  · -- ZERO
    rcases oI2.ok.1 with q | ⟨_,q | ⟨f,q⟩⟩
    · replace q:b.insts_.v=.sl b.insts_.id 3 0 b.insts_.l.length:=q
      obtain ⟨iid,hiid⟩:∃ iid,iid=b.insts_.id:=⟨_,rfl⟩
      rw [← hiid,hm0] at q
      simp [-V.flat,-V.one,one_int,one_bool,one_str,one_nilp,one_rp,one_nilsl,one_ro,one_cl,one_nilf,one_nili,one_ifc,one_ptr,one_sl,one_clo,flat_d,flat_ptr,flat_sl,flat_clo,flat_agg,f2,br2,hb,eb0,eb1,hil,bv,q,hm0,z2,retQ]
      rw [List.getElem?_set_self (by omega)]
      exact ⟨rfl,_,rfl,_,_,Fin.same (Nat.zero_le _),A,by rw [bv];rfl,oA2.frame (S:=[0]) Only.set fun j hj h=>(by have:=fr1 j hj;simp at h;omega),hg1⟩
    · skip
      simp [-V.flat,-V.one,one_int,one_bool,one_str,one_nilp,one_rp,one_nilsl,one_ro,one_cl,one_nilf,one_nili,one_ifc,one_ptr,one_sl,one_clo,flat_d,flat_ptr,flat_sl,flat_clo,flat_agg,f2,br2,hb,eb0,eb1,hil,bv,q,hm0,z2,retQ]
      rw [List.getElem?_set_self (by omega)]
      exact ⟨rfl,_,rfl,_,_,Fin.same (Nat.zero_le _),A,by rw [bv];rfl,oA2.frame (S:=[0]) Only.set fun j hj h=>(by have:=fr1 j hj;simp at h;omega),hg1⟩
    · skip
      simp [-V.flat,-V.one,one_int,one_bool,one_str,one_nilp,one_rp,one_nilsl,one_ro,one_cl,one_nilf,one_nili,one_ifc,one_ptr,one_sl,one_clo,flat_d,flat_ptr,flat_sl,flat_clo,flat_agg,f2,br2,hb,eb0,eb1,hil,bv,q,hm0,z2,retQ]
      rw [List.getElem?_set_self (by omega)]
      exact ⟨rfl,_,rfl,_,_,Fin.same (Nat.zero_le _),A,by rw [bv];rfl,oA2.frame (S:=[0]) Only.set fun j hj h=>(by have:=fr1 j hj;simp at h;omega),hg1⟩
  · have hm : 0 < b.insts_.l.length := by omega
    obtain ⟨iv2,ir2,_,_⟩:=oI2.row hm
    obtain ⟨iid,hiid⟩:∃ iid,iid=b.insts_.id:=⟨_,rfl⟩
    rw [← hiid] at iv2 ir2
    simp [-V.flat,-V.one,one_int,one_bool,one_str,one_nilp,one_rp,one_nilsl,one_ro,one_cl,one_nilf,one_nili,one_ifc,one_ptr,one_sl,one_clo,flat_d,flat_ptr,flat_sl,flat_clo,flat_agg,f2,br2,hb,eb0,eb1,hil,bv,iv2,hm]
    rw [aft_call]
    refine (one_own G2 1 code a2 s2 3 c2 hg (by omega) (by omega)).mono ?_
    rintro r G3 ⟨bo,rfl,a3,s3,hb3,hG3⟩
    have l3:G3.length=G2.length:=by rw [hG3];simp
    have old3:∀ j,j ≠ 1→G3[j]? = G2[j]?:=fun j h1=>by rw [hG3,List.getElem?_set_ne (fun e=>h1 e.symm)]
    have c3:G3[1]? = some (rC code a3 s3):=by rw [hG3,List.getElem?_set_self (by omega)]
    have f3:G3[G1.length]? = some (.row 2 [[V.d (.int .i64 A.params_),.sl bid 5 0 A.blocks_.l.length]]):=(old3 _ (by omega)).trans f2
    have z3:G3[0]? = some (.row 2 [[V.d (.int .i64 0),V.d .nilsl]]):=(old3 0 (by omega)).trans z2
    have oA3:Own G3 A:=oA2.frame (S:=[1]) ⟨by omega,fun j hj hn=>old3 j (fun e=>hn (by simp [e]))⟩ fun j hj h=>by have:=fr1 j hj;simp at h;omega
    have br3:G3[bid]? = some (.row 5 (A.blocks_.l.map Tr.cells)):=by have:=((AFunc.own_blocks_ oA3).row hne').2.1;rw [← hbid] at this;exact this
    have ir3:G3[iid]? = some (.row 3 (b.insts_.l.map Tr.cells)):=by have:=((ABlock.own_insts_ ((AFunc.own_blocks_ oA3).elems.get (List.mem_of_getElem? hb))).row hm).2.1;rw [← hiid] at this;exact this
    have R3:∀ {j:Nat} {P:Place} (X:Heap),G3[j]? = some P→(G3++X)[j]? = some P:=fun X q=>(List.getElem?_append_left (List.getElem?_eq_some_iff.1 q).1).trans q
    have ir3R:=fun X=>R3 X ir3
    have br3R:=fun X=>R3 X br3
    have f3R:=fun X=>R3 X f3
    cases bo with
    | false =>
      simp [-V.flat,-V.one,one_int,one_bool,one_str,one_nilp,one_rp,one_nilsl,one_ro,one_cl,one_nilf,one_nili,one_ifc,one_ptr,one_sl,one_clo,flat_d,flat_ptr,flat_sl,flat_clo,flat_agg,f3,z3,bv,retQ]
      rw [List.getElem?_set_self (by omega)]
      exact ⟨rfl,_,rfl,_,_,Fin.same (Nat.zero_le _),A,by rw [bv];rfl,oA3.frame (S:=[0]) Only.set fun j hj h=>(by have:=fr1 j hj;simp at h;omega),hg1⟩
    | true =>
      simp [-V.flat,-V.one,one_int,one_bool,one_str,one_nilp,one_rp,one_nilsl,one_ro,one_cl,one_nilf,one_nili,one_ifc,one_ptr,one_sl,one_clo,flat_d,flat_ptr,flat_sl,flat_clo,flat_agg,hm]
      refine W_drawC mixed ⟨[],[],[37,38,63,39],54,0,[0,2,3,4,5,6,7,30,45],[27,30,45]⟩ [0,1,2,3,4,5,6,7] [8,9,10,11] [12] (.alt 8 (.alt 9 (.alt 10 (.alt 11 .leaf .nil) (.alt 11 (.alt 10 .leaf .nil) .nil)) (.alt 11 (.alt 9 (.alt 10 .leaf .nil) .nil) .nil)) (.alt 11 (.alt 8 (.alt 9 (.alt 10 .leaf .nil) .nil) .nil) .nil)) (fun | 8=>[1,5] | 11=>[1,5] | _=>[]) [0,2,3,4,5,6,7,30,45,31,32,33,34,35,36,37,38,39,40,41] (by kernel_rfl) (by kernel_rfl) ?_
      simp only [stripOps,pickOps]
      simp [-V.flat,-V.one,one_int,one_bool,one_str,one_nilp,one_rp,one_nilsl,one_ro,one_cl,one_nilf,one_nili,one_ifc,one_ptr,one_sl,one_clo,flat_d,flat_ptr,flat_sl,flat_clo,flat_agg,f3,f3R,br3,br3R,ir3,ir3R,hb,eb0,eb1,hil,iv2,hm]
      refine ⟨?_, ?_⟩
      · simp only [demC,stripOps,pickOps]
        simp [loadD,-V.flat,-V.one,one_int,one_bool,one_str,one_nilp,one_rp,one_nilsl,one_ro,one_cl,one_nilf,one_nili,one_ifc,one_ptr,one_sl,one_clo,flat_d,flat_ptr,flat_sl,flat_clo,flat_agg,f3,f3R,br3,br3R,ir3,ir3R,hb,eb0,eb1,hil,iv2,hm]
        rw [aft_call]
        refine (pick_own G3 1 code a3 s3 _ c3 hg (by omega) (by omega)).mono ?_
        rintro r G4 ⟨y,rfl,hy,a4,s4,hb4,hG4⟩
        have l4:G4.length=G3.length:=by rw [hG4];simp
        have old4:∀ j,j ≠ 1→G4[j]? = G3[j]?:=fun j h1=>by rw [hG4,List.getElem?_set_ne (fun e=>h1 e.symm)]
        have c4:G4[1]? = some (rC code a4 s4):=by rw [hG4,List.getElem?_set_self (by omega)]
        have f4:G4[G1.length]? = some (.row 2 [[V.d (.int .i64 A.params_),.sl bid 5 0 A.blocks_.l.length]]):=(old4 _ (by omega)).trans f3
        have z4:G4[0]? = some (.row 2 [[V.d (.int .i64 0),V.d .nilsl]]):=(old4 0 (by omega)).trans z3
        have oA4:Own G4 A:=oA3.frame (S:=[1]) ⟨by omega,fun j hj hn=>old4 j (fun e=>hn (by simp [e]))⟩ fun j hj h=>by have:=fr1 j hj;simp at h;omega
        obtain ⟨y0,y1⟩:=hy.lt (by omega)
        obtain ⟨k,rfl⟩:=Int.eq_ofNat_of_zero_le y0
        have hkl:k < b.insts_.l.length:=by omega
        obtain ⟨x,hx4⟩:∃ x,b.insts_.l[k]? = some x:=⟨_,List.getElem?_eq_getElem hkl⟩
        have ex0:∀ h:k < b.insts_.l.length,b.insts_.l[k]=x:=fun h=>Option.some.inj ((List.getElem?_eq_getElem h).symm.trans hx4)
        have ex1:b.insts_.l[k]?.getD default=x:=by rw [hx4];rfl
        have ir4:G4[iid]? = some (.row 3 (b.insts_.l.map Tr.cells)):=by have:=((ABlock.own_insts_ ((AFunc.own_blocks_ oA4).elems.get (List.mem_of_getElem? hb))).row hm).2.1;rw [← hiid] at this;exact this
        have br4:G4[bid]? = some (.row 5 (A.blocks_.l.map Tr.cells)):=by have:=((AFunc.own_blocks_ oA4).row hne').2.1;rw [← hbid] at this;exact this
        have R4:∀ {j:Nat} {P:Place} (X:Heap),G4[j]? = some P→(G4++X)[j]? = some P:=fun X q=>(List.getElem?_append_left (List.getElem?_eq_some_iff.1 q).1).trans q
        have ir4R:=fun X=>R4 X ir4
        have br4R:=fun X=>R4 X br4
        have f4R:=fun X=>R4 X f4
        have xone:x.args_.v.one=true:=(AInst.own_args_ ((ABlock.own_insts_ ((AFunc.own_blocks_ oA4).elems.get (List.mem_of_getElem? hb))).elems.get (List.mem_of_getElem? hx4))).ok.1.scl.2
        have l34:=l4.symm
        simp [loadD,-V.flat,-V.one,one_int,one_bool,one_str,one_nilp,one_rp,one_nilsl,one_ro,one_cl,one_nilf,one_nili,one_ifc,one_ptr,one_sl,one_clo,flat_d,flat_ptr,flat_sl,flat_clo,flat_agg,f3,f3R,br3,br3R,ir3,ir3R,f4,f4R,br4,br4R,ir4,ir4R,hb,eb0,eb1,hil,hkl,ex0,ex1,hx4,iv2,hm,cells_AInst,xone,l34]
        refine ⟨?_, ?_⟩
        · simp only [demC,stripOps,pickOps]
          simp [loadD,-V.flat,-V.one,one_int,one_bool,one_str,one_nilp,one_rp,one_nilsl,one_ro,one_cl,one_nilf,one_nili,one_ifc,one_ptr,one_sl,one_clo,flat_d,flat_ptr,flat_sl,flat_clo,flat_agg,f3,f3R,br3,br3R,ir3,ir3R,f4,f4R,br4,br4R,ir4,ir4R,hb,eb0,eb1,hil,hkl,ex0,ex1,hx4,iv2,hm,cells_AInst,xone,l34]
          refine ⟨?_, ?_⟩
          · simp only [demC,stripOps,pickOps]
            simp [loadD,-V.flat,-V.one,one_int,one_bool,one_str,one_nilp,one_rp,one_nilsl,one_ro,one_cl,one_nilf,one_nili,one_ifc,one_ptr,one_sl,one_clo,flat_d,flat_ptr,flat_sl,flat_clo,flat_agg,f3,f3R,br3,br3R,ir3,ir3R,f4,f4R,br4,br4R,ir4,ir4R,hb,eb0,eb1,hil,hkl,ex0,ex1,hx4,iv2,hm,cells_AInst,xone,l34]
            refine denC_one ?_
            simp only [demC,stripOps,pickOps]
            simp [loadD,-V.flat,-V.one,one_int,one_bool,one_str,one_nilp,one_rp,one_nilsl,one_ro,one_cl,one_nilf,one_nili,one_ifc,one_ptr,one_sl,one_clo,flat_d,flat_ptr,flat_sl,flat_clo,flat_agg,f3,f3R,br3,br3R,ir3,ir3R,f4,f4R,br4,br4R,ir4,ir4R,hb,eb0,eb1,hil,hkl,ex0,ex1,hx4,iv2,hm,cells_AInst,xone,l34]
            refine denC_leaf ?_
            simp only [stripOps,pickOps]
            simp [-V.flat,-V.one,one_int,one_bool,one_str,one_nilp,one_rp,one_nilsl,one_ro,one_cl,one_nilf,one_nili,one_ifc,one_ptr,one_sl,one_clo,flat_d,flat_ptr,flat_sl,flat_clo,flat_agg,f3,f3R,br3,br3R,ir3,ir3R,f4,f4R,br4,br4R,ir4,ir4R,hb,eb0,eb1,hil,hkl,ex0,ex1,hx4,iv2,hm,cells_AInst,xone,l34]
            obtain ⟨Gx,hGx⟩:∃ Gx,Gx=G4++[Place.row 3 [[V.d (.int .i64 x.op_),V.d (.int .i64 x.n_),x.args_.v]]]:=⟨_,rfl⟩
            rw [← hGx]
            have lGx:Gx.length=G4.length + 1:=by rw [hGx];simp
            have oldx:∀ j,j < G4.length→Gx[j]? = G4[j]?:=fun j hj=>by rw [hGx,List.getElem?_append_left hj]
            have cx:Gx[1]? = some (rC code a4 s4):=(oldx 1 (by omega)).trans c4
            have fx:Gx[G1.length]? = some (.row 2 [[V.d (.int .i64 A.params_),.sl bid 5 0 A.blocks_.l.length]]):=(oldx _ (by omega)).trans f4
            have zx:Gx[0]? = some (.row 2 [[V.d (.int .i64 0),V.d .nilsl]]):=(oldx 0 (by omega)).trans z4
            have tx:Gx[G4.length]? = some (.row 3 [[V.d (.int .i64 x.op_),V.d (.int .i64 x.n_),x.args_.v]]):=by rw [hGx,List.getElem?_append_right (Nat.le_refl _)];simp
            have oAx:Own Gx A:=oA4.frame (S:=[]) (by rw [hGx];exact Only.app [] _ _) fun j _ h=>absurd h List.not_mem_nil
            have oxx:Own Gx x:=((ABlock.own_insts_ ((AFunc.own_blocks_ oAx).elems.get (List.mem_of_getElem? hb))).elems.get (List.mem_of_getElem? hx4))
            have og:=AInst.own_args_ oxx
            by_cases hg0:x.args_.l.length=0
            · rcases og.ok.1 with q | ⟨_,q | ⟨f,q⟩⟩
              · replace q:x.args_.v=.sl x.args_.id 1 0 x.args_.l.length:=q
                obtain ⟨gid,hgid⟩:∃ gid,gid=x.args_.id:=⟨_,rfl⟩
                rw [← hgid,hg0] at q
                simp [-V.flat,-V.one,one_int,one_bool,one_str,one_nilp,one_rp,one_nilsl,one_ro,one_cl,one_nilf,one_nili,one_ifc,one_ptr,one_sl,one_clo,flat_d,flat_ptr,flat_sl,flat_clo,flat_agg,tx,fx,zx,q,hg0,bv,retQ]
                rw [List.getElem?_set_self (by omega)]
                exact ⟨rfl,_,rfl,_,_,Fin.same (Nat.zero_le _),A,by rw [bv];rfl,oAx.frame (S:=[0]) Only.set fun j hj h=>(by have:=fr1 j hj;simp at h;omega),hg1⟩
              · skip
                simp [-V.flat,-V.one,one_int,one_bool,one_str,one_nilp,one_rp,one_nilsl,one_ro,one_cl,one_nilf,one_nili,one_ifc,one_ptr,one_sl,one_clo,flat_d,flat_ptr,flat_sl,flat_clo,flat_agg,tx,fx,zx,q,hg0,bv,retQ]
                rw [List.getElem?_set_self (by omega)]
                exact ⟨rfl,_,rfl,_,_,Fin.same (Nat.zero_le _),A,by rw [bv];rfl,oAx.frame (S:=[0]) Only.set fun j hj h=>(by have:=fr1 j hj;simp at h;omega),hg1⟩
              · skip
                simp [-V.flat,-V.one,one_int,one_bool,one_str,one_nilp,one_rp,one_nilsl,one_ro,one_cl,one_nilf,one_nili,one_ifc,one_ptr,one_sl,one_clo,flat_d,flat_ptr,flat_sl,flat_clo,flat_agg,tx,fx,zx,q,hg0,bv,retQ]
                rw [List.getElem?_set_self (by omega)]
                exact ⟨rfl,_,rfl,_,_,Fin.same (Nat.zero_le _),A,by rw [bv];rfl,oAx.frame (S:=[0]) Only.set fun j hj h=>(by have:=fr1 j hj;simp at h;omega),hg1⟩
            · have hgl:0 < x.args_.l.length:=by omega
              obtain ⟨gv,gr,_,_⟩:=og.row hgl
              obtain ⟨gid,hgid⟩:∃ gid,gid=x.args_.id:=⟨_,rfl⟩
              rw [← hgid] at gv gr
              simp [-V.flat,-V.one,one_int,one_bool,one_str,one_nilp,one_rp,one_nilsl,one_ro,one_cl,one_nilf,one_nili,one_ifc,one_ptr,one_sl,one_clo,flat_d,flat_ptr,flat_sl,flat_clo,flat_agg,tx,gv,hgl]
              have dA:decA (α:=Func) Gx (.agg [V.d (.int .i64 A.params_),.sl bid 5 0 A.blocks_.l.length])=(True,Tr.era A):=by have:=decA_A oAx rfl;rw [cells_AFunc,bv] at this;exact this
              have cnt:CallsD Try.prog 39 [.agg [V.d (.int .i64 A.params_),.sl bid 5 0 A.blocks_.l.length]] Gx fun r H'=>r=.d (.int .i64 (cntB (Tr.era A).blocks_ (Tr.era A).params_))∧H'=Gx:=by
                refine K_39h.good _ _ _ ?_
                rw [K_39h_e]
                simp only [dA]
                have hg1':=hg1
                generalize Tr.era A=F at hg1'
                simp [hg1']
                exact ⟨rfl,rfl⟩
              have xone5:=og.ok.1.scl.2
              refine W_drawC mixed ⟨[],[],[37,38,63,39],54,0,[0,2,3,4,5,6,7,30,45],[27,30,45]⟩ [0,1,2,3] [4,5] [6,7] (.alt 4 (.alt 5 .leaf .nil) .nil) (fun | 4=>[1] | 5=>[1] | _=>[]) [0,2,3,4,5,6,7,30,45,46,47,48,49,50,51,52] (by kernel_rfl) (by kernel_rfl) ?_
              simp only [stripOps,pickOps]
              simp [-V.flat,-V.one,one_int,one_bool,one_str,one_nilp,one_rp,one_nilsl,one_ro,one_cl,one_nilf,one_nili,one_ifc,one_ptr,one_sl,one_clo,flat_d,flat_ptr,flat_sl,flat_clo,flat_agg,fx,tx,gv,hgl,bv]
              refine denC_one ?_
              simp only [demC,stripOps,pickOps]
              simp [loadD,-V.flat,-V.one,one_int,one_bool,one_str,one_nilp,one_rp,one_nilsl,one_ro,one_cl,one_nilf,one_nili,one_ifc,one_ptr,one_sl,one_clo,flat_d,flat_ptr,flat_sl,flat_clo,flat_agg,fx,tx,gv]
              rw [aft_call]
              refine cnt.mono ?_
              rintro r G' ⟨rfl,hG'⟩
              subst hG'
              generalize cntB (Tr.era A).blocks_ (Tr.era A).params_=cn
              simp [loadD,-V.flat,-V.one,one_int,one_bool,one_str,one_nilp,one_rp,one_nilsl,one_ro,one_cl,one_nilf,one_nili,one_ifc,one_ptr,one_sl,one_clo,flat_d,flat_ptr,flat_sl,flat_clo,flat_agg,fx,tx,gv]
              refine denC_one ?_
              simp only [demC,stripOps,pickOps]
              simp [loadD,-V.flat,-V.one,one_int,one_bool,one_str,one_nilp,one_rp,one_nilsl,one_ro,one_cl,one_nilf,one_nili,one_ifc,one_ptr,one_sl,one_clo,flat_d,flat_ptr,flat_sl,flat_clo,flat_agg,fx,tx,gv]
              rw [aft_call]
              refine (pick_own G' 1 code a4 s4 cn cx hg (by omega) (by omega)).mono ?_
              rintro r G5 ⟨z,rfl,hz,a5,s5,hb5,hG5⟩
              have l5:G5.length=G'.length:=by rw [hG5];simp
              have old5:∀ j,j ≠ 1→G5[j]? = G'[j]?:=fun j h1=>by rw [hG5,List.getElem?_set_ne (fun e=>h1 e.symm)]
              have f5:G5[G1.length]? = some (.row 2 [[V.d (.int .i64 A.params_),.sl bid 5 0 A.blocks_.l.length]]):=(old5 _ (by omega)).trans fx
              have z5:G5[0]? = some (.row 2 [[V.d (.int .i64 0),V.d .nilsl]]):=(old5 0 (by omega)).trans zx
              have t5:G5[G4.length]? = some (.row 3 [[V.d (.int .i64 x.op_),V.d (.int .i64 x.n_),x.args_.v]]):=(old5 _ (by omega)).trans tx
              have oA5:Own G5 A:=oAx.frame (S:=[1]) ⟨by omega,fun j hj hn=>old5 j (fun e=>hn (by simp [e]))⟩ fun j hj h=>by have:=fr1 j hj;simp at h;omega
              have hzz:=hz.1
              have hzg:Enc.good z:=⟨by omega,by omega⟩
              obtain ⟨A',e1,e2,e3,o6,g6,mg,_,gr5⟩:=set0_own oA5 hg1 hb hx4 hgl hzg
              rw [← hgid] at o6 mg gr5
              have m2:=fr1 gid mg
              have mlt:=lt1 gid mg
              have f6:∀ P,(G5.set gid P)[G1.length]? = some (.row 2 [[V.d (.int .i64 A.params_),.sl bid 5 0 A.blocks_.l.length]]):=fun P=>(List.getElem?_set_ne (by omega)).trans f5
              have z6:∀ P,(G5.set gid P)[0]? = some (.row 2 [[V.d (.int .i64 0),V.d .nilsl]]):=fun P=>(List.getElem?_set_ne (by omega)).trans z5
              simp [loadD,-V.flat,-V.one,one_int,one_bool,one_str,one_nilp,one_rp,one_nilsl,one_ro,one_cl,one_nilf,one_nili,one_ifc,one_ptr,one_sl,one_clo,flat_d,flat_ptr,flat_sl,flat_clo,flat_agg,fx,tx,gv,f5,t5]
              refine denC_leaf ?_
              simp only [stripOps,pickOps]
              simp [-V.flat,-V.one,one_int,one_bool,one_str,one_nilp,one_rp,one_nilsl,one_ro,one_cl,one_nilf,one_nili,one_ifc,one_ptr,one_sl,one_clo,flat_d,flat_ptr,flat_sl,flat_clo,flat_agg,f5,t5,gr5,hgl,gv,f6,z6,bv,retQ]
              have hs:((List.map (fun n:Int=>[V.d (D.int IntKind.i64 n)]) x.args_.l).set 0 [V.d (D.int IntKind.i64 z)])=rI (x.args_.l.set 0 z):=List.map_set.symm
              rw [hs,List.getElem?_set_self (by simp;omega)]
              exact ⟨rfl,_,rfl,_,_,Fin.same (Nat.zero_le _),A',by rw [e1,e2,bv];rfl,o6.frame (S:=[0]) Only.set fun j hj h=>(by rw [e3] at hj;have:=fr1 j hj;simp at h;omega),g6⟩
          · refine denC_one ?_
            simp only [demC,stripOps,pickOps]
            simp [loadD,-V.flat,-V.one,one_int,one_bool,one_str,one_nilp,one_rp,one_nilsl,one_ro,one_cl,one_nilf,one_nili,one_ifc,one_ptr,one_sl,one_clo,flat_d,flat_ptr,flat_sl,flat_clo,flat_agg,f3,f3R,br3,br3R,ir3,ir3R,f4,f4R,br4,br4R,ir4,ir4R,hb,eb0,eb1,hil,hkl,ex0,ex1,hx4,iv2,hm,cells_AInst,xone,l34]
            refine denC_one ?_
            simp only [demC,stripOps,pickOps]
            simp [loadD,-V.flat,-V.one,one_int,one_bool,one_str,one_nilp,one_rp,one_nilsl,one_ro,one_cl,one_nilf,one_nili,one_ifc,one_ptr,one_sl,one_clo,flat_d,flat_ptr,flat_sl,flat_clo,flat_agg,f3,f3R,br3,br3R,ir3,ir3R,f4,f4R,br4,br4R,ir4,ir4R,hb,eb0,eb1,hil,hkl,ex0,ex1,hx4,iv2,hm,cells_AInst,xone,l34]
            refine denC_leaf ?_
            simp only [stripOps,pickOps]
            simp [-V.flat,-V.one,one_int,one_bool,one_str,one_nilp,one_rp,one_nilsl,one_ro,one_cl,one_nilf,one_nili,one_ifc,one_ptr,one_sl,one_clo,flat_d,flat_ptr,flat_sl,flat_clo,flat_agg,f3,f3R,br3,br3R,ir3,ir3R,f4,f4R,br4,br4R,ir4,ir4R,hb,eb0,eb1,hil,hkl,ex0,ex1,hx4,iv2,hm,cells_AInst,xone,l34]
            obtain ⟨Gx,hGx⟩:∃ Gx,Gx=G4++[Place.row 3 [[V.d (.int .i64 x.op_),V.d (.int .i64 x.n_),x.args_.v]]]:=⟨_,rfl⟩
            rw [← hGx]
            have lGx:Gx.length=G4.length + 1:=by rw [hGx];simp
            have oldx:∀ j,j < G4.length→Gx[j]? = G4[j]?:=fun j hj=>by rw [hGx,List.getElem?_append_left hj]
            have cx:Gx[1]? = some (rC code a4 s4):=(oldx 1 (by omega)).trans c4
            have fx:Gx[G1.length]? = some (.row 2 [[V.d (.int .i64 A.params_),.sl bid 5 0 A.blocks_.l.length]]):=(oldx _ (by omega)).trans f4
            have zx:Gx[0]? = some (.row 2 [[V.d (.int .i64 0),V.d .nilsl]]):=(oldx 0 (by omega)).trans z4
            have tx:Gx[G4.length]? = some (.row 3 [[V.d (.int .i64 x.op_),V.d (.int .i64 x.n_),x.args_.v]]):=by rw [hGx,List.getElem?_append_right (Nat.le_refl _)];simp
            have oAx:Own Gx A:=oA4.frame (S:=[]) (by rw [hGx];exact Only.app [] _ _) fun j _ h=>absurd h List.not_mem_nil
            have oxx:Own Gx x:=((ABlock.own_insts_ ((AFunc.own_blocks_ oAx).elems.get (List.mem_of_getElem? hb))).elems.get (List.mem_of_getElem? hx4))
            have og:=AInst.own_args_ oxx
            by_cases hg0:x.args_.l.length=0
            · rcases og.ok.1 with q | ⟨_,q | ⟨f,q⟩⟩
              · replace q:x.args_.v=.sl x.args_.id 1 0 x.args_.l.length:=q
                obtain ⟨gid,hgid⟩:∃ gid,gid=x.args_.id:=⟨_,rfl⟩
                rw [← hgid,hg0] at q
                simp [-V.flat,-V.one,one_int,one_bool,one_str,one_nilp,one_rp,one_nilsl,one_ro,one_cl,one_nilf,one_nili,one_ifc,one_ptr,one_sl,one_clo,flat_d,flat_ptr,flat_sl,flat_clo,flat_agg,tx,fx,zx,q,hg0,bv,retQ]
                rw [List.getElem?_set_self (by omega)]
                exact ⟨rfl,_,rfl,_,_,Fin.same (Nat.zero_le _),A,by rw [bv];rfl,oAx.frame (S:=[0]) Only.set fun j hj h=>(by have:=fr1 j hj;simp at h;omega),hg1⟩
              · skip
                simp [-V.flat,-V.one,one_int,one_bool,one_str,one_nilp,one_rp,one_nilsl,one_ro,one_cl,one_nilf,one_nili,one_ifc,one_ptr,one_sl,one_clo,flat_d,flat_ptr,flat_sl,flat_clo,flat_agg,tx,fx,zx,q,hg0,bv,retQ]
                rw [List.getElem?_set_self (by omega)]
                exact ⟨rfl,_,rfl,_,_,Fin.same (Nat.zero_le _),A,by rw [bv];rfl,oAx.frame (S:=[0]) Only.set fun j hj h=>(by have:=fr1 j hj;simp at h;omega),hg1⟩
              · skip
                simp [-V.flat,-V.one,one_int,one_bool,one_str,one_nilp,one_rp,one_nilsl,one_ro,one_cl,one_nilf,one_nili,one_ifc,one_ptr,one_sl,one_clo,flat_d,flat_ptr,flat_sl,flat_clo,flat_agg,tx,fx,zx,q,hg0,bv,retQ]
                rw [List.getElem?_set_self (by omega)]
                exact ⟨rfl,_,rfl,_,_,Fin.same (Nat.zero_le _),A,by rw [bv];rfl,oAx.frame (S:=[0]) Only.set fun j hj h=>(by have:=fr1 j hj;simp at h;omega),hg1⟩
            · have hgl:0 < x.args_.l.length:=by omega
              obtain ⟨gv,gr,_,_⟩:=og.row hgl
              obtain ⟨gid,hgid⟩:∃ gid,gid=x.args_.id:=⟨_,rfl⟩
              rw [← hgid] at gv gr
              simp [-V.flat,-V.one,one_int,one_bool,one_str,one_nilp,one_rp,one_nilsl,one_ro,one_cl,one_nilf,one_nili,one_ifc,one_ptr,one_sl,one_clo,flat_d,flat_ptr,flat_sl,flat_clo,flat_agg,tx,gv,hgl]
              have dA:decA (α:=Func) Gx (.agg [V.d (.int .i64 A.params_),.sl bid 5 0 A.blocks_.l.length])=(True,Tr.era A):=by have:=decA_A oAx rfl;rw [cells_AFunc,bv] at this;exact this
              have cnt:CallsD Try.prog 39 [.agg [V.d (.int .i64 A.params_),.sl bid 5 0 A.blocks_.l.length]] Gx fun r H'=>r=.d (.int .i64 (cntB (Tr.era A).blocks_ (Tr.era A).params_))∧H'=Gx:=by
                refine K_39h.good _ _ _ ?_
                rw [K_39h_e]
                simp only [dA]
                have hg1':=hg1
                generalize Tr.era A=F at hg1'
                simp [hg1']
                exact ⟨rfl,rfl⟩
              have xone5:=og.ok.1.scl.2
              refine W_drawC mixed ⟨[],[],[37,38,63,39],54,0,[0,2,3,4,5,6,7,30,45],[27,30,45]⟩ [0,1,2,3] [4,5] [6,7] (.alt 4 (.alt 5 .leaf .nil) .nil) (fun | 4=>[1] | 5=>[1] | _=>[]) [0,2,3,4,5,6,7,30,45,46,47,48,49,50,51,52] (by kernel_rfl) (by kernel_rfl) ?_
              simp only [stripOps,pickOps]
              simp [-V.flat,-V.one,one_int,one_bool,one_str,one_nilp,one_rp,one_nilsl,one_ro,one_cl,one_nilf,one_nili,one_ifc,one_ptr,one_sl,one_clo,flat_d,flat_ptr,flat_sl,flat_clo,flat_agg,fx,tx,gv,hgl,bv]
              refine denC_one ?_
              simp only [demC,stripOps,pickOps]
              simp [loadD,-V.flat,-V.one,one_int,one_bool,one_str,one_nilp,one_rp,one_nilsl,one_ro,one_cl,one_nilf,one_nili,one_ifc,one_ptr,one_sl,one_clo,flat_d,flat_ptr,flat_sl,flat_clo,flat_agg,fx,tx,gv]
              rw [aft_call]
              refine cnt.mono ?_
              rintro r G' ⟨rfl,hG'⟩
              subst hG'
              generalize cntB (Tr.era A).blocks_ (Tr.era A).params_=cn
              simp [loadD,-V.flat,-V.one,one_int,one_bool,one_str,one_nilp,one_rp,one_nilsl,one_ro,one_cl,one_nilf,one_nili,one_ifc,one_ptr,one_sl,one_clo,flat_d,flat_ptr,flat_sl,flat_clo,flat_agg,fx,tx,gv]
              refine denC_one ?_
              simp only [demC,stripOps,pickOps]
              simp [loadD,-V.flat,-V.one,one_int,one_bool,one_str,one_nilp,one_rp,one_nilsl,one_ro,one_cl,one_nilf,one_nili,one_ifc,one_ptr,one_sl,one_clo,flat_d,flat_ptr,flat_sl,flat_clo,flat_agg,fx,tx,gv]
              rw [aft_call]
              refine (pick_own G' 1 code a4 s4 cn cx hg (by omega) (by omega)).mono ?_
              rintro r G5 ⟨z,rfl,hz,a5,s5,hb5,hG5⟩
              have l5:G5.length=G'.length:=by rw [hG5];simp
              have old5:∀ j,j ≠ 1→G5[j]? = G'[j]?:=fun j h1=>by rw [hG5,List.getElem?_set_ne (fun e=>h1 e.symm)]
              have f5:G5[G1.length]? = some (.row 2 [[V.d (.int .i64 A.params_),.sl bid 5 0 A.blocks_.l.length]]):=(old5 _ (by omega)).trans fx
              have z5:G5[0]? = some (.row 2 [[V.d (.int .i64 0),V.d .nilsl]]):=(old5 0 (by omega)).trans zx
              have t5:G5[G4.length]? = some (.row 3 [[V.d (.int .i64 x.op_),V.d (.int .i64 x.n_),x.args_.v]]):=(old5 _ (by omega)).trans tx
              have oA5:Own G5 A:=oAx.frame (S:=[1]) ⟨by omega,fun j hj hn=>old5 j (fun e=>hn (by simp [e]))⟩ fun j hj h=>by have:=fr1 j hj;simp at h;omega
              have hzz:=hz.1
              have hzg:Enc.good z:=⟨by omega,by omega⟩
              obtain ⟨A',e1,e2,e3,o6,g6,mg,_,gr5⟩:=set0_own oA5 hg1 hb hx4 hgl hzg
              rw [← hgid] at o6 mg gr5
              have m2:=fr1 gid mg
              have mlt:=lt1 gid mg
              have f6:∀ P,(G5.set gid P)[G1.length]? = some (.row 2 [[V.d (.int .i64 A.params_),.sl bid 5 0 A.blocks_.l.length]]):=fun P=>(List.getElem?_set_ne (by omega)).trans f5
              have z6:∀ P,(G5.set gid P)[0]? = some (.row 2 [[V.d (.int .i64 0),V.d .nilsl]]):=fun P=>(List.getElem?_set_ne (by omega)).trans z5
              simp [loadD,-V.flat,-V.one,one_int,one_bool,one_str,one_nilp,one_rp,one_nilsl,one_ro,one_cl,one_nilf,one_nili,one_ifc,one_ptr,one_sl,one_clo,flat_d,flat_ptr,flat_sl,flat_clo,flat_agg,fx,tx,gv,f5,t5]
              refine denC_leaf ?_
              simp only [stripOps,pickOps]
              simp [-V.flat,-V.one,one_int,one_bool,one_str,one_nilp,one_rp,one_nilsl,one_ro,one_cl,one_nilf,one_nili,one_ifc,one_ptr,one_sl,one_clo,flat_d,flat_ptr,flat_sl,flat_clo,flat_agg,f5,t5,gr5,hgl,gv,f6,z6,bv,retQ]
              have hs:((List.map (fun n:Int=>[V.d (D.int IntKind.i64 n)]) x.args_.l).set 0 [V.d (D.int IntKind.i64 z)])=rI (x.args_.l.set 0 z):=List.map_set.symm
              rw [hs,List.getElem?_set_self (by simp;omega)]
              exact ⟨rfl,_,rfl,_,_,Fin.same (Nat.zero_le _),A',by rw [e1,e2,bv];rfl,o6.frame (S:=[0]) Only.set fun j hj h=>(by rw [e3] at hj;have:=fr1 j hj;simp at h;omega),g6⟩
        · refine denC_one ?_
          simp only [demC,stripOps,pickOps]
          simp [loadD,-V.flat,-V.one,one_int,one_bool,one_str,one_nilp,one_rp,one_nilsl,one_ro,one_cl,one_nilf,one_nili,one_ifc,one_ptr,one_sl,one_clo,flat_d,flat_ptr,flat_sl,flat_clo,flat_agg,f3,f3R,br3,br3R,ir3,ir3R,f4,f4R,br4,br4R,ir4,ir4R,hb,eb0,eb1,hil,hkl,ex0,ex1,hx4,iv2,hm,cells_AInst,xone,l34]
          refine denC_one ?_
          simp only [demC,stripOps,pickOps]
          simp [loadD,-V.flat,-V.one,one_int,one_bool,one_str,one_nilp,one_rp,one_nilsl,one_ro,one_cl,one_nilf,one_nili,one_ifc,one_ptr,one_sl,one_clo,flat_d,flat_ptr,flat_sl,flat_clo,flat_agg,f3,f3R,br3,br3R,ir3,ir3R,f4,f4R,br4,br4R,ir4,ir4R,hb,eb0,eb1,hil,hkl,ex0,ex1,hx4,iv2,hm,cells_AInst,xone,l34]
          refine denC_one ?_
          simp only [demC,stripOps,pickOps]
          simp [loadD,-V.flat,-V.one,one_int,one_bool,one_str,one_nilp,one_rp,one_nilsl,one_ro,one_cl,one_nilf,one_nili,one_ifc,one_ptr,one_sl,one_clo,flat_d,flat_ptr,flat_sl,flat_clo,flat_agg,f3,f3R,br3,br3R,ir3,ir3R,f4,f4R,br4,br4R,ir4,ir4R,hb,eb0,eb1,hil,hkl,ex0,ex1,hx4,iv2,hm,cells_AInst,xone,l34]
          refine denC_leaf ?_
          simp only [stripOps,pickOps]
          simp [-V.flat,-V.one,one_int,one_bool,one_str,one_nilp,one_rp,one_nilsl,one_ro,one_cl,one_nilf,one_nili,one_ifc,one_ptr,one_sl,one_clo,flat_d,flat_ptr,flat_sl,flat_clo,flat_agg,f3,f3R,br3,br3R,ir3,ir3R,f4,f4R,br4,br4R,ir4,ir4R,hb,eb0,eb1,hil,hkl,ex0,ex1,hx4,iv2,hm,cells_AInst,xone,l34]
          obtain ⟨Gx,hGx⟩:∃ Gx,Gx=G4++[Place.row 3 [[V.d (.int .i64 x.op_),V.d (.int .i64 x.n_),x.args_.v]]]:=⟨_,rfl⟩
          rw [← hGx]
          have lGx:Gx.length=G4.length + 1:=by rw [hGx];simp
          have oldx:∀ j,j < G4.length→Gx[j]? = G4[j]?:=fun j hj=>by rw [hGx,List.getElem?_append_left hj]
          have cx:Gx[1]? = some (rC code a4 s4):=(oldx 1 (by omega)).trans c4
          have fx:Gx[G1.length]? = some (.row 2 [[V.d (.int .i64 A.params_),.sl bid 5 0 A.blocks_.l.length]]):=(oldx _ (by omega)).trans f4
          have zx:Gx[0]? = some (.row 2 [[V.d (.int .i64 0),V.d .nilsl]]):=(oldx 0 (by omega)).trans z4
          have tx:Gx[G4.length]? = some (.row 3 [[V.d (.int .i64 x.op_),V.d (.int .i64 x.n_),x.args_.v]]):=by rw [hGx,List.getElem?_append_right (Nat.le_refl _)];simp
          have oAx:Own Gx A:=oA4.frame (S:=[]) (by rw [hGx];exact Only.app [] _ _) fun j _ h=>absurd h List.not_mem_nil
          have oxx:Own Gx x:=((ABlock.own_insts_ ((AFunc.own_blocks_ oAx).elems.get (List.mem_of_getElem? hb))).elems.get (List.mem_of_getElem? hx4))
          have og:=AInst.own_args_ oxx
          by_cases hg0:x.args_.l.length=0
          · rcases og.ok.1 with q | ⟨_,q | ⟨f,q⟩⟩
            · replace q:x.args_.v=.sl x.args_.id 1 0 x.args_.l.length:=q
              obtain ⟨gid,hgid⟩:∃ gid,gid=x.args_.id:=⟨_,rfl⟩
              rw [← hgid,hg0] at q
              simp [-V.flat,-V.one,one_int,one_bool,one_str,one_nilp,one_rp,one_nilsl,one_ro,one_cl,one_nilf,one_nili,one_ifc,one_ptr,one_sl,one_clo,flat_d,flat_ptr,flat_sl,flat_clo,flat_agg,tx,fx,zx,q,hg0,bv,retQ]
              rw [List.getElem?_set_self (by omega)]
              exact ⟨rfl,_,rfl,_,_,Fin.same (Nat.zero_le _),A,by rw [bv];rfl,oAx.frame (S:=[0]) Only.set fun j hj h=>(by have:=fr1 j hj;simp at h;omega),hg1⟩
            · skip
              simp [-V.flat,-V.one,one_int,one_bool,one_str,one_nilp,one_rp,one_nilsl,one_ro,one_cl,one_nilf,one_nili,one_ifc,one_ptr,one_sl,one_clo,flat_d,flat_ptr,flat_sl,flat_clo,flat_agg,tx,fx,zx,q,hg0,bv,retQ]
              rw [List.getElem?_set_self (by omega)]
              exact ⟨rfl,_,rfl,_,_,Fin.same (Nat.zero_le _),A,by rw [bv];rfl,oAx.frame (S:=[0]) Only.set fun j hj h=>(by have:=fr1 j hj;simp at h;omega),hg1⟩
            · skip
              simp [-V.flat,-V.one,one_int,one_bool,one_str,one_nilp,one_rp,one_nilsl,one_ro,one_cl,one_nilf,one_nili,one_ifc,one_ptr,one_sl,one_clo,flat_d,flat_ptr,flat_sl,flat_clo,flat_agg,tx,fx,zx,q,hg0,bv,retQ]
              rw [List.getElem?_set_self (by omega)]
              exact ⟨rfl,_,rfl,_,_,Fin.same (Nat.zero_le _),A,by rw [bv];rfl,oAx.frame (S:=[0]) Only.set fun j hj h=>(by have:=fr1 j hj;simp at h;omega),hg1⟩
          · have hgl:0 < x.args_.l.length:=by omega
            obtain ⟨gv,gr,_,_⟩:=og.row hgl
            obtain ⟨gid,hgid⟩:∃ gid,gid=x.args_.id:=⟨_,rfl⟩
            rw [← hgid] at gv gr
            simp [-V.flat,-V.one,one_int,one_bool,one_str,one_nilp,one_rp,one_nilsl,one_ro,one_cl,one_nilf,one_nili,one_ifc,one_ptr,one_sl,one_clo,flat_d,flat_ptr,flat_sl,flat_clo,flat_agg,tx,gv,hgl]
            have dA:decA (α:=Func) Gx (.agg [V.d (.int .i64 A.params_),.sl bid 5 0 A.blocks_.l.length])=(True,Tr.era A):=by have:=decA_A oAx rfl;rw [cells_AFunc,bv] at this;exact this
            have cnt:CallsD Try.prog 39 [.agg [V.d (.int .i64 A.params_),.sl bid 5 0 A.blocks_.l.length]] Gx fun r H'=>r=.d (.int .i64 (cntB (Tr.era A).blocks_ (Tr.era A).params_))∧H'=Gx:=by
              refine K_39h.good _ _ _ ?_
              rw [K_39h_e]
              simp only [dA]
              have hg1':=hg1
              generalize Tr.era A=F at hg1'
              simp [hg1']
              exact ⟨rfl,rfl⟩
            have xone5:=og.ok.1.scl.2
            refine W_drawC mixed ⟨[],[],[37,38,63,39],54,0,[0,2,3,4,5,6,7,30,45],[27,30,45]⟩ [0,1,2,3] [4,5] [6,7] (.alt 4 (.alt 5 .leaf .nil) .nil) (fun | 4=>[1] | 5=>[1] | _=>[]) [0,2,3,4,5,6,7,30,45,46,47,48,49,50,51,52] (by kernel_rfl) (by kernel_rfl) ?_
            simp only [stripOps,pickOps]
            simp [-V.flat,-V.one,one_int,one_bool,one_str,one_nilp,one_rp,one_nilsl,one_ro,one_cl,one_nilf,one_nili,one_ifc,one_ptr,one_sl,one_clo,flat_d,flat_ptr,flat_sl,flat_clo,flat_agg,fx,tx,gv,hgl,bv]
            refine denC_one ?_
            simp only [demC,stripOps,pickOps]
            simp [loadD,-V.flat,-V.one,one_int,one_bool,one_str,one_nilp,one_rp,one_nilsl,one_ro,one_cl,one_nilf,one_nili,one_ifc,one_ptr,one_sl,one_clo,flat_d,flat_ptr,flat_sl,flat_clo,flat_agg,fx,tx,gv]
            rw [aft_call]
            refine cnt.mono ?_
            rintro r G' ⟨rfl,hG'⟩
            subst hG'
            generalize cntB (Tr.era A).blocks_ (Tr.era A).params_=cn
            simp [loadD,-V.flat,-V.one,one_int,one_bool,one_str,one_nilp,one_rp,one_nilsl,one_ro,one_cl,one_nilf,one_nili,one_ifc,one_ptr,one_sl,one_clo,flat_d,flat_ptr,flat_sl,flat_clo,flat_agg,fx,tx,gv]
            refine denC_one ?_
            simp only [demC,stripOps,pickOps]
            simp [loadD,-V.flat,-V.one,one_int,one_bool,one_str,one_nilp,one_rp,one_nilsl,one_ro,one_cl,one_nilf,one_nili,one_ifc,one_ptr,one_sl,one_clo,flat_d,flat_ptr,flat_sl,flat_clo,flat_agg,fx,tx,gv]
            rw [aft_call]
            refine (pick_own G' 1 code a4 s4 cn cx hg (by omega) (by omega)).mono ?_
            rintro r G5 ⟨z,rfl,hz,a5,s5,hb5,hG5⟩
            have l5:G5.length=G'.length:=by rw [hG5];simp
            have old5:∀ j,j ≠ 1→G5[j]? = G'[j]?:=fun j h1=>by rw [hG5,List.getElem?_set_ne (fun e=>h1 e.symm)]
            have f5:G5[G1.length]? = some (.row 2 [[V.d (.int .i64 A.params_),.sl bid 5 0 A.blocks_.l.length]]):=(old5 _ (by omega)).trans fx
            have z5:G5[0]? = some (.row 2 [[V.d (.int .i64 0),V.d .nilsl]]):=(old5 0 (by omega)).trans zx
            have t5:G5[G4.length]? = some (.row 3 [[V.d (.int .i64 x.op_),V.d (.int .i64 x.n_),x.args_.v]]):=(old5 _ (by omega)).trans tx
            have oA5:Own G5 A:=oAx.frame (S:=[1]) ⟨by omega,fun j hj hn=>old5 j (fun e=>hn (by simp [e]))⟩ fun j hj h=>by have:=fr1 j hj;simp at h;omega
            have hzz:=hz.1
            have hzg:Enc.good z:=⟨by omega,by omega⟩
            obtain ⟨A',e1,e2,e3,o6,g6,mg,_,gr5⟩:=set0_own oA5 hg1 hb hx4 hgl hzg
            rw [← hgid] at o6 mg gr5
            have m2:=fr1 gid mg
            have mlt:=lt1 gid mg
            have f6:∀ P,(G5.set gid P)[G1.length]? = some (.row 2 [[V.d (.int .i64 A.params_),.sl bid 5 0 A.blocks_.l.length]]):=fun P=>(List.getElem?_set_ne (by omega)).trans f5
            have z6:∀ P,(G5.set gid P)[0]? = some (.row 2 [[V.d (.int .i64 0),V.d .nilsl]]):=fun P=>(List.getElem?_set_ne (by omega)).trans z5
            simp [loadD,-V.flat,-V.one,one_int,one_bool,one_str,one_nilp,one_rp,one_nilsl,one_ro,one_cl,one_nilf,one_nili,one_ifc,one_ptr,one_sl,one_clo,flat_d,flat_ptr,flat_sl,flat_clo,flat_agg,fx,tx,gv,f5,t5]
            refine denC_leaf ?_
            simp only [stripOps,pickOps]
            simp [-V.flat,-V.one,one_int,one_bool,one_str,one_nilp,one_rp,one_nilsl,one_ro,one_cl,one_nilf,one_nili,one_ifc,one_ptr,one_sl,one_clo,flat_d,flat_ptr,flat_sl,flat_clo,flat_agg,f5,t5,gr5,hgl,gv,f6,z6,bv,retQ]
            have hs:((List.map (fun n:Int=>[V.d (D.int IntKind.i64 n)]) x.args_.l).set 0 [V.d (D.int IntKind.i64 z)])=rI (x.args_.l.set 0 z):=List.map_set.symm
            rw [hs,List.getElem?_set_self (by simp;omega)]
            exact ⟨rfl,_,rfl,_,_,Fin.same (Nat.zero_le _),A',by rw [e1,e2,bv];rfl,o6.frame (S:=[0]) Only.set fun j hj h=>(by rw [e3] at hj;have:=fr1 j hj;simp at h;omega),g6⟩
      · refine denC_one ?_
        simp only [demC,stripOps,pickOps]
        simp [loadD,-V.flat,-V.one,one_int,one_bool,one_str,one_nilp,one_rp,one_nilsl,one_ro,one_cl,one_nilf,one_nili,one_ifc,one_ptr,one_sl,one_clo,flat_d,flat_ptr,flat_sl,flat_clo,flat_agg,f3,f3R,br3,br3R,ir3,ir3R,hb,eb0,eb1,hil,iv2,hm]
        refine denC_one ?_
        simp only [demC,stripOps,pickOps]
        simp [loadD,-V.flat,-V.one,one_int,one_bool,one_str,one_nilp,one_rp,one_nilsl,one_ro,one_cl,one_nilf,one_nili,one_ifc,one_ptr,one_sl,one_clo,flat_d,flat_ptr,flat_sl,flat_clo,flat_agg,f3,f3R,br3,br3R,ir3,ir3R,hb,eb0,eb1,hil,iv2,hm]
        rw [aft_call]
        refine (pick_own (G3++[Place.row 3 [[V.d (.int .i64 0),V.d (.int .i64 0),V.d .nilsl]]]) 1 code a3 s3 _ ((List.getElem?_append_left (by omega)).trans c3) hg (by omega) (by omega)).mono ?_
        rintro r G4' ⟨y,rfl,hy,a4,s4,hb4,hG4'⟩
        rw [List.set_append_left _ _ (by omega)] at hG4'
        obtain ⟨G4,hG4⟩:∃ G4,G4=G3.set 1 (rC code a4 s4):=⟨_,rfl⟩
        rw [← hG4] at hG4'
        subst hG4'
        have l4:G4.length=G3.length:=by rw [hG4];simp
        have old4:∀ j,j ≠ 1→G4[j]? = G3[j]?:=fun j h1=>by rw [hG4,List.getElem?_set_ne (fun e=>h1 e.symm)]
        have c4:G4[1]? = some (rC code a4 s4):=by rw [hG4,List.getElem?_set_self (by omega)]
        have f4:G4[G1.length]? = some (.row 2 [[V.d (.int .i64 A.params_),.sl bid 5 0 A.blocks_.l.length]]):=(old4 _ (by omega)).trans f3
        have z4:G4[0]? = some (.row 2 [[V.d (.int .i64 0),V.d .nilsl]]):=(old4 0 (by omega)).trans z3
        have oA4:Own G4 A:=oA3.frame (S:=[1]) ⟨by omega,fun j hj hn=>old4 j (fun e=>hn (by simp [e]))⟩ fun j hj h=>by have:=fr1 j hj;simp at h;omega
        obtain ⟨y0,y1⟩:=hy.lt (by omega)
        obtain ⟨k,rfl⟩:=Int.eq_ofNat_of_zero_le y0
        have hkl:k < b.insts_.l.length:=by omega
        obtain ⟨x,hx4⟩:∃ x,b.insts_.l[k]? = some x:=⟨_,List.getElem?_eq_getElem hkl⟩
        have ex0:∀ h:k < b.insts_.l.length,b.insts_.l[k]=x:=fun h=>Option.some.inj ((List.getElem?_eq_getElem h).symm.trans hx4)
        have ex1:b.insts_.l[k]?.getD default=x:=by rw [hx4];rfl
        have ir4:G4[iid]? = some (.row 3 (b.insts_.l.map Tr.cells)):=by have:=((ABlock.own_insts_ ((AFunc.own_blocks_ oA4).elems.get (List.mem_of_getElem? hb))).row hm).2.1;rw [← hiid] at this;exact this
        have br4:G4[bid]? = some (.row 5 (A.blocks_.l.map Tr.cells)):=by have:=((AFunc.own_blocks_ oA4).row hne').2.1;rw [← hbid] at this;exact this
        have R4:∀ {j:Nat} {P:Place} (X:Heap),G4[j]? = some P→(G4++X)[j]? = some P:=fun X q=>(List.getElem?_append_left (List.getElem?_eq_some_iff.1 q).1).trans q
        have ir4R:=fun X=>R4 X ir4
        have br4R:=fun X=>R4 X br4
        have f4R:=fun X=>R4 X f4
        have xone:x.args_.v.one=true:=(AInst.own_args_ ((ABlock.own_insts_ ((AFunc.own_blocks_ oA4).elems.get (List.mem_of_getElem? hb))).elems.get (List.mem_of_getElem? hx4))).ok.1.scl.2
        have l34:=l4.symm
        simp [loadD,-V.flat,-V.one,one_int,one_bool,one_str,one_nilp,one_rp,one_nilsl,one_ro,one_cl,one_nilf,one_nili,one_ifc,one_ptr,one_sl,one_clo,flat_d,flat_ptr,flat_sl,flat_clo,flat_agg,f3,f3R,br3,br3R,ir3,ir3R,f4,f4R,br4,br4R,ir4,ir4R,hb,eb0,eb1,hil,hkl,ex0,ex1,hx4,iv2,hm,cells_AInst,xone,l34]
        refine denC_one ?_
        simp only [demC,stripOps,pickOps]
        simp [loadD,-V.flat,-V.one,one_int,one_bool,one_str,one_nilp,one_rp,one_nilsl,one_ro,one_cl,one_nilf,one_nili,one_ifc,one_ptr,one_sl,one_clo,flat_d,flat_ptr,flat_sl,flat_clo,flat_agg,f3,f3R,br3,br3R,ir3,ir3R,f4,f4R,br4,br4R,ir4,ir4R,hb,eb0,eb1,hil,hkl,ex0,ex1,hx4,iv2,hm,cells_AInst,xone,l34]
        refine denC_one ?_
        simp only [demC,stripOps,pickOps]
        simp [loadD,-V.flat,-V.one,one_int,one_bool,one_str,one_nilp,one_rp,one_nilsl,one_ro,one_cl,one_nilf,one_nili,one_ifc,one_ptr,one_sl,one_clo,flat_d,flat_ptr,flat_sl,flat_clo,flat_agg,f3,f3R,br3,br3R,ir3,ir3R,f4,f4R,br4,br4R,ir4,ir4R,hb,eb0,eb1,hil,hkl,ex0,ex1,hx4,iv2,hm,cells_AInst,xone,l34]
        refine denC_leaf ?_
        simp only [stripOps,pickOps]
        simp [-V.flat,-V.one,one_int,one_bool,one_str,one_nilp,one_rp,one_nilsl,one_ro,one_cl,one_nilf,one_nili,one_ifc,one_ptr,one_sl,one_clo,flat_d,flat_ptr,flat_sl,flat_clo,flat_agg,f3,f3R,br3,br3R,ir3,ir3R,f4,f4R,br4,br4R,ir4,ir4R,hb,eb0,eb1,hil,hkl,ex0,ex1,hx4,iv2,hm,cells_AInst,xone,l34]
        obtain ⟨Gx,hGx⟩:∃ Gx,Gx=G4++[Place.row 3 [[V.d (.int .i64 x.op_),V.d (.int .i64 x.n_),x.args_.v]]]:=⟨_,rfl⟩
        rw [← hGx]
        have lGx:Gx.length=G4.length + 1:=by rw [hGx];simp
        have oldx:∀ j,j < G4.length→Gx[j]? = G4[j]?:=fun j hj=>by rw [hGx,List.getElem?_append_left hj]
        have cx:Gx[1]? = some (rC code a4 s4):=(oldx 1 (by omega)).trans c4
        have fx:Gx[G1.length]? = some (.row 2 [[V.d (.int .i64 A.params_),.sl bid 5 0 A.blocks_.l.length]]):=(oldx _ (by omega)).trans f4
        have zx:Gx[0]? = some (.row 2 [[V.d (.int .i64 0),V.d .nilsl]]):=(oldx 0 (by omega)).trans z4
        have tx:Gx[G4.length]? = some (.row 3 [[V.d (.int .i64 x.op_),V.d (.int .i64 x.n_),x.args_.v]]):=by rw [hGx,List.getElem?_append_right (Nat.le_refl _)];simp
        have oAx:Own Gx A:=oA4.frame (S:=[]) (by rw [hGx];exact Only.app [] _ _) fun j _ h=>absurd h List.not_mem_nil
        have oxx:Own Gx x:=((ABlock.own_insts_ ((AFunc.own_blocks_ oAx).elems.get (List.mem_of_getElem? hb))).elems.get (List.mem_of_getElem? hx4))
        have og:=AInst.own_args_ oxx
        by_cases hg0:x.args_.l.length=0
        · rcases og.ok.1 with q | ⟨_,q | ⟨f,q⟩⟩
          · replace q:x.args_.v=.sl x.args_.id 1 0 x.args_.l.length:=q
            obtain ⟨gid,hgid⟩:∃ gid,gid=x.args_.id:=⟨_,rfl⟩
            rw [← hgid,hg0] at q
            simp [-V.flat,-V.one,one_int,one_bool,one_str,one_nilp,one_rp,one_nilsl,one_ro,one_cl,one_nilf,one_nili,one_ifc,one_ptr,one_sl,one_clo,flat_d,flat_ptr,flat_sl,flat_clo,flat_agg,tx,fx,zx,q,hg0,bv,retQ]
            rw [List.getElem?_set_self (by omega)]
            exact ⟨rfl,_,rfl,_,_,Fin.same (Nat.zero_le _),A,by rw [bv];rfl,oAx.frame (S:=[0]) Only.set fun j hj h=>(by have:=fr1 j hj;simp at h;omega),hg1⟩
          · skip
            simp [-V.flat,-V.one,one_int,one_bool,one_str,one_nilp,one_rp,one_nilsl,one_ro,one_cl,one_nilf,one_nili,one_ifc,one_ptr,one_sl,one_clo,flat_d,flat_ptr,flat_sl,flat_clo,flat_agg,tx,fx,zx,q,hg0,bv,retQ]
            rw [List.getElem?_set_self (by omega)]
            exact ⟨rfl,_,rfl,_,_,Fin.same (Nat.zero_le _),A,by rw [bv];rfl,oAx.frame (S:=[0]) Only.set fun j hj h=>(by have:=fr1 j hj;simp at h;omega),hg1⟩
          · skip
            simp [-V.flat,-V.one,one_int,one_bool,one_str,one_nilp,one_rp,one_nilsl,one_ro,one_cl,one_nilf,one_nili,one_ifc,one_ptr,one_sl,one_clo,flat_d,flat_ptr,flat_sl,flat_clo,flat_agg,tx,fx,zx,q,hg0,bv,retQ]
            rw [List.getElem?_set_self (by omega)]
            exact ⟨rfl,_,rfl,_,_,Fin.same (Nat.zero_le _),A,by rw [bv];rfl,oAx.frame (S:=[0]) Only.set fun j hj h=>(by have:=fr1 j hj;simp at h;omega),hg1⟩
        · have hgl:0 < x.args_.l.length:=by omega
          obtain ⟨gv,gr,_,_⟩:=og.row hgl
          obtain ⟨gid,hgid⟩:∃ gid,gid=x.args_.id:=⟨_,rfl⟩
          rw [← hgid] at gv gr
          simp [-V.flat,-V.one,one_int,one_bool,one_str,one_nilp,one_rp,one_nilsl,one_ro,one_cl,one_nilf,one_nili,one_ifc,one_ptr,one_sl,one_clo,flat_d,flat_ptr,flat_sl,flat_clo,flat_agg,tx,gv,hgl]
          have dA:decA (α:=Func) Gx (.agg [V.d (.int .i64 A.params_),.sl bid 5 0 A.blocks_.l.length])=(True,Tr.era A):=by have:=decA_A oAx rfl;rw [cells_AFunc,bv] at this;exact this
          have cnt:CallsD Try.prog 39 [.agg [V.d (.int .i64 A.params_),.sl bid 5 0 A.blocks_.l.length]] Gx fun r H'=>r=.d (.int .i64 (cntB (Tr.era A).blocks_ (Tr.era A).params_))∧H'=Gx:=by
            refine K_39h.good _ _ _ ?_
            rw [K_39h_e]
            simp only [dA]
            have hg1':=hg1
            generalize Tr.era A=F at hg1'
            simp [hg1']
            exact ⟨rfl,rfl⟩
          have xone5:=og.ok.1.scl.2
          refine W_drawC mixed ⟨[],[],[37,38,63,39],54,0,[0,2,3,4,5,6,7,30,45],[27,30,45]⟩ [0,1,2,3] [4,5] [6,7] (.alt 4 (.alt 5 .leaf .nil) .nil) (fun | 4=>[1] | 5=>[1] | _=>[]) [0,2,3,4,5,6,7,30,45,46,47,48,49,50,51,52] (by kernel_rfl) (by kernel_rfl) ?_
          simp only [stripOps,pickOps]
          simp [-V.flat,-V.one,one_int,one_bool,one_str,one_nilp,one_rp,one_nilsl,one_ro,one_cl,one_nilf,one_nili,one_ifc,one_ptr,one_sl,one_clo,flat_d,flat_ptr,flat_sl,flat_clo,flat_agg,fx,tx,gv,hgl,bv]
          refine denC_one ?_
          simp only [demC,stripOps,pickOps]
          simp [loadD,-V.flat,-V.one,one_int,one_bool,one_str,one_nilp,one_rp,one_nilsl,one_ro,one_cl,one_nilf,one_nili,one_ifc,one_ptr,one_sl,one_clo,flat_d,flat_ptr,flat_sl,flat_clo,flat_agg,fx,tx,gv]
          rw [aft_call]
          refine cnt.mono ?_
          rintro r G' ⟨rfl,hG'⟩
          subst hG'
          generalize cntB (Tr.era A).blocks_ (Tr.era A).params_=cn
          simp [loadD,-V.flat,-V.one,one_int,one_bool,one_str,one_nilp,one_rp,one_nilsl,one_ro,one_cl,one_nilf,one_nili,one_ifc,one_ptr,one_sl,one_clo,flat_d,flat_ptr,flat_sl,flat_clo,flat_agg,fx,tx,gv]
          refine denC_one ?_
          simp only [demC,stripOps,pickOps]
          simp [loadD,-V.flat,-V.one,one_int,one_bool,one_str,one_nilp,one_rp,one_nilsl,one_ro,one_cl,one_nilf,one_nili,one_ifc,one_ptr,one_sl,one_clo,flat_d,flat_ptr,flat_sl,flat_clo,flat_agg,fx,tx,gv]
          rw [aft_call]
          refine (pick_own G' 1 code a4 s4 cn cx hg (by omega) (by omega)).mono ?_
          rintro r G5 ⟨z,rfl,hz,a5,s5,hb5,hG5⟩
          have l5:G5.length=G'.length:=by rw [hG5];simp
          have old5:∀ j,j ≠ 1→G5[j]? = G'[j]?:=fun j h1=>by rw [hG5,List.getElem?_set_ne (fun e=>h1 e.symm)]
          have f5:G5[G1.length]? = some (.row 2 [[V.d (.int .i64 A.params_),.sl bid 5 0 A.blocks_.l.length]]):=(old5 _ (by omega)).trans fx
          have z5:G5[0]? = some (.row 2 [[V.d (.int .i64 0),V.d .nilsl]]):=(old5 0 (by omega)).trans zx
          have t5:G5[G4.length]? = some (.row 3 [[V.d (.int .i64 x.op_),V.d (.int .i64 x.n_),x.args_.v]]):=(old5 _ (by omega)).trans tx
          have oA5:Own G5 A:=oAx.frame (S:=[1]) ⟨by omega,fun j hj hn=>old5 j (fun e=>hn (by simp [e]))⟩ fun j hj h=>by have:=fr1 j hj;simp at h;omega
          have hzz:=hz.1
          have hzg:Enc.good z:=⟨by omega,by omega⟩
          obtain ⟨A',e1,e2,e3,o6,g6,mg,_,gr5⟩:=set0_own oA5 hg1 hb hx4 hgl hzg
          rw [← hgid] at o6 mg gr5
          have m2:=fr1 gid mg
          have mlt:=lt1 gid mg
          have f6:∀ P,(G5.set gid P)[G1.length]? = some (.row 2 [[V.d (.int .i64 A.params_),.sl bid 5 0 A.blocks_.l.length]]):=fun P=>(List.getElem?_set_ne (by omega)).trans f5
          have z6:∀ P,(G5.set gid P)[0]? = some (.row 2 [[V.d (.int .i64 0),V.d .nilsl]]):=fun P=>(List.getElem?_set_ne (by omega)).trans z5
          simp [loadD,-V.flat,-V.one,one_int,one_bool,one_str,one_nilp,one_rp,one_nilsl,one_ro,one_cl,one_nilf,one_nili,one_ifc,one_ptr,one_sl,one_clo,flat_d,flat_ptr,flat_sl,flat_clo,flat_agg,fx,tx,gv,f5,t5]
          refine denC_leaf ?_
          simp only [stripOps,pickOps]
          simp [-V.flat,-V.one,one_int,one_bool,one_str,one_nilp,one_rp,one_nilsl,one_ro,one_cl,one_nilf,one_nili,one_ifc,one_ptr,one_sl,one_clo,flat_d,flat_ptr,flat_sl,flat_clo,flat_agg,f5,t5,gr5,hgl,gv,f6,z6,bv,retQ]
          have hs:((List.map (fun n:Int=>[V.d (D.int IntKind.i64 n)]) x.args_.l).set 0 [V.d (D.int IntKind.i64 z)])=rI (x.args_.l.set 0 z):=List.map_set.symm
          rw [hs,List.getElem?_set_self (by simp;omega)]
          exact ⟨rfl,_,rfl,_,_,Fin.same (Nat.zero_le _),A',by rw [e1,e2,bv];rfl,o6.frame (S:=[0]) Only.set fun j hj h=>(by rw [e3] at hj;have:=fr1 j hj;simp at h;omega),g6⟩
theorem drawCheck_p (code:List Byt) (hg:Enc.good code):PureP Try.prog 27 [.d (dBytS code)] fun r=>∃ F:Func,r=vFunc F∧Enc.good F:=by
  refine PureP.of_ownQ ((drawCheck_own code hg).mono ?_)
  rintro r H' ⟨A,rfl,oA,hF⟩
  exact ⟨_,⟨Tr.era A,rfl,hF⟩,Rd1.aggs oA rfl⟩
end Go.Proofs.Ytnomiclfiijniaa
end
