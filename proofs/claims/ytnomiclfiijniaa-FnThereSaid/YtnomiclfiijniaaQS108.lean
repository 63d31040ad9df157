/- Any drawn function. No condition. -/
import Derived.Test.YtnomiclfiijniaaQS107
namespace Go.Proofs.Ytnomiclfiijniaa
set_option maxRecDepth 100000
set_option linter.unusedSimpArgs false
set_option linter.unusedVariables false
def NeB (A:AFunc):Prop:=0 < A.blocks_.l.length
structure Af (H:Heap) (C F:Nat) (code:List Byt) (G:Heap) (a s:Int) (A:AFunc):Prop where
  cur:G[C]? = some (rC code a s)
  f:G[F]? = some (.row 2 [[.d (.int .i64 A.params_),A.blocks_.v]])
  res:G[H.length]? = some (.row 2 [[.d (.int .i64 0),.d .nilsl]])
  own:Own G A.blocks_
  ge:∀ j∈ids A.blocks_,H.length < j∧j ≠ F
  cl:C < H.length
  fl:H.length < F
  only:Only [C] H G
  good:Enc.good (Tr.era A)
  first:∃ b,A.blocks_.l[0]? = some b∧0 < b.insts_.l.length
  par:0≤A.params_∧A.params_≤5
section
variable {H:Heap} {C F:Nat} {code:List Byt} {G:Heap} {a s:Int} {A:AFunc}
theorem Af.move (q:Af H C F code G a s A) {k:Int} {G':Heap} (h:Cu G C code a k G'):∃ a' s':Int,(a≤a'∧a'≤a + k)∧Af H C F code G' a' s' A:=by
  obtain ⟨a',s',h1,rfl⟩:=h
  have cl:=q.cl
  have fl:=q.fl
  have gl:=q.only.len
  have lC:=(List.getElem?_eq_some_iff.1 q.cur).1
  refine ⟨a',s',h1,List.getElem?_set_self lC,(List.getElem?_set_ne (by omega)).trans q.f,(List.getElem?_set_ne (by omega)).trans q.res,q.own.frame (S:=[C]) Only.set fun j hj h=>by have:=q.ge j hj;have:=List.mem_singleton.1 h;omega,q.ge,q.cl,q.fl,⟨by simpa using gl,fun j hj hn=>?_⟩,q.good,q.first,q.par⟩
  rw [List.getElem?_set_ne fun e=>hn (List.mem_singleton.2 e.symm)]
  exact q.only.at_ j hj hn
theorem Af.params (q:Af H C F code G a s A) {p:Int} (hp:Enc.good p) (hp5:0≤p∧p≤5):Af H C F code (G.set F (.row 2 [[.d (.int .i64 p),A.blocks_.v]])) a s ⟨p,A.blocks_⟩:=by
  have cl:=q.cl
  have fl:=q.fl
  have gl:=q.only.len
  have lF:=(List.getElem?_eq_some_iff.1 q.f).1
  refine ⟨(List.getElem?_set_ne (by omega)).trans q.cur,List.getElem?_set_self lF,(List.getElem?_set_ne (by omega)).trans q.res,q.own.frame (S:=[F]) Only.set fun j hj h=>(q.ge j hj).2 (List.mem_singleton.1 h),q.ge,q.cl,q.fl,⟨by simpa using gl,fun j hj hn=>?_⟩,⟨hp,q.good.2⟩,q.first,hp5⟩
  rw [List.getElem?_set_ne (by omega)]
  exact q.only.at_ j hj hn
theorem Af.value (q : Af H C F code G a s A) {i : Nat} {b : ABlock} (hb : A.blocks_.l[i]? = some b) {v : Int} (hv : Enc.good v) {P : Place} (hP : P = .row 5 ((A.blocks_.l.map Tr.cells).set i [.d (.int .i64 b.params_), b.insts_.v, .d (.int .i64 b.end_), .d (.int .i64 v), b.jumps_.v])) :
    Af H C F code (G.set A.blocks_.id P) a s ⟨A.params_,⟨A.blocks_.v,A.blocks_.l.set i ⟨b.params_,b.insts_,b.end_,v,b.jumps_⟩⟩⟩:=by
  subst hP
  have cl:=q.cl
  have fl:=q.fl
  have gl:=q.only.len
  have hil:=(List.getElem?_eq_some_iff.1 hb).1
  obtain ⟨bv,br,bn,bi⟩:=q.own.row (by omega)
  have hid:A.blocks_.id∈ids A.blocks_:=by rw [bi];exact List.mem_cons_self
  have hlt:=(List.getElem?_eq_some_iff.1 br).1
  have g0:=q.ge _ hid
  have ob:Own G b:=q.own.elems.get (List.mem_of_getElem? hb)
  have nb:A.blocks_.id ∉ ids b:=fun h=>bn (List.mem_flatMap.2 ⟨b,List.mem_of_getElem? hb,h⟩)
  have ni:∀ j∈ids b.insts_,j∈ids b:=fun j hj=>by rw [ids_ABlock];exact List.mem_append_left _ hj
  have nj:∀ j∈ids b.jumps_,j∈ids b:=fun j hj=>by rw [ids_ABlock];exact List.mem_append_right _ hj
  have ob':∀ P,Own (G.set A.blocks_.id P) (⟨b.params_,b.insts_,b.end_,v,b.jumps_⟩:ABlock):=fun P=>ABlock.own (x:=⟨b.params_,b.insts_,b.end_,v,b.jumps_⟩) ((ABlock.own_insts_ ob).frame (S:=[A.blocks_.id]) Only.set fun j hj h=>nb (List.mem_singleton.1 h ▸ ni j hj))
    ((ABlock.own_jumps_ ob).frame (S:=[A.blocks_.id]) Only.set fun j hj h=>nb (List.mem_singleton.1 h ▸ nj j hj)) (fun j hj h=>ABlock.apart ob j hj h)
  have ie:ids (⟨b.params_,b.insts_,b.end_,v,b.jumps_⟩:ABlock)=ids b:=by rw [ids_ABlock,ids_ABlock]
  obtain ⟨o1,u1⟩:=q.own.setAt' hb (ob' _) (fun j hj=>.inl (ie ▸ hj)) (List.getElem?_set_self hlt) fun j hj h1 _=>List.getElem?_set_ne fun e=>h1 e.symm
  have u2:∀ j∈ids (⟨A.blocks_.v,A.blocks_.l.set i ⟨b.params_,b.insts_,b.end_,v,b.jumps_⟩⟩:AS ABlock),j∈ids A.blocks_:=fun j hj=>(u1 j hj).elim id fun h=>by
    rw [bi];exact List.mem_cons_of_mem _ (List.mem_flatMap.2 ⟨b,List.mem_of_getElem? hb,ie ▸ h⟩)
  refine ⟨(List.getElem?_set_ne (by omega)).trans q.cur,(List.getElem?_set_ne (by omega)).trans q.f,(List.getElem?_set_ne (by omega)).trans q.res,o1,fun j hj=>q.ge j (u2 j hj),q.cl,q.fl,⟨by simpa using gl,fun j hj hn=>?_⟩,⟨q.good.1, ?_⟩, ?_,q.par⟩
  · rw [List.getElem?_set_ne (by omega)]
    exact q.only.at_ j hj hn
  · refine ⟨?_,fun x hx=>?_⟩
    · have h1:(A.blocks_.l.map Tr.era).length≤_:=q.good.2.1
      rw [List.length_map] at h1
      show ((A.blocks_.l.set i _).map Tr.era).length≤_
      rw [List.length_map,List.length_set]
      exact h1
    · obtain ⟨d,hd,rfl⟩:=List.mem_map.1 hx
      rcases List.mem_or_eq_of_mem_set hd with hd | rfl
      · exact q.good.2.2 _ (List.mem_map_of_mem hd)
      · obtain ⟨g1,g2,g3,_,g5⟩:=q.good.2.2 (Tr.era b) (List.mem_map_of_mem (List.mem_of_getElem? hb))
        exact ⟨g1,g2,g3,hv,g5⟩
  · obtain ⟨b0,h1,h2⟩:=q.first
    by_cases e:i=0
    · subst e
      have:b0=b:=Option.some.inj (h1.symm.trans hb)
      subst this
      exact ⟨_,List.getElem?_set_self hil,h2⟩
    · exact ⟨b0,(List.getElem?_set_ne e).trans h1,h2⟩
theorem Af.op (q : Af H C F code G a s A) {i : Nat} {b : ABlock} (hb : A.blocks_.l[i]? = some b) {k : Nat} {o0 n0 : Int} {g0 : AS Int} (hx : b.insts_.l[k]? = some ⟨o0, n0, g0⟩) {o : Int} (ho : Enc.good o) {P : Place} (hP : P = .row 3 ((b.insts_.l.map Tr.cells).set k [.d (.int .i64 o), .d (.int .i64 n0), g0.v])) :
    ∃ A':AFunc,A'.params_=A.params_∧A'.blocks_.v=A.blocks_.v∧Af H C F code (G.set b.insts_.id P) a s A':=by
  subst hP
  have cl:=q.cl
  have fl:=q.fl
  have gl:=q.only.len
  have hil:=(List.getElem?_eq_some_iff.1 hb).1
  have eb:=(List.getElem?_eq_some_iff.1 hb).2
  obtain ⟨bv,br,bn,bi⟩:=q.own.row (by omega)
  have ob:Own G b:=q.own.elems.get (List.mem_of_getElem? hb)
  have oI:=ABlock.own_insts_ ob
  have hkl:=(List.getElem?_eq_some_iff.1 hx).1
  obtain ⟨iv,ir,inn,ii⟩:=oI.row (by omega)
  have hlt:=(List.getElem?_eq_some_iff.1 ir).1
  have mI:b.insts_.id∈ids b:=by rw [ids_ABlock,ii];exact List.mem_append_left _ List.mem_cons_self
  have mb:∀ j∈ids b,j∈ids A.blocks_:=fun j hj=>by rw [bi];exact List.mem_cons_of_mem _ (List.mem_flatMap.2 ⟨b,List.mem_of_getElem? hb,hj⟩)
  have g0':=q.ge _ (mb _ mI)
  have ox:Own G (⟨o0,n0,g0⟩:AInst):=oI.elems.get (List.mem_of_getElem? hx)
  have nx:b.insts_.id ∉ ids g0:=fun h=>inn (List.mem_flatMap.2 ⟨_,List.mem_of_getElem? hx,h⟩)
  have ox':∀ P,Own (G.set b.insts_.id P) (⟨o,n0,g0⟩:AInst):=fun P=>AInst.own (x:=⟨o,n0,g0⟩) ((AInst.own_args_ ox).frame (S:=[b.insts_.id]) Only.set fun j hj h=>nx (List.mem_singleton.1 h ▸ hj))
  obtain ⟨o1,u1⟩:=oI.setAt' hx (ox' _) (fun j hj=>.inl hj) (List.getElem?_set_self hlt) fun j hj h1 _=>List.getElem?_set_ne fun e=>h1 e.symm
  have u1':∀ j∈ids (⟨b.insts_.v,b.insts_.l.set k ⟨o,n0,g0⟩⟩:AS AInst),j∈ids b.insts_:=fun j hj=>(u1 j hj).elim id fun h=>by
    rw [ii];exact List.mem_cons_of_mem _ (List.mem_flatMap.2 ⟨_,List.mem_of_getElem? hx,h⟩)
  have ap:=ABlock.apart ob
  have o2:=ABlock.own (x:=(⟨b.params_,⟨b.insts_.v,b.insts_.l.set k ⟨o,n0,g0⟩⟩,b.end_,b.value_,b.jumps_⟩:ABlock)) o1 ((ABlock.own_jumps_ ob).frame (S:=[b.insts_.id]) Only.set fun j hj h=>by
    rw [List.mem_singleton.1 h] at hj
    exact ap _ (by rw [ii];exact List.mem_cons_self) hj) fun j hj=>ap j (u1' j hj)
  have u2:∀ j∈ids (⟨b.params_,⟨b.insts_.v,b.insts_.l.set k ⟨o,n0,g0⟩⟩,b.end_,b.value_,b.jumps_⟩:ABlock),j∈ids b:=fun j hj=>by
    rw [ids_ABlock] at hj ⊢
    exact (List.mem_append.1 hj).elim (fun h=>List.mem_append_left _ (u1' j h)) fun h=>List.mem_append_right _ h
  have ne:A.blocks_.id ≠ b.insts_.id:=fun e=>bn (List.mem_flatMap.2 ⟨b,List.mem_of_getElem? hb,e ▸ mI⟩)
  have hc:Tr.cells (⟨b.params_,⟨b.insts_.v,b.insts_.l.set k ⟨o,n0,g0⟩⟩,b.end_,b.value_,b.jumps_⟩:ABlock)=Tr.cells b:=rfl
  have hsm:(A.blocks_.l.map Tr.cells).set i (Tr.cells b)=A.blocks_.l.map Tr.cells:=by
    have h:(A.blocks_.l.map Tr.cells)[i]'(by simpa using hil)=Tr.cells b:=by rw [List.getElem_map,eb]
    rw [← h];exact List.set_getElem_self _
  obtain ⟨o3,u3⟩:=q.own.setAt' hb o2 (fun j hj=>.inl (u2 j hj)) (by
    rw [List.getElem?_set_ne ne.symm,br,hc,hsm]) fun j _ _ hj=>List.getElem?_set_ne fun e=>hj (by rw [← e];exact mI)
  have u4:∀ j∈ids (⟨A.blocks_.v,A.blocks_.l.set i ⟨b.params_,⟨b.insts_.v,b.insts_.l.set k ⟨o,n0,g0⟩⟩,b.end_,b.value_,b.jumps_⟩⟩:AS ABlock),j∈ids A.blocks_:=fun j hj=>(u3 j hj).elim id fun h=>mb j (u2 j h)
  refine ⟨⟨A.params_,⟨A.blocks_.v,A.blocks_.l.set i ⟨b.params_,⟨b.insts_.v,b.insts_.l.set k ⟨o,n0,g0⟩⟩,b.end_,b.value_,b.jumps_⟩⟩⟩,rfl,rfl,(List.getElem?_set_ne (by omega)).trans q.cur,(List.getElem?_set_ne (by omega)).trans q.f,(List.getElem?_set_ne (by omega)).trans q.res,o3,fun j hj=>q.ge j (u4 j hj),q.cl,q.fl,⟨by simpa using gl,fun j hj hn=>?_⟩,⟨q.good.1, ?_⟩, ?_,q.par⟩
  · rw [List.getElem?_set_ne (by omega)]
    exact q.only.at_ j hj hn
  · refine ⟨?_,fun x hx'=>?_⟩
    · have h1:(A.blocks_.l.map Tr.era).length≤_:=q.good.2.1
      rw [List.length_map] at h1
      show ((A.blocks_.l.set i _).map Tr.era).length≤_
      rw [List.length_map,List.length_set]
      exact h1
    · obtain ⟨d,hd,rfl⟩:=List.mem_map.1 hx'
      rcases List.mem_or_eq_of_mem_set hd with hd | rfl
      · exact q.good.2.2 _ (List.mem_map_of_mem hd)
      · obtain ⟨g1,⟨g2,g3⟩,g4,g5,g6⟩:=q.good.2.2 (Tr.era b) (List.mem_map_of_mem (List.mem_of_getElem? hb))
        refine ⟨g1,⟨?_,fun y hy=>?_⟩,g4,g5,g6⟩
        · have h1:(b.insts_.l.map Tr.era).length≤_:=g2
          rw [List.length_map] at h1
          show ((b.insts_.l.set k _).map Tr.era).length≤_
          rw [List.length_map,List.length_set]
          exact h1
        · obtain ⟨c,hc',rfl⟩:=List.mem_map.1 hy
          rcases List.mem_or_eq_of_mem_set hc' with hc' | rfl
          · exact g3 _ (List.mem_map_of_mem hc')
          · obtain ⟨_,w2,w3⟩:=g3 (Tr.era (⟨o0,n0,g0⟩:AInst)) (List.mem_map_of_mem (List.mem_of_getElem? hx))
            exact ⟨ho,w2,w3⟩
  · obtain ⟨b0,h1,h2⟩:=q.first
    by_cases e:i=0
    · subst e
      have:b0=b:=Option.some.inj (h1.symm.trans hb)
      subst this
      exact ⟨_,List.getElem?_set_self hil,by simpa using h2⟩
    · exact ⟨b0,(List.getElem?_set_ne e).trans h1,h2⟩
theorem Af.one (q:Af H C F code G a s A):A.blocks_.v.one=true:=by
  obtain ⟨b,h,_⟩:=q.first
  obtain ⟨bv,_⟩:=q.own.row (by have:=(List.getElem?_eq_some_iff.1 h).1;omega)
  rw [bv];rfl
theorem Af.done (q:Af H C F code G a s A) (ha:0≤a∧a≤40000) (P:Place) :
    ∃ r' H',Fin H.length (G.set H.length P) (.agg [.d (.int .i64 A.params_),A.blocks_.v]) H' r'∧∃ A:AFunc,r'=V.agg [V.d (D.int IntKind.i64 A.params_),A.blocks_.v]∧∃ x,(∃ x_1,New (List.set H C (rC code x x_1)) H' A)∧(0≤x∧x≤40000)∧Enc.good (Tr.era A)∧NeB A∧0≤A.params_∧A.params_≤5:=by
  have cl:=q.cl
  have ow:Own (G.set H.length P) A:=AFunc.own (q.own.frame (S:=[H.length]) Only.set fun j hj h=>by have:=q.ge j hj;have:=List.mem_singleton.1 h;omega)
  have oo:Only [] (H.set C (rC code a s)) (G.set H.length P):=⟨by simp;exact q.only.len,fun j hj _=>by
    have hj':j < H.length:=by simpa using hj
    rw [List.getElem?_set_ne (by omega)]
    by_cases e:j=C
    · subst e;rw [q.cur,List.getElem?_set_self cl]
    · rw [List.getElem?_set_ne (Ne.symm e)];exact q.only.at_ j hj' (by simp [e])⟩
  have lS:(H.set C (rC code a s)).length=H.length:=by simp
  have:=fin_new (H0:=H.set C (rC code a s)) (r:=.agg [V.d (.int .i64 A.params_),A.blocks_.v])
    (Q:=fun r' H'=>∃ A:AFunc,r'=V.agg [V.d (D.int IntKind.i64 A.params_),A.blocks_.v]∧∃ x,(∃ x_1,New (List.set H C (rC code x x_1)) H' A)∧(0≤x∧x≤40000)∧Enc.good (Tr.era A)∧NeB A∧0≤A.params_∧A.params_≤5)
    ow oo (fun j hj=>by rw [lS];exact Nat.le_of_lt (q.ge j hj).1) fun H' h'=>⟨A,rfl,a,⟨s,h'⟩,ha,q.good,by obtain ⟨b,h,_⟩:=q.first;exact (List.getElem?_eq_some_iff.1 h).1,q.par⟩
  rw [lS] at this
  exact this
end
set_option maxHeartbeats 8000000 in
theorem anyFn_own2 (H : Heap) (C : Nat) (code : List Byt) (hg : Enc.good code) (a s : Int) (hc : H[C]? = some (rC code a s)) (ha : 0 ≤ a ∧ a ≤ 500) :
    CallsD Try.prog 37 [.ptr C 3 0 0] H fun r H'=>∃ (A:AFunc) (a' s':Int),r=.agg (Tr.cells A)∧New (H.set C (rC code a' s')) H' A∧(0≤a'∧a'≤40000)∧Enc.good (Tr.era A)∧NeB A∧(0≤A.params_∧A.params_≤5):=by
  have lC:=(List.getElem?_eq_some_iff.1 hc).1
  have hcR:∀ R:Heap,(H++R)[C]? = some (rC code a s):=fun R=>(List.getElem?_append_left lC).trans hc
  refine calls_of Try.func37 en_37 rfl (of_decide_eq_true rfl) (W_runS mixed [6,8,10] ⟨[],[],[83,38],45,H.length,[0,2,3,7,8,13,21,32],[8,13,21,32]⟩ (fun | 6=>[0,2,1,3,4,5,6] | 8=>[0,5,1,2,3,4,6,7,8,9] | 10=>[0,2,6,1,3,4,5,7,8,9,10] | _=>[]) (by kernel_rfl) ?_)
  simp only [Try.f37,stripS,skip_cons,skip_nil,Nat.reduceBEq,Bool.or_false,Bool.or_self,Bool.or_true,Bool.true_or,cond_true,cond_false,stripX,stripOps,pickOps]
  simp [-V.flat,-V.one,one_int,one_bool,one_str,one_nilp,one_rp,one_nilsl,one_ro,one_cl,one_nilf,one_nili,one_ifc,one_ptr,one_sl,one_clo,flat_d,flat_ptr,flat_sl,flat_clo,flat_agg,-decA,decA_int,decA_bool,decA_str]
  rw [aft_call]
  refine (fn_own _ C code hg a s (hcR _) ha).mono ?_
  rintro r G1 ⟨A,a1,s1,rfl,hn1,hb1,hg1,hp1,hf1⟩
  rw [List.set_append_left _ _ lC] at hn1
  have l1:=hn1.only.len
  simp only [List.length_append,List.length_set,List.length_cons,List.length_nil] at l1
  have old:∀ j,j < H.length + 1→G1[j]? = (H.set C (rC code a1 s1)++[Place.row 2 [[V.d (.int .i64 0),V.d .nilsl]]])[j]?:=fun j hj=>hn1.only.at_ j (by simp;omega) List.not_mem_nil
  have gR:G1[H.length]? = some (.row 2 [[V.d (.int .i64 0),V.d .nilsl]]):=(old _ (by omega)).trans (by rw [List.getElem?_append_right (by simp)];simp)
  have gC:G1[C]? = some (rC code a1 s1):=(old _ (by omega)).trans (by rw [List.getElem?_append_left (by simpa using lC)];exact List.getElem?_set_self lC)
  have lR:=(List.getElem?_eq_some_iff.1 gR).1
  simp [-V.flat,-V.one,one_int,one_bool,one_str,one_nilp,one_rp,one_nilsl,one_ro,one_cl,one_nilf,one_nili,one_ifc,one_ptr,one_sl,one_clo,flat_d,flat_ptr,flat_sl,flat_clo,flat_agg,-decA,decA_int,decA_bool,decA_str,gR]
  have oB:=AFunc.own_blocks_ hn1.own
  obtain ⟨fb,hfb,hfi⟩:=hf1
  obtain ⟨bv,br,bn,bi⟩:=oB.row (by have:=(List.getElem?_eq_some_iff.1 hfb).1;omega)
  refine ⟨by rw [bv];rfl, ?_⟩
  have q1:Af H C G1.length code (G1++[Place.row 2 [[V.d (.int .i64 A.params_),A.blocks_.v]]]) a1 s1 A :=
    ⟨(List.getElem?_append_left (by omega)).trans gC,by rw [List.getElem?_append_right (Nat.le_refl _)];simp,(List.getElem?_append_left lR).trans gR,oB.frame (S:=[]) (Only.app [] _ _) (fun j _ h=>absurd h List.not_mem_nil),
      fun j hj=>by have h1:=hn1.fresh j hj;have h2:=oB.lt hj;simp at h1;omega,lC,by omega,⟨by simp;omega,fun j hj hn=>by
        rw [List.getElem?_append_left (by omega),old j (by omega),List.getElem?_append_left (by simpa using hj),List.getElem?_set_ne fun e=>hn (List.mem_singleton.2 e.symm)]⟩,hg1,⟨fb,hfb,hfi⟩,hp1⟩
  generalize hF:G1.length=F at q1 ⊢
  generalize hG:G1++[Place.row 2 [[V.d (.int .i64 A.params_),A.blocks_.v]]]=Ga at q1 ⊢
  rw [aft_call]
  refine (pick_own Ga C code a1 s1 30 q1.cur hg (by omega) (by omega)).mono ?_
  rintro r G2 ⟨z,rfl,hz,hcu⟩
  obtain ⟨a2,s2,hb2,q2⟩:=q1.move hcu
  obtain ⟨z0,z30⟩:=hz.lt (by decide)
  have f2:=q2.f
  by_cases zz:z=0
  · simp [-V.flat,-V.one,one_int,one_bool,one_str,one_nilp,one_rp,one_nilsl,one_ro,one_cl,one_nilf,one_nili,one_ifc,one_ptr,one_sl,one_clo,flat_d,flat_ptr,flat_sl,flat_clo,flat_agg,-decA,decA_int,decA_bool,decA_str,zz,f2]
    rw [aft_call]
    refine (pick_own G2 C code a2 s2 6 q2.cur hg (by omega) (by omega)).mono ?_
    rintro r G3 ⟨x,rfl,hx,hcu⟩
    obtain ⟨a3,s3,hb3,q3⟩:=q2.move hcu
    obtain ⟨x0,x6⟩:=hx.lt (by decide)
    have q4:=q3.params (p:=x) ⟨by omega,by omega⟩ ⟨by omega,by omega⟩
    have f3:=q3.f
    have r3:=q4.res
    have f4:=q4.f
    simp [-V.flat,-V.one,one_int,one_bool,one_str,one_nilp,one_rp,one_nilsl,one_ro,one_cl,one_nilf,one_nili,one_ifc,one_ptr,one_sl,one_clo,flat_d,flat_ptr,flat_sl,flat_clo,flat_agg,-decA,decA_int,decA_bool,decA_str,f3,f4,r3,retQ]
    refine ⟨q3.one, ?_⟩
    rw [List.getElem?_set_self (List.getElem?_eq_some_iff.1 r3).1]
    exact ⟨rfl,_,rfl,q4.done ⟨by omega,by omega⟩ _⟩
  by_cases z1:z=1
  · obtain ⟨b0,hb0,hbi⟩:=q2.first
    obtain ⟨bv2,br2,bn2,bi2⟩:=q2.own.row (by have:=(List.getElem?_eq_some_iff.1 hb0).1;omega)
    simp [-V.flat,-V.one,one_int,one_bool,one_str,one_nilp,one_rp,one_nilsl,one_ro,one_cl,one_nilf,one_nili,one_ifc,one_ptr,one_sl,one_clo,flat_d,flat_ptr,flat_sl,flat_clo,flat_agg,-decA,decA_int,decA_bool,decA_str,zz,z1,f2]
    have lb2:0 < A.blocks_.l.length:=(List.getElem?_eq_some_iff.1 hb0).1
    have ilb:=(List.getElem?_eq_some_iff.1 br2).1
    have eb0:∀ h:0 < A.blocks_.l.length,A.blocks_.l[0]=b0:=fun h=>Option.some.inj ((List.getElem?_eq_getElem h).symm.trans hb0)
    have eb1:A.blocks_.l[0]?.getD default=b0:=by rw [hb0];rfl
    rw [bv2] at f2
    refine W_drawC mixed ⟨[],[],[83,38],45,H.length,[0,2,3,7,8,13,21,32],[8,13,21,32]⟩ [0,1,2,4,5] [3] [6] (.alt 3 .leaf .nil) (fun | 3=>[1] | _=>[]) [0,2,3,7,8,13,21,32,15,16,17,18,19,20] (by kernel_rfl) (by kernel_rfl) ?_
    simp only [stripOps,pickOps]
    simp [-V.flat,-V.one,one_int,one_bool,one_str,one_nilp,one_rp,one_nilsl,one_ro,one_cl,one_nilf,one_nili,one_ifc,one_ptr,one_sl,one_clo,flat_d,flat_ptr,flat_sl,flat_clo,flat_agg,-decA,decA_int,decA_bool,decA_str,f2,lb2]
    refine denC_one ?_
    simp only [demC,stripOps,pickOps]
    simp [loadD,-V.flat,-V.one,one_int,one_bool,one_str,one_nilp,one_rp,one_nilsl,one_ro,one_cl,one_nilf,one_nili,one_ifc,one_ptr,one_sl,one_clo,flat_d,flat_ptr,flat_sl,flat_clo,flat_agg,-decA,decA_int,decA_bool,decA_str,f2]
    rw [aft_call]
    refine (pick_own G2 C code a2 s2 80 q2.cur hg (by omega) (by omega)).mono ?_
    rintro r G3 ⟨x,rfl,hx,hcu⟩
    obtain ⟨a3,s3,hb3,q3⟩:=q2.move hcu
    obtain ⟨x0,x6⟩:=hx.lt (by decide)
    have q4:=q3.value hb0 (v:=x) ⟨by omega,by omega⟩ rfl
    obtain ⟨bv3,br3,bn3,bi3⟩:=q3.own.row lb2
    have f3:=q3.f
    rw [bv2] at f3
    simp [loadD,-V.flat,-V.one,one_int,one_bool,one_str,one_nilp,one_rp,one_nilsl,one_ro,one_cl,one_nilf,one_nili,one_ifc,one_ptr,one_sl,one_clo,flat_d,flat_ptr,flat_sl,flat_clo,flat_agg,-decA,decA_int,decA_bool,decA_str,f2,f3]
    have r3:=q4.res
    have f4:=q4.f
    have l4:A.blocks_.v=.sl A.blocks_.id 5 0 A.blocks_.l.length:=bv2
    refine denC_leaf ?_
    simp only [stripOps,pickOps]
    simp [-V.flat,-V.one,one_int,one_bool,one_str,one_nilp,one_rp,one_nilsl,one_ro,one_cl,one_nilf,one_nili,one_ifc,one_ptr,one_sl,one_clo,flat_d,flat_ptr,flat_sl,flat_clo,flat_agg,-decA,decA_int,decA_bool,decA_str,br3,eb0,eb1,hb0,lb2]
    simp [-V.flat,-V.one,one_int,one_bool,one_str,one_nilp,one_rp,one_nilsl,one_ro,one_cl,one_nilf,one_nili,one_ifc,one_ptr,one_sl,one_clo,flat_d,flat_ptr,flat_sl,flat_clo,flat_agg,-decA,decA_int,decA_bool,decA_str,f4,r3,retQ]
    refine ⟨q3.one, ?_⟩
    rw [List.getElem?_set_self (List.getElem?_eq_some_iff.1 r3).1]
    exact ⟨rfl,_,rfl,q4.done ⟨by omega,by omega⟩ _⟩
  by_cases z2:z=2
  · simp [-V.flat,-V.one,one_int,one_bool,one_str,one_nilp,one_rp,one_nilsl,one_ro,one_cl,one_nilf,one_nili,one_ifc,one_ptr,one_sl,one_clo,flat_d,flat_ptr,flat_sl,flat_clo,flat_agg,-decA,decA_int,decA_bool,decA_str,zz,z1,z2,f2]
    obtain ⟨b0,hb0,hbi⟩:=q2.first
    have lb2:0 < A.blocks_.l.length:=(List.getElem?_eq_some_iff.1 hb0).1
    obtain ⟨bv2,br2,bn2,bi2⟩:=q2.own.row lb2
    have ob0:Own G2 b0:=q2.own.elems.get (List.mem_of_getElem? hb0)
    obtain ⟨iv2,ir2,_,_⟩:=(ABlock.own_insts_ ob0).row hbi
    have eb0:∀ h:0 < A.blocks_.l.length,A.blocks_.l[0]=b0:=fun h=>Option.some.inj ((List.getElem?_eq_getElem h).symm.trans hb0)
    have eb1:A.blocks_.l[0]?.getD default=b0:=by rw [hb0];rfl
    obtain ⟨x0,hx0⟩:∃ x0,b0.insts_.l[0]? = some x0:=⟨_,List.getElem?_eq_getElem hbi⟩
    obtain ⟨o0,n0,g0⟩:=x0
    have ex0:∀ h:0 < b0.insts_.l.length,b0.insts_.l[0]=⟨o0,n0,g0⟩:=fun h=>Option.some.inj ((List.getElem?_eq_getElem h).symm.trans hx0)
    have ex1:b0.insts_.l[0]?.getD default=⟨o0,n0,g0⟩:=by rw [hx0];rfl
    rw [bv2] at f2
    refine W_drawC mixed ⟨[],[],[83,38],45,H.length,[0,2,3,7,8,13,21,32],[8,13,21,32]⟩ [0,1,2,3,4,5,7,8] [6] [9] (.alt 6 .leaf .nil) (fun | 6=>[1,4] | _=>[]) [0,2,3,7,8,13,21,32,23,24,25,26,27,28,29,30,31] (by kernel_rfl) (by kernel_rfl) ?_
    simp only [stripOps,pickOps]
    simp [-V.flat,-V.one,one_int,one_bool,one_str,one_nilp,one_rp,one_nilsl,one_ro,one_cl,one_nilf,one_nili,one_ifc,one_ptr,one_sl,one_clo,flat_d,flat_ptr,flat_sl,flat_clo,flat_agg,-decA,decA_int,decA_bool,decA_str,f2,lb2,br2,eb0,eb1,hb0,iv2,hbi]
    refine denC_one ?_
    simp only [demC,stripOps,pickOps]
    simp [loadD,-V.flat,-V.one,one_int,one_bool,one_str,one_nilp,one_rp,one_nilsl,one_ro,one_cl,one_nilf,one_nili,one_ifc,one_ptr,one_sl,one_clo,flat_d,flat_ptr,flat_sl,flat_clo,flat_agg,-decA,decA_int,decA_bool,decA_str,f2]
    rw [aft_call]
    refine (pick_own G2 C code a2 s2 15 q2.cur hg (by omega) (by omega)).mono ?_
    rintro r G3 ⟨x,rfl,hx,hcu⟩
    obtain ⟨a3,s3,hb3,q3⟩:=q2.move hcu
    obtain ⟨x0,x6⟩:=hx.lt (by decide)
    obtain ⟨A4,e1,e2,q4⟩:=q3.op hb0 hx0 (o:=x) ⟨by omega,by omega⟩ rfl
    obtain ⟨bv3,br3,bn3,bi3⟩:=q3.own.row lb2
    have ob3:Own G3 b0:=q3.own.elems.get (List.mem_of_getElem? hb0)
    obtain ⟨iv3,ir3,_,_⟩:=(ABlock.own_insts_ ob3).row hbi
    have f3:=q3.f
    rw [bv2] at f3
    simp [loadD,-V.flat,-V.one,one_int,one_bool,one_str,one_nilp,one_rp,one_nilsl,one_ro,one_cl,one_nilf,one_nili,one_ifc,one_ptr,one_sl,one_clo,flat_d,flat_ptr,flat_sl,flat_clo,flat_agg,-decA,decA_int,decA_bool,decA_str,f2,f3,br2,br3,eb0,eb1,hb0,lb2,iv2]
    have r3:=q4.res
    have f4:=q4.f
    rw [e1,e2] at f4
    refine denC_leaf ?_
    simp only [stripOps,pickOps]
    simp [-V.flat,-V.one,one_int,one_bool,one_str,one_nilp,one_rp,one_nilsl,one_ro,one_cl,one_nilf,one_nili,one_ifc,one_ptr,one_sl,one_clo,flat_d,flat_ptr,flat_sl,flat_clo,flat_agg,-decA,decA_int,decA_bool,decA_str,ir3,ex0,ex1,hx0,hbi]
    simp [-V.flat,-V.one,one_int,one_bool,one_str,one_nilp,one_rp,one_nilsl,one_ro,one_cl,one_nilf,one_nili,one_ifc,one_ptr,one_sl,one_clo,flat_d,flat_ptr,flat_sl,flat_clo,flat_agg,-decA,decA_int,decA_bool,decA_str,f4,r3,retQ]
    refine ⟨q3.one, ?_⟩
    rw [List.getElem?_set_self (List.getElem?_eq_some_iff.1 r3).1]
    refine ⟨rfl,_,rfl, ?_⟩
    have:=q4.done ⟨by omega,by omega⟩ (.row 2 [[V.d (.int .i64 A.params_),A.blocks_.v]])
    rw [e1,e2] at this
    exact this
  by_cases z3:z=3
  · simp [-V.flat,-V.one,one_int,one_bool,one_str,one_nilp,one_rp,one_nilsl,one_ro,one_cl,one_nilf,one_nili,one_ifc,one_ptr,one_sl,one_clo,flat_d,flat_ptr,flat_sl,flat_clo,flat_agg,-decA,decA_int,decA_bool,decA_str,zz,z1,z2,z3,f2]
    obtain ⟨b1,hb1',_⟩:=q2.first
    have lb2:0 < A.blocks_.l.length:=(List.getElem?_eq_some_iff.1 hb1').1
    obtain ⟨bv2,br2,bn2,bi2⟩:=q2.own.row lb2
    have gl:(A.blocks_.l.map Tr.era).length≤_:=q2.good.2.1
    rw [List.length_map] at gl
    obtain ⟨k,hk⟩:∃ k,A.blocks_.l.length=k + 1:=⟨A.blocks_.l.length - 1,by omega⟩
    have lk:k < A.blocks_.l.length:=by omega
    obtain ⟨b0,hb0⟩:∃ b0,A.blocks_.l[k]? = some b0:=⟨_,List.getElem?_eq_getElem lk⟩
    have eb0:∀ h:k < A.blocks_.l.length,A.blocks_.l[k]=b0:=fun h=>Option.some.inj ((List.getElem?_eq_getElem h).symm.trans hb0)
    have eb1:A.blocks_.l[k]?.getD default=b0:=by rw [hb0];rfl
    have wk:IntKind.i64.wrap ((k:Int) + 1 - 1)=k:=by rw [wrap_id] <;> omega
    have wk2:IntKind.i64.wrap (k:Int)=k:=by rw [wrap_id] <;> omega
    rw [bv2,hk] at f2
    refine W_drawC mixed ⟨[],[],[83,38],45,H.length,[0,2,3,7,8,13,21,32],[8,13,21,32]⟩ [0,1,2,3,4,5,6,8,9] [7] [10] (.alt 7 .leaf .nil) (fun | 7=>[1,3] | _=>[]) [0,2,3,7,8,13,21,32,34,35,36,37,38,39,40,41,42,43] (by kernel_rfl) (by kernel_rfl) ?_
    simp only [stripOps,pickOps]
    simp [-V.flat,-V.one,one_int,one_bool,one_str,one_nilp,one_rp,one_nilsl,one_ro,one_cl,one_nilf,one_nili,one_ifc,one_ptr,one_sl,one_clo,flat_d,flat_ptr,flat_sl,flat_clo,flat_agg,-decA,decA_int,decA_bool,decA_str,f2,wk,wk2,hk]
    refine ⟨by omega, ?_⟩
    refine denC_one ?_
    simp only [demC,stripOps,pickOps]
    simp [loadD,-V.flat,-V.one,one_int,one_bool,one_str,one_nilp,one_rp,one_nilsl,one_ro,one_cl,one_nilf,one_nili,one_ifc,one_ptr,one_sl,one_clo,flat_d,flat_ptr,flat_sl,flat_clo,flat_agg,-decA,decA_int,decA_bool,decA_str,f2]
    rw [aft_call]
    refine (pick_own G2 C code a2 s2 30 q2.cur hg (by omega) (by omega)).mono ?_
    rintro r G3 ⟨x,rfl,hx,hcu⟩
    obtain ⟨a3,s3,hb3,q3⟩:=q2.move hcu
    obtain ⟨x0,x6⟩:=hx.lt (by decide)
    have q4:=q3.value hb0 (v:=x) ⟨by omega,by omega⟩ rfl
    obtain ⟨bv3,br3,bn3,bi3⟩:=q3.own.row lb2
    have f3:=q3.f
    rw [bv2,hk] at f3
    simp [loadD,-V.flat,-V.one,one_int,one_bool,one_str,one_nilp,one_rp,one_nilsl,one_ro,one_cl,one_nilf,one_nili,one_ifc,one_ptr,one_sl,one_clo,flat_d,flat_ptr,flat_sl,flat_clo,flat_agg,-decA,decA_int,decA_bool,decA_str,f2,f3]
    have r3:=q4.res
    have f4:=q4.f
    refine denC_leaf ?_
    simp only [stripOps,pickOps]
    simp [-V.flat,-V.one,one_int,one_bool,one_str,one_nilp,one_rp,one_nilsl,one_ro,one_cl,one_nilf,one_nili,one_ifc,one_ptr,one_sl,one_clo,flat_d,flat_ptr,flat_sl,flat_clo,flat_agg,-decA,decA_int,decA_bool,decA_str,br3,eb0,eb1,hb0,lk,hk,wk,wk2]
    simp [-V.flat,-V.one,one_int,one_bool,one_str,one_nilp,one_rp,one_nilsl,one_ro,one_cl,one_nilf,one_nili,one_ifc,one_ptr,one_sl,one_clo,flat_d,flat_ptr,flat_sl,flat_clo,flat_agg,-decA,decA_int,decA_bool,decA_str,f4,r3,retQ]
    refine ⟨q3.one, ?_⟩
    rw [List.getElem?_set_self (List.getElem?_eq_some_iff.1 r3).1]
    exact ⟨rfl,_,rfl,q4.done ⟨by omega,by omega⟩ _⟩
  · have r2:=q2.res
    simp [-V.flat,-V.one,one_int,one_bool,one_str,one_nilp,one_rp,one_nilsl,one_ro,one_cl,one_nilf,one_nili,one_ifc,one_ptr,one_sl,one_clo,flat_d,flat_ptr,flat_sl,flat_clo,flat_agg,-decA,decA_int,decA_bool,decA_str,zz,z1,z2,z3,f2,r2,retQ]
    refine ⟨q2.one, ?_⟩
    rw [List.getElem?_set_self (List.getElem?_eq_some_iff.1 r2).1]
    exact ⟨rfl,_,rfl,q2.done ⟨by omega,by omega⟩ _⟩
theorem anyFn_own (H:Heap) (C:Nat) (code:List Byt) (hg:Enc.good code) (a s:Int) (hc:H[C]? = some (rC code a s)) (ha:0≤a∧a≤500) :
    CallsD Try.prog 37 [.ptr C 3 0 0] H fun r H'=>∃ (A:AFunc) (a' s':Int),r=.agg (Tr.cells A)∧New (H.set C (rC code a' s')) H' A∧(0≤a'∧a'≤40000)∧Enc.good (Tr.era A)∧(0≤A.params_∧A.params_≤5) :=
  (anyFn_own2 H C code hg a s hc ha).mono fun r H' ⟨A,a',s',h1,h2,h3,h4,_,h5⟩=>⟨A,a',s',h1,h2,h3,h4,h5⟩
end Go.Proofs.Ytnomiclfiijniaa
