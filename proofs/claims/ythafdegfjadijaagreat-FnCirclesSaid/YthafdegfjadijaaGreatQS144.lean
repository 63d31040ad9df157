/- A function of blocks that go any way: what is drawn. No condition. -/
import Derived.Test.YthafdegfjadijaaGreatQS141
import Derived.Test.YthafdegfjadijaaGreatQS107
section
namespace Go.Proofs.YthafdegfjadijaaGreat
set_option maxRecDepth 100000
set_option linter.unusedSimpArgs false
set_option linter.unusedVariables false
structure Af (H:Heap) (C F:Nat) (code:List Byt) (G:Heap) (a s:Int) (A:AFunc):Prop where
  cur:G[C]? = some (rC code a s)
  f:G[F]? = some (.row 2 [[.d (.int .i64 A.params_),A.blocks_.v]])
  res:G[H.length]? = some (.row 2 [[.d (.int .i64 0),.d .nilsl]])
  own:Own G A.blocks_
  ge:∀ j∈ids A.blocks_,H.length < j∧j ≠ F
  cl:C < H.length
  fl:H.length < F
  only:Only [C] H G
  good:Enc.good (Tr.era A)
  first:∃ b,A.blocks_.l[0]? = some b∧0 < b.insts_.l.length
  par:0≤A.params_∧A.params_≤5
section
variable {H:Heap} {C F:Nat} {code:List Byt} {G:Heap} {a s:Int} {A:AFunc}
end
end Go.Proofs.YthafdegfjadijaaGreat
end

section
namespace Go.Proofs.YthafdegfjadijaaGreat
set_option maxRecDepth 100000
set_option linter.unusedSimpArgs false
set_option linter.unusedVariables false
structure Wv (H:Heap) (C F:Nat) (code:List Byt) (G:Heap) (a s:Int) (nb:Nat) (bs:AS ABlock):Prop where
  cur:G[C]? = some (rC code a s)
  f:G[F]? = some (.row 2 [[.d (.int .i64 1),bs.v]])
  res:G[H.length]? = some (.row 2 [[.d (.int .i64 0),.d .nilsl]])
  own:Own G bs
  ge:∀ j∈ids bs,F < j
  cl:C < H.length
  fl:H.length < F
  only:Only [C] H G
  good:∀ b∈bs.l,Enc.good (Tr.era b)
  len:bs.l.length=nb
  nil:nb=0→bs.v=.d .nilsl
structure Jv (G:Heap) (B:Nat) (e:Int) (nj:Nat) (js:AS AJump):Prop where
  b:G[B]? = some (.row 5 [[.d (.int .i64 0),.d .nilsl,.d (.int .i64 e),.d (.int .i64 0),js.v]])
  own:Own G js
  ge:∀ j∈ids js,B < j
  good:∀ b∈js.l,Enc.good (Tr.era b)
  len:js.l.length=nj
  nil:nj=0→js.v=.d .nilsl
theorem ways_nil (G:Heap) {α β:Type} [Enc β] [Dec β] [Inhabited β] [Tr α β]:Own G (⟨.d .nilsl,[]⟩:AS α):=⟨⟨.inr ⟨rfl,.inl rfl⟩,fun a ha=>absurd ha List.not_mem_nil⟩,fun q hq=>absurd hq List.not_mem_nil,List.nodup_nil⟩
section
variable {H:Heap} {C F B:Nat} {code:List Byt} {G G':Heap} {a s e:Int} {nb nj:Nat} {bs:AS ABlock} {js:AS AJump}
theorem Wv.move (q:Wv H C F code G a s nb bs) {k:Int} (h:Cu G C code a k G'):∃ a' s':Int,(a≤a'∧a'≤a + k)∧Wv H C F code G' a' s' nb bs∧G'.length=G.length∧∀ j,j ≠ C→G'[j]? = G[j]?:=by
  obtain ⟨a',s',h1,rfl⟩:=h
  have cl:=q.cl
  have fl:=q.fl
  have gl:=q.only.len
  have lC:=(List.getElem?_eq_some_iff.1 q.cur).1
  refine ⟨a',s',h1,⟨List.getElem?_set_self lC,(List.getElem?_set_ne (by omega)).trans q.f,(List.getElem?_set_ne (by omega)).trans q.res,q.own.frame (S:=[C]) Only.set fun j hj h=>by have:=q.ge j hj;have:=List.mem_singleton.1 h;omega,q.ge,q.cl,q.fl,⟨by simpa using gl,fun j hj hn=>?_⟩,q.good,q.len,q.nil⟩,by simp,fun j hj=>List.getElem?_set_ne fun e=>hj e.symm⟩
  rw [List.getElem?_set_ne fun e=>hn (List.mem_singleton.2 e.symm)]
  exact q.only.at_ j hj hn
theorem Wv.same (q:Wv H C F code G a s nb bs) (hl:G.length≤G'.length) (h:∀ j,j < G.length→j≤F∨j∈ids bs→G'[j]? = G[j]?):Wv H C F code G' a s nb bs:=by
  have cl:=q.cl
  have fl:=q.fl
  have gl:=q.only.len
  have lC:=(List.getElem?_eq_some_iff.1 q.cur).1
  have lF:=(List.getElem?_eq_some_iff.1 q.f).1
  refine ⟨(h C lC (.inl (by omega))).trans q.cur,(h F lF (.inl (by omega))).trans q.f,(h _ (by omega) (.inl (by omega))).trans q.res,q.own.same fun j hj hl=>h j hl (.inr hj),q.ge,q.cl,q.fl,⟨by omega,fun j hj hn=>(h j (by omega) (.inl (by omega))).trans (q.only.at_ j hj hn)⟩,q.good,q.len,q.nil⟩
theorem Wv.push (q:Wv H C F code G a s nb bs) {x:ABlock} (ox:Own G x) (hx:∀ j∈ids x,F < j∧j ∉ ids bs) (gx:Enc.good (Tr.era x)) {K:Nat} (hl:G.length≤K∧G.length≤G'.length)
    (hS:∀ j,j < G.length→j ≠ F→(0 < nb→j ≠ bs.id)→G'[j]? = G[j]?) (hF:G'[F]? = some (.row 2 [[.d (.int .i64 1),.sl K 5 0 (nb + 1)]])) (hK:G'[K]? = some (.row 5 (bs.l.map Tr.cells++[Tr.cells x]))) :
    Wv H C F code G' a s (nb + 1) ⟨.sl K 5 0 (nb + 1),bs.l++[x]⟩:=by
  have cl:=q.cl
  have fl:=q.fl
  have gl:=q.only.len
  have lC:=(List.getElem?_eq_some_iff.1 q.cur).1
  have lF:=(List.getElem?_eq_some_iff.1 q.f).1
  have bid:0 < nb→bs.id∈ids bs:=fun h=>by obtain ⟨_,_,_,ri⟩:=q.own.row (by rw [q.len];exact h);rw [ri];exact List.mem_cons_self
  have nid:∀ j,j≤F→(0 < nb→j ≠ bs.id):=fun j hj h e=>by have:=q.ge _ (bid h);omega
  have mB:∀ j∈bs.l.flatMap ids,j∈ids bs∧(0 < nb→j ≠ bs.id):=fun j hj=>by
    by_cases h:0 < nb
    · obtain ⟨_,_,rn,ri⟩:=q.own.row (by rw [q.len];exact h)
      exact ⟨by rw [ri];exact List.mem_cons_of_mem _ hj,fun _ e=>rn (e ▸ hj)⟩
    · have:bs.l=[]:=List.length_eq_zero_iff.1 (by rw [q.len];omega)
      rw [this] at hj;exact absurd hj List.not_mem_nil
  have oL:OwnL G' bs.l:=q.own.elems.same fun j hj h=>hS j h (fun e=>by have:=q.ge j (mB j hj).1;omega) (mB j hj).2
  have ox':Own G' x:=ox.same fun j hj h=>hS j h (fun e=>by have:=(hx j hj).1;omega) fun h e=>(hx j hj).2 (e ▸ bid h)
  have oS:=oL.snoc ox' fun j hj hm=>(hx j hj).2 (mB j hm).1
  have hnn:nb + 1=(bs.l++[x]).length:=by rw [List.length_append,q.len];rfl
  have fm:(bs.l++[x]).flatMap ids=bs.l.flatMap ids++ids x:=by simp
  have o:=Own.mkS (id:=K) oS (by rw [List.map_append];exact hK) (by
    rw [fm];intro h
    rcases List.mem_append.1 h with h | h
    · have:=q.own.lt (mB K h).1;omega
    · have:=ox.lt h;omega)
  rw [← hnn] at o
  refine ⟨(hS C lC (by omega) (nid C (by omega))).trans q.cur,hF,(hS _ (by omega) (by omega) (nid _ (by omega))).trans q.res,o,fun j hj=>?_,q.cl,q.fl,⟨by omega,fun j hj hn=>(hS j (by omega) (by omega) (nid j (by omega))).trans (q.only.at_ j hj hn)⟩,fun b hb=>?_,hnn.symm,fun h=>absurd h (by omega)⟩
  · rw [ids_sl (s:=(⟨.sl K 5 0 (nb + 1),bs.l++[x]⟩:AS ABlock)) rfl,fm] at hj
    rcases List.mem_cons.1 hj with rfl | hj
    · omega
    · rcases List.mem_append.1 hj with hj | hj
      · exact q.ge j (mB j hj).1
      · exact (hx j hj).1
  · rcases List.mem_append.1 hb with hb | hb
    · exact q.good b hb
    · rw [List.mem_singleton.1 hb];exact gx
theorem Jv.same (q:Jv G B e nj js) (h:∀ j,j < G.length→j=B∨j∈ids js→G'[j]? = G[j]?):Jv G' B e nj js :=
  ⟨(h B (List.getElem?_eq_some_iff.1 q.b).1 (.inl rfl)).trans q.b,q.own.same fun j hj hl=>h j hl (.inr hj),q.ge,q.good,q.len,q.nil⟩
theorem Jv.push (q:Jv G B e nj js) {t:Int} (ht:Enc.good t) {K:Nat} (hl:G.length≤K) (hS:∀ j,j < G.length→j ≠ B→(0 < nj→j ≠ js.id)→G'[j]? = G[j]?)
    (hB:G'[B]? = some (.row 5 [[.d (.int .i64 0),.d .nilsl,.d (.int .i64 e),.d (.int .i64 0),.sl K 2 0 (nj + 1)]])) (hK:G'[K]? = some (.row 2 (js.l.map Tr.cells++[[.d (.int .i64 t),.d .nilsl]]))) :
    Jv G' B e (nj + 1) ⟨.sl K 2 0 (nj + 1),js.l++[⟨t,⟨.d .nilsl,[]⟩⟩]⟩:=by
  have lB:=(List.getElem?_eq_some_iff.1 q.b).1
  have bid:0 < nj→js.id∈ids js:=fun h=>by obtain ⟨_,_,_,ri⟩:=q.own.row (by rw [q.len];exact h);rw [ri];exact List.mem_cons_self
  have mB:∀ j∈js.l.flatMap ids,j∈ids js∧(0 < nj→j ≠ js.id):=fun j hj=>by
    by_cases h:0 < nj
    · obtain ⟨_,_,rn,ri⟩:=q.own.row (by rw [q.len];exact h)
      exact ⟨by rw [ri];exact List.mem_cons_of_mem _ hj,fun _ e=>rn (e ▸ hj)⟩
    · have:js.l=[]:=List.length_eq_zero_iff.1 (by rw [q.len];omega)
      rw [this] at hj;exact absurd hj List.not_mem_nil
  have oL:OwnL G' js.l:=q.own.elems.same fun j hj h=>hS j h (fun e=>by have:=q.ge j (mB j hj).1;omega) (mB j hj).2
  have oj:Own G' (⟨t,⟨.d .nilsl,[]⟩⟩:AJump):=AJump.own (own_nil G')
  have ij:ids (⟨t,⟨.d .nilsl,[]⟩⟩:AJump)=[]:=rfl
  have oS:=oL.snoc oj fun j hj=>absurd (ij ▸ hj) List.not_mem_nil
  have hnn:nj + 1=(js.l++[(⟨t,⟨.d .nilsl,[]⟩⟩:AJump)]).length:=by rw [List.length_append,q.len];rfl
  have fm:(js.l++[(⟨t,⟨.d .nilsl,[]⟩⟩:AJump)]).flatMap ids=js.l.flatMap ids:=by rw [List.flatMap_append,List.flatMap_cons,ij];simp
  have o:=Own.mkS (id:=K) oS (by rw [List.map_append];exact hK) (by rw [fm];intro h;have:=q.own.lt (mB K h).1;omega)
  rw [← hnn] at o
  refine ⟨hB,o,fun j hj=>?_,fun b hb=>?_,hnn.symm,fun h=>absurd h (by omega)⟩
  · rw [ids_sl (s:=(⟨.sl K 2 0 (nj + 1),js.l++[(⟨t,⟨.d .nilsl,[]⟩⟩:AJump)]⟩:AS AJump)) rfl,fm] at hj
    rcases List.mem_cons.1 hj with rfl | hj
    · omega
    · exact q.ge j (mB j hj).1
  · rcases List.mem_append.1 hb with hb | hb
    · exact q.good b hb
    · rw [List.mem_singleton.1 hb]
      exact ⟨ht,Nat.zero_le _,fun a h=>absurd h List.not_mem_nil⟩
theorem Jv.block (q:Jv G B e nj js) (hB:F < B) (hj:∀ j∈ids js,j ∉ ids bs) (he:Enc.good e) (hn:nj≤2):Own G (⟨0,⟨.d .nilsl,[]⟩,e,0,js⟩:ABlock)∧(∀ j∈ids (⟨0,⟨.d .nilsl,[]⟩,e,0,js⟩:ABlock),F < j∧j ∉ ids bs)∧Enc.good (Tr.era (⟨0,⟨.d .nilsl,[]⟩,e,0,js⟩:ABlock)):=by
  have ii:ids (⟨0,⟨.d .nilsl,[]⟩,e,0,js⟩:ABlock)=ids js:=by rw [ids_ABlock];rfl
  refine ⟨ABlock.own (x:=⟨0,⟨.d .nilsl,[]⟩,e,0,js⟩) (ways_nil G) q.own fun j hj=>absurd hj List.not_mem_nil,fun j h=>?_, ?_⟩
  · rw [ii] at h
    exact ⟨by have:=q.ge j h;omega,hj j h⟩
  · have z:Enc.good (0:Int):=⟨by decide,by decide⟩
    refine ⟨z,⟨Nat.zero_le _,fun a h=>absurd h List.not_mem_nil⟩,he,z, ?_⟩
    show Enc.good (js.l.map Tr.era)
    refine ⟨by rw [List.length_map,q.len];omega,fun y hy=>?_⟩
    obtain ⟨b,hb,rfl⟩:=List.mem_map.1 hy
    exact q.good b hb
end
theorem ways_done {H G:Heap} {C:Nat} {code:List Byt} {a s:Int} {A:AFunc} (ow:Own G A) (oo:Only [] (H.set C (rC code a s)) G) (hf:∀ j∈ids A,H.length≤j) (ha:0≤a∧a≤40000) (hg:Enc.good (Tr.era A)) :
    ∃ r' H',Fin H.length G (.agg [.d (.int .i64 A.params_),A.blocks_.v]) H' r'∧∃ A:AFunc,r'=V.agg [V.d (D.int IntKind.i64 A.params_),A.blocks_.v]∧∃ x,(∃ x_1,New (List.set H C (rC code x x_1)) H' A)∧(0≤x∧x≤40000)∧Enc.good (Tr.era A):=by
  have lS:(H.set C (rC code a s)).length=H.length:=by simp
  have:=fin_new (H0:=H.set C (rC code a s)) (r:=.agg [V.d (.int .i64 A.params_),A.blocks_.v])
    (Q:=fun r' H'=>∃ A:AFunc,r'=V.agg [V.d (D.int IntKind.i64 A.params_),A.blocks_.v]∧∃ x,(∃ x_1,New (List.set H C (rC code x x_1)) H' A)∧(0≤x∧x≤40000)∧Enc.good (Tr.era A))
    ow oo (fun j hj=>by rw [lS];exact hf j hj) fun H' h'=>⟨A,rfl,a,⟨s,h'⟩,ha,hg⟩
  rw [lS] at this
  exact this
set_option maxHeartbeats 8000000 in
theorem ways_own (H : Heap) (C : Nat) (code : List Byt) (hg : Enc.good code) (a s : Int) (hc : H[C]? = some (rC code a s)) (ha : 0 ≤ a ∧ a ≤ 400) :
    CallsD Tryz.prog 59 [.ptr C 3 0 0] H fun r H'=>∃ (A:AFunc) (a' s':Int),r=.agg (Tr.cells A)∧New (H.set C (rC code a' s')) H' A∧(0≤a'∧a'≤40000)∧Enc.good (Tr.era A):=by
  have lC:=(List.getElem?_eq_some_iff.1 hc).1
  have hcR:∀ R:Heap,(H++R)[C]? = some (rC code a s):=fun R=>(List.getElem?_append_left lC).trans hc
  have hs0:∀ (R:Heap) P,(H++R).set C P=H.set C P++R:=fun R P=>List.set_append_left _ _ lC
  refine calls_of Tryz.func59 en_59 rfl (of_decide_eq_true rfl) (W_runS mixed [12] ⟨[],[],[79,80,78],51,H.length,[0,2,3,4,5,6,7,9,18,29,48],[9,18,29,48]⟩ (fun | 12=>[0,2,3,1,4,5,6,7,8,9] | _=>[]) (by kernel_rfl) ?_)
  simp only [Tryz.f59,stripS,skip_cons,skip_nil,Nat.reduceBEq,Bool.or_false,Bool.or_self,Bool.or_true,Bool.true_or,cond_true,cond_false,stripX,stripOps,pickOps]
  simp [-V.flat,-V.one,one_int,one_bool,one_str,one_nilp,one_rp,one_nilsl,one_ro,one_cl,one_nilf,one_nili,one_ifc,one_ptr,one_sl,one_clo,flat_d,flat_ptr,flat_sl,flat_clo,flat_agg,-decA,decA_int,decA_bool,decA_str]
  rw [aft_call]
  refine (one_own _ C code a s 3 (hcR _) hg ha.1 (by omega)).mono ?_
  rintro r G1 ⟨bb,rfl,a1,s1,hb1,rfl⟩
  rw [hs0]
  generalize hH1:H.set C (rC code a1 s1)=H1
  have lH1:H1.length=H.length:=by rw [← hH1];simp
  have c1:∀ R:Heap,(H1++R)[C]? = some (rC code a1 s1):=fun R=>by rw [List.getElem?_append_left (by omega),← hH1];exact List.getElem?_set_self lC
  cases bb with
  | true =>
    simp [-V.flat,-V.one,one_int,one_bool,one_str,one_nilp,one_rp,one_nilsl,one_ro,one_cl,one_nilf,one_nili,one_ifc,one_ptr,one_sl,one_clo,flat_d,flat_ptr,flat_sl,flat_clo,flat_agg,-decA,decA_int,decA_bool,decA_str,lH1]
    rw [aft_call]
    refine (fn_own _ C code hg a1 s1 (c1 _) (by omega)).mono ?_
    rintro r G2 ⟨A,a2,s2,rfl,hn2,hb2,hg2,hp2,hf2⟩
    have sC:∀ (R:Heap) P,(H1++R).set C P=H1.set C P++R:=fun R P=>List.set_append_left _ _ (by omega)
    rw [sC] at hn2
    have l2:=hn2.only.len
    simp only [List.length_append,List.length_set,List.length_cons,List.length_nil,lH1] at l2
    have old:∀ j,j < H.length + 1→G2[j]? = (H1.set C (rC code a2 s2)++[Place.row 2 [[V.d (.int .i64 0),V.d .nilsl]]])[j]?:=fun j hj=>hn2.only.at_ j (by simp [lH1];omega) List.not_mem_nil
    have gR:G2[H.length]? = some (.row 2 [[V.d (.int .i64 0),V.d .nilsl]]):=(old _ (by omega)).trans (by rw [List.getElem?_append_right (by simp [lH1]),List.length_set,lH1,Nat.sub_self];rfl)
    have fr:∀ j∈ids A,H.length + 1≤j:=fun j hj=>by have:=hn2.fresh j hj;simp [lH1] at this;omega
    have one2:A.blocks_.v.one=true:=(AFunc.own_blocks_ hn2.own).ok.1.scl.2
    have hset:∀ P,(G2.set H.length P)[H.length]? = some P:=fun P=>List.getElem?_set_self (by omega)
    simp [-V.flat,-V.one,one_int,one_bool,one_str,one_nilp,one_rp,one_nilsl,one_ro,one_cl,one_nilf,one_nili,one_ifc,one_ptr,one_sl,one_clo,flat_d,flat_ptr,flat_sl,flat_clo,flat_agg,-decA,decA_int,decA_bool,decA_str,lH1,gR,one2,hset,retQ]
    refine ways_done (a:=a2) (s:=s2) (A:=A) (hn2.own.frame (S:=[H.length]) Only.set fun j hj h=>by have:=fr j hj;have:=List.mem_singleton.1 h;omega) ⟨by simp;omega,fun j hj _=>?_⟩ (fun j hj=>by have:=fr j hj;omega) ⟨by omega,by omega⟩ hg2
    have hj':j < H.length:=by simpa using hj
    rw [List.getElem?_set_ne (by omega),old j (by omega),List.getElem?_append_left (by simpa [lH1] using hj'),← hH1,List.set_set]
  | false =>
    simp [-V.flat,-V.one,one_int,one_bool,one_str,one_nilp,one_rp,one_nilsl,one_ro,one_cl,one_nilf,one_nili,one_ifc,one_ptr,one_sl,one_clo,flat_d,flat_ptr,flat_sl,flat_clo,flat_agg,-decA,decA_int,decA_bool,decA_str,lH1]
    rw [aft_call]
    have q1:Wv H C (H.length + 1) code (H1++[Place.row 2 [[V.d (.int .i64 0),V.d .nilsl]],Place.row 2 [[V.d (.int .i64 1),V.d .nilsl]]]) a1 s1 0 ⟨.d .nilsl,[]⟩ :=
      ⟨c1 _,by rw [List.getElem?_append_right (by omega),lH1,Nat.add_sub_cancel_left];rfl,by rw [List.getElem?_append_right (by omega),lH1,Nat.sub_self];rfl,ways_nil _,fun j hj=>absurd hj List.not_mem_nil,lC,by omega,⟨by simp [lH1],fun j hj hn=>by
        rw [List.getElem?_append_left (by omega),← hH1,List.getElem?_set_ne fun e=>hn (List.mem_singleton.2 e.symm)]⟩,fun b hb=>absurd hb List.not_mem_nil,rfl,fun _=>rfl⟩
    refine (pick_own _ C code a1 s1 7 q1.cur hg (by omega) (by omega)).mono ?_
    rintro r G2 ⟨x,rfl,hx,hcu⟩
    obtain ⟨x0,x7⟩:=hx.lt (by decide)
    have wx:IntKind.i64.wrap (1 + x)=1 + x:=wrap_id (by omega) (by omega)
    obtain ⟨a2,s2,hb2,q2,l2,k2⟩:=q1.move hcu
    obtain ⟨n,hn⟩:∃ n:Nat,1 + x=n:=⟨(1 + x).toNat,by omega⟩
    simp [-V.flat,-V.one,one_int,one_bool,one_str,one_nilp,one_rp,one_nilsl,one_ro,one_cl,one_nilf,one_nili,one_ifc,one_ptr,one_sl,one_clo,flat_d,flat_ptr,flat_sl,flat_clo,flat_agg,-decA,decA_int,decA_bool,decA_str,lH1,wx]
    rw [hn]
    refine W_loopH (α:=Nat × Heap) (fun b=>[(0,.ptr C 3 0 0),(2,.ptr H.length 2 0 0),(3,.ptr (H.length + 1) 2 0 0),(4,.d (.int .i64 n)),(5,.d (.int .i64 b.1))]) (fun b=>b.2)
      (fun b=>b.1≤n∧∃ (a1 s1:Int) (bs:AS ABlock),Wv H C (H.length + 1) code b.2 a1 s1 b.1 bs∧(0≤a1∧a1≤500 + 10 * b.1)) (fun b=>n - b.1) (0,G2) ?_ ⟨Nat.zero_le _,a2,s2,_,q2,by omega,by omega⟩ ?_
    · simp
    rintro ⟨k,G⟩ ⟨hk,a3,s3,bs,q3,ha3⟩
    dsimp only at hk q3 ha3
    by_cases h:k < n
    · refine W_runS mixed [12] ⟨[],[],[79,80,78],51,H.length,[0,2,3,4,5,6,7,9,18,29,48],[9,18,29,48]⟩ (fun | 12=>[0,2,3,1,4,5,6,7,8,9] | _=>[]) (by kernel_rfl) ?_
      simp only [stripS,skip_cons,skip_nil,Nat.reduceBEq,Bool.or_false,Bool.or_self,Bool.or_true,Bool.true_or,cond_true,cond_false,stripX,stripOps,pickOps]
      simp [-V.flat,-V.one,one_int,one_bool,one_str,one_nilp,one_rp,one_nilsl,one_ro,one_cl,one_nilf,one_nili,one_ifc,one_ptr,one_sl,one_clo,flat_d,flat_ptr,flat_sl,flat_clo,flat_agg,-decA,decA_int,decA_bool,decA_str,h]
      rw [aft_call]
      refine (pick_own _ C code a3 s3 3 q3.cur hg (by omega) (by omega)).mono ?_
      rintro r G4 ⟨y,rfl,hy,hcu⟩
      obtain ⟨y0,y3⟩:=hy.lt (by decide)
      have wy:IntKind.i64.wrap (1 + y)=1 + y:=wrap_id (by omega) (by omega)
      have wy2:IntKind.i64.wrap (1 + y - 1)=y:=by rw [wrap_id] <;> omega
      obtain ⟨a4,s4,hb4,q4,l4,k4⟩:=q3.move hcu
      simp [-V.flat,-V.one,one_int,one_bool,one_str,one_nilp,one_rp,one_nilsl,one_ro,one_cl,one_nilf,one_nili,one_ifc,one_ptr,one_sl,one_clo,flat_d,flat_ptr,flat_sl,flat_clo,flat_agg,-decA,decA_int,decA_bool,decA_str,wy,wy2]
      obtain ⟨ym,rfl⟩:=Int.eq_ofNat_of_zero_le y0
      generalize hG5:G4++[Place.row 5 [[V.d (.int .i64 0),V.d .nilsl,V.d (.int .i64 (1 + (ym:Int))),V.d (.int .i64 0),V.d .nilsl]]]=G5
      have l5:G5.length=G4.length + 1:=by rw [← hG5];simp
      have q5:Wv H C (H.length + 1) code G5 a4 s4 k bs:=q4.same (by omega) fun j hj _=>by rw [← hG5,List.getElem?_append_left hj]
      have j5:Jv G5 G4.length (1 + ym) 0 ⟨.d .nilsl,[]⟩:=⟨by rw [← hG5,List.getElem?_append_right (Nat.le_refl _),Nat.sub_self];rfl,ways_nil _,fun j hj=>absurd hj List.not_mem_nil,fun b hb=>absurd hb List.not_mem_nil,rfl,fun _=>rfl⟩
      have bB:∀ j∈ids bs,j < G4.length:=fun j hj=>q4.own.lt hj
      have FB:H.length + 1 < G4.length:=(List.getElem?_eq_some_iff.1 q4.f).1
      generalize G4.length=B at j5 bB FB
      refine W_loopH (α:=Nat × Heap) (fun b=>[(0,.ptr C 3 0 0),(2,.ptr H.length 2 0 0),(3,.ptr (H.length + 1) 2 0 0),(4,.d (.int .i64 n)),(5,.d (.int .i64 k)),(6,.ptr B 5 0 0),(7,.d (.int .i64 ((ym:Int) - b.1)))]) (fun b=>b.2)
        (fun b=>b.1≤ym∧∃ (a1 s1:Int) (js:AS AJump),Wv H C (H.length + 1) code b.2 a1 s1 k bs∧Jv b.2 B (1 + ym) b.1 js∧(0≤a1∧a1≤502 + 10 * k + 2 * b.1)) (fun b=>ym - b.1) (0,G5) ?_ ⟨Nat.zero_le _,a4,s4,_,q5,j5,by omega,by omega⟩ ?_
      · simp
      rintro ⟨i,G⟩ ⟨hi,a6,s6,js,q6,j6,ha6⟩
      dsimp only at hi q6 j6 ha6
      by_cases hy:i < ym
      · have wj:IntKind.i64.wrap ((ym:Int) - i - 1)=(ym:Int) - ((i + 1:Nat):Int):=by rw [wrap_id] <;> omega
        refine W_runS mixed [12] ⟨[],[],[79,80,78],51,H.length,[0,2,3,4,5,6,7,9,18,29,48],[9,18,29,48]⟩ (fun | 12=>[0,2,3,1,4,5,6,7,8,9] | _=>[]) (by kernel_rfl) ?_
        simp only [stripS,skip_cons,skip_nil,Nat.reduceBEq,Bool.or_false,Bool.or_self,Bool.or_true,Bool.true_or,cond_true,cond_false,stripX,stripOps,pickOps]
        simp [-V.flat,-V.one,one_int,one_bool,one_str,one_nilp,one_rp,one_nilsl,one_ro,one_cl,one_nilf,one_nili,one_ifc,one_ptr,one_sl,one_clo,flat_d,flat_ptr,flat_sl,flat_clo,flat_agg,-decA,decA_int,decA_bool,decA_str,hy]
        have b6:=j6.b
        refine W_drawC mixed ⟨[],[],[79,80,78],51,H.length,[0,2,3,4,5,6,7,9,18,29,48],[9,18,29,48]⟩ [0,1,2,3,8] [4] [5,6,7,9] (.alt 4 .leaf .nil) (fun | 4=>[1] | _=>[]) [0,2,3,4,5,6,7,9,18,29,48,32,33,34,35,36,37,38,39,40] (by kernel_rfl) (by kernel_rfl) ?_
        simp only [stripOps,pickOps]
        simp [-V.flat,-V.one,one_int,one_bool,one_str,one_nilp,one_rp,one_nilsl,one_ro,one_cl,one_nilf,one_nili,one_ifc,one_ptr,one_sl,one_clo,flat_d,flat_ptr,flat_sl,flat_clo,flat_agg,-decA,decA_int,decA_bool,decA_str,b6]
        refine denC_one ?_
        simp only [demC,stripOps,pickOps]
        simp [loadD,-V.flat,-V.one,one_int,one_bool,one_str,one_nilp,one_rp,one_nilsl,one_ro,one_cl,one_nilf,one_nili,one_ifc,one_ptr,one_sl,one_clo,flat_d,flat_ptr,flat_sl,flat_clo,flat_agg,-decA,decA_int,decA_bool,decA_str,b6]
        rw [aft_call]
        refine (pick_own _ C code a6 s6 n q6.cur hg (by omega) (by omega)).mono ?_
        rintro r G7 ⟨z,rfl,hz,hcu⟩
        obtain ⟨a7,s7,hb7,q7,l7,k7⟩:=q6.move hcu
        have j7:Jv G7 B (1 + ym) i js:=j6.same fun j hj h=>k7 j (by
          have cl:=q6.cl
          rcases h with rfl | h
          · omega
          · have:=j6.ge j h;omega)
        have b7:=j7.b
        simp [loadD,-V.flat,-V.one,one_int,one_bool,one_str,one_nilp,one_rp,one_nilsl,one_ro,one_cl,one_nilf,one_nili,one_ifc,one_ptr,one_sl,one_clo,flat_d,flat_ptr,flat_sl,flat_clo,flat_agg,-decA,decA_int,decA_bool,decA_str,b6,b7]
        have lB:=(List.getElem?_eq_some_iff.1 b7).1
        have zr:=hz.1
        have gz:Enc.good z:=⟨by omega,by omega⟩
        have bR:∀ R:Heap,(G7++R)[B]? = some (.row 5 [[.d (.int .i64 0),.d .nilsl,.d (.int .i64 (1 + (ym:Int))),.d (.int .i64 0),js.v]]):=fun R=>(List.getElem?_append_left lB).trans b7
        have sR:∀ (R:Heap) P,(G7++R).set B P=G7.set B P++R:=fun R P=>List.set_append_left _ _ lB
        by_cases i0:i=0
        · subst i0
          have jv:=j7.nil rfl
          rw [jv] at bR
          have jl:js.l=[]:=List.length_eq_zero_iff.1 j7.len
          refine denC_leaf ?_
          simp only [stripOps,pickOps]
          simp [-V.flat,-V.one,one_int,one_bool,one_str,one_nilp,one_rp,one_nilsl,one_ro,one_cl,one_nilf,one_nili,one_ifc,one_ptr,one_sl,one_clo,flat_d,flat_ptr,flat_sl,flat_clo,flat_agg,-decA,decA_int,decA_bool,decA_str,jv,bR,sR]
          refine ⟨1,_,⟨by omega,a7,⟨s7,q7.same (by simp) fun j hj h=>?_⟩,⟨_,j7.push gz (K:=G7.length + 1) (by omega) (fun j hj hne _=>?_) ?_ ?_⟩,by omega,by omega⟩,by omega,rfl,wj⟩
          · rw [List.getElem?_append_left (by simpa using hj),List.getElem?_set_ne fun e=>by subst e;rcases h with h | h;omega;have:=bB _ h;omega]
          · rw [List.getElem?_append_left (by simpa using hj),List.getElem?_set_ne fun e=>hne e.symm]
          · rw [List.getElem?_append_left (by simpa using lB),List.getElem?_set_self lB]
          · rw [List.getElem?_append_right (by simp),jl];simp
        · obtain ⟨jv,jr,jn,ji⟩:=j7.own.row (by rw [j7.len];omega)
          rw [j7.len] at jv
          have lJ:=(List.getElem?_eq_some_iff.1 jr).1
          have idB:js.id ≠ B:=fun e=>by have:=j7.ge js.id (by rw [ji];exact List.mem_cons_self);omega
          rw [jv] at bR
          have rR:∀ R:Heap,(G7++R)[js.id]? = some (.row 2 (js.l.map Tr.cells)):=fun R=>(List.getElem?_append_left lJ).trans jr
          have dR:∀ (R:Heap),(G7++R).set js.id .dead=G7.set js.id .dead++R:=fun R=>List.set_append_left _ _ lJ
          have bD:∀ R:Heap,(G7.set js.id .dead++R)[B]? = some (.row 5 [[.d (.int .i64 0),.d .nilsl,.d (.int .i64 (1 + (ym:Int))),.d (.int .i64 0),.sl js.id 2 0 i]]):=fun R=>by
            rw [List.getElem?_append_left (by simpa using lB),List.getElem?_set_ne idB,b7,jv];rfl
          have sD:∀ (R:Heap) P,(G7.set js.id .dead++R).set B P=(G7.set js.id .dead).set B P++R:=fun R P=>List.set_append_left _ _ (by simpa using lB)
          have jl:=j7.len
          refine denC_leaf ?_
          simp only [stripOps,pickOps]
          simp [-V.flat,-V.one,one_int,one_bool,one_str,one_nilp,one_rp,one_nilsl,one_ro,one_cl,one_nilf,one_nili,one_ifc,one_ptr,one_sl,one_clo,flat_d,flat_ptr,flat_sl,flat_clo,flat_agg,-decA,decA_int,decA_bool,decA_str,jv,bR,sR,rR,dR,bD,sD,jl]
          have jid:B < js.id:=j7.ge js.id (by rw [ji];exact List.mem_cons_self)
          refine ⟨⟨by omega,by omega⟩,i + 1,_,⟨by omega,a7,⟨s7,q7.same (by simp) fun j hj h=>?_⟩,⟨_,j7.push gz (K:=G7.length + 1) (by omega) (fun j hj hne hn2=>?_) ?_ ?_⟩,by omega,by omega⟩,by omega,rfl,wj⟩
          · have hjB:j < B:=by rcases h with h | h;omega;exact bB _ h
            rw [List.getElem?_append_left (by simpa using hj),List.getElem?_set_ne (by omega),List.getElem?_set_ne (by omega)]
          · rw [List.getElem?_append_left (by simpa using hj),List.getElem?_set_ne (fun e=>hne e.symm),List.getElem?_set_ne fun e=>hn2 (by omega) e.symm]
          · rw [List.getElem?_append_left (by simpa using lB),List.getElem?_set_self (by simpa using lB)]
          · rw [List.getElem?_append_right (by simp),List.take_of_length_le (by rw [List.length_map];omega)];simp
      · have hye:i=ym:=by omega
        have f6:=q6.f
        have b6:=j6.b
        have lF:=(List.getElem?_eq_some_iff.1 f6).1
        have lB:=(List.getElem?_eq_some_iff.1 b6).1
        have ge:Enc.good (1 + (ym:Int)):=⟨by omega,by omega⟩
        have nj:∀ j∈ids js,j ∉ ids bs:=fun j hj h=>by have:=j6.ge j hj;have:=bB j h;omega
        obtain ⟨bl1,bl2,bl3⟩:=j6.block FB nj ge (by omega)
        have jo:js.v.one=true:=j6.own.ok.1.scl.2
        have wk:IntKind.i64.wrap ((k:Int) + 1)=((k + 1:Nat):Int):=by rw [wrap_id] <;> omega
        have fR:∀ R:Heap,(G++R)[H.length + 1]? = some (.row 2 [[.d (.int .i64 1),bs.v]]):=fun R=>(List.getElem?_append_left lF).trans f6
        have sR:∀ (R:Heap) P,(G++R).set (H.length + 1) P=G.set (H.length + 1) P++R:=fun R P=>List.set_append_left _ _ lF
        by_cases k0:k=0
        · subst k0
          have bv:=q6.nil rfl
          have bl:bs.l=[]:=List.length_eq_zero_iff.1 q6.len
          rw [bv] at f6 fR
          refine W_runS mixed [12] ⟨[],[],[79,80,78],51,H.length,[0,2,3,4,5,6,7,9,18,29,48],[9,18,29,48]⟩ (fun | 12=>[0,2,3,1,4,5,6,7,8,9] | _=>[]) (by kernel_rfl) ?_
          simp only [stripS,skip_cons,skip_nil,Nat.reduceBEq,Bool.or_false,Bool.or_self,Bool.or_true,Bool.true_or,cond_true,cond_false,stripX,stripOps,pickOps]
          simp [-V.flat,-V.one,one_int,one_bool,one_str,one_nilp,one_rp,one_nilsl,one_ro,one_cl,one_nilf,one_nili,one_ifc,one_ptr,one_sl,one_clo,flat_d,flat_ptr,flat_sl,flat_clo,flat_agg,-decA,decA_int,decA_bool,decA_str,hy,f6,b6,bv,jo,fR,sR,wk]
          refine ⟨1,_,⟨by omega,a6,⟨s6,_,q6.push bl1 bl2 bl3 (K:=G.length + 1) ⟨by omega,by simp⟩ (fun j hj hne _=>?_) ?_ ?_⟩,by omega,by omega⟩,by omega,rfl,by decide⟩
          · rw [List.getElem?_append_left (by simpa using hj),List.getElem?_set_ne fun e=>hne e.symm]
          · rw [List.getElem?_append_left (by simpa using lF),List.getElem?_set_self lF]
          · rw [List.getElem?_append_right (by simp),bl];simp
        · obtain ⟨bv,br,bn,bi⟩:=q6.own.row (by rw [q6.len];omega)
          rw [q6.len] at bv
          have lK:=(List.getElem?_eq_some_iff.1 br).1
          have kF:H.length + 1 < bs.id:=q6.ge bs.id (by rw [bi];exact List.mem_cons_self)
          rw [bv] at f6 fR
          have rR:∀ R:Heap,(G++R)[bs.id]? = some (.row 5 (bs.l.map Tr.cells)):=fun R=>(List.getElem?_append_left lK).trans br
          have dR:∀ (R:Heap),(G++R).set bs.id .dead=G.set bs.id .dead++R:=fun R=>List.set_append_left _ _ lK
          have fD:∀ R:Heap,(G.set bs.id .dead++R)[H.length + 1]? = some (.row 2 [[.d (.int .i64 1),.sl bs.id 5 0 k]]):=fun R=>by
            rw [List.getElem?_append_left (by simpa using lF),List.getElem?_set_ne (by omega),f6];rfl
          have sD:∀ (R:Heap) P,(G.set bs.id .dead++R).set (H.length + 1) P=(G.set bs.id .dead).set (H.length + 1) P++R:=fun R P=>List.set_append_left _ _ (by simpa using lF)
          have bl:=q6.len
          refine W_runS mixed [12] ⟨[],[],[79,80,78],51,H.length,[0,2,3,4,5,6,7,9,18,29,48],[9,18,29,48]⟩ (fun | 12=>[0,2,3,1,4,5,6,7,8,9] | _=>[]) (by kernel_rfl) ?_
          simp only [stripS,skip_cons,skip_nil,Nat.reduceBEq,Bool.or_false,Bool.or_self,Bool.or_true,Bool.true_or,cond_true,cond_false,stripX,stripOps,pickOps]
          simp [-V.flat,-V.one,one_int,one_bool,one_str,one_nilp,one_rp,one_nilsl,one_ro,one_cl,one_nilf,one_nili,one_ifc,one_ptr,one_sl,one_clo,flat_d,flat_ptr,flat_sl,flat_clo,flat_agg,-decA,decA_int,decA_bool,decA_str,hy,f6,b6,bv,jo,fR,sR,rR,dR,fD,sD,bl,wk]
          refine ⟨⟨by omega,by omega⟩,k + 1,_,⟨by omega,a6,⟨s6,_,q6.push bl1 bl2 bl3 (K:=G.length + 1) ⟨by omega,by simp⟩ (fun j hj hne hn2=>?_) ?_ ?_⟩,by omega,by omega⟩,by omega,rfl,rfl⟩
          · rw [List.getElem?_append_left (by simpa using hj),List.getElem?_set_ne (fun e=>hne e.symm),List.getElem?_set_ne fun e=>hn2 (by omega) e.symm]
          · rw [List.getElem?_append_left (by simpa using lF),List.getElem?_set_self (by simpa using lF)]
          · rw [List.getElem?_append_right (by simp),List.take_of_length_le (by rw [List.length_map];omega)];simp
    · refine W_runS mixed [12] ⟨[],[],[79,80,78],51,H.length,[0,2,3,4,5,6,7,9,18,29,48],[9,18,29,48]⟩ (fun | 12=>[0,2,3,1,4,5,6,7,8,9] | _=>[]) (by kernel_rfl) ?_
      simp only [stripS,skip_cons,skip_nil,Nat.reduceBEq,Bool.or_false,Bool.or_self,Bool.or_true,Bool.true_or,cond_true,cond_false,stripX,stripOps,pickOps]
      simp [-V.flat,-V.one,one_int,one_bool,one_str,one_nilp,one_rp,one_nilsl,one_ro,one_cl,one_nilf,one_nili,one_ifc,one_ptr,one_sl,one_clo,flat_d,flat_ptr,flat_sl,flat_clo,flat_agg,-decA,decA_int,decA_bool,decA_str,h]
      rw [aft_call]
      refine (one_own _ C code a3 s3 30 q3.cur hg (by omega) (by omega)).mono ?_
      rintro r G4 ⟨bb,rfl,hcu⟩
      obtain ⟨a4,s4,hb4,q4,l4,k4⟩:=q3.move hcu
      have f4:=q4.f
      have r4:=q4.res
      have ob:bs.v.one=true:=q4.own.ok.1.scl.2
      have lF:=(List.getElem?_eq_some_iff.1 f4).1
      have hs1:∀ P,(G4.set (H.length + 1) P)[H.length + 1]? = some P:=fun P=>List.getElem?_set_self lF
      have hs2:∀ P,(G4.set (H.length + 1) P)[H.length]? = some (.row 2 [[.d (.int .i64 0),.d .nilsl]]):=fun P=>(List.getElem?_set_ne (by omega)).trans r4
      have hs3:∀ P,(G4.set H.length P)[H.length]? = some P:=fun P=>List.getElem?_set_self (by omega)
      have hs4:∀ P P',((G4.set (H.length + 1) P').set H.length P)[H.length]? = some P:=fun P P'=>List.getElem?_set_self (by simp;omega)
      have gl:=q4.only.len
      have z0:Enc.good (0:Int):=⟨by decide,by decide⟩
      have z1:Enc.good (1:Int):=⟨by decide,by decide⟩
      have gb:Enc.good (bs.l.map Tr.era):=⟨by rw [List.length_map,q4.len];omega,fun y hy=>by obtain ⟨b,hb,rfl⟩:=List.mem_map.1 hy;exact q4.good b hb⟩
      have old:∀ j,j < H.length→G4[j]? = (H.set C (rC code a4 s4))[j]?:=fun j hj=>by
        by_cases e:j=C
        · subst e;rw [q4.cur,List.getElem?_set_self lC]
        · rw [List.getElem?_set_ne (fun q=>e q.symm)];exact q4.only.at_ j hj (by simpa using e)
      cases bb with
      | true =>
        simp [-V.flat,-V.one,one_int,one_bool,one_str,one_nilp,one_rp,one_nilsl,one_ro,one_cl,one_nilf,one_nili,one_ifc,one_ptr,one_sl,one_clo,flat_d,flat_ptr,flat_sl,flat_clo,flat_agg,-decA,decA_int,decA_bool,decA_str,f4,r4,ob,hs1,hs2,hs4,retQ]
        refine ways_done (a:=a4) (s:=s4) (A:=⟨0,bs⟩) (AFunc.own (q4.own.frame (S:=[H.length + 1,H.length]) ⟨by simp,fun j hj hn=>?_⟩ fun j hj h=>?_)) ⟨by simp;omega,fun j hj _=>?_⟩ (fun j hj=>?_) ⟨by omega,by omega⟩ ⟨z0,gb⟩
        · rw [List.getElem?_set_ne (fun e=>hn (by simp [e])),List.getElem?_set_ne (fun e=>hn (by simp [e]))]
        · have:=q4.ge j hj;simp at h;omega
        · have hj':j < H.length:=by simpa using hj
          rw [List.getElem?_set_ne (by omega),List.getElem?_set_ne (by omega)];exact old j hj'
        · have:=q4.ge j hj;omega
      | false =>
        simp [-V.flat,-V.one,one_int,one_bool,one_str,one_nilp,one_rp,one_nilsl,one_ro,one_cl,one_nilf,one_nili,one_ifc,one_ptr,one_sl,one_clo,flat_d,flat_ptr,flat_sl,flat_clo,flat_agg,-decA,decA_int,decA_bool,decA_str,f4,r4,ob,hs3,retQ]
        refine ways_done (a:=a4) (s:=s4) (A:=⟨1,bs⟩) (AFunc.own (q4.own.frame (S:=[H.length]) Only.set fun j hj h=>?_)) ⟨by simp;omega,fun j hj _=>?_⟩ (fun j hj=>?_) ⟨by omega,by omega⟩ ⟨z1,gb⟩
        · have:=q4.ge j hj;have:=List.mem_singleton.1 h;omega
        · have hj':j < H.length:=by simpa using hj
          rw [List.getElem?_set_ne (by omega)];exact old j hj'
        · have:=q4.ge j hj;omega
theorem drawReached_p (code:List Byt) (hg:Enc.good code):PureP Tryz.prog 32 [.d (dBytS code)] fun r=>∃ F:Func,r=vFunc F∧Enc.good F:=by
  have h:CallsD Tryz.prog 32 [.d (dBytS code)] [] fun r H'=>∃ A:AFunc,r=.agg (Tr.cells A)∧New [] H' A∧Enc.good (Tr.era A):=by
    refine calls_of Tryz.func32 en_32 rfl (of_decide_eq_true rfl) (W_run mixed ⟨[],[],[59],9,0,[0,2,3],[]⟩ (fun _=>[]) (by kernel_rfl) ?_)
    simp only [Tryz.f32,stripX,stripOps,pickOps]
    simp [-V.flat,-V.one,one_int,one_bool,one_str,one_nilp,one_rp,one_nilsl,one_ro,one_cl,one_nilf,one_nili,one_ifc,one_ptr,one_sl,one_clo,flat_d,flat_ptr,flat_sl,flat_clo,flat_agg]
    rw [aft_call]
    refine (ways_own _ 1 code hg 0 0 rfl ⟨by decide,by decide⟩).mono ?_
    rintro r G2 ⟨A,a2,s2,rfl,hn2,hb2,hg2⟩
    have l2:=hn2.only.len
    have gR:G2[0]? = some (.row 2 [[V.d (.int .i64 0),V.d .nilsl]]):=(hn2.only.at_ 0 (by simp) List.not_mem_nil)
    have fr:∀ j∈ids A,2≤j:=fun j hj=>by have:=hn2.fresh j hj;simpa using this
    have one2:A.blocks_.v.one=true:=(AFunc.own_blocks_ hn2.own).ok.1.scl.2
    have hset:∀ P,(G2.set 0 P)[0]? = some P:=fun P=>List.getElem?_set_self (by simp at l2;omega)
    simp [-V.flat,-V.one,one_int,one_bool,one_str,one_nilp,one_rp,one_nilsl,one_ro,one_cl,one_nilf,one_nili,one_ifc,one_ptr,one_sl,one_clo,flat_d,flat_ptr,flat_sl,flat_clo,flat_agg,gR,one2,hset,retQ]
    exact fin_new (H0:=[]) (hn2.own.frame (S:=[0]) Only.set fun j hj h=>by have:=fr j hj;have:=List.mem_singleton.1 h;omega) ⟨Nat.zero_le _,fun j hj=>absurd hj (Nat.not_lt_zero _)⟩ (fun _ _=>Nat.zero_le _) fun H' h'=>⟨A,rfl,h',hg2⟩
  refine PureP.of_ownQ (h.mono ?_)
  rintro r H' ⟨A,rfl,hn,hF⟩
  exact ⟨_,⟨Tr.era A,rfl,hF⟩,Rd1.aggs hn.own rfl⟩
end Go.Proofs.YthafdegfjadijaaGreat
end
