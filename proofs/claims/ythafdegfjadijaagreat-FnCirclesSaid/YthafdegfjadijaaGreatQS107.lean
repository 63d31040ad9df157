/- A drawn function. No condition. -/
import Derived.Test.YthafdegfjadijaaGreatQS41
import Derived.Test.YthafdegfjadijaaGreatQS106
namespace Go.Proofs.YthafdegfjadijaaGreat
set_option maxRecDepth 100000
set_option linter.unusedSimpArgs false
set_option linter.unusedVariables false
section
variable {H:Heap} {R0 C B:Nat} {code:List Byt} {p:Int} {nb:Nat} {G:Heap} {a s m:Int} {bs:AS ABlock} {sid:Nat} {l:List Int} {c:Int}
theorem Fs.dw (q:Fs H R0 C B code p nb G a s m bs):Dw G C B code p bs G a s m bs:=Dw.start q.cur q.bd q.ne q.nC q.ok
theorem Fs.insts (q:Fs H R0 C B code p nb G a s m bs) {G':Heap} {a' s' m':Int} {bs':AS ABlock} (w:Dw G C B code p bs G' a' s' m' bs') (ha:a≤a') (hm:m≤m'):Fs H R0 C B code p nb G' a' s' m' bs'∧(∀ sid l,Sn G C B bs sid l→Sn G' C B bs' sid l):=by
  have lC:=(List.getElem?_eq_some_iff.1 q.cur).1
  have lR:=(List.getElem?_eq_some_iff.1 q.res).1
  have gl:=q.only.len
  obtain ⟨g1,g2,g3⟩:=q.ge
  refine ⟨⟨w.cur,w.bd,(w.only.at_ R0 lR fun h=>?_).trans q.res,q.ne,w.nC,fun h=>(w.idb R0 h).elim q.nR fun h=>by omega,q.rB,q.rC,w.ok,w.len.trans q.len,⟨g1,g2,fun j hj=>(w.idb j hj).elim (g3 j) fun h=>by omega⟩,q.cl,
    q.only.trans w.only (fun j h=>h) fun j hj hl=>?_,by have:=q.a0;omega,by have:=q.m0;omega⟩,fun sid l qs=>qs.to w.idb (w.only.at_ sid qs.lt fun h=>?_)⟩
  · rcases List.mem_cons.1 h with h | h
    · exact q.rC h
    · rcases List.mem_cons.1 h with h | h
      · exact q.rB h
      · exact q.nR h
  · rcases List.mem_cons.1 hj with h | h
    · rw [h];exact List.mem_cons_self
    · rcases List.mem_cons.1 h with h | h
      · omega
      · have:=g3 j h;omega
  · rcases List.mem_cons.1 h with h | h
    · exact qs.nC h
    · rcases List.mem_cons.1 h with h | h
      · exact qs.nB h
      · exact qs.nb h
theorem Dw.first {H0:Heap} {bs0:AS ABlock} (q:Dw H0 C B code p bs0 G a s m bs) (h:∃ b,bs0.l[0]? = some b∧0 < b.insts_.l.length):∃ b,bs.l[0]? = some b∧0 < b.insts_.l.length:=by
  obtain ⟨b,h1,h2⟩:=h
  obtain ⟨b',h3,h4⟩:=q.mono 0 b h1
  exact ⟨b',h3,by omega⟩
theorem Fs.kill (q:Fs H R0 C B code p nb G a s m bs) {id:Nat} (h1:id ≠ C) (h2:id ≠ B) (h3:id ∉ ids bs) (h5:id ≠ R0) (h4:H.length≤id) (P:Place):Fs H R0 C B code p nb (G.set id P) a s m bs :=
  ⟨(List.getElem?_set_ne h1).trans q.cur,q.bd.frame (S:=[id]) Only.set (fun h=>h2 (List.mem_singleton.1 h).symm) fun j hj h=>h3 (List.mem_singleton.1 h ▸ hj),(List.getElem?_set_ne h5).trans q.res,q.ne,q.nC,q.nR,q.rB,q.rC,q.ok,q.len,q.ge,q.cl,
    ⟨by simpa using q.only.len,fun j hj hn=>(List.getElem?_set_ne (by omega)).trans (q.only.at_ j hj hn)⟩,q.a0,q.m0⟩
theorem Fs.move (q:Fs H R0 C B code p nb G a s m bs) {k:Int} {G':Heap} (h:Cu G C code a k G'):∃ a' s':Int,(a≤a'∧a'≤a + k)∧Fs H R0 C B code p nb G' a' s' m bs∧(∀ sid l,Sn G C B bs sid l→Sn G' C B bs sid l)∧(∀ j,j ≠ C→G'[j]? = G[j]?)∧G'.length=G.length:=by
  obtain ⟨a',s',h1,w,h2,h3⟩:=q.dw.move h
  obtain ⟨w1,w2⟩:=q.insts w h1.1 (Int.le_refl _)
  exact ⟨a',s',h1,w1,w2,h2,h3⟩
end
theorem nilI' (G:Heap):Own G (⟨.d .nilsl,[]⟩:AS Int):=⟨⟨.inr ⟨rfl,.inl rfl⟩,fun a ha=>absurd ha List.not_mem_nil⟩,fun q hq=>absurd hq List.not_mem_nil,List.nodup_nil⟩
set_option maxHeartbeats 8000000 in
theorem fn_own (H : Heap) (C : Nat) (code : List Byt) (hg : Enc.good code) (a s : Int) (hc : H[C]? = some (rC code a s)) (ha : 0 ≤ a ∧ a ≤ 500) :
    CallsD Tryz.prog 80 [.ptr C 3 0 0] H fun r H'=>∃ (A:AFunc) (a' s':Int),r=.agg (Tr.cells A)∧New (H.set C (rC code a' s')) H' A∧(0≤a'∧a'≤30000)∧Enc.good (Tr.era A)∧(0≤A.params_∧A.params_≤5)∧∃ b,A.blocks_.l[0]? = some b∧0 < b.insts_.l.length:=by
  have lC:=(List.getElem?_eq_some_iff.1 hc).1
  have hcR:∀ R:Heap,(H++R)[C]? = some (rC code a s):=fun R=>(List.getElem?_append_left lC).trans hc
  refine calls_of Tryz.func80 en_80 rfl (of_decide_eq_true rfl) (W_runCut mixed 7 ⟨[],[],[78,104,105,106,107,71],375,H.length,[0,2,3,4,5,6,7,8,9,10,11,12,48,126,136,164,241],[126,136,164,241]⟩ (fun | 29=>[0,1,2,3,5,6,7,8,9,10,15,4,11,12,13,14,16,17,18,19,20,21,22] | 14=>[0,1,2,3,5,6,7,8,9,10,11,16,4,12,13,14,15,17,18,19,20,21,22,23] | _=>[]) (by kernel_rfl) ?_)
  simp only [Tryz.f80,stripCut,stripX,stripOps,pickOps]
  simp [-V.flat,-V.one,one_int,one_bool,one_str,one_nilp,one_rp,one_nilsl,one_ro,one_cl,one_nilf,one_nili,one_ifc,one_ptr,one_sl,one_clo,flat_d,flat_ptr,flat_sl,flat_clo,flat_agg,-decA,decA_int,decA_bool,decA_str]
  rw [aft_call]
  refine (pick_own _ C code a s 3 (hcR _) hg ha.1 (by omega)).mono ?_
  rintro r G1 ⟨x,rfl,hx,a1,s1,hb1,rfl⟩
  obtain ⟨x0,x3⟩:=hx.lt (by decide)
  have wx:IntKind.i64.wrap (1 + x)=1 + x:=wrap_id (by omega) (by omega)
  have hs0:∀ (R:Heap) P,(H++R).set C P=H.set C P++R:=fun R P=>List.set_append_left _ _ lC
  rw [hs0]
  generalize hH1:H.set C (rC code a1 s1)=H1
  have lH1:H1.length=H.length:=by rw [← hH1];simp
  simp [-V.flat,-V.one,one_int,one_bool,one_str,one_nilp,one_rp,one_nilsl,one_ro,one_cl,one_nilf,one_nili,one_ifc,one_ptr,one_sl,one_clo,flat_d,flat_ptr,flat_sl,flat_clo,flat_agg,-decA,decA_int,decA_bool,decA_str,wx,lH1]
  rw [aft_call]
  obtain ⟨pn,hpn⟩:∃ pn:Nat,1 + x=pn:=⟨(1 + x).toNat,by omega⟩
  rw [hpn]
  generalize hB0:[Place.row 2 [[V.d (.int .i64 0),.d .nilsl]],Place.row 3 [[V.d (.int .i64 pn),.d .nilsl,.d (.int .i64 pn)]]]=RB
  refine (l11Single_own (H1++RB) pn (by omega) (by omega)).mono ?_
  rintro r G2 ⟨sq,rfl,hsq,hn2⟩
  rw [Int.toNat_natCast] at hsq
  have hsl:sq.l.length=pn:=by rw [hsq,sgl_len]
  obtain ⟨sv,sr,sn,si⟩:=hn2.own.row (by omega)
  rw [hsl] at sv
  have lRB:RB.length=2:=by rw [← hB0];rfl
  have l2:=hn2.only.len
  rw [List.length_append,lH1,lRB] at l2
  have hsid:H.length + 2≤sq.id:=by have:=hn2.fresh sq.id (by rw [si];exact List.mem_cons_self);simp only [List.length_append,lH1,lRB] at this;exact this
  have hsidl:=(List.getElem?_eq_some_iff.1 sr).1
  have old:∀ j,j < H.length + 2→G2[j]? = (H1++RB)[j]?:=fun j hj=>hn2.only.at_ j (by rw [List.length_append,lH1,lRB];exact hj) List.not_mem_nil
  have gR:G2[H.length]? = some (.row 2 [[V.d (.int .i64 0),.d .nilsl]]):=(old _ (by omega)).trans (by rw [List.getElem?_append_right (by omega),lH1,Nat.sub_self,← hB0];rfl)
  have gB:G2[H.length + 1]? = some (.row 3 [[V.d (.int .i64 pn),.d .nilsl,.d (.int .i64 pn)]]):=(old _ (by omega)).trans (by rw [List.getElem?_append_right (by omega),lH1,Nat.add_sub_cancel_left,← hB0];rfl)
  have gC:G2[C]? = some (rC code a1 s1):=(old _ (by omega)).trans (by rw [List.getElem?_append_left (by omega),← hH1];exact List.getElem?_set_self lC)
  have gBR:∀ R:Heap,(G2++R)[H.length + 1]? = some (.row 3 [[V.d (.int .i64 pn),.d .nilsl,.d (.int .i64 pn)]]):=fun R=>(List.getElem?_append_left (by omega)).trans gB
  have sBR:∀ (R:Heap) P,(G2++R).set (H.length + 1) P=G2.set (H.length + 1) P++R:=fun R P=>List.set_append_left _ _ (by omega)
  simp [-V.flat,-V.one,one_int,one_bool,one_str,one_nilp,one_rp,one_nilsl,one_ro,one_cl,one_nilf,one_nili,one_ifc,one_ptr,one_sl,one_clo,flat_d,flat_ptr,flat_sl,flat_clo,flat_agg,-decA,decA_int,decA_bool,decA_str,sv,gB,gBR,sBR]
  rw [aft_call]
  obtain ⟨x0,hx0⟩:∃ x0:ABlock,x0=⟨0,⟨.d .nilsl,[]⟩,1,0,⟨.d .nilsl,[]⟩⟩:=⟨_,rfl⟩
  obtain ⟨bs1,hbs1⟩:∃ bs1:AS ABlock,bs1=⟨.sl G2.length 5 0 1,[x0]⟩:=⟨_,rfl⟩
  generalize hG3:G2.set (H.length + 1) (.row 3 [[V.d (.int .i64 pn),V.sl G2.length 5 0 1,V.d (.int .i64 pn)]])++[Place.row 5 [[V.d (.int .i64 0),V.d .nilsl,V.d (.int .i64 1),V.d (.int .i64 0),V.d .nilsl]]]=G3
  have l3:G3.length=G2.length + 1:=by rw [← hG3];simp
  have at3:∀ j,j < G2.length→j ≠ H.length + 1→G3[j]? = G2[j]?:=fun j h1 h2=>by
    rw [← hG3,List.getElem?_append_left (by simpa using h1),List.getElem?_set_ne (by omega)]
  have g3B:G3[H.length + 1]? = some (.row 3 [[V.d (.int .i64 pn),V.sl G2.length 5 0 1,V.d (.int .i64 pn)]]):=by
    rw [← hG3,List.getElem?_append_left (by simp;omega),List.getElem?_set_self (by omega)]
  have g3K:G3[G2.length]? = some (.row 5 [[V.d (.int .i64 0),V.d .nilsl,V.d (.int .i64 1),V.d (.int .i64 0),V.d .nilsl]]):=by
    rw [← hG3,List.getElem?_append_right (by simp)];simp
  have ix0:ids x0=[]:=by rw [ids_ABlock,hx0];rfl
  have nilI:∀ G:Heap,Own G (⟨.d .nilsl,[]⟩:AS AInst):=fun G=>⟨⟨.inr ⟨rfl,.inl rfl⟩,fun a ha=>absurd ha List.not_mem_nil⟩,fun q hq=>absurd hq List.not_mem_nil,List.nodup_nil⟩
  have nilJ:∀ G:Heap,Own G (⟨.d .nilsl,[]⟩:AS AJump):=fun G=>⟨⟨.inr ⟨rfl,.inl rfl⟩,fun a ha=>absurd ha List.not_mem_nil⟩,fun q hq=>absurd hq List.not_mem_nil,List.nodup_nil⟩
  have ox0:Own G3 x0:=by rw [hx0];exact ABlock.own (x:=⟨0,⟨.d .nilsl,[]⟩,1,0,⟨.d .nilsl,[]⟩⟩) (nilI _) (nilJ _) fun j hj=>absurd hj List.not_mem_nil
  have oL0:OwnL G3 [x0]:=by
    have:=(OwnL.nil (H:=G3) (α:=ABlock)).snoc ox0 fun j hj=>by rw [ix0] at hj;exact absurd hj List.not_mem_nil
    exact this
  have il0:[x0].flatMap ids=[]:=by rw [List.flatMap_cons,ix0];rfl
  have ob1:Own G3 bs1:=by
    rw [hbs1]
    exact Own.mkS (id:=G2.length) oL0 (by rw [g3K,hx0];rfl) (by rw [il0];exact List.not_mem_nil)
  have ib1:∀ j∈ids bs1,j=G2.length:=fun j hj=>by
    rw [hbs1,ids_sl (s:=(⟨.sl G2.length 5 0 1,[x0]⟩:AS ABlock)) rfl,il0] at hj
    exact List.mem_singleton.1 hj
  have q3:Fs H H.length C (H.length + 1) code pn 1 G3 a1 s1 pn bs1 :=
    ⟨(at3 C (by omega) (by omega)).trans gC,⟨by rw [g3B,hbs1],ob1,fun h=>by have:=ib1 _ h;omega⟩,(at3 _ (by omega) (by omega)).trans gR,by omega,fun h=>by have:=ib1 _ h;omega,fun h=>by have:=ib1 _ h;omega,by omega,by omega,
      fun b hb=>by
        rw [hbs1] at hb
        rw [List.mem_singleton.1 hb,hx0]
        exact ⟨fun _=>rfl,⟨⟨by decide,by decide⟩,⟨Nat.zero_le _,fun a h=>absurd h List.not_mem_nil⟩,⟨by decide,by decide⟩,⟨by decide,by decide⟩,⟨Nat.zero_le _,fun a h=>absurd h List.not_mem_nil⟩⟩,by simp⟩,
      by rw [hbs1];rfl,⟨Nat.le_refl _,by omega,fun j hj=>by have:=ib1 j hj;omega⟩,lC,⟨by omega,fun j hj hn=>by
        rw [at3 j (by omega) (by omega),old j (by omega),List.getElem?_append_left (by omega),← hH1,List.getElem?_set_ne (fun e=>hn (by rw [e];exact List.mem_cons_self))]⟩,by omega,by omega⟩
  have qs3:Sn G3 C (H.length + 1) bs1 sq.id sq.l :=
    ⟨(at3 _ hsidl (by omega)).trans (by rw [sr];rfl),by omega,by omega,fun h=>by have:=ib1 _ h;omega,by omega,by omega,fun x hx=>by
      rw [hsq] at hx
      obtain ⟨k,hk,rfl⟩:=List.mem_map.1 hx
      have:=List.mem_range.1 hk
      exact ⟨by omega,by omega⟩⟩
  refine (pick_own G3 C code a1 s1 6 q3.cur hg (by omega) (by omega)).mono ?_
  rintro r G4 ⟨y,rfl,hy,hcu⟩
  obtain ⟨a4,s4,hb4,q4,k4,_,l4⟩:=q3.move hcu
  have qs4:=k4 _ _ qs3
  obtain ⟨y0,y6⟩:=hy.lt (by decide)
  obtain ⟨yn,hyn⟩:∃ yn:Nat,1 + y=yn:=⟨(1 + y).toNat,by omega⟩
  have wy:IntKind.i64.wrap (1 + y)=yn:=by rw [wrap_id] <;> omega
  simp [-V.flat,-V.one,one_int,one_bool,one_str,one_nilp,one_rp,one_nilsl,one_ro,one_cl,one_nilf,one_nili,one_ifc,one_ptr,one_sl,one_clo,flat_d,flat_ptr,flat_sl,flat_clo,flat_agg,-decA,decA_int,decA_bool,decA_str,wy]
  rw [aft_call]
  rw [← hsl]
  refine (insts_own G4 C (H.length + 1) code hg pn a4 s4 pn bs1 sq.id sq.l yn q4.dw qs4 (by rw [q4.len];decide) ⟨by omega,by omega⟩ ⟨by omega,by omega⟩ (by omega)).mono ?_
  rintro r G5 ⟨a5,s5,bs5,sid5,l5,rfl,w5,qs5,hb5,hf5⟩
  obtain ⟨hsid5,hl5,hfirst⟩:=hf5 (by omega)
  obtain ⟨q5,k5⟩:=q4.insts w5 hb5.1 (by omega)
  rw [q4.len] at hfirst
  simp [-V.flat,-V.one,one_int,one_bool,one_str,one_nilp,one_rp,one_nilsl,one_ro,one_cl,one_nilf,one_nili,one_ifc,one_ptr,one_sl,one_clo,flat_d,flat_ptr,flat_sl,flat_clo,flat_agg,-decA,decA_int,decA_bool,decA_str]
  rw [aft_call]
  refine (last_own G5 sid5 l5 qs5.row qs5.pos (by have:=qs5.le;omega)).mono ?_
  rintro r G6 ⟨last,rfl,hlast,rfl⟩
  have hlastg:=qs5.good last hlast
  simp [-V.flat,-V.one,one_int,one_bool,one_str,one_nilp,one_rp,one_nilsl,one_ro,one_cl,one_nilf,one_nili,one_ifc,one_ptr,one_sl,one_clo,flat_d,flat_ptr,flat_sl,flat_clo,flat_agg,-decA,decA_int,decA_bool,decA_str]
  have fi5:FI H H.length C (H.length + 1) code pn 1 10 G6 sid5 l5.length:=⟨a5,s5,_,bs5,l5,q5,qs5,rfl,⟨by omega,by omega,by omega⟩,hfirst⟩
  refine W_seqR (α:=Heap) (fun G=>[(2,.ptr H.length 2 0 0),(3,.ptr (H.length + 1) 3 0 0)]) (fun G=>G) (fun G=>∃ nb sid n,FI H H.length C (H.length + 1) code pn nb 30 G sid n∧(0 < nb∧nb≤5)) ?_ ?_
  · refine W_runS mixed [14,29] ⟨[],[],[78,104,105,106,107,71],375,H.length,[0,2,3,4,5,6,7,8,9,10,11,12,48,126,136,164,241],[126,136,164,241]⟩ (fun | 29=>[0,1,2,3,5,6,7,8,9,10,15,4,11,12,13,14,16,17,18,19,20,21,22] | 14=>[0,1,2,3,5,6,7,8,9,10,11,16,4,12,13,14,15,17,18,19,20,21,22,23] | _=>[]) (by kernel_rfl) ?_
    simp only [stripS,skip_cons,skip_nil,Nat.reduceBEq,Bool.or_false,Bool.or_self,Bool.or_true,Bool.true_or,cond_true,cond_false,stripX,stripOps,pickOps]
    simp [-V.flat,-V.one,one_int,one_bool,one_str,one_nilp,one_rp,one_nilsl,one_ro,one_cl,one_nilf,one_nili,one_ifc,one_ptr,one_sl,one_clo,flat_d,flat_ptr,flat_sl,flat_clo,flat_agg,-decA,decA_int,decA_bool,decA_str]
    rw [aft_call]
    refine (pick_own G6 C code a5 s5 4 q5.cur hg (by omega) (by omega)).mono ?_
    rintro r G7 ⟨z,rfl,hz,hcu⟩
    obtain ⟨a7,s7,hb7,q7,k7,_,l7⟩:=q5.move hcu
    have qs7:=k7 _ _ qs5
    obtain ⟨z0,z4⟩:=hz.lt (by decide)
    obtain ⟨v7,r7,c7,id7,il7,bl7,ne7⟩:=q7.view (by decide)
    obtain ⟨b0,hb0,ok0⟩:=q7.get (i:=0) (by decide)
    have hb02:∀ h:0 < bs5.l.length,bs5.l[0]=b0:=fun h=>Option.some.inj ((List.getElem?_eq_getElem h).symm.trans hb0)
    have hb03:bs5.l[0]?.getD default=b0:=by rw [hb0];rfl
    have ln5:bs5.l.length=1:=q7.len
    have r7R:∀ R:Heap,(G7++R)[bs5.id]? = some (.row 5 (bs5.l.map Tr.cells)):=fun R=>(List.getElem?_append_left il7).trans r7
    have c7R:∀ R:Heap,(G7++R)[H.length + 1]? = some (.row 3 [[.d (.int .i64 pn),.sl bs5.id 5 0 1,.d (.int .i64 (pn + yn))]]):=fun R=>(List.getElem?_append_left bl7).trans c7
    have sK:∀ (R:Heap) P,(G7++R).set bs5.id P=G7.set bs5.id P++R:=fun R P=>List.set_append_left _ _ il7
    have gK:∀ (R:Heap) P,(G7.set bs5.id P++R)[bs5.id]? = some P:=fun R P=>(List.getElem?_append_left (by simpa using il7)).trans (List.getElem?_set_self il7)
    have gK0:∀ P,(G7.set bs5.id P)[bs5.id]? = some P:=fun P=>List.getElem?_set_self il7
    have gB:∀ (R:Heap) P,(G7.set bs5.id P++R)[H.length + 1]? = some (.row 3 [[.d (.int .i64 pn),.sl bs5.id 5 0 1,.d (.int .i64 (pn + yn))]]):=fun R P=>(List.getElem?_append_left (by simpa using bl7)).trans ((List.getElem?_set_ne ne7.symm).trans c7)
    have gB0:∀ P,(G7.set bs5.id P)[H.length + 1]? = some (.row 3 [[.d (.int .i64 pn),.sl bs5.id 5 0 1,.d (.int .i64 (pn + yn))]]):=fun P=>(List.getElem?_set_ne ne7.symm).trans c7
    have sK2:∀ (R:Heap) P Q,(G7.set bs5.id Q++R).set bs5.id P=G7.set bs5.id P++R:=fun R P Q=>by rw [List.set_append_left _ _ (by simpa using il7),List.set_set]
    have sB:∀ (R:Heap) P Q,(G7.set bs5.id Q++R).set (H.length + 1) P=(G7.set bs5.id Q).set (H.length + 1) P++R:=fun R P Q=>List.set_append_left _ _ (by simpa using bl7)
    have hlg:Enc.good last:=⟨by omega,by omega⟩
    obtain ⟨okn,⟨gd1,gd2,gd3,gd4,gd5⟩,okm⟩:=ok0
    have end_:∀ {nb:Nat} {G:Heap} {a s m:Int} {bs:AS ABlock} {sid:Nat} {l:List Int},Fs H H.length C (H.length + 1) code pn nb G a s m bs→Sn G C (H.length + 1) bs sid l→(a≤30000∧m≤300∧(l.length:Int)≤300)→0 < nb∧nb≤5→(∃ b,bs.l[0]? = some b∧0 < b.insts_.l.length) →
        ∃ a,(∃ nb,(∃ x x_1,FI H H.length C (H.length + 1) code pn nb 30 a x x_1)∧(0 < nb∧nb≤5))∧HLe G a:=fun q qs hb hn hf=>⟨_,⟨_,⟨_,_,_,_,_,_,_,q,qs,rfl,⟨by omega,by omega,by omega⟩,hf⟩,hn⟩,HLe.refl _⟩
    by_cases zz:z=0
    · simp [-V.flat,-V.one,one_int,one_bool,one_str,one_nilp,one_rp,one_nilsl,one_ro,one_cl,one_nilf,one_nili,one_ifc,one_ptr,one_sl,one_clo,flat_d,flat_ptr,flat_sl,flat_clo,flat_agg,-decA,decA_int,decA_bool,decA_str,zz,r7,c7,hb0,hb02,hb03,ln5]
      obtain ⟨f1,f2,f3⟩:=q7.upd hfirst hb0 (e:=b0.end_) (v:=last) (js:=b0.jumps_) (R:=[]) rfl (.inl rfl) gd3 hlg
      rw [List.append_nil] at f1 f2
      exact end_ f1 (f2 _ _ qs7) ⟨by omega,by omega,by omega⟩ (by decide) f3
    by_cases z1:z=1
    · simp [-V.flat,-V.one,one_int,one_bool,one_str,one_nilp,one_rp,one_nilsl,one_ro,one_cl,one_nilf,one_nili,one_ifc,one_ptr,one_sl,one_clo,flat_d,flat_ptr,flat_sl,flat_clo,flat_agg,-decA,decA_int,decA_bool,decA_str,zz,z1,r7,c7,hb0,hb02,hb03,ln5,r7R,c7R,sK,gK,gK0,gB,gB0,sK2,sB]
      obtain ⟨bsa,hbsa⟩:∃ bsa:AS ABlock,bsa=⟨bs5.v,bs5.l.set 0 ⟨b0.params_,b0.insts_,3,last,⟨.sl G7.length 2 0 2,[⟨1,⟨.d .nilsl,[]⟩⟩,⟨2,⟨.d .nilsl,[]⟩⟩]⟩⟩⟩:=⟨_,rfl⟩
      generalize hGa:G7.set bs5.id (.row 5 ((bs5.l.map Tr.cells).set 0 [.d (.int .i64 b0.params_),b0.insts_.v,.d (.int .i64 3),.d (.int .i64 last),.sl G7.length 2 0 2]))++[.row 2 [[.d (.int .i64 1),.d .nilsl],[.d (.int .i64 2),.d .nilsl]]]=Ga
      obtain ⟨qa,ka,fa⟩:=q7.jmp2 hfirst hb0 (e:=3) (v:=last) (t:=1) (u:=2) ⟨by decide,by decide⟩ hlg ⟨by decide,by decide⟩ ⟨by decide,by decide⟩ rfl rfl hbsa
      rw [hGa] at qa ka
      have qsa:=ka _ _ qs7
      refine W_loopH (α:=Nat × Heap) (fun b=>[(0,.ptr C 3 0 0),(2,.ptr H.length 2 0 0),(3,.ptr (H.length + 1) 3 0 0),(4,.sl sid5 1 0 l5.length),(6,.d (.int .i64 b.1))]) (fun b=>b.2)
        (fun b=>b.1≤2∧∃ (a s m:Int) (bs:AS ABlock),Fs H H.length C (H.length + 1) code pn (b.1 + 1) b.2 a s m bs∧Sn b.2 C (H.length + 1) bs sid5 l5∧(a≤12000 + 1000 * b.1∧m≤100 + 10 * b.1)∧∃ b,bs.l[0]? = some b∧0 < b.insts_.l.length) (fun b=>2 - b.1) (0,Ga) ?_ ⟨Nat.zero_le _,a7,s7,pn + yn,bsa,qa,qsa,⟨by simp only [];omega,by simp only [];omega⟩,fa⟩ ?_
      · simp
      rintro ⟨k,Gk⟩ ⟨hk,ak,sk,mk_,bsk,qk,qsk,hbk,fk⟩
      simp only [] at hk qk qsk hbk fk ⊢
      obtain ⟨vk,rk,ck,ilk,blk,nek,rkR,ckR,sKk,gKk,gKk0,gBk,gBk0,sK2k,sBk,sBk0,gPk,sPk⟩:=qk.vw (by omega)
      have lnk:=qk.len
      obtain rfl | rfl | rfl:k=0∨k=1∨k=2:=by omega
      · refine W_runS mixed [14,29] ⟨[],[],[78,104,105,106,107,71],375,H.length,[0,2,3,4,5,6,7,8,9,10,11,12,48,126,136,164,241],[126,136,164,241]⟩ (fun | 29=>[0,1,2,3,5,6,7,8,9,10,15,4,11,12,13,14,16,17,18,19,20,21,22] | 14=>[0,1,2,3,5,6,7,8,9,10,11,16,4,12,13,14,15,17,18,19,20,21,22,23] | _=>[]) (by kernel_rfl) ?_
        simp only [stripS,skip_cons,skip_nil,Nat.reduceBEq,Bool.or_false,Bool.or_self,Bool.or_true,Bool.true_or,cond_true,cond_false,stripX,stripOps,pickOps]
        simp [-V.flat,-V.one,one_int,one_bool,one_str,one_nilp,one_rp,one_nilsl,one_ro,one_cl,one_nilf,one_nili,one_ifc,one_ptr,one_sl,one_clo,flat_d,flat_ptr,flat_sl,flat_clo,flat_agg,-decA,decA_int,decA_bool,decA_str,rk,ck,lnk,rkR,ckR,sKk,gKk,gKk0,gBk,gBk0,sK2k,sBk,sBk0,gPk,sPk]
        have clk:List.take 1 (bsk.l.map Tr.cells)=bsk.l.map Tr.cells:=List.take_of_length_le (by simp [lnk])
        rw [clk]
        generalize hGb:(Gk.set bsk.id .dead).set (H.length + 1) (.row 3 [[.d (.int .i64 pn),.sl (Gk.length + 1) 5 0 2,.d (.int .i64 mk_)]])++[.row 5 [[.d (.int .i64 0),.d .nilsl,.d (.int .i64 2),.d (.int .i64 0),.d .nilsl]],.row 5 (bsk.l.map Tr.cells++[[.d (.int .i64 0),.d .nilsl,.d (.int .i64 2),.d (.int .i64 0),.d .nilsl]])]=Gb
        obtain ⟨bsb,hbsb⟩:∃ bsb:AS ABlock,bsb=⟨.sl (Gk.length + 1) 5 0 2,bsk.l++[⟨0,⟨.d .nilsl,[]⟩,2,0,⟨.d .nilsl,[]⟩⟩]⟩:=⟨_,rfl⟩
        obtain ⟨qb,kb,fb⟩:=qk.pushB (m':=mk_) (Int.le_refl _) fk (pr:=0) (en:=2) (v:=0) ⟨by decide,by decide⟩ ⟨by decide,by decide⟩ ⟨by decide,by decide⟩ (n:=2) rfl hbsb hGb.symm
        have qsb:=kb _ _ qsk
        have ka0:=qk.a0
        have km0:=qk.m0
        rw [aft_call]
        refine (pick_own Gb C code ak sk 3 qb.cur hg (by omega) (by omega)).mono ?_
        rintro r Gf ⟨w,rfl,hw,hcu⟩
        obtain ⟨af,sf,hbf,qf,kf,_,_⟩:=qb.move hcu
        have qsf:=kf _ _ qsb
        obtain ⟨w0,w3⟩:=hw.lt (by decide)
        obtain ⟨wn,hwn⟩:∃ wn:Nat,1 + w=wn:=⟨(1 + w).toNat,by omega⟩
        have wwn:IntKind.i64.wrap (1 + w)=wn:=by rw [wrap_id] <;> omega
        simp [-V.flat,-V.one,one_int,one_bool,one_str,one_nilp,one_rp,one_nilsl,one_ro,one_cl,one_nilf,one_nili,one_ifc,one_ptr,one_sl,one_clo,flat_d,flat_ptr,flat_sl,flat_clo,flat_agg,-decA,decA_int,decA_bool,decA_str,wwn]
        rw [aft_call]
        refine (insts_own Gf C (H.length + 1) code hg pn af sf mk_ bsb sid5 l5 wn qf.dw qsf (by rw [qf.len];decide) ⟨by omega,by omega⟩ ⟨by omega,by omega⟩ (by omega)).mono ?_
        rintro r Gg ⟨ag,sg,bsg,sidg,lg,rfl,wg,qsg,hbg,hfg⟩
        obtain ⟨qg,kg⟩:=qf.insts wg hbg.1 (by omega)
        have qs5g:=kg _ _ qsf
        have fg:∃ b,bsg.l[0]? = some b∧0 < b.insts_.l.length:=by
          obtain ⟨b,h1,h2⟩:=fb
          obtain ⟨b',h3,h4⟩:=wg.mono 0 b h1
          exact ⟨b',h3,by omega⟩
        simp [-V.flat,-V.one,one_int,one_bool,one_str,one_nilp,one_rp,one_nilsl,one_ro,one_cl,one_nilf,one_nili,one_ifc,one_ptr,one_sl,one_clo,flat_d,flat_ptr,flat_sl,flat_clo,flat_agg,-decA,decA_int,decA_bool,decA_str]
        rw [aft_call]
        refine (last_own Gg sidg lg qsg.row qsg.pos (by have:=qsg.le;omega)).mono ?_
        rintro r Gh ⟨xl,rfl,hxl,rfl⟩
        have hxg:=qsg.good xl hxl
        obtain ⟨vg,rg,cg,ilg,blg,neg,rgR,cgR,sKg,gKg,gKg0,gBg,gBg0,sK2g,sBg,sBg0,gPg,sPg⟩:=qg.vw (by decide)
        obtain ⟨b2,e1,⟨e2,⟨_,_,e5,e6,_⟩,_⟩,e3,e4⟩:=qg.el (i:=1) (by decide)
        have lng:bsg.l.length=2:=qg.len
        have wk1:IntKind.i64.wrap 1=1:=by decide
        simp [-V.flat,-V.one,one_int,one_bool,one_str,one_nilp,one_rp,one_nilsl,one_ro,one_cl,one_nilf,one_nili,one_ifc,one_ptr,one_sl,one_clo,flat_d,flat_ptr,flat_sl,flat_clo,flat_agg,-decA,decA_int,decA_bool,decA_str,wk1,rg,cg,e1,e3,e4,lng,rgR,cgR,sKg,gKg,gKg0,gBg,gBg0,sK2g,sBg,sBg0,gPg,sPg]
        obtain ⟨f1,f2,f3⟩:=qg.jmp1 fg e1 (e:=b2.end_) (v:=b2.value_) (t:=3) (xs:=[xl]) e5 e6 ⟨by decide,by decide⟩ ⟨by simp,fun x hx=>by rw [List.mem_singleton.1 hx];exact ⟨by omega,by omega⟩⟩ rfl rfl rfl
        exact ⟨1,_,⟨by decide,_,_,_,_,f1,f2 _ _ qs5g,⟨by omega,by omega⟩,f3⟩,by decide,rfl,rfl⟩
      · refine W_runS mixed [14,29] ⟨[],[],[78,104,105,106,107,71],375,H.length,[0,2,3,4,5,6,7,8,9,10,11,12,48,126,136,164,241],[126,136,164,241]⟩ (fun | 29=>[0,1,2,3,5,6,7,8,9,10,15,4,11,12,13,14,16,17,18,19,20,21,22] | 14=>[0,1,2,3,5,6,7,8,9,10,11,16,4,12,13,14,15,17,18,19,20,21,22,23] | _=>[]) (by kernel_rfl) ?_
        simp only [stripS,skip_cons,skip_nil,Nat.reduceBEq,Bool.or_false,Bool.or_self,Bool.or_true,Bool.true_or,cond_true,cond_false,stripX,stripOps,pickOps]
        simp [-V.flat,-V.one,one_int,one_bool,one_str,one_nilp,one_rp,one_nilsl,one_ro,one_cl,one_nilf,one_nili,one_ifc,one_ptr,one_sl,one_clo,flat_d,flat_ptr,flat_sl,flat_clo,flat_agg,-decA,decA_int,decA_bool,decA_str,rk,ck,lnk,rkR,ckR,sKk,gKk,gKk0,gBk,gBk0,sK2k,sBk,sBk0,gPk,sPk]
        have clk:List.take 2 (bsk.l.map Tr.cells)=bsk.l.map Tr.cells:=List.take_of_length_le (by simp [lnk])
        rw [clk]
        generalize hGb:(Gk.set bsk.id .dead).set (H.length + 1) (.row 3 [[.d (.int .i64 pn),.sl (Gk.length + 1) 5 0 3,.d (.int .i64 mk_)]])++[.row 5 [[.d (.int .i64 0),.d .nilsl,.d (.int .i64 2),.d (.int .i64 0),.d .nilsl]],.row 5 (bsk.l.map Tr.cells++[[.d (.int .i64 0),.d .nilsl,.d (.int .i64 2),.d (.int .i64 0),.d .nilsl]])]=Gb
        obtain ⟨bsb,hbsb⟩:∃ bsb:AS ABlock,bsb=⟨.sl (Gk.length + 1) 5 0 3,bsk.l++[⟨0,⟨.d .nilsl,[]⟩,2,0,⟨.d .nilsl,[]⟩⟩]⟩:=⟨_,rfl⟩
        obtain ⟨qb,kb,fb⟩:=qk.pushB (m':=mk_) (Int.le_refl _) fk (pr:=0) (en:=2) (v:=0) ⟨by decide,by decide⟩ ⟨by decide,by decide⟩ ⟨by decide,by decide⟩ (n:=3) rfl hbsb hGb.symm
        have qsb:=kb _ _ qsk
        have ka0:=qk.a0
        have km0:=qk.m0
        rw [aft_call]
        refine (pick_own Gb C code ak sk 3 qb.cur hg (by omega) (by omega)).mono ?_
        rintro r Gf ⟨w,rfl,hw,hcu⟩
        obtain ⟨af,sf,hbf,qf,kf,_,_⟩:=qb.move hcu
        have qsf:=kf _ _ qsb
        obtain ⟨w0,w3⟩:=hw.lt (by decide)
        obtain ⟨wn,hwn⟩:∃ wn:Nat,1 + w=wn:=⟨(1 + w).toNat,by omega⟩
        have wwn:IntKind.i64.wrap (1 + w)=wn:=by rw [wrap_id] <;> omega
        simp [-V.flat,-V.one,one_int,one_bool,one_str,one_nilp,one_rp,one_nilsl,one_ro,one_cl,one_nilf,one_nili,one_ifc,one_ptr,one_sl,one_clo,flat_d,flat_ptr,flat_sl,flat_clo,flat_agg,-decA,decA_int,decA_bool,decA_str,wwn]
        rw [aft_call]
        refine (insts_own Gf C (H.length + 1) code hg pn af sf mk_ bsb sid5 l5 wn qf.dw qsf (by rw [qf.len];decide) ⟨by omega,by omega⟩ ⟨by omega,by omega⟩ (by omega)).mono ?_
        rintro r Gg ⟨ag,sg,bsg,sidg,lg,rfl,wg,qsg,hbg,hfg⟩
        obtain ⟨qg,kg⟩:=qf.insts wg hbg.1 (by omega)
        have qs5g:=kg _ _ qsf
        have fg:∃ b,bsg.l[0]? = some b∧0 < b.insts_.l.length:=by
          obtain ⟨b,h1,h2⟩:=fb
          obtain ⟨b',h3,h4⟩:=wg.mono 0 b h1
          exact ⟨b',h3,by omega⟩
        simp [-V.flat,-V.one,one_int,one_bool,one_str,one_nilp,one_rp,one_nilsl,one_ro,one_cl,one_nilf,one_nili,one_ifc,one_ptr,one_sl,one_clo,flat_d,flat_ptr,flat_sl,flat_clo,flat_agg,-decA,decA_int,decA_bool,decA_str]
        rw [aft_call]
        refine (last_own Gg sidg lg qsg.row qsg.pos (by have:=qsg.le;omega)).mono ?_
        rintro r Gh ⟨xl,rfl,hxl,rfl⟩
        have hxg:=qsg.good xl hxl
        obtain ⟨vg,rg,cg,ilg,blg,neg,rgR,cgR,sKg,gKg,gKg0,gBg,gBg0,sK2g,sBg,sBg0,gPg,sPg⟩:=qg.vw (by decide)
        obtain ⟨b2,e1,⟨e2,⟨_,_,e5,e6,_⟩,_⟩,e3,e4⟩:=qg.el (i:=2) (by decide)
        have lng:bsg.l.length=3:=qg.len
        have wk1:IntKind.i64.wrap 2=2:=by decide
        simp [-V.flat,-V.one,one_int,one_bool,one_str,one_nilp,one_rp,one_nilsl,one_ro,one_cl,one_nilf,one_nili,one_ifc,one_ptr,one_sl,one_clo,flat_d,flat_ptr,flat_sl,flat_clo,flat_agg,-decA,decA_int,decA_bool,decA_str,wk1,rg,cg,e1,e3,e4,lng,rgR,cgR,sKg,gKg,gKg0,gBg,gBg0,sK2g,sBg,sBg0,gPg,sPg]
        obtain ⟨f1,f2,f3⟩:=qg.jmp1 fg e1 (e:=b2.end_) (v:=b2.value_) (t:=3) (xs:=[xl]) e5 e6 ⟨by decide,by decide⟩ ⟨by simp,fun x hx=>by rw [List.mem_singleton.1 hx];exact ⟨by omega,by omega⟩⟩ rfl rfl rfl
        exact ⟨2,_,⟨by decide,_,_,_,_,f1,f2 _ _ qs5g,⟨by omega,by omega⟩,f3⟩,by decide,rfl,rfl⟩
      · have ka0:=qk.a0
        have km0:=qk.m0
        have w9c:IntKind.i64.wrap (mk_ + 1)=mk_ + 1:=wrap_id (by omega) (by omega)
        refine W_runS mixed [14,29] ⟨[],[],[78,104,105,106,107,71],375,H.length,[0,2,3,4,5,6,7,8,9,10,11,12,48,126,136,164,241],[126,136,164,241]⟩ (fun | 29=>[0,1,2,3,5,6,7,8,9,10,15,4,11,12,13,14,16,17,18,19,20,21,22] | 14=>[0,1,2,3,5,6,7,8,9,10,11,16,4,12,13,14,15,17,18,19,20,21,22,23] | _=>[]) (by kernel_rfl) ?_
        simp only [stripS,skip_cons,skip_nil,Nat.reduceBEq,Bool.or_false,Bool.or_self,Bool.or_true,Bool.true_or,cond_true,cond_false,stripX,stripOps,pickOps]
        simp [-V.flat,-V.one,one_int,one_bool,one_str,one_nilp,one_rp,one_nilsl,one_ro,one_cl,one_nilf,one_nili,one_ifc,one_ptr,one_sl,one_clo,flat_d,flat_ptr,flat_sl,flat_clo,flat_agg,-decA,decA_int,decA_bool,decA_str,w9c,rk,ck,lnk,rkR,ckR,sKk,gKk,gKk0,gBk,gBk0,sK2k,sBk,sBk0,gPk,sPk]
        have clk:List.take 3 (bsk.l.map Tr.cells)=bsk.l.map Tr.cells:=List.take_of_length_le (by simp [lnk])
        rw [clk]
        generalize hGc:(Gk.set bsk.id .dead).set (H.length + 1) (.row 3 [[.d (.int .i64 pn),.sl (Gk.length + 1) 5 0 4,.d (.int .i64 (mk_ + 1))]])++[.row 5 [[.d (.int .i64 1),.d .nilsl,.d (.int .i64 1),.d (.int .i64 0),.d .nilsl]],.row 5 (bsk.l.map Tr.cells++[[.d (.int .i64 1),.d .nilsl,.d (.int .i64 1),.d (.int .i64 0),.d .nilsl]])]=Gc
        obtain ⟨bsc,hbsc⟩:∃ bsc:AS ABlock,bsc=⟨.sl (Gk.length + 1) 5 0 4,bsk.l++[⟨1,⟨.d .nilsl,[]⟩,1,0,⟨.d .nilsl,[]⟩⟩]⟩:=⟨_,rfl⟩
        obtain ⟨qc,kc,fc⟩:=qk.pushB (m':=mk_ + 1) (by omega) fk (pr:=1) (en:=1) (v:=0) ⟨by decide,by decide⟩ ⟨by decide,by decide⟩ ⟨by decide,by decide⟩ (n:=4) rfl hbsc hGc.symm
        have qsc:=kc _ _ qsk
        obtain ⟨vc,rc,cc,ilc,blc,nec,rcR,ccR,sKc,gKc,gKc0,gBc,gBc0,sK2c,sBc,sBc0,gPc,sPc⟩:=qc.vw (by decide)
        have lnc:bsc.l.length=4:=qc.len
        have wmc:IntKind.i64.wrap (mk_ + 1 - 1)=mk_:=by rw [wrap_id] <;> omega
        have scr:=qsc.row
        have scl:=qsc.lt
        refine W_drawC mixed ⟨[],[],[78,104,105,106,107,71],375,H.length,[0,2,3,4,5,6,7,8,9,10,11,12,48,126,136,164,241],[126,136,164,241]⟩ [0,1,2,3,4,5,6,7,8,9,10,11,12,15,20,21] [13,14,16,17,18,19] [22] (.alt 13 (.alt 14 (.alt 16 (.alt 17 (.alt 18 (.alt 19 .leaf .nil) .nil) .nil) .nil) .nil) .nil) (fun | 13=>[4] | 14=>[4] | 16=>[4] | 17=>[4] | 18=>[4] | 19=>[4] | _=>[]) [0,2,3,4,5,6,7,8,9,10,11,12,48,126,136,164,241,219,220,221,222,223,224,225,226,227,228,229,230,231,232,233,234,235,236,237,238,239,240] (by kernel_rfl) (by kernel_rfl) ?_
        simp only [stripOps,pickOps]
        simp [-V.flat,-V.one,one_int,one_bool,one_str,one_nilp,one_rp,one_nilsl,one_ro,one_cl,one_nilf,one_nili,one_ifc,one_ptr,one_sl,one_clo,flat_d,flat_ptr,flat_sl,flat_clo,flat_agg,-decA,decA_int,decA_bool,decA_str,rc,cc,lnc,rcR,ccR,sKc,gKc,gKc0,gBc,gBc0,wmc]
        have wmd:IntKind.i64.wrap mk_=mk_:=wrap_id (by omega) (by omega)
        have scR:∀ R:Heap,(Gc++R)[sid5]? = some (.row 1 (rI l5)):=fun R=>(List.getElem?_append_left scl).trans scr
        have scS:∀ (R:Heap) P,(Gc++R).set sid5 P=Gc.set sid5 P++R:=fun R P=>List.set_append_left _ _ scl
        have scB:∀ (R:Heap) P,(Gc.set sid5 P++R)[H.length + 1]? = some (.row 3 [[.d (.int .i64 pn),.sl bsc.id 5 0 4,.d (.int .i64 (mk_ + 1))]]):=fun R P=>(List.getElem?_append_left (by simpa using blc)).trans ((List.getElem?_set_ne qsc.nB).trans cc)
        refine denC_one ?_
        simp only [demC,stripOps,pickOps]
        simp [loadD,-V.flat,-V.one,one_int,one_bool,one_str,one_nilp,one_rp,one_nilsl,one_ro,one_cl,one_nilf,one_nili,one_ifc,one_ptr,one_sl,one_clo,flat_d,flat_ptr,flat_sl,flat_clo,flat_agg,-decA,decA_int,decA_bool,decA_str,cc,ccR,wmd]
        refine denC_one ?_
        simp only [demC,stripOps,pickOps]
        simp [loadD,-V.flat,-V.one,one_int,one_bool,one_str,one_nilp,one_rp,one_nilsl,one_ro,one_cl,one_nilf,one_nili,one_ifc,one_ptr,one_sl,one_clo,flat_d,flat_ptr,flat_sl,flat_clo,flat_agg,-decA,decA_int,decA_bool,decA_str,wmd,scR,scS,scB,cc,ccR]
        refine ⟨⟨by omega,by omega⟩, ?_⟩
        obtain ⟨lc,hlc⟩:∃ lc,lc=l5++[mk_]:=⟨_,rfl⟩
        have llc:lc.length=l5.length + 1:=by rw [hlc];simp
        obtain ⟨RL,hRL⟩:∃ RL,RL=[Place.row 1 [[V.d (.int .i64 mk_)]],Place.row 1 (List.map (fun n=>[V.d (D.int IntKind.i64 n)]) l5++[[V.d (.int .i64 mk_)]])]:=⟨_,rfl⟩
        have rowl:(Gc.set sid5 .dead++RL)[Gc.length + 1]? = some (.row 1 (rI lc)):=by rw [List.getElem?_append_right (by simp),hlc,hRL];simp
        have gc1:=qc.only.len
        have qe:=(qc.kill qsc.nC qsc.nB qsc.nb (by omega) (by omega) .dead).more RL
        rw [← hRL]
        generalize hGe:Gc.set sid5 .dead++RL=Ge at qe rowl ⊢
        have gcr:=qc.bd.own
        have qse:Sn Ge C (H.length + 1) bsc (Gc.length + 1) lc:=⟨rowl,by have:=qc.cl;omega,by omega,fun h=>by have:=qc.bd.own.lt h;omega,by omega,by omega,fun x hx=>by
          rw [hlc] at hx
          rcases List.mem_append.1 hx with h | h
          · exact qsc.good x h
          · rw [List.mem_singleton.1 h];exact ⟨by omega,by omega⟩⟩
        obtain ⟨ve,re,ce,_⟩:=qe.vw (by decide)
        refine denC_one ?_
        simp only [demC,stripOps,pickOps]
        simp [loadD,-V.flat,-V.one,one_int,one_bool,one_str,one_nilp,one_rp,one_nilsl,one_ro,one_cl,one_nilf,one_nili,one_ifc,one_ptr,one_sl,one_clo,flat_d,flat_ptr,flat_sl,flat_clo,flat_agg,-decA,decA_int,decA_bool,decA_str,ce]
        rw [aft_call]
        refine (pick_own Ge C code ak sk 3 qe.cur hg (by omega) (by omega)).mono ?_
        rintro r Gf ⟨w,rfl,hw,hcu⟩
        obtain ⟨af,sf,hbf,qf,kf,_,_⟩:=qe.move hcu
        have qsf:=kf _ _ qse
        obtain ⟨w0,w3⟩:=hw.lt (by decide)
        obtain ⟨wn,hwn⟩:∃ wn:Nat,1 + w=wn:=⟨(1 + w).toNat,by omega⟩
        have wwn:IntKind.i64.wrap (1 + w)=wn:=by rw [wrap_id] <;> omega
        obtain ⟨vf,rf,cf,_⟩:=qf.vw (by decide)
        simp [loadD,-V.flat,-V.one,one_int,one_bool,one_str,one_nilp,one_rp,one_nilsl,one_ro,one_cl,one_nilf,one_nili,one_ifc,one_ptr,one_sl,one_clo,flat_d,flat_ptr,flat_sl,flat_clo,flat_agg,-decA,decA_int,decA_bool,decA_str,ce,cf]
        refine denC_one ?_
        simp only [demC,stripOps,pickOps]
        simp [loadD,-V.flat,-V.one,one_int,one_bool,one_str,one_nilp,one_rp,one_nilsl,one_ro,one_cl,one_nilf,one_nili,one_ifc,one_ptr,one_sl,one_clo,flat_d,flat_ptr,flat_sl,flat_clo,flat_agg,-decA,decA_int,decA_bool,decA_str,cf,wwn]
        refine denC_one ?_
        simp only [demC,stripOps,pickOps]
        simp [loadD,-V.flat,-V.one,one_int,one_bool,one_str,one_nilp,one_rp,one_nilsl,one_ro,one_cl,one_nilf,one_nili,one_ifc,one_ptr,one_sl,one_clo,flat_d,flat_ptr,flat_sl,flat_clo,flat_agg,-decA,decA_int,decA_bool,decA_str,cf]
        rw [aft_call,← llc]
        refine (insts_own Gf C (H.length + 1) code hg pn af sf (mk_ + 1) bsc (Gc.length + 1) lc wn qf.dw qsf (by rw [qf.len];decide) ⟨by omega,by omega⟩ ⟨by omega,by omega⟩ (by omega)).mono ?_
        rintro r Gg ⟨ag,sg,bsg,sidg,lg,rfl,wg,qsg,hbg,hfg⟩
        obtain ⟨qg,kg⟩:=qf.insts wg hbg.1 (by omega)
        obtain ⟨hsg,hlg2,_⟩:=hfg (by omega)
        have idg:bsg.id=bsc.id:=congrArg V.slId wg.v
        have fg:∃ b,bsg.l[0]? = some b∧0 < b.insts_.l.length:=by
          obtain ⟨b,h1,h2⟩:=fc
          obtain ⟨b',h3,h4⟩:=wg.mono 0 b h1
          exact ⟨b',h3,by omega⟩
        obtain ⟨vg,rg,cg,_⟩:=qg.vw (by decide)
        rw [idg] at rg cg
        simp [loadD,-V.flat,-V.one,one_int,one_bool,one_str,one_nilp,one_rp,one_nilsl,one_ro,one_cl,one_nilf,one_nili,one_ifc,one_ptr,one_sl,one_clo,flat_d,flat_ptr,flat_sl,flat_clo,flat_agg,-decA,decA_int,decA_bool,decA_str,cf,cg]
        refine denC_one ?_
        simp only [demC,stripOps,pickOps]
        simp [loadD,-V.flat,-V.one,one_int,one_bool,one_str,one_nilp,one_rp,one_nilsl,one_ro,one_cl,one_nilf,one_nili,one_ifc,one_ptr,one_sl,one_clo,flat_d,flat_ptr,flat_sl,flat_clo,flat_agg,-decA,decA_int,decA_bool,decA_str,cg]
        rw [aft_call]
        refine (last_own Gg sidg lg qsg.row qsg.pos (by have:=qsg.le;omega)).mono ?_
        rintro r Gh ⟨xl,rfl,hxl,rfl⟩
        have hxg:=qsg.good xl hxl
        simp [loadD,-V.flat,-V.one,one_int,one_bool,one_str,one_nilp,one_rp,one_nilsl,one_ro,one_cl,one_nilf,one_nili,one_ifc,one_ptr,one_sl,one_clo,flat_d,flat_ptr,flat_sl,flat_clo,flat_agg,-decA,decA_int,decA_bool,decA_str,cg]
        obtain ⟨b2,e1,⟨e2,⟨_,_,e5,_,_⟩,_⟩,e3,e4⟩:=qg.el (i:=3) (by decide)
        have lng:bsg.l.length=4:=qg.len
        refine denC_leaf ?_
        simp only [stripOps,pickOps]
        simp [-V.flat,-V.one,one_int,one_bool,one_str,one_nilp,one_rp,one_nilsl,one_ro,one_cl,one_nilf,one_nili,one_ifc,one_ptr,one_sl,one_clo,flat_d,flat_ptr,flat_sl,flat_clo,flat_agg,-decA,decA_int,decA_bool,decA_str,rg,e1,e3,e4,lng]
        obtain ⟨f1,f2,f3⟩:=qg.upd fg e1 (e:=b2.end_) (v:=xl) (js:=b2.jumps_) (R:=[]) rfl (.inl rfl) e5 ⟨by omega,by omega⟩
        rw [List.append_nil,idg] at f1 f2
        exact end_ f1 (f2 _ _ qsg) ⟨by omega,by omega,by omega⟩ (by decide) f3
    by_cases z2:z=2
    · simp [-V.flat,-V.one,one_int,one_bool,one_str,one_nilp,one_rp,one_nilsl,one_ro,one_cl,one_nilf,one_nili,one_ifc,one_ptr,one_sl,one_clo,flat_d,flat_ptr,flat_sl,flat_clo,flat_agg,-decA,decA_int,decA_bool,decA_str,zz,z1,z2,r7,c7,hb0,hb02,hb03,ln5,r7R,c7R,sK,gK,gK0,gB,gB0,sK2,sB]
      rw [aft_call]
      refine (inst_own G7 (H.length + 1) pn _ 1 1 bs5 q7.bd (k:=0) ln5 (by decide) hb0 ⟨.d .nilsl,[]⟩ (nilI' _) ⟨rfl,rfl⟩ (fun j hj=>absurd hj List.not_mem_nil) ⟨by omega,by omega⟩ (by omega) okn).mono ?_
      rintro r Ga ⟨rfl,iva,hBa,hia,hoa⟩
      have wa:=(q7.dw.inst hb0 (op:=1) (n:=1) (args:=⟨.d .nilsl,[]⟩) ⟨by decide,by decide⟩ ⟨by decide,by decide⟩ (Nat.zero_le _) (fun x h=>absurd h List.not_mem_nil) (fun j hj=>absurd hj List.not_mem_nil) ⟨by omega,by omega⟩ hBa hia hoa)
      obtain ⟨qa,ka⟩:=q7.insts wa (Int.le_refl _) (by omega)
      have qsa:=ka _ _ qs7
      simp [-V.flat,-V.one,one_int,one_bool,one_str,one_nilp,one_rp,one_nilsl,one_ro,one_cl,one_nilf,one_nili,one_ifc,one_ptr,one_sl,one_clo,flat_d,flat_ptr,flat_sl,flat_clo,flat_agg,-decA,decA_int,decA_bool,decA_str]
      rw [aft_call]
      refine (pick_own Ga C code a7 s7 5 qa.cur hg (by omega) (by omega)).mono ?_
      rintro r Gb ⟨w,rfl,hw,hcu⟩
      obtain ⟨ab,sb,hbb,qb,kb,_,_⟩:=qa.move hcu
      have qsb:=kb _ _ qsa
      have fb:=wa.first hfirst
      obtain ⟨w0,w3⟩:=hw.lt (by decide)
      obtain ⟨b1,hb1,ok1,_⟩:=qb.el (i:=0) (by decide)
      simp [-V.flat,-V.one,one_int,one_bool,one_str,one_nilp,one_rp,one_nilsl,one_ro,one_cl,one_nilf,one_nili,one_ifc,one_ptr,one_sl,one_clo,flat_d,flat_ptr,flat_sl,flat_clo,flat_agg,-decA,decA_int,decA_bool,decA_str]
      rw [aft_call]
      refine (inst_own Gb (H.length + 1) pn _ 1 w _ qb.bd (k:=0) qb.len (by decide) hb1 ⟨.d .nilsl,[]⟩ (nilI' _) ⟨rfl,rfl⟩ (fun j hj=>absurd hj List.not_mem_nil) ⟨by omega,by omega⟩ (by have:=ok1.2.2;omega) ok1.1).mono ?_
      rintro r Gc ⟨rfl,ivc,hBc,hic,hoc⟩
      have wc:=(qb.dw.inst hb1 (op:=1) (n:=w) (args:=⟨.d .nilsl,[]⟩) ⟨by decide,by decide⟩ ⟨by omega,by omega⟩ (Nat.zero_le _) (fun x h=>absurd h List.not_mem_nil) (fun j hj=>absurd hj List.not_mem_nil) ⟨by omega,by omega⟩ hBc hic hoc)
      have fc:=wc.first fb
      obtain ⟨qc,kc⟩:=qb.insts wc (Int.le_refl _) (by omega)
      have qsc:=kc _ _ qsb
      generalize (⟨_,_⟩:AS ABlock)=bsc at qc kc qsc fc
      obtain ⟨vc,rc,cc,ilc,blc,nec,rcR,ccR,sKc,gKc,gKc0,gBc,gBc0,sK2c,sBc,sBc0,gPc,sPc⟩:=qc.vw (by decide)
      have lnc:bsc.l.length=1:=qc.len
      obtain ⟨b2,e1,⟨e2,⟨_,_,e5,e6,_⟩,_⟩,e3,e4⟩:=qc.el (i:=0) (by decide)
      have scr:=qsc.row
      have scl:=qsc.lt
      have scn:bsc.id ≠ sid5:=fun e=>qsc.nb (e ▸ (qc.view (by decide)).2.2.2.1)
      have scR:∀ R:Heap,(Gc++R)[sid5]? = some (.row 1 (rI l5)):=fun R=>(List.getElem?_append_left scl).trans scr
      have scS:∀ (R:Heap) P,(Gc++R).set sid5 P=Gc.set sid5 P++R:=fun R P=>List.set_append_left _ _ scl
      simp [-V.flat,-V.one,one_int,one_bool,one_str,one_nilp,one_rp,one_nilsl,one_ro,one_cl,one_nilf,one_nili,one_ifc,one_ptr,one_sl,one_clo,flat_d,flat_ptr,flat_sl,flat_clo,flat_agg,-decA,decA_int,decA_bool,decA_str,lnc,e1,e3,e4,rc,cc,rcR,ccR,scr,scR,scS]
      refine ⟨⟨by omega,by omega⟩, ?_⟩
      obtain ⟨ld,hld⟩:∃ ld,ld=l5++[(pn:Int) + yn,(pn:Int) + yn + 1]:=⟨_,rfl⟩
      have lld:ld.length=l5.length + 2:=by rw [hld];simp
      obtain ⟨RL,hRL⟩:∃ RL,RL=[Place.row 1 [[V.d (.int .i64 ((pn:Int) + yn))],[V.d (.int .i64 ((pn:Int) + yn + 1))]],Place.row 1 (List.map (fun n=>[V.d (D.int IntKind.i64 n)]) l5++[[V.d (.int .i64 ((pn:Int) + yn))],[V.d (.int .i64 ((pn:Int) + yn + 1))]])]:=⟨_,rfl⟩
      have rowl:(Gc.set sid5 .dead++RL)[Gc.length + 1]? = some (.row 1 (rI ld)):=by rw [List.getElem?_append_right (by simp),hld,hRL];simp
      have gc1:=qc.only.len
      have qd:=(qc.kill qsc.nC qsc.nB qsc.nb (by omega) (by omega) .dead).more RL
      rw [← hRL]
      generalize hGd:Gc.set sid5 .dead++RL=Gd at qd rowl ⊢
      have qsd:Sn Gd C (H.length + 1) bsc (Gc.length + 1) ld:=⟨rowl,by have:=qc.cl;omega,by omega,fun h=>by have:=qc.bd.own.lt h;omega,by omega,by omega,fun x hx=>by
        rw [hld] at hx
        rcases List.mem_append.1 hx with h | h
        · exact qsc.good x h
        · rcases List.mem_cons.1 h with h | h
          · rw [h];exact ⟨by omega,by omega⟩
          · rw [List.mem_singleton.1 h];exact ⟨by omega,by omega⟩⟩
      obtain ⟨vd,rd,cd,ild,bld,ned,rdR,cdR,sKd,gKd,gKd0,gBd,gBd0,sK2d,sBd,sBd0,gPd,sPd⟩:=qd.vw (by decide)
      have lnd:bsc.l.length=1:=qd.len
      have t1:∀ X,List.take 1 ((bsc.l.map Tr.cells).set 0 X)=(bsc.l.map Tr.cells).set 0 X:=fun X=>List.take_of_length_le (by simp [lnd])
      have t2:∀ X Y,List.take 2 ((bsc.l.map Tr.cells).set 0 X++[Y])=(bsc.l.map Tr.cells).set 0 X++[Y]:=fun X Y=>List.take_of_length_le (by simp [lnd])
      have w2d:IntKind.i64.wrap ((pn:Int) + yn + 1 + 1 + 2)=(pn:Int) + yn + 1 + 1 + 2:=wrap_id (by omega) (by omega)
      simp [-V.flat,-V.one,one_int,one_bool,one_str,one_nilp,one_rp,one_nilsl,one_ro,one_cl,one_nilf,one_nili,one_ifc,one_ptr,one_sl,one_clo,flat_d,flat_ptr,flat_sl,flat_clo,flat_agg,-decA,decA_int,decA_bool,decA_str,t1,t2,w2d,e1,e3,e4,rd,cd,lnd,rdR,cdR,sKd,gKd,gKd0,gBd,gBd0,sK2d,sBd,sBd0,gPd,sPd]
      obtain ⟨bse,hbse⟩:∃ bse:AS ABlock,bse=⟨bsc.v,bsc.l.set 0 ⟨b2.params_,b2.insts_,2,b2.value_,⟨.sl (Gd.length + 1) 2 0 1,[⟨1,⟨.sl Gd.length 1 0 2,[(pn:Int) + yn + 1,last]⟩⟩]⟩⟩⟩:=⟨_,rfl⟩
      obtain ⟨Ge,hGe⟩:∃ Ge,Ge=Gd.set bsc.id (.row 5 ((bsc.l.map Tr.cells).set 0 [.d (.int .i64 b2.params_),b2.insts_.v,.d (.int .i64 2),.d (.int .i64 b2.value_),.sl (Gd.length + 1) 2 0 1]))++[.row 1 (rI [(pn:Int) + yn + 1,last]),.row 2 [[.d (.int .i64 1),.sl Gd.length 1 0 [(pn:Int) + yn + 1,last].length]]]:=⟨_,rfl⟩
      obtain ⟨qe,ke,fe⟩:=qd.jmp1 fc e1 (e:=2) (v:=b2.value_) (t:=1) (xs:=[(pn:Int) + yn + 1,last]) ⟨by decide,by decide⟩ e6 ⟨by decide,by decide⟩ ⟨by simp,fun x hx=>by
        rcases List.mem_cons.1 hx with h | h
        · rw [h];exact ⟨by omega,by omega⟩
        · rw [List.mem_singleton.1 h];exact hlg⟩ rfl rfl hbse
      rw [← hGe] at qe ke
      obtain ⟨bsf,hbsf⟩:∃ bsf:AS ABlock,bsf=⟨.sl (Ge.length + 1) 5 0 2,bse.l++[⟨2,⟨.d .nilsl,[]⟩,3,0,⟨.d .nilsl,[]⟩⟩]⟩:=⟨_,rfl⟩
      obtain ⟨Gf,hGf⟩:∃ Gf,Gf=(Ge.set bse.id .dead).set (H.length + 1) (.row 3 [[.d (.int .i64 pn),.sl (Ge.length + 1) 5 0 2,.d (.int .i64 ((pn:Int) + yn + 1 + 1 + 2))]])++[.row 5 [[.d (.int .i64 2),.d .nilsl,.d (.int .i64 3),.d (.int .i64 0),.d .nilsl]],.row 5 (bse.l.map Tr.cells++[[.d (.int .i64 2),.d .nilsl,.d (.int .i64 3),.d (.int .i64 0),.d .nilsl]])]:=⟨_,rfl⟩
      obtain ⟨qf,kf,ff⟩:=qe.pushB (m':=((pn:Int) + yn + 1 + 1 + 2)) (by omega) fe (pr:=2) (en:=3) (v:=0) ⟨by decide,by decide⟩ ⟨by decide,by decide⟩ ⟨by decide,by decide⟩ (n:=2) rfl hbsf hGf
      have hf1:bsf.l[1]? = some ⟨2,⟨.d .nilsl,[]⟩,3,0,⟨.d .nilsl,[]⟩⟩:=by rw [hbsf,List.getElem?_append_right (by rw [qe.len];decide),qe.len];rfl
      obtain ⟨bsg,hbsg⟩:∃ bsg:AS ABlock,bsg=⟨bsf.v,bsf.l.set 1 ⟨2,⟨.d .nilsl,[]⟩,3,(pn:Int) + yn + 1 + 1,⟨.sl Gf.length 2 0 2,[⟨2,⟨.d .nilsl,[]⟩⟩,⟨3,⟨.d .nilsl,[]⟩⟩]⟩⟩⟩:=⟨_,rfl⟩
      obtain ⟨Gg,hGg⟩:∃ Gg,Gg=Gf.set bsf.id (.row 5 ((bsf.l.map Tr.cells).set 1 [.d (.int .i64 2),.d .nilsl,.d (.int .i64 3),.d (.int .i64 ((pn:Int) + yn + 1 + 1)),.sl Gf.length 2 0 2]))++[.row 2 [[.d (.int .i64 2),.d .nilsl],[.d (.int .i64 3),.d .nilsl]]]:=⟨_,rfl⟩
      obtain ⟨qg,kg,fg⟩:=qf.jmp2 ff hf1 (e:=3) (v:=(pn:Int) + yn + 1 + 1) (t:=2) (u:=3) ⟨by decide,by decide⟩ ⟨by omega,by omega⟩ ⟨by decide,by decide⟩ ⟨by decide,by decide⟩ rfl rfl hbsg
      rw [← hGg] at qg kg
      obtain ⟨bsh,hbsh⟩:∃ bsh:AS ABlock,bsh=⟨.sl (Gg.length + 1) 5 0 3,bsg.l++[⟨0,⟨.d .nilsl,[]⟩,2,0,⟨.d .nilsl,[]⟩⟩]⟩:=⟨_,rfl⟩
      obtain ⟨Gh,hGh⟩:∃ Gh,Gh=(Gg.set bsg.id .dead).set (H.length + 1) (.row 3 [[.d (.int .i64 pn),.sl (Gg.length + 1) 5 0 3,.d (.int .i64 ((pn:Int) + yn + 1 + 1 + 2))]])++[.row 5 [[.d (.int .i64 0),.d .nilsl,.d (.int .i64 2),.d (.int .i64 0),.d .nilsl]],.row 5 (bsg.l.map Tr.cells++[[.d (.int .i64 0),.d .nilsl,.d (.int .i64 2),.d (.int .i64 0),.d .nilsl]])]:=⟨_,rfl⟩
      obtain ⟨qh,kh,fh⟩:=qg.pushB (m':=((pn:Int) + yn + 1 + 1 + 2)) (Int.le_refl _) fg (pr:=0) (en:=2) (v:=0) ⟨by decide,by decide⟩ ⟨by decide,by decide⟩ ⟨by decide,by decide⟩ (n:=3) rfl hbsh hGh
      have qsh:=kh _ _ (kg _ _ (kf _ _ (ke _ _ qsd)))
      have lGe:Ge.length=Gd.length + 2:=by rw [hGe];simp
      have lGf:Gf.length=Gd.length + 4:=by rw [hGf];simp [lGe]
      have lGg:Gg.length=Gd.length + 5:=by rw [hGg];simp [lGf]
      have i1:bse.id=bsc.id:=by rw [hbse];rfl
      have i2:bsf.id=Gd.length + 3:=by rw [hbsf,lGe];rfl
      have i3:bsg.id=Gd.length + 3:=by rw [hbsg];exact i2
      have lce:bse.l.map Tr.cells=(bsc.l.map Tr.cells).set 0 [.d (.int .i64 b2.params_),b2.insts_.v,.d (.int .i64 2),.d (.int .i64 b2.value_),.sl (Gd.length + 1) 2 0 1]:=by rw [hbse];exact List.map_set
      have lcg:bsg.l.map Tr.cells=bse.l.map Tr.cells++[[.d (.int .i64 2),.d .nilsl,.d (.int .i64 3),.d (.int .i64 ((pn:Int) + yn + 1 + 1)),.sl (Gd.length + 4) 2 0 2]]:=by
        rw [hbsg,hbsf,← lGf]
        show List.map Tr.cells ((bse.l++[_]).set 1 _)=_
        rw [List.set_append,if_neg (by rw [qe.len];decide),qe.len,List.map_append]
        rfl
      have nl3:¬ (Gd.length + 3 < Gd.length):=by omega
      have hEq:(Gd.set bsc.id .dead).set (H.length + 1) (.row 3 [[.d (.int .i64 pn),.sl (Gd.length + 6) 5 0 3,.d (.int .i64 ((pn:Int) + yn + 1 + 1 + 2))]])++[.row 1 [[.d (.int .i64 ((pn:Int) + yn + 1))],[.d (.int .i64 last)]],.row 2 [[.d (.int .i64 1),.sl Gd.length 1 0 2]],.row 5 [[.d (.int .i64 2),.d .nilsl,.d (.int .i64 3),.d (.int .i64 0),.d .nilsl]],.dead,.row 2 [[.d (.int .i64 2),.d .nilsl],[.d (.int .i64 3),.d .nilsl]],.row 5 [[.d (.int .i64 0),.d .nilsl,.d (.int .i64 2),.d (.int .i64 0),.d .nilsl]],.row 5 ((bsc.l.map Tr.cells).set 0 [.d (.int .i64 b2.params_),b2.insts_.v,.d (.int .i64 2),.d (.int .i64 b2.value_),.sl (Gd.length + 1) 2 0 1]++[[.d (.int .i64 2),.d .nilsl,.d (.int .i64 3),.d (.int .i64 ((pn:Int) + yn + 1 + 1)),.sl (Gd.length + 4) 2 0 2],[.d (.int .i64 0),.d .nilsl,.d (.int .i64 2),.d (.int .i64 0),.d .nilsl]])]=Gh:=by
        rw [hGh,lGg,i3,lcg,lce,hGg,lGf,i2,hGf,i1,lGe,hGe,sK2d,sBd]
        simp [List.set_append,nl3,bld,ild]
      rw [hEq]
      rw [aft_call,← lld]
      refine (l1Own_pl Gh (Gc.length + 1) ld qsh.row (by omega)).mono ?_
      rintro r Gi ⟨rfl,rfl⟩
      have w1n:IntKind.i64.wrap ((pn:Int) + yn + 1 + 1 + 1)=(pn:Int) + yn + 1 + 1 + 1:=wrap_id (by omega) (by omega)
      simp [-V.flat,-V.one,one_int,one_bool,one_str,one_nilp,one_rp,one_nilsl,one_ro,one_cl,one_nilf,one_nili,one_ifc,one_ptr,one_sl,one_clo,flat_d,flat_ptr,flat_sl,flat_clo,flat_agg,-decA,decA_int,decA_bool,decA_str,w1n]
      refine ⟨⟨by omega,by omega⟩, ?_⟩
      obtain ⟨li,hli⟩:∃ li,li=ld++[(pn:Int) + yn + 1 + 1,(pn:Int) + yn + 1 + 1 + 1]:=⟨_,rfl⟩
      have lli:li.length=ld.length + 2:=by rw [hli];simp
      obtain ⟨RI,hRI⟩:∃ RI,RI=[Place.dead,Place.dead,Place.row 1 [[V.d (.int .i64 ((pn:Int) + yn + 1 + 1))],[V.d (.int .i64 ((pn:Int) + yn + 1 + 1 + 1))]],Place.row 1 (List.map (fun n=>[V.d (D.int IntKind.i64 n)]) ld++[[V.d (.int .i64 ((pn:Int) + yn + 1 + 1))],[V.d (.int .i64 ((pn:Int) + yn + 1 + 1 + 1))]])]:=⟨_,rfl⟩
      have rowi:(Gh++RI)[Gh.length + 3]? = some (.row 1 (rI li)):=by rw [List.getElem?_append_right (by omega),hli,hRI];simp
      have qi:=qh.more RI
      have gh1:=qh.only.len
      rw [← hRI]
      have qsi:Sn (Gh++RI) C (H.length + 1) bsh (Gh.length + 3) li:=⟨rowi,by have:=qh.cl;omega,by omega,fun h=>by have:=qh.bd.own.lt h;omega,by omega,by omega,fun x hx=>by
        rw [hli] at hx
        rcases List.mem_append.1 hx with h | h
        · exact qsd.good x h
        · rcases List.mem_cons.1 h with h | h
          · rw [h];exact ⟨by omega,by omega⟩
          · rw [List.mem_singleton.1 h];exact ⟨by omega,by omega⟩⟩
      generalize hGi:Gh++RI=Gi at qi rowi qsi ⊢
      rw [aft_call]
      refine (pick_own Gi C code ab sb 3 qi.cur hg (by omega) (by omega)).mono ?_
      rintro r Gj ⟨u,rfl,hu,hcu2⟩
      obtain ⟨aj,sj,hbj,qj,kj,_,_⟩:=qi.move hcu2
      have qsj:=kj _ _ qsi
      obtain ⟨u0,u3⟩:=hu.lt (by decide)
      obtain ⟨wn,hwn⟩:∃ wn:Nat,1 + u=wn:=⟨(1 + u).toNat,by omega⟩
      have wwn:IntKind.i64.wrap (1 + u)=wn:=by rw [wrap_id] <;> omega
      simp [-V.flat,-V.one,one_int,one_bool,one_str,one_nilp,one_rp,one_nilsl,one_ro,one_cl,one_nilf,one_nili,one_ifc,one_ptr,one_sl,one_clo,flat_d,flat_ptr,flat_sl,flat_clo,flat_agg,-decA,decA_int,decA_bool,decA_str,wwn]
      rw [aft_call]
      rw [← lli]
      refine (insts_own Gj C (H.length + 1) code hg pn aj sj ((pn:Int) + yn + 1 + 1 + 2) bsh (Gh.length + 3) li wn qj.dw qsj (by rw [qj.len];decide) ⟨by omega,by omega⟩ ⟨by omega,by omega⟩ (by omega)).mono ?_
      rintro r Gk ⟨ak,sk,bsk,sidk,lk,rfl,wk,qsk,hbk,hfk⟩
      obtain ⟨qk,kk⟩:=qj.insts wk hbk.1 (by omega)
      obtain ⟨hsk,hlk2,_⟩:=hfk (by omega)
      have fk:=wk.first fh
      simp [-V.flat,-V.one,one_int,one_bool,one_str,one_nilp,one_rp,one_nilsl,one_ro,one_cl,one_nilf,one_nili,one_ifc,one_ptr,one_sl,one_clo,flat_d,flat_ptr,flat_sl,flat_clo,flat_agg,-decA,decA_int,decA_bool,decA_str]
      rw [aft_call]
      refine (last_own Gk sidk lk qsk.row qsk.pos (by have:=qsk.le;omega)).mono ?_
      rintro r Gl ⟨xl,rfl,hxl,rfl⟩
      have hxg:=qsk.good xl hxl
      simp [-V.flat,-V.one,one_int,one_bool,one_str,one_nilp,one_rp,one_nilsl,one_ro,one_cl,one_nilf,one_nili,one_ifc,one_ptr,one_sl,one_clo,flat_d,flat_ptr,flat_sl,flat_clo,flat_agg,-decA,decA_int,decA_bool,decA_str]
      rw [aft_call]
      have ae:Own (Gl++[Place.row 1 (rI [(pn:Int) + yn + 1 + 1,(pn:Int) + yn])]) (⟨.sl Gl.length 1 0 2,[(pn:Int) + yn + 1 + 1,(pn:Int) + yn]⟩:AS Int):=own_row (H:=Gl++[Place.row 1 (rI [(pn:Int) + yn + 1 + 1,(pn:Int) + yn])]) (l:=[(pn:Int) + yn + 1 + 1,(pn:Int) + yn]) (id:=Gl.length) (by rw [List.getElem?_append_right (Nat.le_refl _),Nat.sub_self];rfl)
      have ai:∀ j∈ids (⟨.sl Gl.length 1 0 2,[(pn:Int) + yn + 1 + 1,(pn:Int) + yn]⟩:AS Int),j=Gl.length:=fun j hj=>List.mem_singleton.1 hj
      obtain ⟨b4,hb4',ok4,_⟩:=qk.el (i:=2) (by decide)
      have km0:=qk.m0
      have gl1:=qk.only.len
      have qkm:=qk.more [Place.row 1 (rI [(pn:Int) + yn + 1 + 1,(pn:Int) + yn])]
      have qkd:=qk.dw.more [Place.row 1 (rI [(pn:Int) + yn + 1 + 1,(pn:Int) + yn])]
      have qkc:=qk.cl
      refine (inst_own (Gl++[Place.row 1 (rI [(pn:Int) + yn + 1 + 1,(pn:Int) + yn])]) (H.length + 1) pn _ 5 0 _ qkm.bd (k:=2) qk.len (by decide) hb4' ⟨.sl Gl.length 1 0 2,[(pn:Int) + yn + 1 + 1,(pn:Int) + yn]⟩ ae ⟨rfl,rfl⟩ (fun j hj=>by
        have:=ai j hj
        exact ⟨fun h=>by have:=qk.bd.own.lt h;omega,by have:=qk.bd.lt;omega⟩) ⟨by omega,by omega⟩ (by have:=ok4.2.2;omega) ok4.1).mono ?_
      rintro r Gm ⟨rfl,ivm,hBm,him,hom⟩
      have wm:=(qkd.inst hb4' (op:=5) (n:=0) (args:=⟨.sl Gl.length 1 0 2,[(pn:Int) + yn + 1 + 1,(pn:Int) + yn]⟩) ⟨by decide,by decide⟩ ⟨by decide,by decide⟩ (by show 2≤100;decide) (fun x hx=>by
        rcases List.mem_cons.1 hx with h | h
        · rw [h];exact ⟨by omega,by omega⟩
        · rw [List.mem_singleton.1 h];exact ⟨by omega,by omega⟩) (fun j hj=>by have:=ai j hj;exact ⟨by omega,by omega⟩) ⟨by omega,by omega⟩ hBm him hom)
      have fm:=wm.first fk
      obtain ⟨qm,km⟩:=qk.insts wm (Int.le_refl _) (by omega)
      have qsm:=km _ _ qsk
      generalize (⟨_,_⟩:AS ABlock)=bsm at qm km qsm fm
      obtain ⟨vm,rm,cm,ilm,blm,nem,rmR,cmR,sKm,gKm,gKm0,gBm,gBm0,sK2m,sBm,sBm0,gPm,sPm⟩:=qm.vw (by decide)
      have lnm:bsm.l.length=3:=qm.len
      obtain ⟨b5,p1,⟨p2,⟨_,_,p5,p6,_⟩,_⟩,p3,p4⟩:=qm.el (i:=2) (by decide)
      have t3:∀ X,List.take 3 ((bsm.l.map Tr.cells).set 2 X)=(bsm.l.map Tr.cells).set 2 X:=fun X=>List.take_of_length_le (by simp [lnm])
      simp [-V.flat,-V.one,one_int,one_bool,one_str,one_nilp,one_rp,one_nilsl,one_ro,one_cl,one_nilf,one_nili,one_ifc,one_ptr,one_sl,one_clo,flat_d,flat_ptr,flat_sl,flat_clo,flat_agg,-decA,decA_int,decA_bool,decA_str,w1n,t3,p1,p3,p4,rm,cm,lnm,rmR,cmR,sKm,gKm,gKm0,gBm,gBm0,sK2m,sBm,sBm0,gPm,sPm]
      obtain ⟨bsn,hbsn⟩:∃ bsn:AS ABlock,bsn=⟨bsm.v,bsm.l.set 2 ⟨b5.params_,b5.insts_,b5.end_,b5.value_,⟨.sl (Gm.length + 1) 2 0 1,[⟨1,⟨.sl Gm.length 1 0 2,[(pn:Int) + yn + 1 + 1 + 2 + wn,xl]⟩⟩]⟩⟩⟩:=⟨_,rfl⟩
      obtain ⟨Gn,hGn⟩:∃ Gn,Gn=Gm.set bsm.id (.row 5 ((bsm.l.map Tr.cells).set 2 [.d (.int .i64 b5.params_),b5.insts_.v,.d (.int .i64 b5.end_),.d (.int .i64 b5.value_),.sl (Gm.length + 1) 2 0 1]))++[.row 1 (rI [(pn:Int) + yn + 1 + 1 + 2 + wn,xl]),.row 2 [[.d (.int .i64 1),.sl Gm.length 1 0 [(pn:Int) + yn + 1 + 1 + 2 + wn,xl].length]]]:=⟨_,rfl⟩
      obtain ⟨qn,kn,fn⟩:=qm.jmp1 fm p1 (e:=b5.end_) (v:=b5.value_) (t:=1) (xs:=[(pn:Int) + yn + 1 + 1 + 2 + wn,xl]) p5 p6 ⟨by decide,by decide⟩ ⟨by simp,fun x hx=>by
        rcases List.mem_cons.1 hx with h | h
        · rw [h];exact ⟨by omega,by omega⟩
        · rw [List.mem_singleton.1 h];exact ⟨by omega,by omega⟩⟩ rfl rfl hbsn
      rw [← hGn] at qn kn
      obtain ⟨bso,hbso⟩:∃ bso:AS ABlock,bso=⟨.sl (Gn.length + 1) 5 0 4,bsn.l++[⟨0,⟨.d .nilsl,[]⟩,1,(pn:Int) + yn + 1 + 1 + 1,⟨.d .nilsl,[]⟩⟩]⟩:=⟨_,rfl⟩
      obtain ⟨Go,hGo⟩:∃ Go,Go=(Gn.set bsn.id .dead).set (H.length + 1) (.row 3 [[.d (.int .i64 pn),.sl (Gn.length + 1) 5 0 4,.d (.int .i64 ((pn:Int) + yn + 1 + 1 + 2 + wn + 1))]])++[.row 5 [[.d (.int .i64 0),.d .nilsl,.d (.int .i64 1),.d (.int .i64 ((pn:Int) + yn + 1 + 1 + 1)),.d .nilsl]],.row 5 (bsn.l.map Tr.cells++[[.d (.int .i64 0),.d .nilsl,.d (.int .i64 1),.d (.int .i64 ((pn:Int) + yn + 1 + 1 + 1)),.d .nilsl]])]:=⟨_,rfl⟩
      obtain ⟨qo,ko,fo⟩:=qn.pushB (m':=((pn:Int) + yn + 1 + 1 + 2 + wn + 1)) (Int.le_refl _) fn (pr:=0) (en:=1) (v:=(pn:Int) + yn + 1 + 1 + 1) ⟨by decide,by decide⟩ ⟨by decide,by decide⟩ ⟨by omega,by omega⟩ (n:=4) rfl hbso hGo
      have qso:=ko _ _ (kn _ _ qsm)
      have lGn:Gn.length=Gm.length + 2:=by rw [hGn];simp
      have in1:bsn.id=bsm.id:=by rw [hbsn];rfl
      have lcn:bsn.l.map Tr.cells=(bsm.l.map Tr.cells).set 2 [.d (.int .i64 b5.params_),b5.insts_.v,.d (.int .i64 b5.end_),.d (.int .i64 b5.value_),.sl (Gm.length + 1) 2 0 1]:=by rw [hbsn];exact List.map_set
      have hEq2:(Gm.set bsm.id .dead).set (H.length + 1) (.row 3 [[.d (.int .i64 pn),.sl (Gm.length + 3) 5 0 4,.d (.int .i64 ((pn:Int) + yn + 1 + 1 + 2 + wn + 1))]])++[.row 1 [[.d (.int .i64 ((pn:Int) + yn + 1 + 1 + 2 + wn))],[.d (.int .i64 xl)]],.row 2 [[.d (.int .i64 1),.sl Gm.length 1 0 2]],.row 5 [[.d (.int .i64 0),.d .nilsl,.d (.int .i64 1),.d (.int .i64 ((pn:Int) + yn + 1 + 1 + 1)),.d .nilsl]],.row 5 ((bsm.l.map Tr.cells).set 2 [.d (.int .i64 b5.params_),b5.insts_.v,.d (.int .i64 b5.end_),.d (.int .i64 b5.value_),.sl (Gm.length + 1) 2 0 1]++[[.d (.int .i64 0),.d .nilsl,.d (.int .i64 1),.d (.int .i64 ((pn:Int) + yn + 1 + 1 + 1)),.d .nilsl]])]=Go:=by
        rw [hGo,lcn,in1,lGn,hGn,sK2m,sBm]
        simp
      rw [hEq2]
      exact end_ qo qso ⟨by omega,by omega,by omega⟩ (by decide) fo
    · simp [-V.flat,-V.one,one_int,one_bool,one_str,one_nilp,one_rp,one_nilsl,one_ro,one_cl,one_nilf,one_nili,one_ifc,one_ptr,one_sl,one_clo,flat_d,flat_ptr,flat_sl,flat_clo,flat_agg,-decA,decA_int,decA_bool,decA_str,zz,z1,z2,r7,c7,hb0,hb02,hb03,ln5,r7R,c7R,sK,gK,gK0,gB,gB0,sK2,sB]
      obtain ⟨Pa,hPa⟩:∃ Pa,Pa=Place.row 5 ((bs5.l.map Tr.cells).set 0 [.d (.int .i64 b0.params_),b0.insts_.v,.d (.int .i64 2),.d (.int .i64 b0.value_),.sl (G7.length + 1) 2 0 1]):=⟨_,rfl⟩
      obtain ⟨bsa,hbsa⟩:∃ bsa:AS ABlock,bsa=⟨bs5.v,bs5.l.set 0 ⟨b0.params_,b0.insts_,2,b0.value_,⟨.sl (G7.length + 1) 2 0 1,[⟨2,⟨.sl G7.length 1 0 [last].length,[last]⟩⟩]⟩⟩⟩:=⟨_,rfl⟩
      obtain ⟨qa,ka,fa⟩:=q7.jmp1 hfirst hb0 (e:=2) (v:=b0.value_) (t:=2) (xs:=[last]) ⟨by decide,by decide⟩ gd4 ⟨by decide,by decide⟩ ⟨by simp,fun w hw=>by rw [List.mem_singleton.1 hw];exact hlg⟩ hPa rfl hbsa
      have ida:bsa.id=bs5.id:=by rw [hbsa];rfl
      have cla:List.take 1 ((bs5.l.map Tr.cells).set 0 [.d (.int .i64 b0.params_),b0.insts_.v,.d (.int .i64 2),.d (.int .i64 b0.value_),.sl (G7.length + 1) 2 0 1])=bsa.l.map Tr.cells:=by
        rw [List.take_of_length_le (by simp [ln5]),hbsa,List.map_set];rfl
      rw [cla]
      generalize hGb:(G7.set bs5.id .dead).set (H.length + 1) (.row 3 [[.d (.int .i64 pn),.sl (G7.length + 3) 5 0 2,.d (.int .i64 (pn + yn))]])++[.row 1 [[.d (.int .i64 last)]],.row 2 [[.d (.int .i64 2),.sl G7.length 1 0 1]],.row 5 [[.d (.int .i64 0),.d .nilsl,.d (.int .i64 1),.d (.int .i64 last),.d .nilsl]],.row 5 (bsa.l.map Tr.cells++[[.d (.int .i64 0),.d .nilsl,.d (.int .i64 1),.d (.int .i64 last),.d .nilsl]])]=Gb
      obtain ⟨qb,kb,fb⟩:=qa.pushB (m':=pn + yn) (Int.le_refl _) fa (pr:=0) (en:=1) (v:=last) ⟨by decide,by decide⟩ ⟨by decide,by decide⟩ hlg (n:=2) rfl rfl (G':=Gb) (by
        rw [← hGb,ida,List.set_append_left _ _ (by simpa using il7),List.set_set,List.set_append_left _ _ (by simpa using bl7),List.append_assoc]
        simp)
      have qsb:=kb _ _ (ka _ _ qs7)
      rw [aft_call]
      refine (insts_own Gb C (H.length + 1) code hg pn a7 s7 (pn + yn) _ sid5 l5 1 qb.dw qsb (by rw [qb.len];decide) ⟨by omega,by omega⟩ ⟨by omega,by omega⟩ (by omega)).mono ?_
      rintro r G9 ⟨a9,s9,bs9,sid9,l9,rfl,w9,qs9,hb9,hf9⟩
      obtain ⟨q9,k9⟩:=qb.insts w9 hb9.1 (by omega)
      have qs9:=k9 _ _ qsb
      have f9:∃ b,bs9.l[0]? = some b∧0 < b.insts_.l.length:=by
        obtain ⟨b,h1,h2⟩:=fb
        obtain ⟨b',h3,h4⟩:=w9.mono 0 b h1
        exact ⟨b',h3,by omega⟩
      obtain ⟨v9,r9,c9,il9,bl9,ne9,r9R,c9R,sK9,gK9,gK90,gB9,gB90,sK29,sB9,sB90,gP9,sP9⟩:=q9.vw (by decide)
      have ln9:bs9.l.length=2:=q9.len
      have w9c:IntKind.i64.wrap ((pn:Int) + yn + 1 + 1)=(pn:Int) + yn + 1 + 1:=wrap_id (by omega) (by omega)
      simp [-V.flat,-V.one,one_int,one_bool,one_str,one_nilp,one_rp,one_nilsl,one_ro,one_cl,one_nilf,one_nili,one_ifc,one_ptr,one_sl,one_clo,flat_d,flat_ptr,flat_sl,flat_clo,flat_agg,-decA,decA_int,decA_bool,decA_str,r9,c9,ln9,r9R,c9R,sK9,gK9,gK90,gB9,gB90,sK29,sB9,sB90,gP9,sP9,w9c]
      have cl9:List.take 2 (bs9.l.map Tr.cells)=bs9.l.map Tr.cells:=List.take_of_length_le (by simp [ln9])
      rw [cl9]
      generalize hGc:(G9.set bs9.id .dead).set (H.length + 1) (.row 3 [[.d (.int .i64 pn),.sl (G9.length + 1) 5 0 3,.d (.int .i64 ((pn:Int) + yn + 1 + 1))]])++[.row 5 [[.d (.int .i64 1),.d .nilsl,.d (.int .i64 1),.d (.int .i64 0),.d .nilsl]],.row 5 (bs9.l.map Tr.cells++[[.d (.int .i64 1),.d .nilsl,.d (.int .i64 1),.d (.int .i64 0),.d .nilsl]])]=Gc
      obtain ⟨bsc,hbsc⟩:∃ bsc:AS ABlock,bsc=⟨.sl (G9.length + 1) 5 0 3,bs9.l++[⟨1,⟨.d .nilsl,[]⟩,1,0,⟨.d .nilsl,[]⟩⟩]⟩:=⟨_,rfl⟩
      obtain ⟨qc,kc,fc⟩:=q9.pushB (m':=(pn:Int) + yn + 1 + 1) (by omega) f9 (pr:=1) (en:=1) (v:=0) ⟨by decide,by decide⟩ ⟨by decide,by decide⟩ ⟨by decide,by decide⟩ (n:=3) rfl hbsc hGc.symm
      have qsc:=kc _ _ qs9
      obtain ⟨vc,rc,cc,ilc,blc,nec,rcR,ccR,sKc,gKc,gKc0,gBc,gBc0,sK2c,sBc,sBc0,gPc,sPc⟩:=qc.vw (by decide)
      have lnc:bsc.l.length=3:=qc.len
      have wmc:IntKind.i64.wrap ((pn:Int) + yn + 1 + 1 - 1)=(pn:Int) + yn + 1:=by rw [wrap_id] <;> omega
      refine W_drawC mixed ⟨[],[],[78,104,105,106,107,71],375,H.length,[0,2,3,4,5,6,7,8,9,10,11,12,48,126,136,164,241],[126,136,164,241]⟩ [0,1,2,3,4,5,6,7,9,10,11,12,13,16,21,22] [8,14,15,17,18,19,20] [23] (.alt 8 (.alt 14 (.alt 15 (.alt 17 (.alt 18 (.alt 19 (.alt 20 .leaf .nil) .nil) .nil) .nil) .nil) .nil) (.alt 14 (.alt 8 (.alt 15 (.alt 17 (.alt 18 (.alt 19 (.alt 20 .leaf .nil) .nil) .nil) .nil) .nil) .nil) .nil)) (fun | 8=>[4,12] | 14=>[4] | 15=>[4] | 17=>[4] | 18=>[4] | 19=>[4] | 20=>[4] | _=>[]) [0,2,3,4,5,6,7,8,9,10,11,12,48,126,136,164,241,103,104,105,106,107,108,109,110,111,112,113,114,115,116,117,118,119,120,121,122,123,124,125] (by kernel_rfl) (by kernel_rfl) ?_
      simp only [stripOps,pickOps]
      simp [-V.flat,-V.one,one_int,one_bool,one_str,one_nilp,one_rp,one_nilsl,one_ro,one_cl,one_nilf,one_nili,one_ifc,one_ptr,one_sl,one_clo,flat_d,flat_ptr,flat_sl,flat_clo,flat_agg,-decA,decA_int,decA_bool,decA_str,rc,cc,lnc,rcR,ccR,sKc,gKc,gKc0,gBc,gBc0,wmc]
      have wmd:IntKind.i64.wrap ((pn:Int) + yn + 1)=(pn:Int) + yn + 1:=wrap_id (by omega) (by omega)
      refine denC_two ?_ ?_
      · simp only [demC,stripOps,pickOps]
        simp [loadD,-V.flat,-V.one,one_int,one_bool,one_str,one_nilp,one_rp,one_nilsl,one_ro,one_cl,one_nilf,one_nili,one_ifc,one_ptr,one_sl,one_clo,flat_d,flat_ptr,flat_sl,flat_clo,flat_agg,-decA,decA_int,decA_bool,decA_str]
        rw [aft_call]
        refine (l1Own_pl Gc sid5 l5 qsc.row (by omega)).mono ?_
        rintro r Gd ⟨rfl,rfl⟩
        simp [loadD,-V.flat,-V.one,one_int,one_bool,one_str,one_nilp,one_rp,one_nilsl,one_ro,one_cl,one_nilf,one_nili,one_ifc,one_ptr,one_sl,one_clo,flat_d,flat_ptr,flat_sl,flat_clo,flat_agg,-decA,decA_int,decA_bool,decA_str,cc,ccR,wmd]
        refine denC_one ?_
        simp only [demC,stripOps,pickOps]
        simp [loadD,-V.flat,-V.one,one_int,one_bool,one_str,one_nilp,one_rp,one_nilsl,one_ro,one_cl,one_nilf,one_nili,one_ifc,one_ptr,one_sl,one_clo,flat_d,flat_ptr,flat_sl,flat_clo,flat_agg,-decA,decA_int,decA_bool,decA_str,cc,ccR,wmd]
        refine denC_one ?_
        simp only [demC,stripOps,pickOps]
        simp [loadD,-V.flat,-V.one,one_int,one_bool,one_str,one_nilp,one_rp,one_nilsl,one_ro,one_cl,one_nilf,one_nili,one_ifc,one_ptr,one_sl,one_clo,flat_d,flat_ptr,flat_sl,flat_clo,flat_agg,-decA,decA_int,decA_bool,decA_str,cc,ccR,wmd]
        refine ⟨⟨by omega,by omega⟩, ?_⟩
        obtain ⟨lc,hlc⟩:∃ lc,lc=l5++[(pn:Int) + yn + 1]:=⟨_,rfl⟩
        have llc:lc.length=l5.length + 1:=by rw [hlc];simp
        have rowl:(Gc++[Place.dead,Place.dead,Place.row 1 [[V.d (.int .i64 ((pn:Int) + yn + 1))]],Place.row 1 (List.map (fun n=>[V.d (D.int IntKind.i64 n)]) l5++[[V.d (.int .i64 ((pn:Int) + yn + 1))]])])[Gc.length + 3]? = some (.row 1 (rI lc)):=by rw [List.getElem?_append_right (by omega),hlc];simp
        have qe:=qc.more [Place.dead,Place.dead,Place.row 1 [[V.d (.int .i64 ((pn:Int) + yn + 1))]],Place.row 1 (List.map (fun n=>[V.d (D.int IntKind.i64 n)]) l5++[[V.d (.int .i64 ((pn:Int) + yn + 1))]])]
        generalize hGe:Gc++[Place.dead,Place.dead,Place.row 1 [[V.d (.int .i64 ((pn:Int) + yn + 1))]],Place.row 1 (List.map (fun n=>[V.d (D.int IntKind.i64 n)]) l5++[[V.d (.int .i64 ((pn:Int) + yn + 1))]])]=Ge at qe rowl ⊢
        have gc1:=qc.only.len
        have gcr:=qc.bd.own
        have qse:Sn Ge C (H.length + 1) bsc (Gc.length + 3) lc:=⟨rowl,by have:=qc.cl;omega,by omega,fun h=>by have:=qc.bd.own.lt h;omega,by omega,by omega,fun x hx=>by
          rw [hlc] at hx
          rcases List.mem_append.1 hx with h | h
          · exact qs9.good x h
          · rw [List.mem_singleton.1 h];exact ⟨by omega,by omega⟩⟩
        obtain ⟨ve,re,ce,_⟩:=qe.vw (by decide)
        refine denC_one ?_
        simp only [demC,stripOps,pickOps]
        simp [loadD,-V.flat,-V.one,one_int,one_bool,one_str,one_nilp,one_rp,one_nilsl,one_ro,one_cl,one_nilf,one_nili,one_ifc,one_ptr,one_sl,one_clo,flat_d,flat_ptr,flat_sl,flat_clo,flat_agg,-decA,decA_int,decA_bool,decA_str,ce]
        rw [aft_call]
        refine (pick_own Ge C code a9 s9 3 qe.cur hg (by omega) (by omega)).mono ?_
        rintro r Gf ⟨w,rfl,hw,hcu⟩
        obtain ⟨af,sf,hbf,qf,kf,_,_⟩:=qe.move hcu
        have qsf:=kf _ _ qse
        obtain ⟨w0,w3⟩:=hw.lt (by decide)
        obtain ⟨wn,hwn⟩:∃ wn:Nat,1 + w=wn:=⟨(1 + w).toNat,by omega⟩
        have wwn:IntKind.i64.wrap (1 + w)=wn:=by rw [wrap_id] <;> omega
        obtain ⟨vf,rf,cf,_⟩:=qf.vw (by decide)
        simp [loadD,-V.flat,-V.one,one_int,one_bool,one_str,one_nilp,one_rp,one_nilsl,one_ro,one_cl,one_nilf,one_nili,one_ifc,one_ptr,one_sl,one_clo,flat_d,flat_ptr,flat_sl,flat_clo,flat_agg,-decA,decA_int,decA_bool,decA_str,ce,cf]
        refine denC_one ?_
        simp only [demC,stripOps,pickOps]
        simp [loadD,-V.flat,-V.one,one_int,one_bool,one_str,one_nilp,one_rp,one_nilsl,one_ro,one_cl,one_nilf,one_nili,one_ifc,one_ptr,one_sl,one_clo,flat_d,flat_ptr,flat_sl,flat_clo,flat_agg,-decA,decA_int,decA_bool,decA_str,cf,wwn]
        refine denC_one ?_
        simp only [demC,stripOps,pickOps]
        simp [loadD,-V.flat,-V.one,one_int,one_bool,one_str,one_nilp,one_rp,one_nilsl,one_ro,one_cl,one_nilf,one_nili,one_ifc,one_ptr,one_sl,one_clo,flat_d,flat_ptr,flat_sl,flat_clo,flat_agg,-decA,decA_int,decA_bool,decA_str,cf]
        rw [aft_call,← llc]
        refine (insts_own Gf C (H.length + 1) code hg pn af sf ((pn:Int) + yn + 1 + 1) bsc (Gc.length + 3) lc wn qf.dw qsf (by rw [qf.len];decide) ⟨by omega,by omega⟩ ⟨by omega,by omega⟩ (by omega)).mono ?_
        rintro r Gg ⟨ag,sg,bsg,sidg,lg,rfl,wg,qsg,hbg,hfg⟩
        obtain ⟨qg,kg⟩:=qf.insts wg hbg.1 (by omega)
        obtain ⟨hsg,hlg2,_⟩:=hfg (by omega)
        have idg:bsg.id=bsc.id:=congrArg V.slId wg.v
        have fg:∃ b,bsg.l[0]? = some b∧0 < b.insts_.l.length:=by
          obtain ⟨b,h1,h2⟩:=fc
          obtain ⟨b',h3,h4⟩:=wg.mono 0 b h1
          exact ⟨b',h3,by omega⟩
        obtain ⟨vg,rg,cg,_⟩:=qg.vw (by decide)
        rw [idg] at rg cg
        simp [loadD,-V.flat,-V.one,one_int,one_bool,one_str,one_nilp,one_rp,one_nilsl,one_ro,one_cl,one_nilf,one_nili,one_ifc,one_ptr,one_sl,one_clo,flat_d,flat_ptr,flat_sl,flat_clo,flat_agg,-decA,decA_int,decA_bool,decA_str,cf,cg]
        refine denC_one ?_
        simp only [demC,stripOps,pickOps]
        simp [loadD,-V.flat,-V.one,one_int,one_bool,one_str,one_nilp,one_rp,one_nilsl,one_ro,one_cl,one_nilf,one_nili,one_ifc,one_ptr,one_sl,one_clo,flat_d,flat_ptr,flat_sl,flat_clo,flat_agg,-decA,decA_int,decA_bool,decA_str,cg]
        rw [aft_call]
        refine (last_own Gg sidg lg qsg.row qsg.pos (by have:=qsg.le;omega)).mono ?_
        rintro r Gh ⟨xl,rfl,hxl,rfl⟩
        have hxg:=qsg.good xl hxl
        simp [loadD,-V.flat,-V.one,one_int,one_bool,one_str,one_nilp,one_rp,one_nilsl,one_ro,one_cl,one_nilf,one_nili,one_ifc,one_ptr,one_sl,one_clo,flat_d,flat_ptr,flat_sl,flat_clo,flat_agg,-decA,decA_int,decA_bool,decA_str,cg]
        obtain ⟨b2,e1,⟨e2,⟨_,_,e5,_,_⟩,_⟩,e3,e4⟩:=qg.el (i:=2) (by decide)
        have lng:bsg.l.length=3:=qg.len
        refine denC_leaf ?_
        simp only [stripOps,pickOps]
        simp [-V.flat,-V.one,one_int,one_bool,one_str,one_nilp,one_rp,one_nilsl,one_ro,one_cl,one_nilf,one_nili,one_ifc,one_ptr,one_sl,one_clo,flat_d,flat_ptr,flat_sl,flat_clo,flat_agg,-decA,decA_int,decA_bool,decA_str,rg,e1,e3,e4,lng]
        obtain ⟨f1,f2,f3⟩:=qg.upd fg e1 (e:=b2.end_) (v:=xl) (js:=b2.jumps_) (R:=[]) rfl (.inl rfl) e5 ⟨by omega,by omega⟩
        rw [List.append_nil,idg] at f1 f2
        exact end_ f1 (f2 _ _ qsg) ⟨by omega,by omega,by omega⟩ (by decide) f3
      · simp only [demC,stripOps,pickOps]
        simp [loadD,-V.flat,-V.one,one_int,one_bool,one_str,one_nilp,one_rp,one_nilsl,one_ro,one_cl,one_nilf,one_nili,one_ifc,one_ptr,one_sl,one_clo,flat_d,flat_ptr,flat_sl,flat_clo,flat_agg,-decA,decA_int,decA_bool,decA_str,cc,ccR,wmd]
        refine denC_one ?_
        simp only [demC,stripOps,pickOps]
        simp [loadD,-V.flat,-V.one,one_int,one_bool,one_str,one_nilp,one_rp,one_nilsl,one_ro,one_cl,one_nilf,one_nili,one_ifc,one_ptr,one_sl,one_clo,flat_d,flat_ptr,flat_sl,flat_clo,flat_agg,-decA,decA_int,decA_bool,decA_str,ccR]
        rw [aft_call]
        refine (l1Own_pl (Gc++[Place.row 1 [[V.d (.int .i64 ((pn:Int) + yn + 1))]]]) sid5 l5 ((qsc.keep (List.getElem?_append_left qsc.lt)).row) (by omega)).mono ?_
        rintro r Gd ⟨rfl,rfl⟩
        have y1:∀ P Q R:Place,(Gc++[P,Q,R])[Gc.length + 1 + 1]? = some R:=fun P Q R=>by rw [List.getElem?_append_right (by omega)];simp [Nat.add_assoc]
        have y2:∀ (P Q R:Place) (h:Gc.length + 1 + 1 < (Gc++[P,Q,R]).length),(Gc++[P,Q,R])[Gc.length + 1 + 1]=R:=fun P Q R h=>by
          have:=y1 P Q R
          rw [List.getElem?_eq_getElem h] at this
          exact Option.some.inj this
        have y3:∀ P Q R S:Place,(Gc++[P,Q,R]).set (Gc.length + 1 + 1) S=Gc++[P,Q,S]:=fun P Q R S=>by rw [List.set_append,if_neg (by omega)];simp [Nat.add_assoc]
        simp [loadD,-V.flat,-V.one,one_int,one_bool,one_str,one_nilp,one_rp,one_nilsl,one_ro,one_cl,one_nilf,one_nili,one_ifc,one_ptr,one_sl,one_clo,flat_d,flat_ptr,flat_sl,flat_clo,flat_agg,-decA,decA_int,decA_bool,decA_str,cc,ccR,wmd]
        refine denC_one ?_
        simp only [demC,stripOps,pickOps]
        simp [loadD,-V.flat,-V.one,one_int,one_bool,one_str,one_nilp,one_rp,one_nilsl,one_ro,one_cl,one_nilf,one_nili,one_ifc,one_ptr,one_sl,one_clo,flat_d,flat_ptr,flat_sl,flat_clo,flat_agg,-decA,decA_int,decA_bool,decA_str,cc,ccR,wmd,y1,y2,y3]
        refine ⟨⟨by omega,by omega⟩, ?_⟩
        obtain ⟨lc,hlc⟩:∃ lc,lc=l5++[(pn:Int) + yn + 1]:=⟨_,rfl⟩
        have llc:lc.length=l5.length + 1:=by rw [hlc];simp
        have rowl:(Gc++[Place.row 1 [[V.d (.int .i64 ((pn:Int) + yn + 1))]],Place.dead,Place.dead,Place.row 1 (List.map (fun n=>[V.d (D.int IntKind.i64 n)]) l5++[[V.d (.int .i64 ((pn:Int) + yn + 1))]])])[Gc.length + 3]? = some (.row 1 (rI lc)):=by rw [List.getElem?_append_right (by omega),hlc];simp
        have qe:=qc.more [Place.row 1 [[V.d (.int .i64 ((pn:Int) + yn + 1))]],Place.dead,Place.dead,Place.row 1 (List.map (fun n=>[V.d (D.int IntKind.i64 n)]) l5++[[V.d (.int .i64 ((pn:Int) + yn + 1))]])]
        generalize hGe:Gc++[Place.row 1 [[V.d (.int .i64 ((pn:Int) + yn + 1))]],Place.dead,Place.dead,Place.row 1 (List.map (fun n=>[V.d (D.int IntKind.i64 n)]) l5++[[V.d (.int .i64 ((pn:Int) + yn + 1))]])]=Ge at qe rowl ⊢
        have gc1:=qc.only.len
        have gcr:=qc.bd.own
        have qse:Sn Ge C (H.length + 1) bsc (Gc.length + 3) lc:=⟨rowl,by have:=qc.cl;omega,by omega,fun h=>by have:=qc.bd.own.lt h;omega,by omega,by omega,fun x hx=>by
          rw [hlc] at hx
          rcases List.mem_append.1 hx with h | h
          · exact qs9.good x h
          · rw [List.mem_singleton.1 h];exact ⟨by omega,by omega⟩⟩
        obtain ⟨ve,re,ce,_⟩:=qe.vw (by decide)
        refine denC_one ?_
        simp only [demC,stripOps,pickOps]
        simp [loadD,-V.flat,-V.one,one_int,one_bool,one_str,one_nilp,one_rp,one_nilsl,one_ro,one_cl,one_nilf,one_nili,one_ifc,one_ptr,one_sl,one_clo,flat_d,flat_ptr,flat_sl,flat_clo,flat_agg,-decA,decA_int,decA_bool,decA_str,ce]
        rw [aft_call]
        refine (pick_own Ge C code a9 s9 3 qe.cur hg (by omega) (by omega)).mono ?_
        rintro r Gf ⟨w,rfl,hw,hcu⟩
        obtain ⟨af,sf,hbf,qf,kf,_,_⟩:=qe.move hcu
        have qsf:=kf _ _ qse
        obtain ⟨w0,w3⟩:=hw.lt (by decide)
        obtain ⟨wn,hwn⟩:∃ wn:Nat,1 + w=wn:=⟨(1 + w).toNat,by omega⟩
        have wwn:IntKind.i64.wrap (1 + w)=wn:=by rw [wrap_id] <;> omega
        obtain ⟨vf,rf,cf,_⟩:=qf.vw (by decide)
        simp [loadD,-V.flat,-V.one,one_int,one_bool,one_str,one_nilp,one_rp,one_nilsl,one_ro,one_cl,one_nilf,one_nili,one_ifc,one_ptr,one_sl,one_clo,flat_d,flat_ptr,flat_sl,flat_clo,flat_agg,-decA,decA_int,decA_bool,decA_str,ce,cf]
        refine denC_one ?_
        simp only [demC,stripOps,pickOps]
        simp [loadD,-V.flat,-V.one,one_int,one_bool,one_str,one_nilp,one_rp,one_nilsl,one_ro,one_cl,one_nilf,one_nili,one_ifc,one_ptr,one_sl,one_clo,flat_d,flat_ptr,flat_sl,flat_clo,flat_agg,-decA,decA_int,decA_bool,decA_str,cf,wwn]
        refine denC_one ?_
        simp only [demC,stripOps,pickOps]
        simp [loadD,-V.flat,-V.one,one_int,one_bool,one_str,one_nilp,one_rp,one_nilsl,one_ro,one_cl,one_nilf,one_nili,one_ifc,one_ptr,one_sl,one_clo,flat_d,flat_ptr,flat_sl,flat_clo,flat_agg,-decA,decA_int,decA_bool,decA_str,cf]
        rw [aft_call,← llc]
        refine (insts_own Gf C (H.length + 1) code hg pn af sf ((pn:Int) + yn + 1 + 1) bsc (Gc.length + 3) lc wn qf.dw qsf (by rw [qf.len];decide) ⟨by omega,by omega⟩ ⟨by omega,by omega⟩ (by omega)).mono ?_
        rintro r Gg ⟨ag,sg,bsg,sidg,lg,rfl,wg,qsg,hbg,hfg⟩
        obtain ⟨qg,kg⟩:=qf.insts wg hbg.1 (by omega)
        obtain ⟨hsg,hlg2,_⟩:=hfg (by omega)
        have idg:bsg.id=bsc.id:=congrArg V.slId wg.v
        have fg:∃ b,bsg.l[0]? = some b∧0 < b.insts_.l.length:=by
          obtain ⟨b,h1,h2⟩:=fc
          obtain ⟨b',h3,h4⟩:=wg.mono 0 b h1
          exact ⟨b',h3,by omega⟩
        obtain ⟨vg,rg,cg,_⟩:=qg.vw (by decide)
        rw [idg] at rg cg
        simp [loadD,-V.flat,-V.one,one_int,one_bool,one_str,one_nilp,one_rp,one_nilsl,one_ro,one_cl,one_nilf,one_nili,one_ifc,one_ptr,one_sl,one_clo,flat_d,flat_ptr,flat_sl,flat_clo,flat_agg,-decA,decA_int,decA_bool,decA_str,cf,cg]
        refine denC_one ?_
        simp only [demC,stripOps,pickOps]
        simp [loadD,-V.flat,-V.one,one_int,one_bool,one_str,one_nilp,one_rp,one_nilsl,one_ro,one_cl,one_nilf,one_nili,one_ifc,one_ptr,one_sl,one_clo,flat_d,flat_ptr,flat_sl,flat_clo,flat_agg,-decA,decA_int,decA_bool,decA_str,cg]
        rw [aft_call]
        refine (last_own Gg sidg lg qsg.row qsg.pos (by have:=qsg.le;omega)).mono ?_
        rintro r Gh ⟨xl,rfl,hxl,rfl⟩
        have hxg:=qsg.good xl hxl
        simp [loadD,-V.flat,-V.one,one_int,one_bool,one_str,one_nilp,one_rp,one_nilsl,one_ro,one_cl,one_nilf,one_nili,one_ifc,one_ptr,one_sl,one_clo,flat_d,flat_ptr,flat_sl,flat_clo,flat_agg,-decA,decA_int,decA_bool,decA_str,cg]
        obtain ⟨b2,e1,⟨e2,⟨_,_,e5,_,_⟩,_⟩,e3,e4⟩:=qg.el (i:=2) (by decide)
        have lng:bsg.l.length=3:=qg.len
        refine denC_leaf ?_
        simp only [stripOps,pickOps]
        simp [-V.flat,-V.one,one_int,one_bool,one_str,one_nilp,one_rp,one_nilsl,one_ro,one_cl,one_nilf,one_nili,one_ifc,one_ptr,one_sl,one_clo,flat_d,flat_ptr,flat_sl,flat_clo,flat_agg,-decA,decA_int,decA_bool,decA_str,rg,e1,e3,e4,lng]
        obtain ⟨f1,f2,f3⟩:=qg.upd fg e1 (e:=b2.end_) (v:=xl) (js:=b2.jumps_) (R:=[]) rfl (.inl rfl) e5 ⟨by omega,by omega⟩
        rw [List.append_nil,idg] at f1 f2
        exact end_ f1 (f2 _ _ qsg) ⟨by omega,by omega,by omega⟩ (by decide) f3
  rintro G8 ⟨nb,sid8,n8,⟨a8,s8,m8,bs8,l8,q8,qs8,e8,hb8,hf8⟩,hnb⟩
  obtain ⟨v8,r8,c8,il8,bl8,ne8,_⟩:=q8.vw hnb.1
  have rs8:=q8.res
  have rl8:=(List.getElem?_eq_some_iff.1 rs8).1
  refine W_run mixed ⟨[],[],[78,104,105,106,107,71],375,H.length,[0,2,3,4,5,6,7,8,9,10,11,12,48,126,136,164,241],[126,136,164,241]⟩ (fun | 29=>[0,1,2,3,5,6,7,8,9,10,15,4,11,12,13,14,16,17,18,19,20,21,22] | 14=>[0,1,2,3,5,6,7,8,9,10,11,16,4,12,13,14,15,17,18,19,20,21,22,23] | _=>[]) (by kernel_rfl) ?_
  simp only [stripX,stripOps,pickOps]
  simp [-V.flat,-V.one,one_int,one_bool,one_str,one_nilp,one_rp,one_nilsl,one_ro,one_cl,one_nilf,one_nili,one_ifc,one_ptr,one_sl,one_clo,flat_d,flat_ptr,flat_sl,flat_clo,flat_agg,-decA,decA_int,decA_bool,decA_str,c8,rs8,retQ]
  rw [List.getElem?_set_self rl8]
  refine ⟨rfl,_,rfl, ?_⟩
  have ow:Own (G8.set H.length (.row 2 [[V.d (.int .i64 pn),.sl bs8.id 5 0 nb]])) (⟨pn,bs8⟩:AFunc):=AFunc.own (q8.bd.own.frame (S:=[H.length]) Only.set fun j hj q=>q8.nR ((List.mem_singleton.1 q) ▸ hj))
  have oo:Only [] (H.set C (rC code a8 s8)) (G8.set H.length (.row 2 [[V.d (.int .i64 pn),.sl bs8.id 5 0 nb]])):=⟨by simp;exact q8.only.len,fun j hj _=>by
    have hj':j < H.length:=by simpa using hj
    rw [List.getElem?_set_ne (by omega)]
    by_cases e:j=C
    · subst e;rw [q8.cur,List.getElem?_set_self lC]
    · rw [List.getElem?_set_ne (Ne.symm e)];exact q8.only.at_ j hj' (by simp [e])⟩
  have lS:(H.set C (rC code a8 s8)).length=H.length:=by simp
  have:=fin_new (H0:=H.set C (rC code a8 s8)) (r:=.agg [V.d (.int .i64 pn),.sl bs8.id 5 0 nb])
    (Q:=fun r' H'=>∃ A:AFunc,r'=V.agg [V.d (D.int IntKind.i64 A.params_),A.blocks_.v]∧∃ x,(∃ x_1,New (List.set H C (rC code x x_1)) H' A)∧(0≤x∧x≤30000)∧Enc.good (Tr.era A)∧(0≤A.params_∧A.params_≤5)∧∃ b,A.blocks_.l[0]? = some b∧0 < b.insts_.l.length)
    ow oo (fun j hj=>by rw [lS];exact q8.ge.2.2 j hj)
    fun H' h'=>⟨⟨pn,bs8⟩,by rw [← v8],a8,⟨s8,h'⟩,⟨q8.a0,by omega⟩,⟨(show Enc.good (pn:Int) from ⟨by omega,by omega⟩),show Enc.good (bs8.l.map Tr.era) from ⟨by rw [List.length_map,q8.len];omega,fun b hb=>by
      obtain ⟨b',h1,rfl⟩:=List.mem_map.1 hb
      exact (q8.ok b' h1).2.1⟩⟩,⟨show (0:Int)≤pn by omega,show (pn:Int)≤5 by omega⟩,hf8⟩
  rw [lS] at this
  exact this
end Go.Proofs.YthafdegfjadijaaGreat
