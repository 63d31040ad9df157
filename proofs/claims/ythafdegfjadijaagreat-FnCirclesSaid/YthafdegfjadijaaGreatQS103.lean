/- A function that is being built: its cell and its blocks. No condition. -/
import Derived.Test.YthafdegfjadijaaGreatQS23
import Derived.Test.YthafdegfjadijaaGreatQS41
import Derived.Test.YthafdegfjadijaaGreatQS111
namespace Go.Proofs.YthafdegfjadijaaGreat
set_option maxRecDepth 100000
set_option linter.unusedSimpArgs false
set_option linter.unusedVariables false
theorem OwnL.put2 {α β : Type} [Enc β] [Dec β] [Inhabited β] [Tr α β] {H H' : Heap} {p r : List α} {a a' : α} (h : OwnL H (p ++ a :: r)) (ha : Own H' a') (hi : ∀ j ∈ ids a', j ∈ ids a ∨ j ∉ p.flatMap ids ++ r.flatMap ids) (hs : ∀ j ∈ p.flatMap ids ++ r.flatMap ids, H'[j]? = H[j]?) : OwnL H' (p ++ a' :: r) := by
  have hnd:(p.flatMap ids++(ids a++r.flatMap ids)).Nodup:=by have:=h.nd;simpa [List.flatMap_append,List.flatMap_cons] using this
  obtain ⟨n1,n2,n3⟩:=List.nodup_append.1 hnd
  obtain ⟨n4,n5,n6⟩:=List.nodup_append.1 n2
  refine ⟨fun b hb=>?_,fun q hq=>?_, ?_⟩
  · rcases List.mem_append.1 hb with hb | hb
    · exact h.ok b (List.mem_append_left _ hb)
    · rcases List.mem_cons.1 hb with rfl | hb
      · exact ha.ok
      · exact h.ok b (List.mem_append_right _ (List.mem_cons_of_mem _ hb))
  · simp only [List.flatMap_append,List.flatMap_cons] at hq
    rcases List.mem_append.1 hq with hq | hq
    · have hm:q.1∈p.flatMap ids:=by rw [← ids_flat];exact List.mem_map.2 ⟨q,hq,rfl⟩
      rw [hs q.1 (List.mem_append_left _ hm)]
      exact h.at_ q (by simp only [List.flatMap_append];exact List.mem_append_left _ hq)
    · rcases List.mem_append.1 hq with hq | hq
      · exact ha.at_ q hq
      · have hm:q.1∈r.flatMap ids:=by rw [← ids_flat];exact List.mem_map.2 ⟨q,hq,rfl⟩
        rw [hs q.1 (List.mem_append_right _ hm)]
        exact h.at_ q (by simp only [List.flatMap_append,List.flatMap_cons];exact List.mem_append_right _ (List.mem_append_right _ hq))
  · rw [List.flatMap_append,List.flatMap_cons]
    refine List.nodup_append.2 ⟨n1,List.nodup_append.2 ⟨ha.nd,n5,fun x hx y hy e=>?_⟩,fun x hx y hy e=>?_⟩
    · subst e
      rcases hi x hx with q | q
      · exact n6 x q x hy rfl
      · exact q (List.mem_append_right _ hy)
    · subst e
      rcases List.mem_append.1 hy with hy | hy
      · rcases hi x hy with q | q
        · exact n3 x hx x (List.mem_append_left _ q) rfl
        · exact q (List.mem_append_left _ hx)
      · exact n3 x hx x (List.mem_append_right _ hy) rfl
theorem Own.setAt' {α β:Type} [Enc β] [Dec β] [Inhabited β] [Tr α β] {H H':Heap} {s:AS α} {i:Nat} {a a':α} (h:Own H s) (hi:s.l[i]? = some a) (ha:Own H' a') (hid:∀ j∈ids a',j∈ids a∨j ∉ ids s)
    (hrow:H'[s.id]? = some (.row (Enc.size β) ((s.l.map Tr.cells).set i (Tr.cells a')))) (hs:∀ j∈ids s,j ≠ s.id→j ∉ ids a→H'[j]? = H[j]?) :
    Own H' (⟨s.v,s.l.set i a'⟩:AS α)∧∀ j∈ids (⟨s.v,s.l.set i a'⟩:AS α),j∈ids s∨j∈ids a':=by
  have hil:=(List.getElem?_eq_some_iff.1 hi).1
  have ea:s.l[i]=a:=(List.getElem?_eq_some_iff.1 hi).2
  obtain ⟨rv,rr,rn,ri⟩:=h.row (by omega)
  have hlt:=(List.getElem?_eq_some_iff.1 rr).1
  have es:s.l=s.l.take i++a :: s.l.drop (i + 1):=by rw [← ea,← List.drop_eq_getElem_cons hil,List.take_append_drop]
  have et:s.l.set i a'=s.l.take i++a' :: s.l.drop (i + 1):=List.set_eq_take_append_cons_drop.trans (if_pos hil)
  have hE:=h.elems
  have hnd:=hE.nd
  rw [es] at hE hnd
  have inm:∀ j∈(s.l.take i).flatMap ids++(s.l.drop (i + 1)).flatMap ids,j∈s.l.flatMap ids:=fun j hj=>by
    rw [es,List.flatMap_append,List.flatMap_cons]
    rcases List.mem_append.1 hj with q | q
    · exact List.mem_append_left _ q
    · exact List.mem_append_right _ (List.mem_append_right _ q)
  have oL:=hE.put2 ha (fun j hj=>(hid j hj).imp id fun q hm=>q (by rw [ri];exact List.mem_cons_of_mem _ (inm j hm))) fun j hj=>by
    have hm:=inm j hj
    refine hs j (by rw [ri];exact List.mem_cons_of_mem _ hm) (fun e=>rn (e ▸ hm)) fun q=>?_
    rw [List.flatMap_append,List.flatMap_cons] at hnd
    obtain ⟨n1,n2,n3⟩:=List.nodup_append.1 hnd
    obtain ⟨n4,n5,n6⟩:=List.nodup_append.1 n2
    rcases List.mem_append.1 hj with w | w
    · exact n3 j w j (List.mem_append_left _ q) rfl
    · exact n6 j q j w rfl
  rw [← et] at oL
  have up:∀ j∈(s.l.set i a').flatMap ids,j∈s.l.flatMap ids∨j∈ids a':=fun j hj=>by
    rw [et,List.flatMap_append,List.flatMap_cons] at hj
    rcases List.mem_append.1 hj with q | q
    · exact .inl (inm j (List.mem_append_left _ q))
    · rcases List.mem_append.1 q with q | q
      · exact .inr q
      · exact .inl (inm j (List.mem_append_right _ q))
  have nn:s.id ∉ (s.l.set i a').flatMap ids:=fun q=>by
    rcases up _ q with w | w
    · exact rn w
    · rcases hid _ w with w | w
      · exact rn (by rw [es,List.flatMap_append,List.flatMap_cons];exact List.mem_append_right _ (List.mem_append_left _ w))
      · exact w (by rw [ri];exact List.mem_cons_self)
  have hv:(⟨s.v,s.l.set i a'⟩:AS α).v=.sl s.id (Enc.size β) 0 (s.l.set i a').length:=by rw [List.length_set];exact rv
  have o:=Own.mkS oL (by rw [List.map_set];exact hrow) nn
  rw [← hv] at o
  refine ⟨o,fun j hj=>?_⟩
  rw [ids_sl hv] at hj
  rw [ri]
  rcases List.mem_cons.1 hj with rfl | hj
  · exact .inl List.mem_cons_self
  · exact (up j hj).imp (List.mem_cons_of_mem _) id
structure Bd (H:Heap) (B:Nat) (p:Int) (bs:AS ABlock) (m:Int):Prop where
  cell:H[B]? = some (.row 3 [[.d (.int .i64 p),bs.v,.d (.int .i64 m)]])
  own:Own H bs
  nin:B ∉ ids bs
theorem Bd.frame {H H':Heap} {B:Nat} {p:Int} {bs:AS ABlock} {m:Int} (q:Bd H B p bs m) {S:List Nat} (ho:Only S H H') (h1:B ∉ S) (h2:∀ j∈ids bs,j ∉ S):Bd H' B p bs m :=
  ⟨(ho.at_ B (List.getElem?_eq_some_iff.1 q.cell).1 h1).trans q.cell,q.own.frame ho h2,q.nin⟩
theorem Bd.lt {H:Heap} {B:Nat} {p:Int} {bs:AS ABlock} {m:Int} (q:Bd H B p bs m):B < H.length:=(List.getElem?_eq_some_iff.1 q.cell).1
theorem Bd.upd {H : Heap} {B : Nat} {p : Int} {bs : AS ABlock} {m : Int} (q : Bd H B p bs m) {i : Nat} {b : ABlock} (hb : bs.l[i]? = some b) {e v : Int} {js : AS AJump} {R : Heap} {P : Place}
    (hP:P=.row 5 ((bs.l.map Tr.cells).set i [.d (.int .i64 b.params_),b.insts_.v,.d (.int .i64 e),.d (.int .i64 v),js.v])) (hj:js=b.jumps_∨(Own (H.set bs.id P++R) js∧∀ j∈ids js,H.length≤j)) :
    Bd (H.set bs.id P++R) B p ⟨bs.v,bs.l.set i ⟨b.params_,b.insts_,e,v,js⟩⟩ m∧∀ j∈ids (⟨bs.v,bs.l.set i ⟨b.params_,b.insts_,e,v,js⟩⟩:AS ABlock),j∈ids bs∨H.length≤j:=by
  have hil:=(List.getElem?_eq_some_iff.1 hb).1
  obtain ⟨rv,rr,rn,ri⟩:=q.own.row (by omega)
  have hlt:=(List.getElem?_eq_some_iff.1 rr).1
  have hB:=q.lt
  have hne:B ≠ bs.id:=fun e=>q.nin (by rw [ri,e];exact List.mem_cons_self)
  have oB:Own H b:=q.own.elems.get (List.mem_of_getElem? hb)
  have mb:∀ j∈ids b,j∈bs.l.flatMap ids:=fun j hj=>List.mem_flatMap.2 ⟨b,List.mem_of_getElem? hb,hj⟩
  have at_:∀ j,j < H.length→j ≠ bs.id→(H.set bs.id P++R)[j]? = H[j]?:=fun j h1 h2=>by
    rw [List.getElem?_append_left (by simpa using h1),List.getElem?_set_ne (fun q=>h2 q.symm)]
  have oI:Own (H.set bs.id P++R) b.insts_:=(ABlock.own_insts_ oB).same fun j hj hl=>at_ j hl fun e=>rn (e ▸ mb j (by rw [ids_ABlock];exact List.mem_append_left _ hj))
  have mI:∀ j∈ids b.insts_,j∈ids b:=fun j hj=>by rw [ids_ABlock];exact List.mem_append_left _ hj
  have mJ:∀ j∈ids b.jumps_,j∈ids b:=fun j hj=>by rw [ids_ABlock];exact List.mem_append_right _ hj
  have oJ:Own (H.set bs.id P++R) js∧(∀ j∈ids b.insts_,j ∉ ids js)∧∀ j∈ids js,j∈ids b∨H.length≤j:=by
    rcases hj with rfl | ⟨h1,h2⟩
    · exact ⟨(ABlock.own_jumps_ oB).same fun j hj hl=>at_ j hl fun e=>rn (e ▸ mb j (mJ j hj)),ABlock.apart oB,fun j hj=>.inl (mJ j hj)⟩
    · exact ⟨h1,fun j hj hk=>by have:=(ABlock.own_insts_ oB).lt hj;have:=h2 j hk;omega,fun j hj=>.inr (h2 j hj)⟩
  have o':Own (H.set bs.id P++R) (⟨b.params_,b.insts_,e,v,js⟩:ABlock):=ABlock.own oI oJ.1 oJ.2.1
  obtain ⟨o,u⟩:=q.own.setAt' hb o' (fun j hj=>by
    rw [ids_ABlock] at hj
    rcases List.mem_append.1 hj with h | h
    · exact .inl (mI j h)
    · exact (oJ.2.2 j h).imp id fun h hm=>by have:=q.own.lt hm;omega) (by rw [List.getElem?_append_left (by simpa using hlt),List.getElem?_set_self hlt,hP];rfl) fun j hj h1 _=>at_ j (q.own.lt hj) h1
  have u':∀ j∈ids (⟨bs.v,bs.l.set i ⟨b.params_,b.insts_,e,v,js⟩⟩:AS ABlock),j∈ids bs∨H.length≤j:=fun j hj=>by
    rcases u j hj with h | h
    · exact .inl h
    · rw [ids_ABlock] at h
      rcases List.mem_append.1 h with h | h
      · exact .inl (by rw [ri];exact List.mem_cons_of_mem _ (mb j (mI j h)))
      · rcases oJ.2.2 j h with h | h
        · exact .inl (by rw [ri];exact List.mem_cons_of_mem _ (mb j h))
        · exact .inr h
  exact ⟨⟨(at_ B hB hne).trans q.cell,o,fun h=>(u' B h).elim q.nin fun h=>by omega⟩,u'⟩
theorem Bd.push {H:Heap} {B:Nat} {p:Int} {bs:AS ABlock} {m:Int} (q:Bd H B p bs m) (hl:0 < bs.l.length) {x:ABlock} (hx:x.insts_=⟨.d .nilsl,[]⟩∧x.jumps_=⟨.d .nilsl,[]⟩) {R:Heap} {P:Place} {k n:Nat} (hR:R[k]? = some (.row 5 (bs.l.map Tr.cells++[Tr.cells x]))) (hn:n=bs.l.length + 1) {m':Int}
    (hP:P=.row 3 [[.d (.int .i64 p),.sl (H.length + k) 5 0 n,.d (.int .i64 m')]]):Bd ((H.set bs.id .dead).set B P++R) B p ⟨.sl (H.length + k) 5 0 n,bs.l++[x]⟩ m'∧∀ j∈ids (⟨.sl (H.length + k) 5 0 n,bs.l++[x]⟩:AS ABlock),j∈ids bs∨H.length≤j:=by
  obtain ⟨rv,rr,rn,ri⟩:=q.own.row hl
  have hlt:=(List.getElem?_eq_some_iff.1 rr).1
  have hB:=q.lt
  have hne:B ≠ bs.id:=fun e=>q.nin (by rw [ri,e];exact List.mem_cons_self)
  have at_:∀ j,j < H.length→j ≠ bs.id→j ≠ B→((H.set bs.id .dead).set B P++R)[j]? = H[j]?:=fun j h1 h2 h3=>by
    rw [List.getElem?_append_left (by simpa using h1),List.getElem?_set_ne (fun q=>h3 q.symm),List.getElem?_set_ne (fun q=>h2 q.symm)]
  have mB:∀ j∈bs.l.flatMap ids,j∈ids bs:=fun j hj=>by rw [ri];exact List.mem_cons_of_mem _ hj
  have oL:OwnL ((H.set bs.id .dead).set B P++R) bs.l:=q.own.elems.same fun j hj h=>at_ j h (fun e=>rn (e ▸ hj)) fun e=>q.nin (e ▸ mB j hj)
  have ix:ids x=[]:=by rw [ids_ABlock,hx.1,hx.2];rfl
  have nilI:∀ G:Heap,Own G (⟨.d .nilsl,[]⟩:AS AInst):=fun G=>⟨⟨.inr ⟨rfl,.inl rfl⟩,fun a ha=>absurd ha List.not_mem_nil⟩,fun q hq=>absurd hq List.not_mem_nil,List.nodup_nil⟩
  have nilJ:∀ G:Heap,Own G (⟨.d .nilsl,[]⟩:AS AJump):=fun G=>⟨⟨.inr ⟨rfl,.inl rfl⟩,fun a ha=>absurd ha List.not_mem_nil⟩,fun q hq=>absurd hq List.not_mem_nil,List.nodup_nil⟩
  have ox:Own ((H.set bs.id .dead).set B P++R) x:=ABlock.own (by rw [hx.1];exact nilI _) (by rw [hx.2];exact nilJ _) fun j hj=>by rw [hx.1] at hj;exact absurd hj List.not_mem_nil
  have oS:=oL.snoc ox (fun j hj=>by rw [ix] at hj;exact absurd hj List.not_mem_nil)
  have hfl:(bs.l++[x]).flatMap ids=bs.l.flatMap ids:=by rw [List.flatMap_append,List.flatMap_cons,ix];simp
  have hnn:n=(bs.l++[x]).length:=by rw [List.length_append];exact hn
  have o:=Own.mkS (id:=H.length + k) oS (by rw [List.getElem?_append_right (by simp)];simp;exact hR) (by rw [hfl];intro h;have:=q.own.elems.lt h;omega)
  rw [← hnn] at o
  have u':∀ j∈ids (⟨.sl (H.length + k) 5 0 n,bs.l++[x]⟩:AS ABlock),j∈ids bs∨H.length≤j:=fun j h=>by
    rw [ids_sl (s:=(⟨.sl (H.length + k) 5 0 n,bs.l++[x]⟩:AS ABlock)) (by rw [hnn]),hfl] at h
    rcases List.mem_cons.1 h with h | h
    · exact .inr (by omega)
    · exact .inl (mB _ h)
  exact ⟨⟨by rw [List.getElem?_append_left (by simpa using hB),List.getElem?_set_self (by simpa using hB),hP],o,fun h=>(u' B h).elim q.nin fun h=>by omega⟩,u'⟩
theorem Bd.ins {H G:Heap} {B:Nat} {p:Int} {bs:AS ABlock} {m:Int} (q:Bd H B p bs m) {i:Nat} {b:ABlock} (hb:bs.l[i]? = some b) {s:AS AInst} {m':Int}
    (hs:Own G s) (hid:∀ j∈ids s,j∈ids b.insts_∨(j ∉ ids bs∧j ≠ B)) (hG:∀ j∈ids bs,j ≠ bs.id→j ∉ ids b.insts_→G[j]? = H[j]?)
    (hK:G[bs.id]? = some (.row 5 ((bs.l.map Tr.cells).set i [.d (.int .i64 b.params_),s.v,.d (.int .i64 b.end_),.d (.int .i64 b.value_),b.jumps_.v]))) (hB:G[B]? = some (.row 3 [[.d (.int .i64 p),bs.v,.d (.int .i64 m')]])) :
    Bd G B p ⟨bs.v,bs.l.set i ⟨b.params_,s,b.end_,b.value_,b.jumps_⟩⟩ m'∧∀ j∈ids (⟨bs.v,bs.l.set i ⟨b.params_,s,b.end_,b.value_,b.jumps_⟩⟩:AS ABlock),j∈ids bs∨j∈ids s:=by
  have hil:=(List.getElem?_eq_some_iff.1 hb).1
  obtain ⟨rv,rr,rn,ri⟩:=q.own.row (by omega)
  have oB:Own H b:=q.own.elems.get (List.mem_of_getElem? hb)
  have mb:∀ j∈ids b,j∈bs.l.flatMap ids:=fun j hj=>List.mem_flatMap.2 ⟨b,List.mem_of_getElem? hb,hj⟩
  have mI:∀ j∈ids b.insts_,j∈ids b:=fun j hj=>by rw [ids_ABlock];exact List.mem_append_left _ hj
  have mJ:∀ j∈ids b.jumps_,j∈ids b:=fun j hj=>by rw [ids_ABlock];exact List.mem_append_right _ hj
  have mS:∀ j∈ids b,j∈ids bs:=fun j hj=>by rw [ri];exact List.mem_cons_of_mem _ (mb j hj)
  have oJ:Own G b.jumps_:=(ABlock.own_jumps_ oB).same fun j hj hl=>hG j (mS j (mJ j hj)) (fun e=>rn (e ▸ mb j (mJ j hj))) fun h=>ABlock.apart oB j h hj
  have o':Own G (⟨b.params_,s,b.end_,b.value_,b.jumps_⟩:ABlock):=ABlock.own hs oJ fun j hj hk=>by
    rcases hid j hj with h | ⟨h,_⟩
    · exact ABlock.apart oB j h hk
    · exact h (mS j (mJ j hk))
  obtain ⟨o,u⟩:=q.own.setAt' hb o' (fun j hj=>by
    rw [ids_ABlock] at hj
    rcases List.mem_append.1 hj with h | h
    · exact (hid j h).imp (mI j) fun h=>h.1
    · exact .inl (mJ j h)) hK fun j hj h1 h2=>hG j hj h1 fun h=>h2 (mI j h)
  have u':∀ j∈ids (⟨bs.v,bs.l.set i ⟨b.params_,s,b.end_,b.value_,b.jumps_⟩⟩:AS ABlock),j∈ids bs∨j∈ids s:=fun j hj=>by
    rcases u j hj with h | h
    · exact .inl h
    · rw [ids_ABlock] at h
      rcases List.mem_append.1 h with h | h
      · exact .inr h
      · exact .inl (mS j (mJ j h))
  refine ⟨⟨hB,o,fun h=>?_⟩,u'⟩
  rcases u' B h with h | h
  · exact q.nin h
  · rcases hid B h with h | ⟨_,h⟩
    · exact q.nin (mS B (mI B h))
    · exact h rfl
end Go.Proofs.YthafdegfjadijaaGreat
