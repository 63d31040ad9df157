/- A drawn function: what is known of it while it is being built. No condition. -/
import Derived.Test.YthafdegfjadijaaGreatQS105
namespace Go.Proofs.YthafdegfjadijaaGreat
set_option maxRecDepth 100000
set_option linter.unusedSimpArgs false
set_option linter.unusedVariables false
structure Fs (H:Heap) (R0 C B:Nat) (code:List Byt) (p:Int) (nb:Nat) (G:Heap) (a s m:Int) (bs:AS ABlock):Prop where
  cur:G[C]? = some (rC code a s)
  bd:Bd G B p bs m
  res:G[R0]? = some (.row 2 [[.d (.int .i64 0),.d .nilsl]])
  ne:C ≠ B
  nC:C ∉ ids bs
  nR:R0 ∉ ids bs
  rB:R0 ≠ B
  rC:R0 ≠ C
  ok:∀ b∈bs.l,okB m b
  len:bs.l.length=nb
  ge:H.length≤R0∧H.length≤B∧∀ j∈ids bs,H.length≤j
  cl:C < H.length
  only:Only [C] H G
  a0:0≤a
  m0:0≤m
def FI (H:Heap) (R0 C B:Nat) (code:List Byt) (p:Int) (nb:Nat) (c:Int) (G:Heap) (sid n:Nat):Prop :=
  ∃ (a s m:Int) (bs:AS ABlock) (l:List Int),Fs H R0 C B code p nb G a s m bs∧Sn G C B bs sid l∧l.length=n∧(a≤1000 * c∧m≤10 * c∧(n:Int)≤10 * c)∧∃ b,bs.l[0]? = some b∧0 < b.insts_.l.length
section
variable {H:Heap} {R0 C B:Nat} {code:List Byt} {p:Int} {nb:Nat} {G:Heap} {a s m:Int} {bs:AS ABlock} {sid:Nat} {l:List Int} {c:Int}
theorem Fs.view (q:Fs H R0 C B code p nb G a s m bs) (h:0 < nb):bs.v=.sl bs.id 5 0 nb∧G[bs.id]? = some (.row 5 (bs.l.map Tr.cells))∧G[B]? = some (.row 3 [[.d (.int .i64 p),.sl bs.id 5 0 nb,.d (.int .i64 m)]])∧bs.id∈ids bs∧bs.id < G.length∧B < G.length∧B ≠ bs.id:=by
  obtain ⟨rv,rr,rn,ri⟩:=q.bd.own.row (by rw [q.len];exact h)
  rw [q.len] at rv
  have hm:bs.id∈ids bs:=by rw [ri];exact List.mem_cons_self
  exact ⟨rv,rr,by have:=q.bd.cell;rw [rv] at this;exact this,hm,(List.getElem?_eq_some_iff.1 rr).1,q.bd.lt,fun e=>q.bd.nin (e ▸ hm)⟩
theorem Fs.get (q:Fs H R0 C B code p nb G a s m bs) {i:Nat} (h:i < nb):∃ b,bs.l[i]? = some b∧okB m b:=by
  have h':i < bs.l.length:=by rw [q.len];exact h
  exact ⟨_,List.getElem?_eq_getElem h',q.ok _ (List.getElem_mem h')⟩
theorem Sn.to {G':Heap} {bs':AS ABlock} (q:Sn G C B bs sid l) (hi:∀ j∈ids bs',j∈ids bs∨G.length≤j) (h:G'[sid]? = G[sid]?):Sn G' C B bs' sid l :=
  ⟨h.trans q.row,q.nC,q.nB,fun hm=>(hi sid hm).elim q.nb fun h=>by have:=q.lt;omega,q.pos,q.le,q.good⟩
theorem Fs.upd (q:Fs H R0 C B code p nb G a s m bs) (hf:∃ b,bs.l[0]? = some b∧0 < b.insts_.l.length) {i:Nat} {b:ABlock} (hb:bs.l[i]? = some b) {e v:Int} {js:AS AJump} {R:Heap} {P:Place}
    (hP:P=.row 5 ((bs.l.map Tr.cells).set i [.d (.int .i64 b.params_),b.insts_.v,.d (.int .i64 e),.d (.int .i64 v),js.v])) (hj:js=b.jumps_∨(Own (G.set bs.id P++R) js∧(∀ j∈ids js,G.length≤j)∧Enc.good (js.l.map Tr.era))) (he:Enc.good e) (hv:Enc.good v) :
    Fs H R0 C B code p nb (G.set bs.id P++R) a s m ⟨bs.v,bs.l.set i ⟨b.params_,b.insts_,e,v,js⟩⟩∧(∀ sid l,Sn G C B bs sid l→Sn (G.set bs.id P++R) C B ⟨bs.v,bs.l.set i ⟨b.params_,b.insts_,e,v,js⟩⟩ sid l)∧∃ b',(bs.l.set i ⟨b.params_,b.insts_,e,v,js⟩)[0]? = some b'∧0 < b'.insts_.l.length:=by
  have hil:=(List.getElem?_eq_some_iff.1 hb).1
  have hnb:0 < nb:=by have:=q.len;omega
  obtain ⟨rv,rr,hcell,hid,hidl,hBl,hne⟩:=q.view hnb
  obtain ⟨h1,u⟩:=q.bd.upd hb (e:=e) (v:=v) (js:=js) (R:=R) hP (hj.imp id fun h=>⟨h.1,h.2.1⟩)
  have at_:∀ j,j < G.length→j ≠ bs.id→(G.set bs.id P++R)[j]? = G[j]?:=fun j h1 h2=>by
    rw [List.getElem?_append_left (by simpa using h1),List.getElem?_set_ne (fun q=>h2 q.symm)]
  have lC:=(List.getElem?_eq_some_iff.1 q.cur).1
  have lR:=(List.getElem?_eq_some_iff.1 q.res).1
  have gl:=q.only.len
  obtain ⟨o1,o2,o3⟩:=q.ok b (List.mem_of_getElem? hb)
  obtain ⟨g1,g2,g3,g4,g5⟩:=o2
  refine ⟨⟨(at_ C lC fun e=>q.nC (e ▸ hid)).trans q.cur,h1,(at_ R0 lR fun e=>q.nR (e ▸ hid)).trans q.res,q.ne,fun h=>(u C h).elim q.nC fun h=>by omega,fun h=>(u R0 h).elim q.nR fun h=>by omega,q.rB,q.rC,fun d hd=>?_,by rw [List.length_set];exact q.len,
    ⟨q.ge.1,q.ge.2.1,fun j hj=>(u j hj).elim (q.ge.2.2 j) fun h=>by omega⟩,q.cl,⟨by simp;omega,fun j hj hn=>(at_ j (by omega) fun e=>by have:=q.ge.2.2 _ hid;omega).trans (q.only.at_ j hj hn)⟩,q.a0,q.m0⟩,fun sid l qs=>qs.to u (at_ sid qs.lt fun e=>qs.nb (e ▸ hid)), ?_⟩
  · rcases List.mem_or_eq_of_mem_set hd with hd | rfl
    · exact q.ok d hd
    · refine ⟨o1,⟨g1,g2,he,hv, ?_⟩,o3⟩
      rcases hj with rfl | ⟨_,_,h3⟩
      · exact g5
      · exact h3
  · obtain ⟨b0,f1,f2⟩:=hf
    by_cases e0:i=0
    · subst e0
      rw [hb] at f1;cases f1
      exact ⟨_,List.getElem?_set_self hil,f2⟩
    · exact ⟨b0,(List.getElem?_set_ne e0).trans f1,f2⟩
theorem Fs.push (q:Fs H R0 C B code p nb G a s m bs) {m':Int} (hmm:m≤m') (hf:∃ b,bs.l[0]? = some b∧0 < b.insts_.l.length) {x:ABlock} (hx:x.insts_=⟨.d .nilsl,[]⟩∧x.jumps_=⟨.d .nilsl,[]⟩) (hxg:Enc.good x.params_∧Enc.good x.end_∧Enc.good x.value_)
    {R:Heap} {P:Place} {k n:Nat} (hR:R[k]? = some (.row 5 (bs.l.map Tr.cells++[Tr.cells x]))) (hn:n=nb + 1) (hP:P=.row 3 [[.d (.int .i64 p),.sl (G.length + k) 5 0 n,.d (.int .i64 m')]]) :
    Fs H R0 C B code p (nb + 1) ((G.set bs.id .dead).set B P++R) a s m' ⟨.sl (G.length + k) 5 0 n,bs.l++[x]⟩∧(∀ sid l,Sn G C B bs sid l→Sn ((G.set bs.id .dead).set B P++R) C B ⟨.sl (G.length + k) 5 0 n,bs.l++[x]⟩ sid l)∧∃ b',(bs.l++[x])[0]? = some b'∧0 < b'.insts_.l.length:=by
  obtain ⟨b0,f1,f2⟩:=hf
  have hnb:0 < nb:=by have:=q.len;have:=(List.getElem?_eq_some_iff.1 f1).1;omega
  obtain ⟨rv,rr,hcell,hid,hidl,hBl,hne⟩:=q.view hnb
  obtain ⟨h1,u⟩:=q.bd.push (by rw [q.len];exact hnb) hx (R:=R) (k:=k) (n:=n) hR (by rw [q.len];exact hn) hP
  have at_:∀ j,j < G.length→j ≠ bs.id→j ≠ B→((G.set bs.id .dead).set B P++R)[j]? = G[j]?:=fun j h1 h2 h3=>by
    rw [List.getElem?_append_left (by simpa using h1),List.getElem?_set_ne (fun q=>h3 q.symm),List.getElem?_set_ne (fun q=>h2 q.symm)]
  have lC:=(List.getElem?_eq_some_iff.1 q.cur).1
  have lR:=(List.getElem?_eq_some_iff.1 q.res).1
  have gl:=q.only.len
  have gB:=q.ge.2.1
  refine ⟨⟨(at_ C lC (fun e=>q.nC (e ▸ hid)) q.ne).trans q.cur,h1,(at_ R0 lR (fun e=>q.nR (e ▸ hid)) q.rB).trans q.res,q.ne,fun h=>(u C h).elim q.nC fun h=>by omega,fun h=>(u R0 h).elim q.nR fun h=>by omega,q.rB,q.rC,fun d hd=>?_,by rw [List.length_append,q.len];rfl,
    ⟨q.ge.1,q.ge.2.1,fun j hj=>(u j hj).elim (q.ge.2.2 j) fun h=>by omega⟩,q.cl,⟨by simp;omega,fun j hj hn=>(at_ j (by omega) (fun e=>by have:=q.ge.2.2 _ hid;omega) (fun e=>by omega)).trans (q.only.at_ j hj hn)⟩,q.a0,by have:=q.m0;omega⟩,fun sid l qs=>qs.to u (at_ sid qs.lt (fun e=>qs.nb (e ▸ hid)) qs.nB),b0, ?_,f2⟩
  · rcases List.mem_append.1 hd with hd | hd
    · obtain ⟨h1,h2,h3⟩:=q.ok d hd
      exact ⟨h1,h2,by omega⟩
    · rw [List.mem_singleton.1 hd]
      refine ⟨fun _=>by rw [hx.1],⟨hxg.1, ?_,hxg.2.1,hxg.2.2, ?_⟩,by rw [hx.1];show ((0:Nat):Int)≤m';have:=q.m0;omega⟩
      · show Enc.good (x.insts_.l.map Tr.era);rw [hx.1];exact ⟨Nat.zero_le _,fun a h=>absurd h List.not_mem_nil⟩
      · show Enc.good (x.jumps_.l.map Tr.era);rw [hx.2];exact ⟨Nat.zero_le _,fun a h=>absurd h List.not_mem_nil⟩
  · rw [List.getElem?_append_left (List.getElem?_eq_some_iff.1 f1).1];exact f1
theorem own_j2 {G:Heap} {id:Nat} {t u:Int} (h:G[id]? = some (.row 2 [[.d (.int .i64 t),.d .nilsl],[.d (.int .i64 u),.d .nilsl]])):Own G (⟨.sl id 2 0 2,[⟨t,⟨.d .nilsl,[]⟩⟩,⟨u,⟨.d .nilsl,[]⟩⟩]⟩:AS AJump)∧∀ j∈ids (⟨.sl id 2 0 2,[⟨t,⟨.d .nilsl,[]⟩⟩,⟨u,⟨.d .nilsl,[]⟩⟩]⟩:AS AJump),j=id:=by
  have o1:∀ w:Int,Own G (⟨w,⟨.d .nilsl,[]⟩⟩:AJump):=fun w=>AJump.own (own_nil G)
  have i1:∀ w:Int,ids (⟨w,⟨.d .nilsl,[]⟩⟩:AJump)=[]:=fun w=>rfl
  have oL:OwnL G [(⟨t,⟨.d .nilsl,[]⟩⟩:AJump),⟨u,⟨.d .nilsl,[]⟩⟩]:=((OwnL.nil (H:=G) (α:=AJump)).snoc (o1 t) fun j hj=>absurd hj List.not_mem_nil).snoc (o1 u) fun j hj=>absurd hj List.not_mem_nil
  have iL:[(⟨t,⟨.d .nilsl,[]⟩⟩:AJump),⟨u,⟨.d .nilsl,[]⟩⟩].flatMap ids=[]:=rfl
  refine ⟨Own.mkS (id:=id) oL h (by rw [iL];exact List.not_mem_nil),fun j hj=>?_⟩
  rw [ids_sl (s:=(⟨.sl id 2 0 2,[⟨t,⟨.d .nilsl,[]⟩⟩,⟨u,⟨.d .nilsl,[]⟩⟩]⟩:AS AJump)) rfl,iL] at hj
  exact List.mem_singleton.1 hj
theorem own_j1 {G:Heap} {ia id:Nat} {t:Int} {xs:List Int} (ha:G[ia]? = some (.row 1 (rI xs))) (h:G[id]? = some (.row 2 [[.d (.int .i64 t),.sl ia 1 0 xs.length]])) (hne:id ≠ ia):Own G (⟨.sl id 2 0 1,[⟨t,⟨.sl ia 1 0 xs.length,xs⟩⟩]⟩:AS AJump)∧∀ j∈ids (⟨.sl id 2 0 1,[⟨t,⟨.sl ia 1 0 xs.length,xs⟩⟩]⟩:AS AJump),j=id∨j=ia:=by
  have o1:Own G (⟨t,⟨.sl ia 1 0 xs.length,xs⟩⟩:AJump):=AJump.own (own_row ha)
  have i1:ids (⟨t,⟨.sl ia 1 0 xs.length,xs⟩⟩:AJump)=[ia]:=ids_row ..
  have oL:OwnL G [(⟨t,⟨.sl ia 1 0 xs.length,xs⟩⟩:AJump)]:=(OwnL.nil (H:=G) (α:=AJump)).snoc o1 fun j hj h=>absurd h List.not_mem_nil
  have iL:[(⟨t,⟨.sl ia 1 0 xs.length,xs⟩⟩:AJump)].flatMap ids=[ia]:=by rw [List.flatMap_cons,i1];rfl
  refine ⟨Own.mkS (id:=id) oL h (by rw [iL];intro h;exact hne (List.mem_singleton.1 h)),fun j hj=>?_⟩
  rw [ids_sl (s:=(⟨.sl id 2 0 1,[⟨t,⟨.sl ia 1 0 xs.length,xs⟩⟩]⟩:AS AJump)) rfl,iL] at hj
  rcases List.mem_cons.1 hj with h | h
  · exact .inl h
  · exact .inr (List.mem_singleton.1 h)
theorem Fs.jmp1 (q:Fs H R0 C B code p nb G a s m bs) (hf:∃ b,bs.l[0]? = some b∧0 < b.insts_.l.length) {i:Nat} {b:ABlock} (hb:bs.l[i]? = some b) {e v t:Int} {xs:List Int} (he:Enc.good e) (hv:Enc.good v) (ht:Enc.good t) (hx:xs.length≤1000∧∀ x∈xs,Enc.good x) {P:Place}
    (hP:P=.row 5 ((bs.l.map Tr.cells).set i [.d (.int .i64 b.params_),b.insts_.v,.d (.int .i64 e),.d (.int .i64 v),.sl (G.length + 1) 2 0 1])) {R:Heap} (hR:R=[.row 1 (rI xs),.row 2 [[.d (.int .i64 t),.sl G.length 1 0 xs.length]]]) {bs':AS ABlock} (hbs:bs'=⟨bs.v,bs.l.set i ⟨b.params_,b.insts_,e,v,⟨.sl (G.length + 1) 2 0 1,[⟨t,⟨.sl G.length 1 0 xs.length,xs⟩⟩]⟩⟩⟩) :
    Fs H R0 C B code p nb (G.set bs.id P++R) a s m bs'∧(∀ sid l,Sn G C B bs sid l→Sn (G.set bs.id P++R) C B bs' sid l)∧∃ b',bs'.l[0]? = some b'∧0 < b'.insts_.l.length:=by
  subst hR hbs
  obtain ⟨j1,j2⟩:=own_j1 (G:=G.set bs.id P++[.row 1 (rI xs),.row 2 [[.d (.int .i64 t),.sl G.length 1 0 xs.length]]]) (ia:=G.length) (id:=G.length + 1) (t:=t) (xs:=xs) (by rw [List.getElem?_append_right (by simp)];simp) (by rw [List.getElem?_append_right (by simp)];simp) (by omega)
  refine q.upd hf hb hP (.inr ⟨j1,fun j hj=>by rcases j2 j hj with h | h <;> omega,⟨by simp,fun y hy=>?_⟩⟩) he hv
  rw [List.mem_singleton.1 hy]
  refine ⟨ht, ?_,fun z hz=>?_⟩
  · show (xs.map Tr.era).length≤_
    rw [List.length_map];omega
  · have hz:z∈xs.map Tr.era:=hz
    obtain ⟨w,hw,rfl⟩:=List.mem_map.1 hz
    exact hx.2 w hw
theorem Fs.jmp2 (q:Fs H R0 C B code p nb G a s m bs) (hf:∃ b,bs.l[0]? = some b∧0 < b.insts_.l.length) {i:Nat} {b:ABlock} (hb:bs.l[i]? = some b) {e v t u:Int} (he:Enc.good e) (hv:Enc.good v) (ht:Enc.good t) (hu:Enc.good u) {P:Place}
    (hP:P=.row 5 ((bs.l.map Tr.cells).set i [.d (.int .i64 b.params_),b.insts_.v,.d (.int .i64 e),.d (.int .i64 v),.sl G.length 2 0 2])) {R:Heap} (hR:R=[.row 2 [[.d (.int .i64 t),.d .nilsl],[.d (.int .i64 u),.d .nilsl]]]) {bs':AS ABlock} (hbs:bs'=⟨bs.v,bs.l.set i ⟨b.params_,b.insts_,e,v,⟨.sl G.length 2 0 2,[⟨t,⟨.d .nilsl,[]⟩⟩,⟨u,⟨.d .nilsl,[]⟩⟩]⟩⟩⟩) :
    Fs H R0 C B code p nb (G.set bs.id P++R) a s m bs'∧(∀ sid l,Sn G C B bs sid l→Sn (G.set bs.id P++R) C B bs' sid l)∧∃ b',bs'.l[0]? = some b'∧0 < b'.insts_.l.length:=by
  subst hR hbs
  obtain ⟨j1,j2⟩:=own_j2 (G:=G.set bs.id P++[.row 2 [[.d (.int .i64 t),.d .nilsl],[.d (.int .i64 u),.d .nilsl]]]) (id:=G.length) (t:=t) (u:=u) (by rw [List.getElem?_append_right (by simp)];simp)
  refine q.upd hf hb hP (.inr ⟨j1,fun j hj=>by rw [j2 j hj];exact Nat.le_refl _,⟨by simp,fun y hy=>?_⟩⟩) he hv
  have nil0:Enc.good (([]:List Int).map Tr.era):=⟨Nat.zero_le _,fun a h=>absurd h List.not_mem_nil⟩
  rcases List.mem_cons.1 hy with rfl | hy
  · exact ⟨ht,nil0⟩
  · rw [List.mem_singleton.1 hy];exact ⟨hu,nil0⟩
theorem Fs.pushB (q:Fs H R0 C B code p nb G a s m bs) {m':Int} (hmm:m≤m') (hf:∃ b,bs.l[0]? = some b∧0 < b.insts_.l.length) {pr en v:Int} (h1:Enc.good pr) (h2:Enc.good en) (h3:Enc.good v) {n:Nat} (hn:n=nb + 1) {bs':AS ABlock} (hbs:bs'=⟨.sl (G.length + 1) 5 0 n,bs.l++[⟨pr,⟨.d .nilsl,[]⟩,en,v,⟨.d .nilsl,[]⟩⟩]⟩) {G':Heap}
    (hG:G'=(G.set bs.id .dead).set B (.row 3 [[.d (.int .i64 p),.sl (G.length + 1) 5 0 n,.d (.int .i64 m')]])++[.row 5 [[.d (.int .i64 pr),.d .nilsl,.d (.int .i64 en),.d (.int .i64 v),.d .nilsl]],.row 5 (bs.l.map Tr.cells++[[.d (.int .i64 pr),.d .nilsl,.d (.int .i64 en),.d (.int .i64 v),.d .nilsl]])]) :
    Fs H R0 C B code p (nb + 1) G' a s m' bs'∧(∀ sid l,Sn G C B bs sid l→Sn G' C B bs' sid l)∧∃ b',bs'.l[0]? = some b'∧0 < b'.insts_.l.length:=by
  subst hG hbs
  exact q.push hmm hf (x:=⟨pr,⟨.d .nilsl,[]⟩,en,v,⟨.d .nilsl,[]⟩⟩) ⟨rfl,rfl⟩ ⟨h1,h2,h3⟩ (k:=1) (n:=n) rfl hn rfl
theorem Fs.more (q:Fs H R0 C B code p nb G a s m bs) (R:Heap):Fs H R0 C B code p nb (G++R) a s m bs :=
  ⟨(List.getElem?_append_left (List.getElem?_eq_some_iff.1 q.cur).1).trans q.cur,q.bd.frame (Only.app [] _ _) List.not_mem_nil fun j _ h=>absurd h List.not_mem_nil,(List.getElem?_append_left (List.getElem?_eq_some_iff.1 q.res).1).trans q.res,q.ne,q.nC,q.nR,q.rB,q.rC,q.ok,q.len,q.ge,q.cl,
    q.only.trans (Only.app [] _ _) (fun j h=>h) fun j h _=>absurd h List.not_mem_nil,q.a0,q.m0⟩
theorem Fs.vw (q:Fs H R0 C B code p nb G a s m bs) (h:0 < nb):bs.v=.sl bs.id 5 0 nb∧G[bs.id]? = some (.row 5 (bs.l.map Tr.cells))∧G[B]? = some (.row 3 [[.d (.int .i64 p),.sl bs.id 5 0 nb,.d (.int .i64 m)]])∧bs.id < G.length∧B < G.length∧B ≠ bs.id ∧
    (∀ R:Heap,(G++R)[bs.id]? = some (.row 5 (bs.l.map Tr.cells)))∧(∀ R:Heap,(G++R)[B]? = some (.row 3 [[.d (.int .i64 p),.sl bs.id 5 0 nb,.d (.int .i64 m)]]))∧(∀ (R:Heap) P,(G++R).set bs.id P=G.set bs.id P++R) ∧
    (∀ (R:Heap) P,(G.set bs.id P++R)[bs.id]? = some P)∧(∀ P,(G.set bs.id P)[bs.id]? = some P)∧(∀ (R:Heap) P,(G.set bs.id P++R)[B]? = some (.row 3 [[.d (.int .i64 p),.sl bs.id 5 0 nb,.d (.int .i64 m)]]))∧(∀ P,(G.set bs.id P)[B]? = some (.row 3 [[.d (.int .i64 p),.sl bs.id 5 0 nb,.d (.int .i64 m)]])) ∧
    (∀ (R:Heap) P Q,(G.set bs.id Q++R).set bs.id P=G.set bs.id P++R)∧(∀ (R:Heap) P Q,(G.set bs.id Q++R).set B P=(G.set bs.id Q).set B P++R)∧(∀ (R:Heap) P,(G++R).set B P=G.set B P++R) ∧
    (∀ (R:Heap) P Q,((G.set bs.id Q).set B P++R)[B]? = some P)∧(∀ (R:Heap) P Q S,((G.set bs.id Q).set B P++R).set B S=(G.set bs.id Q).set B S++R):=by
  obtain ⟨v,r,c,id,il,bl,ne⟩:=q.view h
  exact ⟨v,r,c,il,bl,ne,fun R=>(List.getElem?_append_left il).trans r,fun R=>(List.getElem?_append_left bl).trans c,fun R P=>List.set_append_left _ _ il,fun R P=>(List.getElem?_append_left (by simpa using il)).trans (List.getElem?_set_self il),fun P=>List.getElem?_set_self il,
    fun R P=>(List.getElem?_append_left (by simpa using bl)).trans ((List.getElem?_set_ne ne.symm).trans c),fun P=>(List.getElem?_set_ne ne.symm).trans c,fun R P Q=>by rw [List.set_append_left _ _ (by simpa using il),List.set_set],fun R P Q=>List.set_append_left _ _ (by simpa using bl),fun R P=>List.set_append_left _ _ bl,
    fun R P Q=>(List.getElem?_append_left (by simpa using bl)).trans (List.getElem?_set_self (by simpa using bl)),fun R P Q S=>by rw [List.set_append_left _ _ (by simpa using bl),List.set_set]⟩
theorem Fs.el (q:Fs H R0 C B code p nb G a s m bs) {i:Nat} (h:i < nb):∃ b,bs.l[i]? = some b∧okB m b∧(∀ h:i < bs.l.length,bs.l[i]=b)∧bs.l[i]?.getD default=b:=by
  obtain ⟨b,h1,h2⟩:=q.get h
  exact ⟨b,h1,h2,fun h=>Option.some.inj ((List.getElem?_eq_getElem h).symm.trans h1),by rw [h1];rfl⟩
end
end Go.Proofs.YthafdegfjadijaaGreat
