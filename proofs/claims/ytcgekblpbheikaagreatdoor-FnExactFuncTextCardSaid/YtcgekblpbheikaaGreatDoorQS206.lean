/- impl.funcText: the text of a function, written into a strings.Builder. No condition. -/
import Derived.Test.YtcgekblpbheikaaGreatDoorQS205
import Derived.Test.YtcgekblpbheikaaGreatDoorQS204
import Derived.Test.YtcgekblpbheikaaGreatDoorQE14
namespace Go.Proofs.YtcgekblpbheikaaGreatDoor
set_option maxRecDepth 100000
set_option linter.unusedSimpArgs false
set_option linter.unusedVariables false
def zeroCells (P:Program) (t:TypeId):Option (Array Value):=(P.info? t).bind fun i=>i.zero.map (·.cells)
theorem zero143:zeroCells Tryz.prog 143=some #[.pointer none,.slice none 0 0]:=by kernel_rfl
theorem info143:∃ i z,Tryz.prog.info? 143=some i∧i.zero=some z∧z.cells=#[.pointer none,.slice none 0 0]:=by
  have h:=zero143
  unfold zeroCells at h
  obtain ⟨i,h1,h2⟩:=Option.bind_eq_some_iff.1 h
  obtain ⟨z,h3,h4⟩:=Option.map_eq_some_iff.1 h2
  exact ⟨i,z,h1,h3,h4⟩
set_option maxHeartbeats 2000000 in
theorem bld_new {X:Nat→Prop} {w0:World} {N:Nat} {env:Env} {H:Heap} {φ:List (Nat × Nat)} {a:Act} {w:World} {rid:Nat} {ops:Array Oper} {ty0 ty1 ty2:TypeId} {p0 p1 p2:String} {af0 af1 af2:Array Edge} {r q:Nat} (hr8:r < N) (hq3:q < N) (hqr:q ≠ r)
    (hsz:ops.size=3) (h0:ops[0]? = some ⟨some r,.build 143 #[],ty0,p0,af0,none⟩) (h1:ops[1]? = some ⟨some q,.alloc 143,ty1,p1,af1,none⟩) (h2:ops[2]? = some ⟨none,.store 143 (.tmp q) (.tmp r),ty2,p2,af2,none⟩)
    (hs:Sim ⟨X,w0,[],[]⟩ N ⟨env,H⟩ φ a w) :
    (Code.region rid ops false).wp Tryz.prog (fun e a' w'=>e=.normal∧∃ b x' φ',SimT (bldT b) w0 H.length b x' N ⟨upd (upd env r (.agg [.d .nilp,.d .nilsl])) q (.ptr H.length 2 0 0),H++[.dead]⟩ φ' a' w' (some [])) a w:=by
  obtain ⟨i,z,hi,hz,hzc⟩:=info143
  refine wp_region ?_
  rw [hsz,show List.range 3=[0,1,2] from rfl]
  simp only [wpOps,h0]
  rw [if_pos (by simp [Region.wanted])]
  refine .inl (op_wp (tabG_good []) hs (k:=fun v H'=>v=.agg [.d .nilp,.d .nilsl]∧H'=H) (by simp [opD,buildD]) ?_)
  rintro v c H φ1 w1 ⟨rfl,rfl⟩ hs1 hv1
  have hs1:=hs1.putO (t:=some r) (by simpa using hr8) hv1
  simp only [h1]
  rw [if_pos (by simp [Region.wanted])]
  refine .inl ?_
  unfold Oper.wp
  have hr:(execOp (a.put (some r) v).eval (⟨some q,.alloc 143,ty1,p1,af1,none⟩:Oper)).run Tryz.prog w1=.ok (.value (.pointer (some ⟨w1.heap.size,0,none⟩))) (w1.alloc (.cells #[.pointer none,.slice none 0 0] 143)):=by
    simp [execOp,Instr.alloc,zeroValue,typeInfo,hi,hz,newVar,newRow,hzc]
  rw [hr,Oper.upon_value]
  have hs2:=hs1.alloc 2 [[.d .nilp,.d .nilsl]] #[.pointer none,.slice none 0 0] 143 (by simp) (by
    intro i l hl
    cases i with
    | zero =>
      simp at hl
      subst hl
      refine ⟨rfl,fun j c hc=>?_⟩
      match j,hc with
      | 0,hc=>cases hc;exact ⟨rfl,_,rfl,by simp [VS,DS]⟩
      | 1,hc=>cases hc;exact ⟨rfl,_,rfl,by simp [VS,DS]⟩
    | succ i=>simp at hl)
  have hs3:=hs2.put (t:=q) hq3 (c:=.ptr H.length 2 0 0) (v:=.pointer (some ⟨w1.heap.size,0,none⟩)) ⟨w1.heap.size,0,by rw [← hs1.hs.len];simp,by simp⟩
  have hs4:=hs3.rebase
  simp only [h2]
  rw [if_pos (by simp [Region.wanted])]
  refine .inl (op_wp (tabG_good []) hs4 (k:=fun v H'=>H'=H++[.row 2 [[.d .nilp,.d .nilsl]]]) ?_ ?_)
  · simp [opD,storeD,upd,hqr,hqr.symm]
  rintro v2 c2 H2 φ2 w2 rfl hs5 hv2
  have hs6:=hs3.from0 hs5
  have hgetH:(H++[Place.row 2 [[V.d .nilp,V.d .nilsl]]])[H.length]? = some (.row 2 [[.d .nilp,.d .nilsl]]):=by simp
  obtain ⟨g,o,cs,t,p1,p2,p3,p4⟩:=hs5.hs.live H.length 2 _ hgetH
  have hb:φ2[H.length]? = some (w1.heap.size,0):=(hs5.ext H.length (by show H.length < (φ1++[(w1.heap.size,0)]).length;rw [List.length_append,hs1.hs.len];simp)).trans (by show (φ1++[(w1.heap.size,0)])[H.length]? = _;rw [← hs1.hs.len];simp)
  rw [hb] at p1
  obtain ⟨rfl,rfl⟩:=Prod.mk.inj (Option.some.inj p1)
  obtain ⟨cs',fr',q1,q2⟩:=hs5.fr.sizes w1.heap.size _ _ _ (heap_alloc_new w1 _)
  rw [p2] at q1
  cases q1
  obtain ⟨_,y0,y1,y2⟩:=(p4 0 _ rfl).2 0 _ rfl
  obtain ⟨_,z0,z1,z2⟩:=(p4 0 _ rfl).2 1 _ rfl
  have y2:y0=.pointer none:=y2
  have z2:z0=.slice none 0 0:=z2
  subst y2 z2
  have q2:cs.size=2:=q2
  have hcs:cs=#[.pointer none,.slice none 0 0]:=by
    apply Array.ext_getElem?
    intro j
    match j with
    | 0=>simpa using y1
    | 1=>simpa using z1
    | j + 2=>rw [Array.getElem?_eq_none (by omega)];simp
  rw [hcs] at p2
  have hg:=hs6.give hgetH hb
  rw [show (H++[Place.row 2 [[V.d .nilp,V.d .nilsl]]]).set H.length .dead=H++[.dead] by simp] at hg
  refine ⟨trivial,w1.heap.size,_,φ2,hg,⟨fun g=>g=w1.heap.size,⟨_,_,p2,.inl rfl,⟨rfl,.inl ⟨rfl,rfl⟩⟩,by simp [Value.ownBlock],fun g=>by simp [Value.ownBlock]⟩,fun g e=>?_⟩,hb,by simp,hs6.below0,fun g ho=>hs6.own0 (s:=⟨_,_⟩) ?_⟩
  · subst e
    exact ⟨.inr rfl,hs1.fr.size⟩
  · have:=(ownOf_kill (H:=H++[.row 2 [[.d .nilp,.d .nilsl]]]) (id:=H.length) (φ:=φ2) (g:=g) (by rw [show (H++[Place.row 2 [[V.d .nilp,V.d .nilsl]]]).set H.length .dead=H++[.dead] by simp];exact ho)).1
    exact this
theorem write_T (b:Nat) (T s:ByteArray) (h:T.size + s.size≤1000000000):ThCall (bldT b) Tryz.prog b 100 s (some T.data.toList) (some (T++s).data.toList):=by
  have:=write_c b T.data.toList s (by rw [Array.length_toList];exact h)
  rw [ByteArray.data_append,Array.toList_append]
  exact this
theorem string_T (b:Nat) (T:ByteArray) (h:T.size ≠ 0):ThText (bldT b) Tryz.prog b 104 T (some T.data.toList) none :=
  string_c b T.data.toList fun e=>h (by have:=congrArg List.length e;rwa [Array.length_toList] at this)
end Go.Proofs.YtcgekblpbheikaaGreatDoor
