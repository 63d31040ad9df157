/- The reference's function made anew by a list: l15Map. No condition. -/
import Derived.Test.YtcgekblpbheikaaGreatDoorQS39
import Derived.Test.YtcgekblpbheikaaGreatDoorQS37
section
namespace Go.Proofs.YtcgekblpbheikaaGreatDoor
set_option maxRecDepth 100000
set_option linter.unusedSimpArgs false
set_option linter.unusedVariables false
end Go.Proofs.YtcgekblpbheikaaGreatDoor
end

section
namespace Go.Proofs.YtcgekblpbheikaaGreatDoor
set_option maxRecDepth 100000
set_option linter.unusedSimpArgs false
set_option linter.unusedVariables false
def Gr (n0:Nat) (l:List Int) (v:V) (H:Heap):Prop:=(l=[]∧v=.d .nilsl)∨∃ id,v=.sl id 1 0 l.length∧0 < l.length∧n0≤id∧H[id]? = some (.row 1 (rI l))
def mapL (T:List Int) (v:Int):Int:=T[v.toNat]?.getD 0
end Go.Proofs.YtcgekblpbheikaaGreatDoor
end

section
namespace Go.Proofs.YtcgekblpbheikaaGreatDoor
set_option maxRecDepth 100000
set_option linter.unusedSimpArgs false
set_option linter.unusedVariables false
@[reducible] instance trInstC:Tr Inst Inst where
  cells x:=[.d (.int .i64 x.op_),.d (.int .i64 x.n_),.d (dIntS x.args_)]
  pls _:=[]
  ok _:=True
  era x:=x
  len _ _:=rfl
  one _ _:=rfl
  dec H x _ _:=by
    have h:=dec_ro (α:=Int) (H:=H) (l:=x.args_)
    exact ⟨⟨trivial,trivial,of_eq_true (congrArg Prod.fst h)⟩,congrArg (Inst.mk x.op_ x.n_) (congrArg Prod.snd h)⟩
@[reducible] instance trJumpC:Tr Jump Jump where
  cells x:=[.d (.int .i64 x.to_),.d (dIntS x.args_)]
  pls _:=[]
  ok _:=True
  era x:=x
  len _ _:=rfl
  one _ _:=rfl
  dec H x _ _:=by
    have h:=dec_ro (α:=Int) (H:=H) (l:=x.args_)
    exact ⟨⟨trivial,of_eq_true (congrArg Prod.fst h)⟩,congrArg (Jump.mk x.to_) (congrArg Prod.snd h)⟩
structure CBlock where
  params_:Int
  insts_:AS Inst
  end_:Int
  value_:Int
  jumps_:AS Jump
  deriving Inhabited
@[reducible] instance trCBlock:Tr CBlock Block where
  cells x:=[.d (.int .i64 x.params_),x.insts_.v,.d (.int .i64 x.end_),.d (.int .i64 x.value_),x.jumps_.v]
  pls x:=(Tr.pls x.insts_)++(Tr.pls x.jumps_)
  ok x:=Tr.ok x.insts_∧Tr.ok x.jumps_
  era x:=⟨x.params_,Tr.era x.insts_,x.end_,x.value_,Tr.era x.jumps_⟩
  len _ _:=rfl
  one x h:=by
    show (true && (x.insts_.v.one && (true && (true && (x.jumps_.v.one && true)))))=true
    rw [(show okS x.insts_ from h.1).1.scl.2]
    rw [(show okS x.jumps_ from h.2).1.scl.2]
    rfl
  dec H x h hp:=by
    have q0:(Dec.dec (α:=List Inst) H [x.insts_.v]).1∧(Dec.dec (α:=List Inst) H [x.insts_.v]).2=Tr.era x.insts_:=Tr.dec H x.insts_ h.1 (fun q hq=>hp q (List.mem_append_left _ hq))
    have q1:(Dec.dec (α:=List Jump) H [x.jumps_.v]).1∧(Dec.dec (α:=List Jump) H [x.jumps_.v]).2=Tr.era x.jumps_:=Tr.dec H x.jumps_ h.2 (fun q hq=>hp q (List.mem_append_right _ hq))
    refine ⟨⟨trivial,q0.1,trivial,trivial,q1.1⟩, ?_⟩
    show Block.mk x.params_ (Dec.dec (α:=List Inst) H [x.insts_.v]).2 x.end_ x.value_ (Dec.dec (α:=List Jump) H [x.jumps_.v]).2=_
    rw [q0.2]
    rw [q1.2]
@[simp] theorem cells_CBlock (x:CBlock):Tr.cells x=[.d (.int .i64 x.params_),x.insts_.v,.d (.int .i64 x.end_),.d (.int .i64 x.value_),x.jumps_.v]:=rfl
theorem ids_CBlock (x:CBlock):ids x=ids x.insts_++ids x.jumps_:=List.map_append
theorem CBlock.own {H:Heap} {x:CBlock} (h1:Own H x.insts_) (h2:Own H x.jumps_) (hd:∀ j∈ids x.insts_,j ∉ ids x.jumps_):Own H x :=
  ⟨⟨h1.ok,h2.ok⟩,fun q hq=>(List.mem_append.1 hq).elim (h1.at_ q) (h2.at_ q),by rw [ids_CBlock];exact List.nodup_append.2 ⟨h1.nd,h2.nd,fun a ha b hb e=>hd a ha (by rw [e];exact hb)⟩⟩
structure CFunc where
  params_:Int
  blocks_:AS CBlock
  deriving Inhabited
@[reducible] instance trCFunc:Tr CFunc Func where
  cells x:=[.d (.int .i64 x.params_),x.blocks_.v]
  pls x:=(Tr.pls x.blocks_)
  ok x:=Tr.ok x.blocks_
  era x:=⟨x.params_,Tr.era x.blocks_⟩
  len _ _:=rfl
  one x h:=by
    show (true && (x.blocks_.v.one && true))=true
    rw [(show okS x.blocks_ from h).1.scl.2]
    rfl
  dec H x h hp:=by
    have q0:(Dec.dec (α:=List Block) H [x.blocks_.v]).1∧(Dec.dec (α:=List Block) H [x.blocks_.v]).2=Tr.era x.blocks_:=Tr.dec H x.blocks_ h hp
    refine ⟨⟨trivial,q0.1⟩, ?_⟩
    show Func.mk x.params_ (Dec.dec (α:=List Block) H [x.blocks_.v]).2=_
    rw [q0.2]
@[simp] theorem cells_CFunc (x:CFunc):Tr.cells x=[.d (.int .i64 x.params_),x.blocks_.v]:=rfl
theorem CFunc.own_blocks_ {H:Heap} {x:CFunc} (h:Own H x):Own H x.blocks_:=⟨h.ok,h.at_,h.nd⟩
theorem CFunc.own {H:Heap} {x:CFunc} (h:Own H x.blocks_):Own H x:=⟨h.ok,h.at_,h.nd⟩
def GrT {α β:Type} [Enc β] [Dec β] [Inhabited β] [Tr α β] (n0:Nat) (l:List α) (v:V) (H:Heap):Prop:=(l=[]∧v=.d .nilsl)∨∃ id,v=.sl id (Enc.size β) 0 l.length∧0 < l.length∧n0≤id∧H[id]? = some (.row (Enc.size β) (l.map Tr.cells))
theorem ownL_C {α β:Type} [Enc β] [Dec β] [Inhabited β] [Tr α β] {H:Heap} {l:List α} (hp:∀ a:α,Tr.pls a=[]) (hk:∀ a:α,Tr.ok a):OwnL H l∧l.flatMap ids=[]:=by
  have e:l.flatMap Tr.pls=[]:=by induction l with | nil=>rfl | cons a l ih=>rw [List.flatMap_cons,hp,ih];rfl
  have e2:l.flatMap ids=[]:=by rw [← ids_flat,e];rfl
  exact ⟨⟨fun a _=>hk a,fun q hq=>by rw [e] at hq;exact absurd hq List.not_mem_nil,by rw [e2];exact List.nodup_nil⟩,e2⟩
section
variable {α β:Type} [Enc β] [Dec β] [Inhabited β] [Tr α β]
theorem GrT.one {n0:Nat} {l:List α} {v:V} {H:Heap} (h:GrT n0 l v H):v.one=true∧v.flat=[v]:=by
  rcases h with ⟨_,rfl⟩ | ⟨id,rfl,_⟩ <;> exact ⟨rfl,rfl⟩
theorem GrT.id {n0:Nat} {l:List α} {v:V} {H:Heap} (h:GrT n0 l v H) (hl:0 < l.length):v=.sl v.slId (Enc.size β) 0 l.length∧n0≤v.slId∧v.slId < H.length∧H[v.slId]? = some (.row (Enc.size β) (l.map Tr.cells)):=by
  rcases h with ⟨rfl,_⟩ | ⟨id,rfl,_,h1,h2⟩
  · exact absurd hl (by simp)
  · exact ⟨rfl,h1,(List.getElem?_eq_some_iff.1 h2).1,h2⟩
theorem GrT.same {n0:Nat} {l:List α} {v:V} {H H':Heap} (h:GrT n0 l v H) (he:0 < l.length→H'[v.slId]? = H[v.slId]?):GrT n0 l v H':=by
  rcases h with h | ⟨id,rfl,h0,h1,h2⟩
  · exact .inl h
  · exact .inr ⟨id,rfl,h0,h1,(he h0).trans h2⟩
theorem GrT.own {n0:Nat} {l:List α} {v:V} {H:Heap} (h:GrT n0 l v H) (ho:OwnL H l) (hn:v.slId ∉ l.flatMap ids):Own H (⟨v,l⟩:AS α)∧∀ j∈ids (⟨v,l⟩:AS α),j∈l.flatMap ids∨(0 < l.length∧j=v.slId):=by
  rcases h with ⟨rfl,rfl⟩ | ⟨id,rfl,h0,h1,h2⟩
  · exact ⟨⟨⟨.inr ⟨rfl,.inl rfl⟩,fun a ha=>absurd ha List.not_mem_nil⟩,fun q hq=>absurd hq List.not_mem_nil,List.nodup_nil⟩,fun j hj=>absurd hj List.not_mem_nil⟩
  · refine ⟨Own.mkS ho h2 hn,fun j hj=>?_⟩
    rw [ids_sl (s:=(⟨.sl id (Enc.size β) 0 l.length,l⟩:AS α)) rfl] at hj
    rcases List.mem_cons.1 hj with rfl | hj
    · exact .inr ⟨h0,rfl⟩
    · exact .inl hj
end
structure MF (H00:Heap) (F:Func) (T:List Int) (m:List CBlock) (v:V) (H:Heap):Prop where
  out:H[H00.length + 1]? = some (.row 2 [[.d (.int .i64 0),.d .nilsl]])
  cell:H[H00.length + 2]? = some (.row 2 [[.d (.int .i64 F.params_),v]])
  gr:GrT (H00.length + 3) m v H
  old:Only [] H00 H
  own:OwnL H m
  nin:v.slId ∉ m.flatMap ids
  ge:∀ j∈m.flatMap ids,H00.length + 3≤j
  le:m.length≤F.blocks_.length
  era:m.map Tr.era=(F.blocks_.take m.length).map (mpB (mapL T))
structure MB (H1:Heap) (b:Block) (vI vJ:V) (val:Int) (mi:List Inst) (mj:List Jump) (H:Heap):Prop where
  c7:H[H1.length]? = some (.row 5 [[.d (.int .i64 b.params_),.d (dInstS b.insts_),.d (.int .i64 b.end_),.d (.int .i64 b.value_),.d (dJumpS b.jumps_)]])
  c8:H[H1.length + 1]? = some (.row 5 [[.d (.int .i64 b.params_),vI,.d (.int .i64 b.end_),.d (.int .i64 val),vJ]])
  gi:GrT (H1.length + 2) mi vI H
  gj:GrT (H1.length + 2) mj vJ H
  ne:0 < mi.length→0 < mj.length→vI.slId ≠ vJ.slId
  old:Only [] H1 H
theorem MB.lt {H1:Heap} {b:Block} {vI vJ:V} {val:Int} {mi:List Inst} {mj:List Jump} {H2:Heap} (q:MB H1 b vI vJ val mi mj H2):H1.length + 1 < H2.length:=(List.getElem?_eq_some_iff.1 q.c8).1
theorem MB.done {H1:Heap} {b:Block} {vI vJ:V} {val:Int} {mi:List Inst} {mj:List Jump} {H2:Heap} (q:MB H1 b vI vJ val mi mj H2):Own H2 (⟨b.params_,⟨vI,mi⟩,b.end_,val,⟨vJ,mj⟩⟩:CBlock)∧∀ j∈ids (⟨b.params_,⟨vI,mi⟩,b.end_,val,⟨vJ,mj⟩⟩:CBlock),H1.length + 2≤j∧j < H2.length:=by
  obtain ⟨i1,i2⟩:=ownL_C (H:=H2) (l:=mi) (fun _=>rfl) (fun _=>trivial)
  obtain ⟨j1,j2⟩:=ownL_C (H:=H2) (l:=mj) (fun _=>rfl) (fun _=>trivial)
  obtain ⟨oi,di⟩:=q.gi.own i1 (by rw [i2];exact List.not_mem_nil)
  obtain ⟨oj,dj⟩:=q.gj.own j1 (by rw [j2];exact List.not_mem_nil)
  have di':∀ j∈ids (⟨vI,mi⟩:AS Inst),0 < mi.length∧j=vI.slId:=fun j hj=>(di j hj).elim (fun h=>by rw [i2] at h;exact absurd h List.not_mem_nil) fun h=>h
  have dj':∀ j∈ids (⟨vJ,mj⟩:AS Jump),0 < mj.length∧j=vJ.slId:=fun j hj=>(dj j hj).elim (fun h=>by rw [j2] at h;exact absurd h List.not_mem_nil) fun h=>h
  refine ⟨CBlock.own oi oj fun j hj hk=>?_,fun j hj=>?_⟩
  · obtain ⟨a1,a2⟩:=di' j hj
    obtain ⟨b1,b2⟩:=dj' j hk
    exact q.ne a1 b1 (a2.symm.trans b2)
  · rw [ids_CBlock] at hj
    rcases List.mem_append.1 hj with hj | hj
    · obtain ⟨a1,rfl⟩:=di' j hj
      exact ⟨(q.gi.id a1).2.1,(q.gi.id a1).2.2.1⟩
    · obtain ⟨a1,rfl⟩:=dj' j hj
      exact ⟨(q.gj.id a1).2.1,(q.gj.id a1).2.2.1⟩
theorem MF.lt {H00:Heap} {F:Func} {T:List Int} {m:List CBlock} {v:V} {H:Heap} (k:MF H00 F T m v H):H00.length + 2 < H.length:=(List.getElem?_eq_some_iff.1 k.cell).1
theorem MF.step {H00:Heap} {F:Func} {T:List Int} {m:List CBlock} {v:V} {H1 H2 Hd:Heap} {a:CBlock} {P:Place} {rows:List (List V)} {n:Nat} (k:MF H00 F T m v H1) (ho:Only [] H1 H2) (oa:Own H2 a) (da:∀ j∈ids a,H1.length + 2≤j∧j < H2.length) (hm:m.length < F.blocks_.length) (he:Tr.era a=mpB (mapL T) (F.blocks_[m.length]?.getD default))
    (hl:Hd.length=H2.length) (hd:∀ j,j < H2.length→(0 < m.length→j ≠ v.slId)→Hd[j]? = H2[j]?) (hn:n=m.length + 1) (hr:rows=(m++[a]).map Tr.cells) :
    MF H00 F T (m++[a]) (.sl (H2.length + 1) 5 0 n) (Hd.set (H00.length + 2) (.row 2 [[.d (.int .i64 F.params_),.sl (H2.length + 1) 5 0 n]])++[P,.row 5 rows]):=by
  have h2:=k.lt
  have hol:=ho.len
  have hV:0 < m.length→H00.length + 3≤v.slId∧v.slId < H1.length:=fun h=>⟨(k.gr.id h).2.1,(k.gr.id h).2.2.1⟩
  have at_:∀ j,j < H2.length→j ≠ H00.length + 2→(0 < m.length→j ≠ v.slId)→(Hd.set (H00.length + 2) (.row 2 [[.d (.int .i64 F.params_),.sl (H2.length + 1) 5 0 n]])++[P,.row 5 rows])[j]? = H2[j]?:=fun j hj hne hni=>by
    rw [List.getElem?_append_left (by simp;omega),List.getElem?_set_ne (by omega)];exact hd j hj hni
  have idm:∀ j∈m.flatMap ids,j < H1.length:=fun j hj=>k.own.lt hj
  have oa':Own (Hd.set (H00.length + 2) (.row 2 [[.d (.int .i64 F.params_),.sl (H2.length + 1) 5 0 n]])++[P,.row 5 rows]) a:=oa.same fun j hj _=>at_ j (da j hj).2 (by have:=(da j hj).1;omega) fun h=>by have:=hV h;have:=(da j hj).1;omega
  have om:OwnL (Hd.set (H00.length + 2) (.row 2 [[.d (.int .i64 F.params_),.sl (H2.length + 1) 5 0 n]])++[P,.row 5 rows]) m:=(k.own.frame ho fun j _ hj=>absurd hj List.not_mem_nil).same fun j hj hlt=>at_ j hlt (by have:=k.ge j hj;omega) fun h e=>k.nin (e ▸ hj)
  refine ⟨(at_ (H00.length + 1) (by omega) (by omega) fun h=>by have:=hV h;omega).trans ((ho.at_ (H00.length + 1) (by omega) List.not_mem_nil).trans k.out), ?_, ?_,⟨by have:=k.old.len;simp;omega,fun j hj _=>(at_ j (by omega) (by omega) fun h=>by have:=hV h;omega).trans ((ho.at_ j (by omega) List.not_mem_nil).trans (k.old.at_ j hj List.not_mem_nil))⟩,om.snoc oa' fun j hj hx=>?_,fun hx=>?_,fun j hj=>?_,by simp;omega, ?_⟩
  · rw [List.getElem?_append_left (by simp;omega)];exact List.getElem?_set_self (by omega)
  · refine .inr ⟨H2.length + 1,by rw [hn,List.length_append];rfl,by simp,by omega, ?_⟩
    rw [List.getElem?_append_right (by simp;omega),List.length_set,hl,Nat.add_sub_cancel_left,hr];rfl
  · have:=(da j hj).1;have:=idm j hx;omega
  · replace hx:H2.length + 1∈(m++[a]).flatMap ids:=hx
    rw [List.flatMap_append] at hx
    rcases List.mem_append.1 hx with q | q
    · have:=idm _ q;omega
    · have:=(da _ (by simpa using q)).2;omega
  · rw [List.flatMap_append] at hj
    rcases List.mem_append.1 hj with q | q
    · exact k.ge j q
    · have:=(da j (by simpa using q)).1;omega
  · rw [List.map_append,k.era,List.length_append,List.length_singleton,take_snocD hm,List.map_append]
    simp [he]
end Go.Proofs.YtcgekblpbheikaaGreatDoor
end
