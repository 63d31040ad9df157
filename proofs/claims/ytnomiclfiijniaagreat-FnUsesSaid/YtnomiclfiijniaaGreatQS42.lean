/- The reference's function made anew by a list: l15Map. No condition. -/
import Derived.Test.YtnomiclfiijniaaGreatQS41
namespace Go.Proofs.YtnomiclfiijniaaGreat
set_option maxRecDepth 100000
set_option linter.unusedSimpArgs false
set_option linter.unusedVariables false
theorem l15Args_c (l T:List Int) (h1:l.length≤1000) (hT:∀ v∈l,0≤v∧v < T.length):PureP Tryz.prog 144 [.d (dIntS l),.d (dIntS T)] (· = .d (dIntS (l.map (mapL T)))) :=
  PureP.of_own ((l15Args_own [] l T h1 hT).mono fun r H' ⟨s,e,hs,hn⟩=>by
    have:=Rd1.slice hn.own
    rw [era_AS_ints,hs] at this
    rw [e];exact this)
noncomputable def K_144:Ent Tryz.prog:=Ent.p2 (α:=List Int) (β:=List Int) 144 (fun l T=>l.length≤1000∧∀ v∈l,0≤v∧v < T.length) (fun l T=>.d (dIntS (l.map (mapL T)))) (fun l T hc=>l15Args_c l T hc.1 hc.2)
theorem K_144_f:K_144.f=144:=rfl
theorem K_144_e (l:List Int) (T:List Int):K_144.e [.d (dIntS l),.d (dIntS T)]=some (l.length≤1000∧∀ v∈l,0≤v∧v < T.length,.d (dIntS (l.map (mapL T))),[]):=by unfold K_144;exact Ent.p2_eq (α:=List Int) (β:=List Int) l T
noncomputable def K_144h:EntH Tryz.prog:=EntH.pk2 (α:=List Int) (β:=List Int) 144 (fun l T=>l.length≤1000∧∀ v∈l,0≤v∧v < T.length) (fun l T=>.d (dIntS (l.map (mapL T)))) (fun l T=>[]) (fun l T hc=>PureP.ans (l15Args_c l T hc.1 hc.2))
theorem K_144h_f:K_144h.f=144:=rfl
theorem K_144h_g:K_144h.gro=true:=rfl
theorem K_144h_e {x1 x2:V} {H:Heap}:K_144h.e [x1,x2] H=guardR ((decA (α:=List Int) H x1).1∧(decA (α:=List Int) H x2).1) (peekR ((decA (α:=List Int) H x1).2.length≤1000∧∀ v∈(decA (α:=List Int) H x1).2,0≤v∧v < (decA (α:=List Int) H x2).2.length) (.d (dIntS ((decA (α:=List Int) H x1).2.map (mapL (decA (α:=List Int) H x2).2)))) ([]) H):=rfl
@[reducible] instance trInstC:Tr Inst Inst where
  cells x:=[.d (.int .i64 x.op_),.d (.int .i64 x.n_),.d (dIntS x.args_)]
  pls _:=[]
  ok _:=True
  era x:=x
  len _ _:=rfl
  one _ _:=rfl
  dec H x _ _:=by
    have h:=dec_ro (α:=Int) (H:=H) (l:=x.args_)
    exact ⟨⟨trivial,trivial,of_eq_true (congrArg Prod.fst h)⟩,congrArg (Inst.mk x.op_ x.n_) (congrArg Prod.snd h)⟩
@[reducible] instance trJumpC:Tr Jump Jump where
  cells x:=[.d (.int .i64 x.to_),.d (dIntS x.args_)]
  pls _:=[]
  ok _:=True
  era x:=x
  len _ _:=rfl
  one _ _:=rfl
  dec H x _ _:=by
    have h:=dec_ro (α:=Int) (H:=H) (l:=x.args_)
    exact ⟨⟨trivial,of_eq_true (congrArg Prod.fst h)⟩,congrArg (Jump.mk x.to_) (congrArg Prod.snd h)⟩
structure CBlock where
  params_:Int
  insts_:AS Inst
  end_:Int
  value_:Int
  jumps_:AS Jump
  deriving Inhabited
@[reducible] instance trCBlock:Tr CBlock Block where
  cells x:=[.d (.int .i64 x.params_),x.insts_.v,.d (.int .i64 x.end_),.d (.int .i64 x.value_),x.jumps_.v]
  pls x:=(Tr.pls x.insts_)++(Tr.pls x.jumps_)
  ok x:=Tr.ok x.insts_∧Tr.ok x.jumps_
  era x:=⟨x.params_,Tr.era x.insts_,x.end_,x.value_,Tr.era x.jumps_⟩
  len _ _:=rfl
  one x h:=by
    show (true && (x.insts_.v.one && (true && (true && (x.jumps_.v.one && true)))))=true
    rw [(show okS x.insts_ from h.1).1.scl.2]
    rw [(show okS x.jumps_ from h.2).1.scl.2]
    rfl
  dec H x h hp:=by
    have q0:(Dec.dec (α:=List Inst) H [x.insts_.v]).1∧(Dec.dec (α:=List Inst) H [x.insts_.v]).2=Tr.era x.insts_:=Tr.dec H x.insts_ h.1 (fun q hq=>hp q (List.mem_append_left _ hq))
    have q1:(Dec.dec (α:=List Jump) H [x.jumps_.v]).1∧(Dec.dec (α:=List Jump) H [x.jumps_.v]).2=Tr.era x.jumps_:=Tr.dec H x.jumps_ h.2 (fun q hq=>hp q (List.mem_append_right _ hq))
    refine ⟨⟨trivial,q0.1,trivial,trivial,q1.1⟩, ?_⟩
    show Block.mk x.params_ (Dec.dec (α:=List Inst) H [x.insts_.v]).2 x.end_ x.value_ (Dec.dec (α:=List Jump) H [x.jumps_.v]).2=_
    rw [q0.2]
    rw [q1.2]
@[simp] theorem cells_CBlock (x:CBlock):Tr.cells x=[.d (.int .i64 x.params_),x.insts_.v,.d (.int .i64 x.end_),.d (.int .i64 x.value_),x.jumps_.v]:=rfl
theorem ids_CBlock (x:CBlock):ids x=ids x.insts_++ids x.jumps_:=List.map_append
theorem CBlock.own {H:Heap} {x:CBlock} (h1:Own H x.insts_) (h2:Own H x.jumps_) (hd:∀ j∈ids x.insts_,j ∉ ids x.jumps_):Own H x :=
  ⟨⟨h1.ok,h2.ok⟩,fun q hq=>(List.mem_append.1 hq).elim (h1.at_ q) (h2.at_ q),by rw [ids_CBlock];exact List.nodup_append.2 ⟨h1.nd,h2.nd,fun a ha b hb e=>hd a ha (by rw [e];exact hb)⟩⟩
structure CFunc where
  params_:Int
  blocks_:AS CBlock
  deriving Inhabited
@[reducible] instance trCFunc:Tr CFunc Func where
  cells x:=[.d (.int .i64 x.params_),x.blocks_.v]
  pls x:=(Tr.pls x.blocks_)
  ok x:=Tr.ok x.blocks_
  era x:=⟨x.params_,Tr.era x.blocks_⟩
  len _ _:=rfl
  one x h:=by
    show (true && (x.blocks_.v.one && true))=true
    rw [(show okS x.blocks_ from h).1.scl.2]
    rfl
  dec H x h hp:=by
    have q0:(Dec.dec (α:=List Block) H [x.blocks_.v]).1∧(Dec.dec (α:=List Block) H [x.blocks_.v]).2=Tr.era x.blocks_:=Tr.dec H x.blocks_ h hp
    refine ⟨⟨trivial,q0.1⟩, ?_⟩
    show Func.mk x.params_ (Dec.dec (α:=List Block) H [x.blocks_.v]).2=_
    rw [q0.2]
@[simp] theorem cells_CFunc (x:CFunc):Tr.cells x=[.d (.int .i64 x.params_),x.blocks_.v]:=rfl
theorem CFunc.own {H:Heap} {x:CFunc} (h:Own H x.blocks_):Own H x:=⟨h.ok,h.at_,h.nd⟩
def GrT {α β:Type} [Enc β] [Dec β] [Inhabited β] [Tr α β] (n0:Nat) (l:List α) (v:V) (H:Heap):Prop:=(l=[]∧v=.d .nilsl)∨∃ id,v=.sl id (Enc.size β) 0 l.length∧0 < l.length∧n0≤id∧H[id]? = some (.row (Enc.size β) (l.map Tr.cells))
theorem ownL_C {α β:Type} [Enc β] [Dec β] [Inhabited β] [Tr α β] {H:Heap} {l:List α} (hp:∀ a:α,Tr.pls a=[]) (hk:∀ a:α,Tr.ok a):OwnL H l∧l.flatMap ids=[]:=by
  have e:l.flatMap Tr.pls=[]:=by induction l with | nil=>rfl | cons a l ih=>rw [List.flatMap_cons,hp,ih];rfl
  have e2:l.flatMap ids=[]:=by rw [← ids_flat,e];rfl
  exact ⟨⟨fun a _=>hk a,fun q hq=>by rw [e] at hq;exact absurd hq List.not_mem_nil,by rw [e2];exact List.nodup_nil⟩,e2⟩
section
variable {α β:Type} [Enc β] [Dec β] [Inhabited β] [Tr α β]
theorem GrT.one {n0:Nat} {l:List α} {v:V} {H:Heap} (h:GrT n0 l v H):v.one=true∧v.flat=[v]:=by
  rcases h with ⟨_,rfl⟩ | ⟨id,rfl,_⟩ <;> exact ⟨rfl,rfl⟩
theorem GrT.id {n0:Nat} {l:List α} {v:V} {H:Heap} (h:GrT n0 l v H) (hl:0 < l.length):v=.sl v.slId (Enc.size β) 0 l.length∧n0≤v.slId∧v.slId < H.length∧H[v.slId]? = some (.row (Enc.size β) (l.map Tr.cells)):=by
  rcases h with ⟨rfl,_⟩ | ⟨id,rfl,_,h1,h2⟩
  · exact absurd hl (by simp)
  · exact ⟨rfl,h1,(List.getElem?_eq_some_iff.1 h2).1,h2⟩
theorem GrT.same {n0:Nat} {l:List α} {v:V} {H H':Heap} (h:GrT n0 l v H) (he:0 < l.length→H'[v.slId]? = H[v.slId]?):GrT n0 l v H':=by
  rcases h with h | ⟨id,rfl,h0,h1,h2⟩
  · exact .inl h
  · exact .inr ⟨id,rfl,h0,h1,(he h0).trans h2⟩
theorem GrT.own {n0:Nat} {l:List α} {v:V} {H:Heap} (h:GrT n0 l v H) (ho:OwnL H l) (hn:v.slId ∉ l.flatMap ids):Own H (⟨v,l⟩:AS α)∧∀ j∈ids (⟨v,l⟩:AS α),j∈l.flatMap ids∨(0 < l.length∧j=v.slId):=by
  rcases h with ⟨rfl,rfl⟩ | ⟨id,rfl,h0,h1,h2⟩
  · exact ⟨⟨⟨.inr ⟨rfl,.inl rfl⟩,fun a ha=>absurd ha List.not_mem_nil⟩,fun q hq=>absurd hq List.not_mem_nil,List.nodup_nil⟩,fun j hj=>absurd hj List.not_mem_nil⟩
  · refine ⟨Own.mkS ho h2 hn,fun j hj=>?_⟩
    rw [ids_sl (s:=(⟨.sl id (Enc.size β) 0 l.length,l⟩:AS α)) rfl] at hj
    rcases List.mem_cons.1 hj with rfl | hj
    · exact .inr ⟨h0,rfl⟩
    · exact .inl hj
end
def okMap (T:List Int) (b:Block):Prop:=b.insts_.length≤1000∧b.jumps_.length≤1000∧(∀ x∈b.insts_,x.args_.length≤1000)∧(∀ j∈b.jumps_,j.args_.length≤1000)∧(∀ v∈allU b,0≤v∧v < T.length)∧(b.end_=2→b.value_=0)
structure MF (H00:Heap) (F:Func) (T:List Int) (m:List CBlock) (v:V) (H:Heap):Prop where
  out:H[H00.length + 1]? = some (.row 2 [[.d (.int .i64 0),.d .nilsl]])
  cell:H[H00.length + 2]? = some (.row 2 [[.d (.int .i64 F.params_),v]])
  gr:GrT (H00.length + 3) m v H
  old:Only [] H00 H
  own:OwnL H m
  nin:v.slId ∉ m.flatMap ids
  ge:∀ j∈m.flatMap ids,H00.length + 3≤j
  le:m.length≤F.blocks_.length
  era:m.map Tr.era=(F.blocks_.take m.length).map (mpB (mapL T))
structure MB (H1:Heap) (b:Block) (vI vJ:V) (val:Int) (mi:List Inst) (mj:List Jump) (H:Heap):Prop where
  c7:H[H1.length]? = some (.row 5 [[.d (.int .i64 b.params_),.d (dInstS b.insts_),.d (.int .i64 b.end_),.d (.int .i64 b.value_),.d (dJumpS b.jumps_)]])
  c8:H[H1.length + 1]? = some (.row 5 [[.d (.int .i64 b.params_),vI,.d (.int .i64 b.end_),.d (.int .i64 val),vJ]])
  gi:GrT (H1.length + 2) mi vI H
  gj:GrT (H1.length + 2) mj vJ H
  ne:0 < mi.length→0 < mj.length→vI.slId ≠ vJ.slId
  old:Only [] H1 H
theorem MB.lt {H1:Heap} {b:Block} {vI vJ:V} {val:Int} {mi:List Inst} {mj:List Jump} {H2:Heap} (q:MB H1 b vI vJ val mi mj H2):H1.length + 1 < H2.length:=(List.getElem?_eq_some_iff.1 q.c8).1
theorem MB.growI {H1:Heap} {b:Block} {vI vJ:V} {val:Int} {mi:List Inst} {mj:List Jump} {H2 Hd:Heap} {x:Inst} {P P':Place} {rows:List (List V)} {n:Nat} (q:MB H1 b vI vJ val mi mj H2) (hl:Hd.length=H2.length) (hd:∀ j,j < H2.length→(0 < mi.length→j ≠ vI.slId)→Hd[j]? = H2[j]?)
    (hn:n=mi.length + 1) (hr:rows=(mi++[x]).map Tr.cells) :
    MB H1 b (.sl (H2.length + 2) 3 0 n) vJ val (mi++[x]) mj (Hd.set (H1.length + 1) (.row 5 [[.d (.int .i64 b.params_),.sl (H2.length + 2) 3 0 n,.d (.int .i64 b.end_),.d (.int .i64 val),vJ]])++[P,P',.row 3 rows]):=by
  have h2:=q.lt
  have hI:0 < mi.length→H1.length + 2≤vI.slId:=fun h=>(q.gi.id h).2.1
  have at_:∀ j,j < H2.length→j ≠ H1.length + 1→(0 < mi.length→j ≠ vI.slId)→(Hd.set (H1.length + 1) (.row 5 [[.d (.int .i64 b.params_),.sl (H2.length + 2) 3 0 n,.d (.int .i64 b.end_),.d (.int .i64 val),vJ]])++[P,P',.row 3 rows])[j]? = H2[j]?:=fun j hj hne hni=>by
    rw [List.getElem?_append_left (by simp;omega),List.getElem?_set_ne (by omega)];exact hd j hj hni
  refine ⟨(at_ _ (by omega) (by omega) fun h=>by have:=hI h;omega).trans q.c7, ?_, ?_, ?_,fun _ hj=>?_,⟨by simp;have:=q.old.len;omega,fun j hj _=>(at_ j (by omega) (by omega) fun h=>by have:=hI h;omega).trans (q.old.at_ j hj List.not_mem_nil)⟩⟩
  · rw [List.getElem?_append_left (by simp;omega)];exact List.getElem?_set_self (by omega)
  · refine .inr ⟨H2.length + 2,by rw [hn,List.length_append];rfl,by simp,by omega, ?_⟩
    rw [List.getElem?_append_right (by simp;omega),List.length_set,hl,Nat.add_sub_cancel_left,hr];rfl
  · exact q.gj.same fun h=>at_ _ (q.gj.id h).2.2.1 (by have:=(q.gj.id h).2.1;omega) fun hi=>(q.ne hi h).symm
  · have:=(q.gj.id hj).2.2.1
    show H2.length + 2 ≠ _
    omega
theorem MB.growJ {H1:Heap} {b:Block} {vI vJ:V} {val:Int} {mi:List Inst} {mj:List Jump} {H2 Hd:Heap} {x:Jump} {P P':Place} {rows:List (List V)} {n:Nat} (q:MB H1 b vI vJ val mi mj H2) (hl:Hd.length=H2.length) (hd:∀ j,j < H2.length→(0 < mj.length→j ≠ vJ.slId)→Hd[j]? = H2[j]?)
    (hn:n=mj.length + 1) (hr:rows=(mj++[x]).map Tr.cells) :
    MB H1 b vI (.sl (H2.length + 2) 2 0 n) val mi (mj++[x]) (Hd.set (H1.length + 1) (.row 5 [[.d (.int .i64 b.params_),vI,.d (.int .i64 b.end_),.d (.int .i64 val),.sl (H2.length + 2) 2 0 n]])++[P,P',.row 2 rows]):=by
  have h2:=q.lt
  have hJ:0 < mj.length→H1.length + 2≤vJ.slId:=fun h=>(q.gj.id h).2.1
  have at_:∀ j,j < H2.length→j ≠ H1.length + 1→(0 < mj.length→j ≠ vJ.slId)→(Hd.set (H1.length + 1) (.row 5 [[.d (.int .i64 b.params_),vI,.d (.int .i64 b.end_),.d (.int .i64 val),.sl (H2.length + 2) 2 0 n]])++[P,P',.row 2 rows])[j]? = H2[j]?:=fun j hj hne hni=>by
    rw [List.getElem?_append_left (by simp;omega),List.getElem?_set_ne (by omega)];exact hd j hj hni
  refine ⟨(at_ _ (by omega) (by omega) fun h=>by have:=hJ h;omega).trans q.c7, ?_, ?_, ?_,fun hi _=>?_,⟨by simp;have:=q.old.len;omega,fun j hj _=>(at_ j (by omega) (by omega) fun h=>by have:=hJ h;omega).trans (q.old.at_ j hj List.not_mem_nil)⟩⟩
  · rw [List.getElem?_append_left (by simp;omega)];exact List.getElem?_set_self (by omega)
  · exact q.gi.same fun h=>at_ _ (q.gi.id h).2.2.1 (by have:=(q.gi.id h).2.1;omega) fun hj=>q.ne h hj
  · refine .inr ⟨H2.length + 2,by rw [hn,List.length_append];rfl,by simp,by omega, ?_⟩
    rw [List.getElem?_append_right (by simp;omega),List.length_set,hl,Nat.add_sub_cancel_left,hr];rfl
  · have:=(q.gi.id hi).2.2.1
    show _ ≠ H2.length + 2
    omega
theorem MB.setV {H1:Heap} {b:Block} {vI vJ:V} {val val2:Int} {mi:List Inst} {mj:List Jump} {H2:Heap} (q:MB H1 b vI vJ val mi mj H2):MB H1 b vI vJ val2 mi mj (H2.set (H1.length + 1) (.row 5 [[.d (.int .i64 b.params_),vI,.d (.int .i64 b.end_),.d (.int .i64 val2),vJ]])):=by
  have at_:∀ j,j ≠ H1.length + 1→(H2.set (H1.length + 1) (.row 5 [[.d (.int .i64 b.params_),vI,.d (.int .i64 b.end_),.d (.int .i64 val2),vJ]]))[j]? = H2[j]?:=fun j hj=>List.getElem?_set_ne (by omega)
  exact ⟨(at_ _ (by omega)).trans q.c7,List.getElem?_set_self q.lt,q.gi.same fun h=>at_ _ (by have:=(q.gi.id h).2.1;omega),q.gj.same fun h=>at_ _ (by have:=(q.gj.id h).2.1;omega),q.ne,⟨by simp;exact q.old.len,fun j hj hn=>(at_ _ (by omega)).trans (q.old.at_ j hj hn)⟩⟩
theorem MB.done {H1:Heap} {b:Block} {vI vJ:V} {val:Int} {mi:List Inst} {mj:List Jump} {H2:Heap} (q:MB H1 b vI vJ val mi mj H2):Own H2 (⟨b.params_,⟨vI,mi⟩,b.end_,val,⟨vJ,mj⟩⟩:CBlock)∧∀ j∈ids (⟨b.params_,⟨vI,mi⟩,b.end_,val,⟨vJ,mj⟩⟩:CBlock),H1.length + 2≤j∧j < H2.length:=by
  obtain ⟨i1,i2⟩:=ownL_C (H:=H2) (l:=mi) (fun _=>rfl) (fun _=>trivial)
  obtain ⟨j1,j2⟩:=ownL_C (H:=H2) (l:=mj) (fun _=>rfl) (fun _=>trivial)
  obtain ⟨oi,di⟩:=q.gi.own i1 (by rw [i2];exact List.not_mem_nil)
  obtain ⟨oj,dj⟩:=q.gj.own j1 (by rw [j2];exact List.not_mem_nil)
  have di':∀ j∈ids (⟨vI,mi⟩:AS Inst),0 < mi.length∧j=vI.slId:=fun j hj=>(di j hj).elim (fun h=>by rw [i2] at h;exact absurd h List.not_mem_nil) fun h=>h
  have dj':∀ j∈ids (⟨vJ,mj⟩:AS Jump),0 < mj.length∧j=vJ.slId:=fun j hj=>(dj j hj).elim (fun h=>by rw [j2] at h;exact absurd h List.not_mem_nil) fun h=>h
  refine ⟨CBlock.own oi oj fun j hj hk=>?_,fun j hj=>?_⟩
  · obtain ⟨a1,a2⟩:=di' j hj
    obtain ⟨b1,b2⟩:=dj' j hk
    exact q.ne a1 b1 (a2.symm.trans b2)
  · rw [ids_CBlock] at hj
    rcases List.mem_append.1 hj with hj | hj
    · obtain ⟨a1,rfl⟩:=di' j hj
      exact ⟨(q.gi.id a1).2.1,(q.gi.id a1).2.2.1⟩
    · obtain ⟨a1,rfl⟩:=dj' j hj
      exact ⟨(q.gj.id a1).2.1,(q.gj.id a1).2.2.1⟩
theorem MF.lt {H00:Heap} {F:Func} {T:List Int} {m:List CBlock} {v:V} {H:Heap} (k:MF H00 F T m v H):H00.length + 2 < H.length:=(List.getElem?_eq_some_iff.1 k.cell).1
theorem MF.step {H00:Heap} {F:Func} {T:List Int} {m:List CBlock} {v:V} {H1 H2 Hd:Heap} {a:CBlock} {P:Place} {rows:List (List V)} {n:Nat} (k:MF H00 F T m v H1) (ho:Only [] H1 H2) (oa:Own H2 a) (da:∀ j∈ids a,H1.length + 2≤j∧j < H2.length) (hm:m.length < F.blocks_.length) (he:Tr.era a=mpB (mapL T) (F.blocks_[m.length]?.getD default))
    (hl:Hd.length=H2.length) (hd:∀ j,j < H2.length→(0 < m.length→j ≠ v.slId)→Hd[j]? = H2[j]?) (hn:n=m.length + 1) (hr:rows=(m++[a]).map Tr.cells) :
    MF H00 F T (m++[a]) (.sl (H2.length + 1) 5 0 n) (Hd.set (H00.length + 2) (.row 2 [[.d (.int .i64 F.params_),.sl (H2.length + 1) 5 0 n]])++[P,.row 5 rows]):=by
  have h2:=k.lt
  have hol:=ho.len
  have hV:0 < m.length→H00.length + 3≤v.slId∧v.slId < H1.length:=fun h=>⟨(k.gr.id h).2.1,(k.gr.id h).2.2.1⟩
  have at_:∀ j,j < H2.length→j ≠ H00.length + 2→(0 < m.length→j ≠ v.slId)→(Hd.set (H00.length + 2) (.row 2 [[.d (.int .i64 F.params_),.sl (H2.length + 1) 5 0 n]])++[P,.row 5 rows])[j]? = H2[j]?:=fun j hj hne hni=>by
    rw [List.getElem?_append_left (by simp;omega),List.getElem?_set_ne (by omega)];exact hd j hj hni
  have idm:∀ j∈m.flatMap ids,j < H1.length:=fun j hj=>k.own.lt hj
  have oa':Own (Hd.set (H00.length + 2) (.row 2 [[.d (.int .i64 F.params_),.sl (H2.length + 1) 5 0 n]])++[P,.row 5 rows]) a:=oa.same fun j hj _=>at_ j (da j hj).2 (by have:=(da j hj).1;omega) fun h=>by have:=hV h;have:=(da j hj).1;omega
  have om:OwnL (Hd.set (H00.length + 2) (.row 2 [[.d (.int .i64 F.params_),.sl (H2.length + 1) 5 0 n]])++[P,.row 5 rows]) m:=(k.own.frame ho fun j _ hj=>absurd hj List.not_mem_nil).same fun j hj hlt=>at_ j hlt (by have:=k.ge j hj;omega) fun h e=>k.nin (e ▸ hj)
  refine ⟨(at_ (H00.length + 1) (by omega) (by omega) fun h=>by have:=hV h;omega).trans ((ho.at_ (H00.length + 1) (by omega) List.not_mem_nil).trans k.out), ?_, ?_,⟨by have:=k.old.len;simp;omega,fun j hj _=>(at_ j (by omega) (by omega) fun h=>by have:=hV h;omega).trans ((ho.at_ j (by omega) List.not_mem_nil).trans (k.old.at_ j hj List.not_mem_nil))⟩,om.snoc oa' fun j hj hx=>?_,fun hx=>?_,fun j hj=>?_,by simp;omega, ?_⟩
  · rw [List.getElem?_append_left (by simp;omega)];exact List.getElem?_set_self (by omega)
  · refine .inr ⟨H2.length + 1,by rw [hn,List.length_append];rfl,by simp,by omega, ?_⟩
    rw [List.getElem?_append_right (by simp;omega),List.length_set,hl,Nat.add_sub_cancel_left,hr];rfl
  · have:=(da j hj).1;have:=idm j hx;omega
  · replace hx:H2.length + 1∈(m++[a]).flatMap ids:=hx
    rw [List.flatMap_append] at hx
    rcases List.mem_append.1 hx with q | q
    · have:=idm _ q;omega
    · have:=(da _ (by simpa using q)).2;omega
  · rw [List.flatMap_append] at hj
    rcases List.mem_append.1 hj with q | q
    · exact k.ge j q
    · have:=(da j (by simpa using q)).1;omega
  · rw [List.map_append,k.era,List.length_append,List.length_singleton,take_snocD hm,List.map_append]
    simp [he]
theorem take_mapG {α β:Type} [Inhabited α] {f:α→β} {l:List α} {n:Nat} (h:n < l.length):(l.map f).take (n + 1)=(l.map f).take n++[f (l[n]?.getD default)]:=by
  rw [List.take_succ_eq_append_getElem (by simpa using h),List.getElem?_eq_getElem h];simp
theorem l15Map_own (H00 : Heap) (F : Func) (T : List Int) (h8 : F.blocks_.length ≤ 8) (hb : ∀ b ∈ F.blocks_, okMap T b) : CallsD Tryz.prog 113 [vFunc F, .d (dIntS T)] H00 fun r H' => ∃ A : CFunc, r = .agg (Tr.cells A) ∧ Own H' A ∧ Tr.era A = mpF (mapL T) F ∧ Only [] H00 H' ∧ ∀ j ∈ ids A, H00.length ≤ j := by
  refine calls_of Tryz.func113 en_113 rfl (of_decide_eq_true rfl) (W_run mixed ⟨[K_144],[K_144h],[],87,H00.length,[0,1,2,4,5,7,8,10,12,17,18,19,20,29,30,31,32,52,60,61,62,63],[20,32,52,63]⟩ (fun | 9=>[0,2,4,6,8,1,3,5,7,9,10,11,12,13,14] | 16=>[0,2,4,6,1,3,5,7,8,9,10,11,12] | _=>[]) (by kernel_rfl) ?_)
  simp only [Tryz.f113,stripX,stripOps,pickOps]
  simp [K_144_f,K_144_e,K_144h_f,K_144h_e,K_144h_g,-V.flat,-V.one,one_int,one_bool,one_str,one_nilp,one_rp,one_nilsl,one_ro,one_cl,one_nilf,one_nili,one_ifc,one_ptr,one_sl,one_clo,flat_d,flat_ptr,flat_sl,flat_clo,flat_agg]
  refine W_loopH (α:=List CBlock × V × Heap) (fun a=>[(1,.d (dIntS T)),(4,.ptr (H00.length + 1) 2 0 0),(5,.ptr (H00.length + 2) 2 0 0),(17,.d (dBlockS F.blocks_)),(18,.d (.int .i64 F.blocks_.length)),(19,.d (.int .i64 a.1.length))]) (fun a=>a.2.2)
    (fun a=>MF H00 F T a.1 a.2.1 a.2.2) (fun a=>F.blocks_.length - a.1.length) ([],.d .nilsl,H00++[.row 2 [[.d (.int .i64 F.params_),.d (dBlockS F.blocks_)]],.row 2 [[.d (.int .i64 0),.d .nilsl]],.row 2 [[.d (.int .i64 F.params_),.d .nilsl]]]) ?_ ?_ ?_
  · simp
  · exact ⟨by simp,by simp,.inl ⟨rfl,rfl⟩,Only.app _ _ _,OwnL.nil,List.not_mem_nil,fun j hj=>absurd hj List.not_mem_nil,Nat.zero_le _,rfl⟩
  rintro ⟨m,v,H1⟩ k
  replace k:MF H00 F T m v H1:=k
  have kc:=k.cell
  have ko:=k.out
  have hset:∀ p,(H1.set (H00.length + 1) p)[H00.length + 1]? = some p:=fun p=>List.getElem?_set_self (List.getElem?_eq_some_iff.1 ko).1
  refine W_run mixed ⟨[K_144],[K_144h],[],87,H00.length,[0,1,2,4,5,7,8,10,12,17,18,19,20,29,30,31,32,52,60,61,62,63],[20,32,52,63]⟩ (fun | 9=>[0,2,4,6,8,1,3,5,7,9,10,11,12,13,14] | 16=>[0,2,4,6,1,3,5,7,8,9,10,11,12] | _=>[]) (by kernel_rfl) ?_
  simp only [stripX,stripOps,pickOps]
  simp [K_144_f,K_144_e,K_144h_f,K_144h_e,K_144h_g,-V.flat,-V.one,one_int,one_bool,one_str,one_nilp,one_rp,one_nilsl,one_ro,one_cl,one_nilf,one_nili,one_ifc,one_ptr,one_sl,one_clo,flat_d,flat_ptr,flat_sl,flat_clo,flat_agg,retQ,kc,ko,hset]
  refine ⟨fun hm=>⟨hm, ?_⟩,fun hm=>?_⟩
  · have hbx:(F.blocks_[m.length]?.getD default)∈F.blocks_:=by rw [List.getElem?_eq_getElem hm];exact List.getElem_mem hm
    obtain ⟨hi1,hj1,hia,hja,hu,hv0⟩:=hb _ hbx
    generalize hx:(F.blocks_[m.length]?.getD default)=b at hi1 hj1 hia hja hu hv0 ⊢
    have hUi:∀ x∈b.insts_,∀ v∈x.args_,0≤v∧v < T.length:=fun x hx v hv=>hu v (List.mem_append_left _ (List.mem_flatMap.2 ⟨x,hx,hv⟩))
    have hUj:∀ x∈b.jumps_,∀ v∈x.args_,0≤v∧v < T.length:=fun x hx v hv=>hu v (List.mem_append_right _ (List.mem_append_right _ (List.mem_flatMap.2 ⟨x,hx,hv⟩)))
    refine W_loopH (α:=List Inst × V × Heap) (fun a=>[(1,.d (dIntS T)),(4,.ptr (H00.length + 1) 2 0 0),(5,.ptr (H00.length + 2) 2 0 0),(7,.ptr H1.length 5 0 0),(8,.ptr (H1.length + 1) 5 0 0),(17,.d (dBlockS F.blocks_)),(18,.d (.int .i64 F.blocks_.length)),(19,.d (.int .i64 m.length)),(29,.d (dInstS b.insts_)),(30,.d (.int .i64 b.insts_.length)),(31,.d (.int .i64 a.1.length))])
      (fun a=>a.2.2) (fun a=>MB H1 b a.2.1 (.d .nilsl) 0 a.1 [] a.2.2∧a.1.length≤b.insts_.length∧a.1=(b.insts_.map (mpI (mapL T))).take a.1.length) (fun a=>b.insts_.length - a.1.length) ([],.d .nilsl,H1++[.row 5 [[.d (.int .i64 b.params_),.d (dInstS b.insts_),.d (.int .i64 b.end_),.d (.int .i64 b.value_),.d (dJumpS b.jumps_)]],.row 5 [[.d (.int .i64 b.params_),.d .nilsl,.d (.int .i64 b.end_),.d (.int .i64 0),.d .nilsl]]]) ?_ ⟨⟨by simp,by simp,.inl ⟨rfl,rfl⟩,.inl ⟨rfl,rfl⟩,fun h=>absurd h (by simp),Only.app _ _ _⟩,Nat.zero_le _,rfl⟩ ?_
    · simp
    rintro ⟨mi,vI,H2⟩ ⟨q,hle,he⟩
    replace q:MB H1 b vI (.d .nilsl) 0 mi [] H2:=q
    replace hle:mi.length≤b.insts_.length:=hle
    replace he:mi=(b.insts_.map (mpI (mapL T))).take mi.length:=he
    by_cases hin:b.insts_.length≤mi.length
    · have emi:mi=b.insts_.map (mpI (mapL T)):=by rw [List.take_of_length_le (by simpa using hin)] at he;exact he
      have q7:=q.c7
      have q8:=q.c8
      have hvT:¬ b.end_=2→0≤b.value_∧b.value_ < T.length:=fun h=>hu _ (List.mem_append_right _ (List.mem_append_left _ (by rw [if_neg h];exact List.mem_singleton.2 rfl)))
      refine W_run mixed ⟨[K_144],[K_144h],[],87,H00.length,[0,1,2,4,5,7,8,10,12,17,18,19,20,29,30,31,32,52,60,61,62,63],[20,32,52,63]⟩ (fun | 9=>[0,2,4,6,8,1,3,5,7,9,10,11,12,13,14] | 16=>[0,2,4,6,1,3,5,7,8,9,10,11,12] | _=>[]) (by kernel_rfl) ?_
      simp only [stripX,stripOps,pickOps]
      simp [K_144_f,K_144_e,K_144h_f,K_144h_e,K_144h_g,-V.flat,-V.one,one_int,one_bool,one_str,one_nilp,one_rp,one_nilsl,one_ro,one_cl,one_nilf,one_nili,one_ifc,one_ptr,one_sl,one_clo,flat_d,flat_ptr,flat_sl,flat_clo,flat_agg,q7,q8,hin]
      refine ⟨fun h=>absurd hin (by omega),fun hend=>⟨hvT hend, ?_⟩,fun hend=>?_⟩
      · have qv:=q.setV (val2:=T[b.value_.toNat]?.getD 0)
        have hval:T[b.value_.toNat]?.getD 0=(if b.end_=2 then b.value_ else mapL T b.value_):=by rw [if_neg hend];rfl
        generalize T[b.value_.toNat]?.getD 0=val at qv hval ⊢
        generalize H2.set (H1.length + 1) (.row 5 [[.d (.int .i64 b.params_),vI,.d (.int .i64 b.end_),.d (.int .i64 val),.d .nilsl]])=H3 at qv ⊢
        clear q q7 q8
        refine W_loopH (α:=List Jump × V × Heap) (fun a=>[(1,.d (dIntS T)),(4,.ptr (H00.length + 1) 2 0 0),(5,.ptr (H00.length + 2) 2 0 0),(8,.ptr (H1.length + 1) 5 0 0),(17,.d (dBlockS F.blocks_)),(18,.d (.int .i64 F.blocks_.length)),(19,.d (.int .i64 m.length)),(60,.d (dJumpS b.jumps_)),(61,.d (.int .i64 b.jumps_.length)),(62,.d (.int .i64 a.1.length))])
          (fun a=>a.2.2) (fun a=>MB H1 b vI a.2.1 val mi a.1 a.2.2∧a.1.length≤b.jumps_.length∧a.1=(b.jumps_.map (mpJ (mapL T))).take a.1.length) (fun a=>b.jumps_.length - a.1.length) ([],.d .nilsl,H3) ?_ ⟨qv,Nat.zero_le _,rfl⟩ ?_
        · simp
        clear qv
        rintro ⟨mj,vJ,H3⟩ ⟨q,hle2,he2⟩
        replace q:MB H1 b vI vJ val mi mj H3:=q
        replace hle2:mj.length≤b.jumps_.length:=hle2
        replace he2:mj=(b.jumps_.map (mpJ (mapL T))).take mj.length:=he2
        have hlt3:=q.lt
        by_cases hjn:b.jumps_.length≤mj.length
        · have emj:mj=b.jumps_.map (mpJ (mapL T)):=by rw [List.take_of_length_le (by simpa using hjn)] at he2;exact he2
          have q8:∀ R:Heap,(H3++R)[H1.length + 1]? = some (.row 5 [[.d (.int .i64 b.params_),vI,.d (.int .i64 b.end_),.d (.int .i64 val),vJ]]):=fun R=>(List.getElem?_append_left hlt3).trans q.c8
          have q80:=q.c8
          have h2l:H00.length + 2 < H3.length:=by have:=k.lt;have:=q.old.len;omega
          have c20:H3[H00.length + 2]? = some (.row 2 [[.d (.int .i64 F.params_),v]]):=(q.old.at_ (H00.length + 2) k.lt List.not_mem_nil).trans k.cell
          have c2:∀ R:Heap,(H3++R)[H00.length + 2]? = some (.row 2 [[.d (.int .i64 F.params_),v]]):=fun R=>(List.getElem?_append_left h2l).trans c20
          have s2:∀ (R:Heap) p,(H3++R).set (H00.length + 2) p=H3.set (H00.length + 2) p++R:=fun R p=>List.set_append_left _ _ h2l
          obtain ⟨oI,fI⟩:=q.gi.one
          obtain ⟨oJ,fJ⟩:=q.gj.one
          obtain ⟨oa,da⟩:=q.done
          have ea:Tr.era (⟨b.params_,⟨vI,mi⟩,b.end_,val,⟨vJ,mj⟩⟩:CBlock)=mpB (mapL T) (F.blocks_[m.length]?.getD default):=by
            rw [hx]
            show Block.mk b.params_ (mi.map fun x=>x) b.end_ val (mj.map fun x=>x)=_
            rw [List.map_id',List.map_id',hval,emi,emj];rfl
          have wm:IntKind.i64.wrap ((m.length:Int) + 1)=((m.length + 1:Nat):Int):=by rw [wrap_id] <;> omega
          rcases k.gr with ⟨m0,rfl⟩ | ⟨id,rfl,hp,hid0,hr⟩
          · refine W_run mixed ⟨[K_144],[K_144h],[],87,H00.length,[0,1,2,4,5,7,8,10,12,17,18,19,20,29,30,31,32,52,60,61,62,63],[20,32,52,63]⟩ (fun | 9=>[0,2,4,6,8,1,3,5,7,9,10,11,12,13,14] | 16=>[0,2,4,6,1,3,5,7,8,9,10,11,12] | _=>[]) (by kernel_rfl) ?_
            simp only [stripX,stripOps,pickOps]
            simp [K_144_f,K_144_e,K_144h_f,K_144h_e,K_144h_g,-V.flat,-V.one,one_int,one_bool,one_str,one_nilp,one_rp,one_nilsl,one_ro,one_cl,one_nilf,one_nili,one_ifc,one_ptr,one_sl,one_clo,flat_d,flat_ptr,flat_sl,flat_clo,flat_agg,hjn,q8,q80,c20,c2,s2,oI,fI,oJ,fJ]
            refine ⟨fun h=>absurd hjn (by omega),_,_,_,k.step q.old oa da hm ea (Hd:=H3) rfl (fun _ _ _=>rfl) (by rw [m0];rfl) (by rw [m0];rfl),by simp;omega,rfl,by rw [wm];simp⟩
          · have hidl:=(List.getElem?_eq_some_iff.1 hr).1
            have hid3:id < H3.length:=Nat.lt_of_lt_of_le hidl q.old.len
            have hr3:∀ R:Heap,(H3++R)[id]? = some (.row 5 (m.map Tr.cells)):=fun R=>(List.getElem?_append_left hid3).trans ((q.old.at_ id hidl List.not_mem_nil).trans hr)
            have s3:∀ (R:Heap) p,(H3++R).set id p=H3.set id p++R:=fun R p=>List.set_append_left _ _ hid3
            have c2d:∀ R:Heap,(H3.set id .dead++R)[H00.length + 2]? = some (.row 2 [[.d (.int .i64 F.params_),.sl id 5 0 m.length]]):=fun R=>by
              rw [List.getElem?_append_left (by simpa using h2l),List.getElem?_set_ne (by omega)];exact c20
            have s2d:∀ (R:Heap) p,(H3.set id .dead++R).set (H00.length + 2) p=(H3.set id .dead).set (H00.length + 2) p++R:=fun R p=>List.set_append_left _ _ (by simpa using h2l)
            refine W_run mixed ⟨[K_144],[K_144h],[],87,H00.length,[0,1,2,4,5,7,8,10,12,17,18,19,20,29,30,31,32,52,60,61,62,63],[20,32,52,63]⟩ (fun | 9=>[0,2,4,6,8,1,3,5,7,9,10,11,12,13,14] | 16=>[0,2,4,6,1,3,5,7,8,9,10,11,12] | _=>[]) (by kernel_rfl) ?_
            simp only [stripX,stripOps,pickOps]
            simp [K_144_f,K_144_e,K_144h_f,K_144h_e,K_144h_g,-V.flat,-V.one,one_int,one_bool,one_str,one_nilp,one_rp,one_nilsl,one_ro,one_cl,one_nilf,one_nili,one_ifc,one_ptr,one_sl,one_clo,flat_d,flat_ptr,flat_sl,flat_clo,flat_agg,hjn,q8,q80,c20,c2,s2,c2d,s2d,s3,hr3,oI,fI,oJ,fJ]
            refine ⟨fun h=>absurd hjn (by omega),by omega,_,_,_,k.step q.old oa da hm ea (Hd:=H3.set id .dead) (by simp) (fun j hj hn=>List.getElem?_set_ne (fun e=>hn hp e.symm)) rfl (by rw [List.map_append];rfl),by simp;omega,rfl,by rw [wm];simp⟩
        · have hx1:∀ y,y=mpJ (mapL T) (b.jumps_[mj.length]?.getD default)→mj++[y]=(b.jumps_.map (mpJ (mapL T))).take (mj++[y]).length:=fun y hy=>by
            rw [List.length_append,List.length_singleton,take_mapG (by omega),← he2,hy]
          have wi:IntKind.i64.wrap ((mj.length:Int) + 1)=((mj.length + 1:Nat):Int):=by rw [wrap_id] <;> omega
          have q8':∀ R:Heap,(H3++R)[H1.length + 1]? = some (.row 5 [[.d (.int .i64 b.params_),vI,.d (.int .i64 b.end_),.d (.int .i64 val),vJ]]):=fun R=>(List.getElem?_append_left hlt3).trans q.c8
          have hset2:∀ (R:Heap) p,(H3++R).set (H1.length + 1) p=H3.set (H1.length + 1) p++R:=fun R p=>List.set_append_left _ _ hlt3
          have hA:(b.jumps_[mj.length]?.getD default).args_.length≤1000∧∀ v∈(b.jumps_[mj.length]?.getD default).args_,0≤v∧v < T.length:=by
            have hmem:b.jumps_[mj.length]?.getD default∈b.jumps_:=by rw [List.getElem?_eq_getElem (by omega)];exact List.getElem_mem (by omega)
            exact ⟨hja _ hmem,hUj _ hmem⟩
          rcases q.gj with ⟨q1,rfl⟩ | ⟨id,rfl,hp,hid0,hr⟩
          · refine W_run mixed ⟨[K_144],[K_144h],[],87,H00.length,[0,1,2,4,5,7,8,10,12,17,18,19,20,29,30,31,32,52,60,61,62,63],[20,32,52,63]⟩ (fun | 9=>[0,2,4,6,8,1,3,5,7,9,10,11,12,13,14] | 16=>[0,2,4,6,1,3,5,7,8,9,10,11,12] | _=>[]) (by kernel_rfl) ?_
            simp only [stripX,stripOps,pickOps]
            simp [K_144_f,K_144_e,K_144h_f,K_144h_e,K_144h_g,-V.flat,-V.one,one_int,one_bool,one_str,one_nilp,one_rp,one_nilsl,one_ro,one_cl,one_nilf,one_nili,one_ifc,one_ptr,one_sl,one_clo,flat_d,flat_ptr,flat_sl,flat_clo,flat_agg,q8',hset2,hA]
            refine ⟨fun h=>⟨h,hA.2,_,_,_,⟨q.growJ (x:=mpJ (mapL T) (b.jumps_[mj.length]?.getD default)) rfl (fun _ _ _=>rfl) (by rw [q1];rfl) (by rw [q1];rfl),by simp;omega,hx1 _ rfl⟩,by simp;omega,rfl,by rw [wi];simp⟩,fun h=>absurd h hjn⟩
          · have hidl:=(List.getElem?_eq_some_iff.1 hr).1
            have hr':∀ R:Heap,(H3++R)[id]? = some (.row 2 (mj.map Tr.cells)):=fun R=>(List.getElem?_append_left hidl).trans hr
            have hset3:∀ (R:Heap) p,(H3++R).set id p=H3.set id p++R:=fun R p=>List.set_append_left _ _ hidl
            have q8d:∀ R:Heap,(H3.set id .dead++R)[H1.length + 1]? = some (.row 5 [[.d (.int .i64 b.params_),vI,.d (.int .i64 b.end_),.d (.int .i64 val),.sl id 2 0 mj.length]]):=fun R=>by
              rw [List.getElem?_append_left (by simpa using hlt3),List.getElem?_set_ne (by omega)];exact q.c8
            have hset4:∀ (R:Heap) p,(H3.set id .dead++R).set (H1.length + 1) p=(H3.set id .dead).set (H1.length + 1) p++R:=fun R p=>List.set_append_left _ _ (by simpa using hlt3)
            refine W_run mixed ⟨[K_144],[K_144h],[],87,H00.length,[0,1,2,4,5,7,8,10,12,17,18,19,20,29,30,31,32,52,60,61,62,63],[20,32,52,63]⟩ (fun | 9=>[0,2,4,6,8,1,3,5,7,9,10,11,12,13,14] | 16=>[0,2,4,6,1,3,5,7,8,9,10,11,12] | _=>[]) (by kernel_rfl) ?_
            simp only [stripX,stripOps,pickOps]
            simp [K_144_f,K_144_e,K_144h_f,K_144h_e,K_144h_g,-V.flat,-V.one,one_int,one_bool,one_str,one_nilp,one_rp,one_nilsl,one_ro,one_cl,one_nilf,one_nili,one_ifc,one_ptr,one_sl,one_clo,flat_d,flat_ptr,flat_sl,flat_clo,flat_agg,q8',q8d,hset2,hset3,hset4,hr',hA]
            refine ⟨fun h=>⟨h,hA.2,by omega,_,_,_,⟨q.growJ (Hd:=H3.set id .dead) (x:=mpJ (mapL T) (b.jumps_[mj.length]?.getD default)) (by simp) (fun j hj hn=>List.getElem?_set_ne (fun e=>hn hp e.symm)) rfl (by rw [List.map_append];rfl),by simp;omega,hx1 _ rfl⟩,by simp;omega,rfl,by rw [wi];simp⟩,fun h=>absurd h hjn⟩
      · have qv:=q
        have hval:0=(if b.end_=2 then b.value_ else mapL T b.value_):=by rw [if_pos hend,hv0 hend]
        obtain ⟨val,hvl⟩:∃ val:Int,val=0:=⟨0,rfl⟩
        rw [← hvl] at qv hval
        generalize H2=H3 at qv ⊢
        clear q q7 q8
        refine W_loopH (α:=List Jump × V × Heap) (fun a=>[(1,.d (dIntS T)),(4,.ptr (H00.length + 1) 2 0 0),(5,.ptr (H00.length + 2) 2 0 0),(8,.ptr (H1.length + 1) 5 0 0),(17,.d (dBlockS F.blocks_)),(18,.d (.int .i64 F.blocks_.length)),(19,.d (.int .i64 m.length)),(60,.d (dJumpS b.jumps_)),(61,.d (.int .i64 b.jumps_.length)),(62,.d (.int .i64 a.1.length))])
          (fun a=>a.2.2) (fun a=>MB H1 b vI a.2.1 val mi a.1 a.2.2∧a.1.length≤b.jumps_.length∧a.1=(b.jumps_.map (mpJ (mapL T))).take a.1.length) (fun a=>b.jumps_.length - a.1.length) ([],.d .nilsl,H3) ?_ ⟨qv,Nat.zero_le _,rfl⟩ ?_
        · simp
        clear qv
        rintro ⟨mj,vJ,H3⟩ ⟨q,hle2,he2⟩
        replace q:MB H1 b vI vJ val mi mj H3:=q
        replace hle2:mj.length≤b.jumps_.length:=hle2
        replace he2:mj=(b.jumps_.map (mpJ (mapL T))).take mj.length:=he2
        have hlt3:=q.lt
        by_cases hjn:b.jumps_.length≤mj.length
        · have emj:mj=b.jumps_.map (mpJ (mapL T)):=by rw [List.take_of_length_le (by simpa using hjn)] at he2;exact he2
          have q8:∀ R:Heap,(H3++R)[H1.length + 1]? = some (.row 5 [[.d (.int .i64 b.params_),vI,.d (.int .i64 b.end_),.d (.int .i64 val),vJ]]):=fun R=>(List.getElem?_append_left hlt3).trans q.c8
          have q80:=q.c8
          have h2l:H00.length + 2 < H3.length:=by have:=k.lt;have:=q.old.len;omega
          have c20:H3[H00.length + 2]? = some (.row 2 [[.d (.int .i64 F.params_),v]]):=(q.old.at_ (H00.length + 2) k.lt List.not_mem_nil).trans k.cell
          have c2:∀ R:Heap,(H3++R)[H00.length + 2]? = some (.row 2 [[.d (.int .i64 F.params_),v]]):=fun R=>(List.getElem?_append_left h2l).trans c20
          have s2:∀ (R:Heap) p,(H3++R).set (H00.length + 2) p=H3.set (H00.length + 2) p++R:=fun R p=>List.set_append_left _ _ h2l
          obtain ⟨oI,fI⟩:=q.gi.one
          obtain ⟨oJ,fJ⟩:=q.gj.one
          obtain ⟨oa,da⟩:=q.done
          have ea:Tr.era (⟨b.params_,⟨vI,mi⟩,b.end_,val,⟨vJ,mj⟩⟩:CBlock)=mpB (mapL T) (F.blocks_[m.length]?.getD default):=by
            rw [hx]
            show Block.mk b.params_ (mi.map fun x=>x) b.end_ val (mj.map fun x=>x)=_
            rw [List.map_id',List.map_id',hval,emi,emj];rfl
          have wm:IntKind.i64.wrap ((m.length:Int) + 1)=((m.length + 1:Nat):Int):=by rw [wrap_id] <;> omega
          rcases k.gr with ⟨m0,rfl⟩ | ⟨id,rfl,hp,hid0,hr⟩
          · refine W_run mixed ⟨[K_144],[K_144h],[],87,H00.length,[0,1,2,4,5,7,8,10,12,17,18,19,20,29,30,31,32,52,60,61,62,63],[20,32,52,63]⟩ (fun | 9=>[0,2,4,6,8,1,3,5,7,9,10,11,12,13,14] | 16=>[0,2,4,6,1,3,5,7,8,9,10,11,12] | _=>[]) (by kernel_rfl) ?_
            simp only [stripX,stripOps,pickOps]
            simp [K_144_f,K_144_e,K_144h_f,K_144h_e,K_144h_g,-V.flat,-V.one,one_int,one_bool,one_str,one_nilp,one_rp,one_nilsl,one_ro,one_cl,one_nilf,one_nili,one_ifc,one_ptr,one_sl,one_clo,flat_d,flat_ptr,flat_sl,flat_clo,flat_agg,hjn,q8,q80,c20,c2,s2,oI,fI,oJ,fJ]
            refine ⟨fun h=>absurd hjn (by omega),_,_,_,k.step q.old oa da hm ea (Hd:=H3) rfl (fun _ _ _=>rfl) (by rw [m0];rfl) (by rw [m0];rfl),by simp;omega,rfl,by rw [wm];simp⟩
          · have hidl:=(List.getElem?_eq_some_iff.1 hr).1
            have hid3:id < H3.length:=Nat.lt_of_lt_of_le hidl q.old.len
            have hr3:∀ R:Heap,(H3++R)[id]? = some (.row 5 (m.map Tr.cells)):=fun R=>(List.getElem?_append_left hid3).trans ((q.old.at_ id hidl List.not_mem_nil).trans hr)
            have s3:∀ (R:Heap) p,(H3++R).set id p=H3.set id p++R:=fun R p=>List.set_append_left _ _ hid3
            have c2d:∀ R:Heap,(H3.set id .dead++R)[H00.length + 2]? = some (.row 2 [[.d (.int .i64 F.params_),.sl id 5 0 m.length]]):=fun R=>by
              rw [List.getElem?_append_left (by simpa using h2l),List.getElem?_set_ne (by omega)];exact c20
            have s2d:∀ (R:Heap) p,(H3.set id .dead++R).set (H00.length + 2) p=(H3.set id .dead).set (H00.length + 2) p++R:=fun R p=>List.set_append_left _ _ (by simpa using h2l)
            refine W_run mixed ⟨[K_144],[K_144h],[],87,H00.length,[0,1,2,4,5,7,8,10,12,17,18,19,20,29,30,31,32,52,60,61,62,63],[20,32,52,63]⟩ (fun | 9=>[0,2,4,6,8,1,3,5,7,9,10,11,12,13,14] | 16=>[0,2,4,6,1,3,5,7,8,9,10,11,12] | _=>[]) (by kernel_rfl) ?_
            simp only [stripX,stripOps,pickOps]
            simp [K_144_f,K_144_e,K_144h_f,K_144h_e,K_144h_g,-V.flat,-V.one,one_int,one_bool,one_str,one_nilp,one_rp,one_nilsl,one_ro,one_cl,one_nilf,one_nili,one_ifc,one_ptr,one_sl,one_clo,flat_d,flat_ptr,flat_sl,flat_clo,flat_agg,hjn,q8,q80,c20,c2,s2,c2d,s2d,s3,hr3,oI,fI,oJ,fJ]
            refine ⟨fun h=>absurd hjn (by omega),by omega,_,_,_,k.step q.old oa da hm ea (Hd:=H3.set id .dead) (by simp) (fun j hj hn=>List.getElem?_set_ne (fun e=>hn hp e.symm)) rfl (by rw [List.map_append];rfl),by simp;omega,rfl,by rw [wm];simp⟩
        · have hx1:∀ y,y=mpJ (mapL T) (b.jumps_[mj.length]?.getD default)→mj++[y]=(b.jumps_.map (mpJ (mapL T))).take (mj++[y]).length:=fun y hy=>by
            rw [List.length_append,List.length_singleton,take_mapG (by omega),← he2,hy]
          have wi:IntKind.i64.wrap ((mj.length:Int) + 1)=((mj.length + 1:Nat):Int):=by rw [wrap_id] <;> omega
          have q8':∀ R:Heap,(H3++R)[H1.length + 1]? = some (.row 5 [[.d (.int .i64 b.params_),vI,.d (.int .i64 b.end_),.d (.int .i64 val),vJ]]):=fun R=>(List.getElem?_append_left hlt3).trans q.c8
          have hset2:∀ (R:Heap) p,(H3++R).set (H1.length + 1) p=H3.set (H1.length + 1) p++R:=fun R p=>List.set_append_left _ _ hlt3
          have hA:(b.jumps_[mj.length]?.getD default).args_.length≤1000∧∀ v∈(b.jumps_[mj.length]?.getD default).args_,0≤v∧v < T.length:=by
            have hmem:b.jumps_[mj.length]?.getD default∈b.jumps_:=by rw [List.getElem?_eq_getElem (by omega)];exact List.getElem_mem (by omega)
            exact ⟨hja _ hmem,hUj _ hmem⟩
          rcases q.gj with ⟨q1,rfl⟩ | ⟨id,rfl,hp,hid0,hr⟩
          · refine W_run mixed ⟨[K_144],[K_144h],[],87,H00.length,[0,1,2,4,5,7,8,10,12,17,18,19,20,29,30,31,32,52,60,61,62,63],[20,32,52,63]⟩ (fun | 9=>[0,2,4,6,8,1,3,5,7,9,10,11,12,13,14] | 16=>[0,2,4,6,1,3,5,7,8,9,10,11,12] | _=>[]) (by kernel_rfl) ?_
            simp only [stripX,stripOps,pickOps]
            simp [K_144_f,K_144_e,K_144h_f,K_144h_e,K_144h_g,-V.flat,-V.one,one_int,one_bool,one_str,one_nilp,one_rp,one_nilsl,one_ro,one_cl,one_nilf,one_nili,one_ifc,one_ptr,one_sl,one_clo,flat_d,flat_ptr,flat_sl,flat_clo,flat_agg,q8',hset2,hA]
            refine ⟨fun h=>⟨h,hA.2,_,_,_,⟨q.growJ (x:=mpJ (mapL T) (b.jumps_[mj.length]?.getD default)) rfl (fun _ _ _=>rfl) (by rw [q1];rfl) (by rw [q1];rfl),by simp;omega,hx1 _ rfl⟩,by simp;omega,rfl,by rw [wi];simp⟩,fun h=>absurd h hjn⟩
          · have hidl:=(List.getElem?_eq_some_iff.1 hr).1
            have hr':∀ R:Heap,(H3++R)[id]? = some (.row 2 (mj.map Tr.cells)):=fun R=>(List.getElem?_append_left hidl).trans hr
            have hset3:∀ (R:Heap) p,(H3++R).set id p=H3.set id p++R:=fun R p=>List.set_append_left _ _ hidl
            have q8d:∀ R:Heap,(H3.set id .dead++R)[H1.length + 1]? = some (.row 5 [[.d (.int .i64 b.params_),vI,.d (.int .i64 b.end_),.d (.int .i64 val),.sl id 2 0 mj.length]]):=fun R=>by
              rw [List.getElem?_append_left (by simpa using hlt3),List.getElem?_set_ne (by omega)];exact q.c8
            have hset4:∀ (R:Heap) p,(H3.set id .dead++R).set (H1.length + 1) p=(H3.set id .dead).set (H1.length + 1) p++R:=fun R p=>List.set_append_left _ _ (by simpa using hlt3)
            refine W_run mixed ⟨[K_144],[K_144h],[],87,H00.length,[0,1,2,4,5,7,8,10,12,17,18,19,20,29,30,31,32,52,60,61,62,63],[20,32,52,63]⟩ (fun | 9=>[0,2,4,6,8,1,3,5,7,9,10,11,12,13,14] | 16=>[0,2,4,6,1,3,5,7,8,9,10,11,12] | _=>[]) (by kernel_rfl) ?_
            simp only [stripX,stripOps,pickOps]
            simp [K_144_f,K_144_e,K_144h_f,K_144h_e,K_144h_g,-V.flat,-V.one,one_int,one_bool,one_str,one_nilp,one_rp,one_nilsl,one_ro,one_cl,one_nilf,one_nili,one_ifc,one_ptr,one_sl,one_clo,flat_d,flat_ptr,flat_sl,flat_clo,flat_agg,q8',q8d,hset2,hset3,hset4,hr',hA]
            refine ⟨fun h=>⟨h,hA.2,by omega,_,_,_,⟨q.growJ (Hd:=H3.set id .dead) (x:=mpJ (mapL T) (b.jumps_[mj.length]?.getD default)) (by simp) (fun j hj hn=>List.getElem?_set_ne (fun e=>hn hp e.symm)) rfl (by rw [List.map_append];rfl),by simp;omega,hx1 _ rfl⟩,by simp;omega,rfl,by rw [wi];simp⟩,fun h=>absurd h hjn⟩
    · have hx1:∀ y,y=mpI (mapL T) (b.insts_[mi.length]?.getD default)→mi++[y]=(b.insts_.map (mpI (mapL T))).take (mi++[y]).length:=fun y hy=>by
        rw [List.length_append,List.length_singleton,take_mapG (by omega),← he,hy]
      have wi:IntKind.i64.wrap ((mi.length:Int) + 1)=((mi.length + 1:Nat):Int):=by rw [wrap_id] <;> omega
      have q8':∀ R:Heap,(H2++R)[H1.length + 1]? = some (.row 5 [[.d (.int .i64 b.params_),vI,.d (.int .i64 b.end_),.d (.int .i64 0),.d .nilsl]]):=fun R=>(List.getElem?_append_left (List.getElem?_eq_some_iff.1 q.c8).1).trans q.c8
      have hset2:∀ (R:Heap) p,(H2++R).set (H1.length + 1) p=H2.set (H1.length + 1) p++R:=fun R p=>List.set_append_left _ _ (List.getElem?_eq_some_iff.1 q.c8).1
      have hA:(b.insts_[mi.length]?.getD default).args_.length≤1000∧∀ v∈(b.insts_[mi.length]?.getD default).args_,0≤v∧v < T.length:=by
        have hmem:b.insts_[mi.length]?.getD default∈b.insts_:=by rw [List.getElem?_eq_getElem (by omega)];exact List.getElem_mem (by omega)
        exact ⟨hia _ hmem,hUi _ hmem⟩
      have hlt2:=q.lt
      rcases q.gi with ⟨q1,rfl⟩ | ⟨id,rfl,hp,hid0,hr⟩
      · refine W_run mixed ⟨[K_144],[K_144h],[],87,H00.length,[0,1,2,4,5,7,8,10,12,17,18,19,20,29,30,31,32,52,60,61,62,63],[20,32,52,63]⟩ (fun | 9=>[0,2,4,6,8,1,3,5,7,9,10,11,12,13,14] | 16=>[0,2,4,6,1,3,5,7,8,9,10,11,12] | _=>[]) (by kernel_rfl) ?_
        simp only [stripX,stripOps,pickOps]
        simp [K_144_f,K_144_e,K_144h_f,K_144h_e,K_144h_g,-V.flat,-V.one,one_int,one_bool,one_str,one_nilp,one_rp,one_nilsl,one_ro,one_cl,one_nilf,one_nili,one_ifc,one_ptr,one_sl,one_clo,flat_d,flat_ptr,flat_sl,flat_clo,flat_agg,q8',hset2,hA]
        refine ⟨fun h=>⟨h,hA.2,_,_,_,⟨q.growI (x:=mpI (mapL T) (b.insts_[mi.length]?.getD default)) rfl (fun _ _ _=>rfl) (by rw [q1];rfl) (by rw [q1];rfl),by simp;omega,hx1 _ rfl⟩,by simp;omega,rfl,by rw [wi];simp⟩,fun h=>absurd h hin⟩
      · have hidl:=(List.getElem?_eq_some_iff.1 hr).1
        have hr':∀ R:Heap,(H2++R)[id]? = some (.row 3 (mi.map Tr.cells)):=fun R=>(List.getElem?_append_left hidl).trans hr
        have hset3:∀ (R:Heap) p,(H2++R).set id p=H2.set id p++R:=fun R p=>List.set_append_left _ _ hidl
        have q8d:∀ R:Heap,(H2.set id .dead++R)[H1.length + 1]? = some (.row 5 [[.d (.int .i64 b.params_),.sl id 3 0 mi.length,.d (.int .i64 b.end_),.d (.int .i64 0),.d .nilsl]]):=fun R=>by
          rw [List.getElem?_append_left (by simpa using hlt2),List.getElem?_set_ne (by omega)];exact q.c8
        have hset4:∀ (R:Heap) p,(H2.set id .dead++R).set (H1.length + 1) p=(H2.set id .dead).set (H1.length + 1) p++R:=fun R p=>List.set_append_left _ _ (by simpa using hlt2)
        refine W_run mixed ⟨[K_144],[K_144h],[],87,H00.length,[0,1,2,4,5,7,8,10,12,17,18,19,20,29,30,31,32,52,60,61,62,63],[20,32,52,63]⟩ (fun | 9=>[0,2,4,6,8,1,3,5,7,9,10,11,12,13,14] | 16=>[0,2,4,6,1,3,5,7,8,9,10,11,12] | _=>[]) (by kernel_rfl) ?_
        simp only [stripX,stripOps,pickOps]
        simp [K_144_f,K_144_e,K_144h_f,K_144h_e,K_144h_g,-V.flat,-V.one,one_int,one_bool,one_str,one_nilp,one_rp,one_nilsl,one_ro,one_cl,one_nilf,one_nili,one_ifc,one_ptr,one_sl,one_clo,flat_d,flat_ptr,flat_sl,flat_clo,flat_agg,q8',q8d,hset2,hset3,hset4,hr',hA]
        refine ⟨fun h=>⟨h,hA.2,by omega,_,_,_,⟨q.growI (Hd:=H2.set id .dead) (x:=mpI (mapL T) (b.insts_[mi.length]?.getD default)) (by simp) (fun j hj hn=>List.getElem?_set_ne (fun e=>hn hp e.symm)) rfl (by rw [List.map_append];rfl),by simp;omega,hx1 _ rfl⟩,by simp;omega,rfl,by rw [wi];simp⟩,fun h=>absurd h hin⟩
  · have hs1:∀ p,Only [H00.length + 1] H1 (H1.set (H00.length + 1) p):=fun p=>Only.set
    have g:=fun p=>(k.gr.same (H':=H1.set (H00.length + 1) p) fun h=>(hs1 p).at_ _ (k.gr.id h).2.2.1 (by have:=(k.gr.id h).2.1;simp;omega)).own (k.own.frame (hs1 p) fun j hj=>by have:=k.ge j hj;simp;omega) k.nin
    have hlt:=k.lt
    refine ⟨k.gr.one.1,_,_,Fin.same (by simp;omega),⟨F.params_,⟨v,m⟩⟩,rfl,CFunc.own (g _).1, ?_,⟨by simp;omega,fun j hj _=>by rw [List.getElem?_set_ne (by omega)];exact k.old.at_ j hj List.not_mem_nil⟩,fun j hj=>?_⟩
    rotate_left
    · rcases (g (.row 2 [[.d (.int .i64 F.params_),v]])).2 j hj with h | ⟨h,rfl⟩
      · have:=k.ge j h;omega
      · have:=(k.gr.id h).2.1;omega
    show Func.mk F.params_ (m.map Tr.era)=mpF (mapL T) F
    rw [k.era,List.take_of_length_le hm];rfl
theorem l15Map_c (F:Func) (T:List Int) (h8:F.blocks_.length≤8) (hb:∀ b∈F.blocks_,okMap T b):PureP Tryz.prog 113 [vFunc F,.d (dIntS T)] (· = vFunc (mpF (mapL T) F)) :=
  PureP.of_own ((l15Map_own [] F T h8 hb).mono fun r H' ⟨A,e,ho,he,_,_⟩=>by
    have:=Rd1.aggs ho rfl
    rw [he] at this
    rw [e];exact this)
noncomputable def K_113:Ent Tryz.prog:=Ent.p2 (α:=Func) (β:=List Int) 113 (fun F T=>F.blocks_.length≤8∧∀ b∈F.blocks_,okMap T b) (fun F T=>vFunc (mpF (mapL T) F)) (fun F T hc=>l15Map_c F T hc.1 hc.2)
theorem K_113_f:K_113.f=113:=rfl
theorem K_113_e (F0:Int) (F1:List Block) (T:List Int):K_113.e [.agg [.d (.int .i64 F0),.d (dBlockS F1)],.d (dIntS T)]=some ((Func.mk F0 F1).blocks_.length≤8∧∀ b∈(Func.mk F0 F1).blocks_,okMap T b,vFunc (mpF (mapL T) (Func.mk F0 F1)),[]):=by unfold K_113;exact Ent.p2_eq (α:=Func) (β:=List Int) (Func.mk F0 F1) T
noncomputable def K_113h:EntH Tryz.prog:=EntH.pk2 (α:=Func) (β:=List Int) 113 (fun F T=>F.blocks_.length≤8∧∀ b∈F.blocks_,okMap T b) (fun F T=>vFunc (mpF (mapL T) F)) (fun F T=>[]) (fun F T hc=>PureP.ans (l15Map_c F T hc.1 hc.2))
theorem K_113h_f:K_113h.f=113:=rfl
theorem K_113h_g:K_113h.gro=true:=rfl
theorem K_113h_e {x1 x2:V} {H:Heap}:K_113h.e [x1,x2] H=guardR ((decA (α:=Func) H x1).1∧(decA (α:=List Int) H x2).1) (peekR ((decA (α:=Func) H x1).2.blocks_.length≤8∧∀ b∈(decA (α:=Func) H x1).2.blocks_,okMap (decA (α:=List Int) H x2).2 b) (vFunc (mpF (mapL (decA (α:=List Int) H x2).2) (decA (α:=Func) H x1).2)) ([]) H):=rfl
end Go.Proofs.YtnomiclfiijniaaGreat
