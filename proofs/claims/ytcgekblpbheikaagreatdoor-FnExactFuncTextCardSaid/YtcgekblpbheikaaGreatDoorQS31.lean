/- Functions whose slices own their memory. No condition. -/
import Derived.Test.YtcgekblpbheikaaGreatDoorQE5
import Derived.Test.YtcgekblpbheikaaGreatDoorQS17
section
namespace Go.Proofs.YtcgekblpbheikaaGreatDoor
set_option maxRecDepth 100000
set_option linter.unusedSimpArgs false
set_option linter.unusedVariables false
def usedL (b:Block):List Int:=(if b.end_=2 then [] else [b.value_])++b.jumps_.flatMap (·.args_)
section
variable {α:Type} {b:Block} {fn:Nat} {caps:List V} {L:Nat} {Hs:α→Heap} {f:α→Int→α}
end
end Go.Proofs.YtcgekblpbheikaaGreatDoor
end

section
namespace Go.Proofs.YtcgekblpbheikaaGreatDoor
set_option maxRecDepth 100000
set_option linter.unusedSimpArgs false
set_option linter.unusedVariables false
theorem upto_all (l:List Int):(upto l.length fun i=>[V.d (D.int IntKind.i64 (l[i]?.getD 0))])=rI l:=by
  have:=upto_take l (Nat.le_refl _)
  rwa [List.take_length] at this
def smallEnd (b:Block):Prop:=b.jumps_.length≤2∧∀ j∈b.jumps_,j.args_.length≤100
end Go.Proofs.YtcgekblpbheikaaGreatDoor
end

section
namespace Go.Proofs.YtcgekblpbheikaaGreatDoor
set_option maxRecDepth 100000
set_option linter.unusedSimpArgs false
set_option linter.unusedVariables false
structure OkF (w:Ways):Prop where
  len:w.all_.length≤8
  blk:∀ k∈listB w.all_,0≤k∧k < w.view_.v.blocks_.length∧k < w.view_.v.first_.length
  fin:∀ k∈listB w.all_,smallEnd (w.view_.v.blocks_[k.toNat]?.getD default)
  ins:∀ k∈listB w.all_,(w.view_.v.blocks_[k.toNat]?.getD default).insts_.length≤1000∧∀ x∈(w.view_.v.blocks_[k.toNat]?.getD default).insts_,x.args_.length≤1000∧∀ n∈x.args_,okW w n k
  use:∀ k∈listB w.all_,∀ n∈usedL (w.view_.v.blocks_[k.toNat]?.getD default),okW w n k
end Go.Proofs.YtcgekblpbheikaaGreatDoor
end

section
namespace Go.Proofs.YtcgekblpbheikaaGreatDoor
set_option maxRecDepth 100000
set_option linter.unusedSimpArgs false
set_option linter.unusedVariables false
end Go.Proofs.YtcgekblpbheikaaGreatDoor
end

section
namespace Go.Proofs.YtcgekblpbheikaaGreatDoor
set_option maxRecDepth 100000
set_option linter.unusedSimpArgs false
set_option linter.unusedVariables false
@[simp] theorem cells_AS {α β:Type} [Enc β] [Dec β] [Inhabited β] [Tr α β] (s:AS α):Tr.cells s=[s.v]:=rfl
@[simp] theorem cells_Int (n:Int):Tr.cells n=[.d (.int .i64 n)]:=rfl
structure AInst where
  op_:Int
  n_:Int
  args_:AS Int
  deriving Inhabited
@[reducible] instance trAInst:Tr AInst Inst where
  cells x:=[.d (.int .i64 x.op_),.d (.int .i64 x.n_),x.args_.v]
  pls x:=(Tr.pls x.args_)
  ok x:=Tr.ok x.args_
  era x:=⟨x.op_,x.n_,Tr.era x.args_⟩
  len _ _:=rfl
  one x h:=by
    show (true && (true && (x.args_.v.one && true)))=true
    rw [(show okS x.args_ from h).1.scl.2]
    rfl
  dec H x h hp:=by
    have q0:(Dec.dec (α:=List Int) H [x.args_.v]).1∧(Dec.dec (α:=List Int) H [x.args_.v]).2=Tr.era x.args_:=Tr.dec H x.args_ h hp
    refine ⟨⟨trivial,trivial,q0.1⟩, ?_⟩
    show Inst.mk x.op_ x.n_ (Dec.dec (α:=List Int) H [x.args_.v]).2=_
    rw [q0.2]
instance trsAInst:TrS AInst where
  scl x h:=by
    refine ⟨?_,fun q hq=>?_⟩
    · show (true && (true && (x.args_.v.scl2 && true)))=true
      rw [(show okS x.args_ from h).1.scl.1]
      rfl
    · exact (TrS.scl x.args_ h).2 q hq
@[simp] theorem cells_AInst (x:AInst):Tr.cells x=[.d (.int .i64 x.op_),.d (.int .i64 x.n_),x.args_.v]:=rfl
theorem AInst.own {H:Heap} {x:AInst} (h:Own H x.args_):Own H x:=⟨h.ok,h.at_,h.nd⟩
structure AJump where
  to_:Int
  args_:AS Int
  deriving Inhabited
@[reducible] instance trAJump:Tr AJump Jump where
  cells x:=[.d (.int .i64 x.to_),x.args_.v]
  pls x:=(Tr.pls x.args_)
  ok x:=Tr.ok x.args_
  era x:=⟨x.to_,Tr.era x.args_⟩
  len _ _:=rfl
  one x h:=by
    show (true && (x.args_.v.one && true))=true
    rw [(show okS x.args_ from h).1.scl.2]
    rfl
  dec H x h hp:=by
    have q0:(Dec.dec (α:=List Int) H [x.args_.v]).1∧(Dec.dec (α:=List Int) H [x.args_.v]).2=Tr.era x.args_:=Tr.dec H x.args_ h hp
    refine ⟨⟨trivial,q0.1⟩, ?_⟩
    show Jump.mk x.to_ (Dec.dec (α:=List Int) H [x.args_.v]).2=_
    rw [q0.2]
instance trsAJump:TrS AJump where
  scl x h:=by
    refine ⟨?_,fun q hq=>?_⟩
    · show (true && (x.args_.v.scl2 && true))=true
      rw [(show okS x.args_ from h).1.scl.1]
      rfl
    · exact (TrS.scl x.args_ h).2 q hq
@[simp] theorem cells_AJump (x:AJump):Tr.cells x=[.d (.int .i64 x.to_),x.args_.v]:=rfl
theorem AJump.own {H:Heap} {x:AJump} (h:Own H x.args_):Own H x:=⟨h.ok,h.at_,h.nd⟩
structure ABlock where
  params_:Int
  insts_:AS AInst
  end_:Int
  value_:Int
  jumps_:AS AJump
  deriving Inhabited
@[reducible] instance trABlock:Tr ABlock Block where
  cells x:=[.d (.int .i64 x.params_),x.insts_.v,.d (.int .i64 x.end_),.d (.int .i64 x.value_),x.jumps_.v]
  pls x:=(Tr.pls x.insts_)++(Tr.pls x.jumps_)
  ok x:=Tr.ok x.insts_∧Tr.ok x.jumps_
  era x:=⟨x.params_,Tr.era x.insts_,x.end_,x.value_,Tr.era x.jumps_⟩
  len _ _:=rfl
  one x h:=by
    show (true && (x.insts_.v.one && (true && (true && (x.jumps_.v.one && true)))))=true
    rw [(show okS x.insts_ from h.1).1.scl.2]
    rw [(show okS x.jumps_ from h.2).1.scl.2]
    rfl
  dec H x h hp:=by
    have q0:(Dec.dec (α:=List Inst) H [x.insts_.v]).1∧(Dec.dec (α:=List Inst) H [x.insts_.v]).2=Tr.era x.insts_:=Tr.dec H x.insts_ h.1 (fun q hq=>hp q (List.mem_append_left _ hq))
    have q1:(Dec.dec (α:=List Jump) H [x.jumps_.v]).1∧(Dec.dec (α:=List Jump) H [x.jumps_.v]).2=Tr.era x.jumps_:=Tr.dec H x.jumps_ h.2 (fun q hq=>hp q (List.mem_append_right _ hq))
    refine ⟨⟨trivial,q0.1,trivial,trivial,q1.1⟩, ?_⟩
    show Block.mk x.params_ (Dec.dec (α:=List Inst) H [x.insts_.v]).2 x.end_ x.value_ (Dec.dec (α:=List Jump) H [x.jumps_.v]).2=_
    rw [q0.2]
    rw [q1.2]
instance trsABlock:TrS ABlock where
  scl x h:=by
    refine ⟨?_,fun q hq=>?_⟩
    · show (true && (x.insts_.v.scl2 && (true && (true && (x.jumps_.v.scl2 && true)))))=true
      rw [(show okS x.insts_ from h.1).1.scl.1]
      rw [(show okS x.jumps_ from h.2).1.scl.1]
      rfl
    · rcases List.mem_append.1 hq with hq | hq
      · exact (TrS.scl x.insts_ h.1).2 q hq
      · exact (TrS.scl x.jumps_ h.2).2 q hq
@[simp] theorem cells_ABlock (x:ABlock):Tr.cells x=[.d (.int .i64 x.params_),x.insts_.v,.d (.int .i64 x.end_),.d (.int .i64 x.value_),x.jumps_.v]:=rfl
theorem ids_ABlock (x:ABlock):ids x=ids x.insts_++ids x.jumps_:=List.map_append
theorem ABlock.own {H:Heap} {x:ABlock} (h1:Own H x.insts_) (h2:Own H x.jumps_) (hd:∀ j∈ids x.insts_,j ∉ ids x.jumps_):Own H x :=
  ⟨⟨h1.ok,h2.ok⟩,fun q hq=>(List.mem_append.1 hq).elim (h1.at_ q) (h2.at_ q),by rw [ids_ABlock];exact List.nodup_append.2 ⟨h1.nd,h2.nd,fun a ha b hb e=>hd a ha (by rw [e];exact hb)⟩⟩
structure AFunc where
  params_:Int
  blocks_:AS ABlock
  deriving Inhabited
@[reducible] instance trAFunc:Tr AFunc Func where
  cells x:=[.d (.int .i64 x.params_),x.blocks_.v]
  pls x:=(Tr.pls x.blocks_)
  ok x:=Tr.ok x.blocks_
  era x:=⟨x.params_,Tr.era x.blocks_⟩
  len _ _:=rfl
  one x h:=by
    show (true && (x.blocks_.v.one && true))=true
    rw [(show okS x.blocks_ from h).1.scl.2]
    rfl
  dec H x h hp:=by
    have q0:(Dec.dec (α:=List Block) H [x.blocks_.v]).1∧(Dec.dec (α:=List Block) H [x.blocks_.v]).2=Tr.era x.blocks_:=Tr.dec H x.blocks_ h hp
    refine ⟨⟨trivial,q0.1⟩, ?_⟩
    show Func.mk x.params_ (Dec.dec (α:=List Block) H [x.blocks_.v]).2=_
    rw [q0.2]
instance trsAFunc:TrS AFunc where
  scl x h:=by
    refine ⟨?_,fun q hq=>?_⟩
    · show (true && (x.blocks_.v.scl2 && true))=true
      rw [(show okS x.blocks_ from h).1.scl.1]
      rfl
    · exact (TrS.scl x.blocks_ h).2 q hq
@[simp] theorem cells_AFunc (x:AFunc):Tr.cells x=[.d (.int .i64 x.params_),x.blocks_.v]:=rfl
theorem AFunc.own_blocks_ {H:Heap} {x:AFunc} (h:Own H x):Own H x.blocks_:=⟨h.ok,h.at_,h.nd⟩
theorem AFunc.own {H:Heap} {x:AFunc} (h:Own H x.blocks_):Own H x:=⟨h.ok,h.at_,h.nd⟩
end Go.Proofs.YtcgekblpbheikaaGreatDoor
end
