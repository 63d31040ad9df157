/- The program's ImmediateOf, closed. No condition. -/
import Derived.Test.YthafdegfjadijaaGreatQS13
import Derived.Test.YthafdegfjadijaaGreatQS17
import Derived.Test.YthafdegfjadijaaGreatQS23
import Derived.Test.YthafdegfjadijaaGreatQS41
import Derived.Test.YthafdegfjadijaaGreatQS111
import Derived.Test.YthafdegfjadijaaGreatQS139
import Derived.Test.YthafdegfjadijaaGreatQE9
section
namespace Go.Proofs.YthafdegfjadijaaGreat
set_option maxRecDepth 100000
set_option linter.unusedSimpArgs false
set_option linter.unusedVariables false
end Go.Proofs.YthafdegfjadijaaGreat
end

section
namespace Go.Proofs.YthafdegfjadijaaGreat
set_option maxRecDepth 100000
set_option linter.unusedSimpArgs false
set_option linter.unusedVariables false
end Go.Proofs.YthafdegfjadijaaGreat
end

section
namespace Go.Proofs.YthafdegfjadijaaGreat
set_option maxRecDepth 100000
set_option linter.unusedSimpArgs false
set_option linter.unusedVariables false
structure FE (A:AFunc) (F:Func) (H0:Heap) (m l:List ABlock) (k:Int) (H:Heap):Prop where
  own:Own H (⟨A.blocks_.v,m++l⟩:AS ABlock)
  left:l=A.blocks_.l.drop m.length
  sol:∀ b∈m++l,solB b
  era:m.map Tr.era=(F.blocks_.take m.length).map (foldB F)
  cnt:k=((F.blocks_.take m.length).map (foldK F)).sum
  ids:∀ j∈ids (⟨A.blocks_.v,m++l⟩:AS ABlock),j∈ids A.blocks_∨H0.length≤j
  only:Only (Go.Proofs.YthafdegfjadijaaGreat.ids A.blocks_) H0 H
  le:m.length≤A.blocks_.l.length
end Go.Proofs.YthafdegfjadijaaGreat
end

section
namespace Go.Proofs.YthafdegfjadijaaGreat
set_option maxRecDepth 100000
set_option linter.unusedSimpArgs false
set_option linter.unusedVariables false
end Go.Proofs.YthafdegfjadijaaGreat
end

section
namespace Go.Proofs.YthafdegfjadijaaGreat
set_option maxRecDepth 100000
set_option linter.unusedSimpArgs false
set_option linter.unusedVariables false
@[reducible] instance trInstC:Tr Inst Inst where
  cells x:=[.d (.int .i64 x.op_),.d (.int .i64 x.n_),.d (dIntS x.args_)]
  pls _:=[]
  ok _:=True
  era x:=x
  len _ _:=rfl
  one _ _:=rfl
  dec H x _ _:=by
    have h:=dec_ro (α:=Int) (H:=H) (l:=x.args_)
    exact ⟨⟨trivial,trivial,of_eq_true (congrArg Prod.fst h)⟩,congrArg (Inst.mk x.op_ x.n_) (congrArg Prod.snd h)⟩
@[reducible] instance trJumpC:Tr Jump Jump where
  cells x:=[.d (.int .i64 x.to_),.d (dIntS x.args_)]
  pls _:=[]
  ok _:=True
  era x:=x
  len _ _:=rfl
  one _ _:=rfl
  dec H x _ _:=by
    have h:=dec_ro (α:=Int) (H:=H) (l:=x.args_)
    exact ⟨⟨trivial,of_eq_true (congrArg Prod.fst h)⟩,congrArg (Jump.mk x.to_) (congrArg Prod.snd h)⟩
structure CBlock where
  params_:Int
  insts_:AS Inst
  end_:Int
  value_:Int
  jumps_:AS Jump
  deriving Inhabited
@[reducible] instance trCBlock:Tr CBlock Block where
  cells x:=[.d (.int .i64 x.params_),x.insts_.v,.d (.int .i64 x.end_),.d (.int .i64 x.value_),x.jumps_.v]
  pls x:=(Tr.pls x.insts_)++(Tr.pls x.jumps_)
  ok x:=Tr.ok x.insts_∧Tr.ok x.jumps_
  era x:=⟨x.params_,Tr.era x.insts_,x.end_,x.value_,Tr.era x.jumps_⟩
  len _ _:=rfl
  one x h:=by
    show (true && (x.insts_.v.one && (true && (true && (x.jumps_.v.one && true)))))=true
    rw [(show okS x.insts_ from h.1).1.scl.2]
    rw [(show okS x.jumps_ from h.2).1.scl.2]
    rfl
  dec H x h hp:=by
    have q0:(Dec.dec (α:=List Inst) H [x.insts_.v]).1∧(Dec.dec (α:=List Inst) H [x.insts_.v]).2=Tr.era x.insts_:=Tr.dec H x.insts_ h.1 (fun q hq=>hp q (List.mem_append_left _ hq))
    have q1:(Dec.dec (α:=List Jump) H [x.jumps_.v]).1∧(Dec.dec (α:=List Jump) H [x.jumps_.v]).2=Tr.era x.jumps_:=Tr.dec H x.jumps_ h.2 (fun q hq=>hp q (List.mem_append_right _ hq))
    refine ⟨⟨trivial,q0.1,trivial,trivial,q1.1⟩, ?_⟩
    show Block.mk x.params_ (Dec.dec (α:=List Inst) H [x.insts_.v]).2 x.end_ x.value_ (Dec.dec (α:=List Jump) H [x.jumps_.v]).2=_
    rw [q0.2]
    rw [q1.2]
@[simp] theorem cells_CBlock (x:CBlock):Tr.cells x=[.d (.int .i64 x.params_),x.insts_.v,.d (.int .i64 x.end_),.d (.int .i64 x.value_),x.jumps_.v]:=rfl
structure CFunc where
  params_:Int
  blocks_:AS CBlock
  deriving Inhabited
@[reducible] instance trCFunc:Tr CFunc Func where
  cells x:=[.d (.int .i64 x.params_),x.blocks_.v]
  pls x:=(Tr.pls x.blocks_)
  ok x:=Tr.ok x.blocks_
  era x:=⟨x.params_,Tr.era x.blocks_⟩
  len _ _:=rfl
  one x h:=by
    show (true && (x.blocks_.v.one && true))=true
    rw [(show okS x.blocks_ from h).1.scl.2]
    rfl
  dec H x h hp:=by
    have q0:(Dec.dec (α:=List Block) H [x.blocks_.v]).1∧(Dec.dec (α:=List Block) H [x.blocks_.v]).2=Tr.era x.blocks_:=Tr.dec H x.blocks_ h hp
    refine ⟨⟨trivial,q0.1⟩, ?_⟩
    show Func.mk x.params_ (Dec.dec (α:=List Block) H [x.blocks_.v]).2=_
    rw [q0.2]
@[simp] theorem cells_CFunc (x:CFunc):Tr.cells x=[.d (.int .i64 x.params_),x.blocks_.v]:=rfl
def GrT {α β:Type} [Enc β] [Dec β] [Inhabited β] [Tr α β] (n0:Nat) (l:List α) (v:V) (H:Heap):Prop:=(l=[]∧v=.d .nilsl)∨∃ id,v=.sl id (Enc.size β) 0 l.length∧0 < l.length∧n0≤id∧H[id]? = some (.row (Enc.size β) (l.map Tr.cells))
section
variable {α β:Type} [Enc β] [Dec β] [Inhabited β] [Tr α β]
end
structure MF (H00:Heap) (F:Func) (T:List Int) (m:List CBlock) (v:V) (H:Heap):Prop where
  out:H[H00.length + 1]? = some (.row 2 [[.d (.int .i64 0),.d .nilsl]])
  cell:H[H00.length + 2]? = some (.row 2 [[.d (.int .i64 F.params_),v]])
  gr:GrT (H00.length + 3) m v H
  old:Only [] H00 H
  own:OwnL H m
  nin:v.slId ∉ m.flatMap ids
  ge:∀ j∈m.flatMap ids,H00.length + 3≤j
  le:m.length≤F.blocks_.length
  era:m.map Tr.era=(F.blocks_.take m.length).map (mpB (mapL T))
structure MB (H1:Heap) (b:Block) (vI vJ:V) (val:Int) (mi:List Inst) (mj:List Jump) (H:Heap):Prop where
  c7:H[H1.length]? = some (.row 5 [[.d (.int .i64 b.params_),.d (dInstS b.insts_),.d (.int .i64 b.end_),.d (.int .i64 b.value_),.d (dJumpS b.jumps_)]])
  c8:H[H1.length + 1]? = some (.row 5 [[.d (.int .i64 b.params_),vI,.d (.int .i64 b.end_),.d (.int .i64 val),vJ]])
  gi:GrT (H1.length + 2) mi vI H
  gj:GrT (H1.length + 2) mj vJ H
  ne:0 < mi.length→0 < mj.length→vI.slId ≠ vJ.slId
  old:Only [] H1 H
end Go.Proofs.YthafdegfjadijaaGreat
end

section
namespace Go.Proofs.YthafdegfjadijaaGreat
set_option maxRecDepth 100000
set_option linter.unusedSimpArgs false
set_option linter.unusedVariables false
end Go.Proofs.YthafdegfjadijaaGreat
end

section
namespace Go.Proofs.YthafdegfjadijaaGreat
set_option maxRecDepth 100000
set_option linter.unusedSimpArgs false
set_option linter.unusedVariables false
end Go.Proofs.YthafdegfjadijaaGreat
end

section
namespace Go.Proofs.YthafdegfjadijaaGreat
set_option maxRecDepth 100000
set_option linter.unusedSimpArgs false
set_option linter.unusedVariables false
structure At (H:Heap) (idf:Nat) (A:AFunc):Prop where
  row:H[idf]? = some (.row 2 [[.d (.int .i64 A.params_),A.blocks_.v]])
  own:Own H A
  sol:solF A
  nin:idf ∉ ids A
  good:goodF (Tr.era A)=true
  enc:Enc.good (Tr.era A)
structure PR (H:Heap) (idf:Nat) (A A':AFunc) (H':Heap):Prop where
  at_:At H' idf A'
  ids:∀ j∈ids A',j∈ids A∨H.length≤j
  only:Only (idf :: Go.Proofs.YthafdegfjadijaaGreat.ids A) H H'
end Go.Proofs.YthafdegfjadijaaGreat
end

section
namespace Go.Proofs.YthafdegfjadijaaGreat
set_option maxRecDepth 100000
set_option linter.unusedSimpArgs false
set_option linter.unusedVariables false
end Go.Proofs.YthafdegfjadijaaGreat
end

section
namespace Go.Proofs.YthafdegfjadijaaGreat
set_option maxRecDepth 100000
set_option linter.unusedSimpArgs false
set_option linter.unusedVariables false
section
variable {α:Type} {v:View} {fn:Nat} {caps:List V} {L:Nat} {Hs:α→Heap} {f:α→Int→α}
end
end Go.Proofs.YthafdegfjadijaaGreat
end

section
namespace Go.Proofs.YthafdegfjadijaaGreat
set_option maxRecDepth 100000
set_option linter.unusedSimpArgs false
set_option linter.unusedVariables false
end Go.Proofs.YthafdegfjadijaaGreat
end

section
namespace Go.Proofs.YthafdegfjadijaaGreat
set_option maxRecDepth 100000
set_option linter.unusedSimpArgs false
set_option linter.unusedVariables false
end Go.Proofs.YthafdegfjadijaaGreat
end

section
namespace Go.Proofs.YthafdegfjadijaaGreat
set_option maxRecDepth 100000
set_option linter.unusedSimpArgs false
set_option linter.unusedVariables false
structure FS (A:CFunc) (F:Func) (H0:Heap) (m l:List CBlock) (k:Int) (H:Heap):Prop where
  own:Own H (⟨A.blocks_.v,m++l⟩:AS CBlock)
  left:l=A.blocks_.l.drop m.length
  era:m.map Tr.era=(F.blocks_.take m.length).map (foldB F)
  cnt:k=((F.blocks_.take m.length).map (foldK F)).sum
  only:Only (Go.Proofs.YthafdegfjadijaaGreat.ids A.blocks_) H0 H
  idv:A.blocks_.id∈Go.Proofs.YthafdegfjadijaaGreat.ids A.blocks_
  idl:∀ j∈Go.Proofs.YthafdegfjadijaaGreat.ids (⟨A.blocks_.v,m++l⟩:AS CBlock),j∈Go.Proofs.YthafdegfjadijaaGreat.ids A.blocks_∨H0.length≤j
  le:m.length≤A.blocks_.l.length
end Go.Proofs.YthafdegfjadijaaGreat
end

section
namespace Go.Proofs.YthafdegfjadijaaGreat
set_option maxRecDepth 100000
set_option linter.unusedSimpArgs false
set_option linter.unusedVariables false
end Go.Proofs.YthafdegfjadijaaGreat
end

section
namespace Go.Proofs.YthafdegfjadijaaGreat
set_option maxRecDepth 100000
set_option linter.unusedSimpArgs false
set_option linter.unusedVariables false
end Go.Proofs.YthafdegfjadijaaGreat
end

section
namespace Go.Proofs.YthafdegfjadijaaGreat
set_option maxRecDepth 100000
set_option linter.unusedSimpArgs false
set_option linter.unusedVariables false
end Go.Proofs.YthafdegfjadijaaGreat
end

section
namespace Go.Proofs.YthafdegfjadijaaGreat
set_option maxRecDepth 100000
set_option linter.unusedSimpArgs false
set_option linter.unusedVariables false
end Go.Proofs.YthafdegfjadijaaGreat
end
