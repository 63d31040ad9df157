/- Redirecting all values, one after another, of a function of the program's own. No condition. -/
import Derived.Test.YthafdegfjadijaaGreatQS13
import Derived.Test.YthafdegfjadijaaGreatQS17
import Derived.Test.YthafdegfjadijaaGreatQS23
import Derived.Test.YthafdegfjadijaaGreatQS41
import Derived.Test.YthafdegfjadijaaGreatQS111
section
namespace Go.Proofs.YthafdegfjadijaaGreat
set_option maxRecDepth 100000
set_option linter.unusedSimpArgs false
set_option linter.unusedVariables false
end Go.Proofs.YthafdegfjadijaaGreat
end

section
namespace Go.Proofs.YthafdegfjadijaaGreat
set_option maxRecDepth 100000
set_option linter.unusedSimpArgs false
set_option linter.unusedVariables false
@[reducible] instance trInstC:Tr Inst Inst where
  cells x:=[.d (.int .i64 x.op_),.d (.int .i64 x.n_),.d (dIntS x.args_)]
  pls _:=[]
  ok _:=True
  era x:=x
  len _ _:=rfl
  one _ _:=rfl
  dec H x _ _:=by
    have h:=dec_ro (α:=Int) (H:=H) (l:=x.args_)
    exact ⟨⟨trivial,trivial,of_eq_true (congrArg Prod.fst h)⟩,congrArg (Inst.mk x.op_ x.n_) (congrArg Prod.snd h)⟩
@[reducible] instance trJumpC:Tr Jump Jump where
  cells x:=[.d (.int .i64 x.to_),.d (dIntS x.args_)]
  pls _:=[]
  ok _:=True
  era x:=x
  len _ _:=rfl
  one _ _:=rfl
  dec H x _ _:=by
    have h:=dec_ro (α:=Int) (H:=H) (l:=x.args_)
    exact ⟨⟨trivial,of_eq_true (congrArg Prod.fst h)⟩,congrArg (Jump.mk x.to_) (congrArg Prod.snd h)⟩
structure CBlock where
  params_:Int
  insts_:AS Inst
  end_:Int
  value_:Int
  jumps_:AS Jump
  deriving Inhabited
@[reducible] instance trCBlock:Tr CBlock Block where
  cells x:=[.d (.int .i64 x.params_),x.insts_.v,.d (.int .i64 x.end_),.d (.int .i64 x.value_),x.jumps_.v]
  pls x:=(Tr.pls x.insts_)++(Tr.pls x.jumps_)
  ok x:=Tr.ok x.insts_∧Tr.ok x.jumps_
  era x:=⟨x.params_,Tr.era x.insts_,x.end_,x.value_,Tr.era x.jumps_⟩
  len _ _:=rfl
  one x h:=by
    show (true && (x.insts_.v.one && (true && (true && (x.jumps_.v.one && true)))))=true
    rw [(show okS x.insts_ from h.1).1.scl.2]
    rw [(show okS x.jumps_ from h.2).1.scl.2]
    rfl
  dec H x h hp:=by
    have q0:(Dec.dec (α:=List Inst) H [x.insts_.v]).1∧(Dec.dec (α:=List Inst) H [x.insts_.v]).2=Tr.era x.insts_:=Tr.dec H x.insts_ h.1 (fun q hq=>hp q (List.mem_append_left _ hq))
    have q1:(Dec.dec (α:=List Jump) H [x.jumps_.v]).1∧(Dec.dec (α:=List Jump) H [x.jumps_.v]).2=Tr.era x.jumps_:=Tr.dec H x.jumps_ h.2 (fun q hq=>hp q (List.mem_append_right _ hq))
    refine ⟨⟨trivial,q0.1,trivial,trivial,q1.1⟩, ?_⟩
    show Block.mk x.params_ (Dec.dec (α:=List Inst) H [x.insts_.v]).2 x.end_ x.value_ (Dec.dec (α:=List Jump) H [x.jumps_.v]).2=_
    rw [q0.2]
    rw [q1.2]
@[simp] theorem cells_CBlock (x:CBlock):Tr.cells x=[.d (.int .i64 x.params_),x.insts_.v,.d (.int .i64 x.end_),.d (.int .i64 x.value_),x.jumps_.v]:=rfl
structure CFunc where
  params_:Int
  blocks_:AS CBlock
  deriving Inhabited
@[reducible] instance trCFunc:Tr CFunc Func where
  cells x:=[.d (.int .i64 x.params_),x.blocks_.v]
  pls x:=(Tr.pls x.blocks_)
  ok x:=Tr.ok x.blocks_
  era x:=⟨x.params_,Tr.era x.blocks_⟩
  len _ _:=rfl
  one x h:=by
    show (true && (x.blocks_.v.one && true))=true
    rw [(show okS x.blocks_ from h).1.scl.2]
    rfl
  dec H x h hp:=by
    have q0:(Dec.dec (α:=List Block) H [x.blocks_.v]).1∧(Dec.dec (α:=List Block) H [x.blocks_.v]).2=Tr.era x.blocks_:=Tr.dec H x.blocks_ h hp
    refine ⟨⟨trivial,q0.1⟩, ?_⟩
    show Func.mk x.params_ (Dec.dec (α:=List Block) H [x.blocks_.v]).2=_
    rw [q0.2]
@[simp] theorem cells_CFunc (x:CFunc):Tr.cells x=[.d (.int .i64 x.params_),x.blocks_.v]:=rfl
def GrT {α β:Type} [Enc β] [Dec β] [Inhabited β] [Tr α β] (n0:Nat) (l:List α) (v:V) (H:Heap):Prop:=(l=[]∧v=.d .nilsl)∨∃ id,v=.sl id (Enc.size β) 0 l.length∧0 < l.length∧n0≤id∧H[id]? = some (.row (Enc.size β) (l.map Tr.cells))
section
variable {α β:Type} [Enc β] [Dec β] [Inhabited β] [Tr α β]
end
structure MF (H00:Heap) (F:Func) (T:List Int) (m:List CBlock) (v:V) (H:Heap):Prop where
  out:H[H00.length + 1]? = some (.row 2 [[.d (.int .i64 0),.d .nilsl]])
  cell:H[H00.length + 2]? = some (.row 2 [[.d (.int .i64 F.params_),v]])
  gr:GrT (H00.length + 3) m v H
  old:Only [] H00 H
  own:OwnL H m
  nin:v.slId ∉ m.flatMap ids
  ge:∀ j∈m.flatMap ids,H00.length + 3≤j
  le:m.length≤F.blocks_.length
  era:m.map Tr.era=(F.blocks_.take m.length).map (mpB (mapL T))
structure MB (H1:Heap) (b:Block) (vI vJ:V) (val:Int) (mi:List Inst) (mj:List Jump) (H:Heap):Prop where
  c7:H[H1.length]? = some (.row 5 [[.d (.int .i64 b.params_),.d (dInstS b.insts_),.d (.int .i64 b.end_),.d (.int .i64 b.value_),.d (dJumpS b.jumps_)]])
  c8:H[H1.length + 1]? = some (.row 5 [[.d (.int .i64 b.params_),vI,.d (.int .i64 b.end_),.d (.int .i64 val),vJ]])
  gi:GrT (H1.length + 2) mi vI H
  gj:GrT (H1.length + 2) mj vJ H
  ne:0 < mi.length→0 < mj.length→vI.slId ≠ vJ.slId
  old:Only [] H1 H
end Go.Proofs.YthafdegfjadijaaGreat
end

section
namespace Go.Proofs.YthafdegfjadijaaGreat
set_option maxRecDepth 100000
set_option linter.unusedSimpArgs false
set_option linter.unusedVariables false
end Go.Proofs.YthafdegfjadijaaGreat
end

section
namespace Go.Proofs.YthafdegfjadijaaGreat
set_option maxRecDepth 100000
set_option linter.unusedSimpArgs false
set_option linter.unusedVariables false
end Go.Proofs.YthafdegfjadijaaGreat
end

section
namespace Go.Proofs.YthafdegfjadijaaGreat
set_option maxRecDepth 100000
set_option linter.unusedSimpArgs false
set_option linter.unusedVariables false
structure At (H:Heap) (idf:Nat) (A:AFunc):Prop where
  row:H[idf]? = some (.row 2 [[.d (.int .i64 A.params_),A.blocks_.v]])
  own:Own H A
  sol:solF A
  nin:idf ∉ ids A
  good:goodF (Tr.era A)=true
  enc:Enc.good (Tr.era A)
structure PR (H:Heap) (idf:Nat) (A A':AFunc) (H':Heap):Prop where
  at_:At H' idf A'
  ids:∀ j∈ids A',j∈ids A∨H.length≤j
  only:Only (idf :: Go.Proofs.YthafdegfjadijaaGreat.ids A) H H'
end Go.Proofs.YthafdegfjadijaaGreat
end

section
namespace Go.Proofs.YthafdegfjadijaaGreat
set_option linter.unusedVariables false
set_option linter.unusedSimpArgs false
structure HLe (G H:Heap):Prop where
  len:G.length=H.length
  at_:∀ i:Nat,G[i]? = H[i]?∨∃ (e:Nat) (es es':List (List V)),G[i]? = some (Place.row e es)∧H[i]? = some (Place.row e es')∧es.length=es'.length ∧
    ∀ (k:Nat) (l':List V),es'[k]? = some l'→∃ l:List V,es[k]? = some l∧l.length=l'.length∧∀ (j:Nat) (c':V),l'[j]? = some c'→∃ c:V,l[j]? = some c∧(c=c'∨(VLe c c'∧c'.one=true))
theorem HLe.refl (H:Heap):HLe H H:=⟨rfl,fun _=>.inl rfl⟩
theorem HLe.row {G H:Heap} (h:HLe G H) {i e:Nat} {es:List (List V)}:H[i]? = some (.row e es)→∃ es',G[i]? = some (.row e es'):=fun hi=>by
  rcases h.at_ i with q | ⟨e',es1,es2,q1,q2,_⟩
  · exact ⟨es,q.trans hi⟩
  · rw [q2] at hi
    obtain ⟨rfl,rfl⟩:=Place.row.inj (Option.some.inj hi)
    exact ⟨es1,q1⟩
theorem HLe.row' {G H:Heap} (h:HLe G H) {i e:Nat} {es:List (List V)}:G[i]? = some (.row e es)→∃ es',H[i]? = some (.row e es'):=fun hi=>by
  rcases h.at_ i with q | ⟨e',es1,es2,q1,q2,_⟩
  · exact ⟨es,q.symm.trans hi⟩
  · rw [q1] at hi
    obtain ⟨rfl,rfl⟩:=Place.row.inj (Option.some.inj hi)
    exact ⟨es2,q2⟩
theorem HLe.ownOf {G H:Heap} (h:HLe G H) (φ:List (Nat × Nat)):Go.Proofs.YthafdegfjadijaaGreat.ownOf φ G=Go.Proofs.YthafdegfjadijaaGreat.ownOf φ H:=by
  funext g
  apply propext
  constructor
  · rintro ⟨id,e,es,o,h1,h2⟩
    obtain ⟨es',q⟩:=h.row' h1
    exact ⟨id,e,es',o,q,h2⟩
  · rintro ⟨id,e,es,o,h1,h2⟩
    obtain ⟨es',q⟩:=h.row h1
    exact ⟨id,e,es',o,q,h2⟩
theorem HLe.hs {G H:Heap} (h:HLe G H) {X:Nat→Prop} {w:World} {φ:List (Nat × Nat)} (hs:HS X w φ G):HS X w φ H:=by
  have ho:owned X φ H=owned X φ G:=by funext g;unfold owned;rw [h.ownOf φ]
  refine ⟨hs.len.trans h.len,fun i j e es e' es' g o o' hi hj=>?_,fun g hg=>hs.disj g (by rw [h.ownOf];exact hg),fun id e es hid=>?_⟩
  · obtain ⟨_,q1⟩:=h.row hi
    obtain ⟨_,q2⟩:=h.row hj
    exact hs.inj i j _ _ _ _ g o o' q1 q2
  · rw [ho]
    rcases h.at_ id with q | ⟨e',es1,es2,q1,q2,q3,q4⟩
    · exact hs.live id e es (q.trans hid)
    · rw [q2] at hid
      obtain ⟨rfl,rfl⟩:=Place.row.inj (Option.some.inj hid)
      obtain ⟨g,o,cs,t,r1,r2,r3,r4⟩:=hs.live id _ _ q1
      refine ⟨g,o,cs,t,r1,r2,by rw [← q3];exact r3,fun i l hl=>?_⟩
      obtain ⟨l0,p1,p2,p3⟩:=q4 i l hl
      obtain ⟨p4,p5⟩:=r4 i l0 p1
      refine ⟨p2.symm.trans p4,fun j c hc=>?_⟩
      obtain ⟨c0,p6,p7⟩:=p3 j c hc
      obtain ⟨p8,x,p9,p10⟩:=p5 j c0 p6
      rcases p7 with rfl | ⟨p7,p11⟩
      · exact ⟨p8,x,p9,p10⟩
      · exact ⟨p11,x,p9,VS.le _ _ _ p7 p10⟩
theorem HLe.weak {G H:Heap} (h:HLe G H) {n0:Nat} {env:Env}:Weak n0 ⟨env,G⟩ ⟨env,H⟩:=by
  intro x N φ a w hx hs
  have ho:owned x.X φ H=owned x.X φ G:=by funext g;unfold owned;rw [h.ownOf φ]
  exact ⟨φ,⟨h.hs hs.hs,fun t=>by show VS w (owned x.X φ H) φ (env t) _;rw [ho];exact hs.env t,hs.low,hs.defers,hs.size,hs.fr,fun g hg hn=>hs.old g hg (by show Go.Proofs.YthafdegfjadijaaGreat.ownOf φ G g;rw [h.ownOf];exact hn),hs.ext,by show x.H0.length≤H.length;rw [← h.len];exact hs.long,hs.len0⟩⟩
def IntoW (s:St) (l:List (Nat × V)) (H:Heap):Prop:=HLe s.H H∧intoQ s.env l
theorem IntoW.weak {n0:Nat} {s:St} {l:List (Nat × V)} {H:Heap} (h:IntoW s l H):Weak n0 s ⟨mk l,H⟩:=by
  obtain ⟨env,G⟩:=s
  exact (HLe.weak h.1).trans (IntoH.weak ⟨rfl,h.2⟩)
attribute [simp] IntoW
end Go.Proofs.YthafdegfjadijaaGreat
end

section
namespace Go.Proofs.YthafdegfjadijaaGreat
set_option linter.unusedVariables false
set_option linter.unusedSimpArgs false
end Go.Proofs.YthafdegfjadijaaGreat
end

section
namespace Go.Proofs.YthafdegfjadijaaGreat
set_option maxRecDepth 100000
set_option linter.unusedSimpArgs false
set_option linter.unusedVariables false
end Go.Proofs.YthafdegfjadijaaGreat
end

section
namespace Go.Proofs.YthafdegfjadijaaGreat
set_option maxRecDepth 100000
set_option linter.unusedSimpArgs false
set_option linter.unusedVariables false
section
variable {α:Type} {v:View} {fn:Nat} {caps:List V} {L:Nat} {Hs:α→Heap} {f:α→Int→α}
end
end Go.Proofs.YthafdegfjadijaaGreat
end

section
namespace Go.Proofs.YthafdegfjadijaaGreat
set_option maxRecDepth 100000
set_option linter.unusedSimpArgs false
set_option linter.unusedVariables false
end Go.Proofs.YthafdegfjadijaaGreat
end
