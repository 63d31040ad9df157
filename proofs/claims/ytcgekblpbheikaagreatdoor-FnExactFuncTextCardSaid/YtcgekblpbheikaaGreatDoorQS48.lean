/- Values that are known to be numbers, of both programs. No condition. -/
import Derived.Test.YtcgekblpbheikaaGreatDoorQS37
import Derived.Test.YtcgekblpbheikaaGreatDoorQS46
section
namespace Go.Proofs.YtcgekblpbheikaaGreatDoor
set_option maxRecDepth 100000
set_option linter.unusedSimpArgs false
set_option linter.unusedVariables false
theorem dec_of {α β:Type} [Enc β] [Dec β] [Inhabited β] [Tr α β] {H:Heap} {a:α} (h:Own H a):Dec.dec (α:=β) H (Tr.cells a)=(True,Tr.era a):=Prod.ext (eq_true h.dec.1) h.dec.2
theorem dec_ints {H:Heap} {f:Nat} {l:List Int} (h:H[f]? = some (.row 1 (rI l))):Dec.dec (α:=List Int) H [.sl f 1 0 l.length]=(True,l):=by
  have:=dec_of (own_row h)
  rw [era_AS_ints] at this
  exact this
theorem VW.dec {n0:Nat} {A:AFunc} {F:Func} {w f b:Nat} {G:Heap} (h:VW n0 A F w f b G) (hO:Own G A) (hs:solF A) (hF:Tr.era A=F):Dec.dec (α:=Ptr View) G [.ptr w 5 0 0]=(True,⟨viewD F⟩):=by
  have q1:Dec.dec (α:=List Block) G [.sl A.blocks_.id 5 0 A.blocks_.l.length]=(True,F.blocks_):=by
    have:=dec_of (AFunc.own_blocks_ hO)
    rw [cells_AS,hs.1] at this
    rw [this,← hF];rfl
  have q2:=dec_ints h.fr
  have q3:=dec_ints h.br
  have hp:A.params_=F.params_:=by rw [← hF];rfl
  rw [dec_ptr,h.view]
  show ((5=5∧0 + 5≤5)∧0 < 1∧(Dec.dec (α:=View) G [_,_,_,_,_]).1,(⟨(Dec.dec (α:=View) G [_,_,_,_,_]).2⟩:Ptr View))=_
  rw [dec_View,q1,q2,q3,dec_int,dec_int,hp]
  simp
  rfl
theorem VW.keep {n0:Nat} {A:AFunc} {F:Func} {w f b:Nat} {G G':Heap} {S:List Nat} (h:VW n0 A F w f b G) (ho:Only S G G') (h1:w ∉ S) (h2:f ∉ S) (h3:b ∉ S):VW n0 A F w f b G' :=
  ⟨(ho.at_ _ (List.getElem?_eq_some_iff.1 h.view).1 h1).trans h.view,(ho.at_ _ (List.getElem?_eq_some_iff.1 h.fr).1 h2).trans h.fr,(ho.at_ _ (List.getElem?_eq_some_iff.1 h.br).1 h3).trans h.br,h.ge⟩
end Go.Proofs.YtcgekblpbheikaaGreatDoor
end

section
namespace Go.Proofs.YtcgekblpbheikaaGreatDoor
set_option maxRecDepth 100000
set_option linter.unusedSimpArgs false
set_option linter.unusedVariables false
end Go.Proofs.YtcgekblpbheikaaGreatDoor
end
