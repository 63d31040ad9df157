/- What both programs tell of a value's block, and whether it is there at a place. No condition. -/
import Derived.Test.YtcgekblpbheikaaGreatDoorRows
import Derived.Test.YtcgekblpbheikaaGreatDoorQS8
import Derived.Test.YtcgekblpbheikaaGreatDoorQRd
import Derived.Test.YtcgekblpbheikaaGreatDoorQS15
section
namespace Go.Proofs.YtcgekblpbheikaaGreatDoor
set_option maxRecDepth 100000
set_option linter.unusedSimpArgs false
set_option linter.unusedVariables false
def accV (id:Nat):List Int→V
  | []=>.d .nilsl
  | a :: l=>.sl id 1 0 (l.length + 1)
def accH:List Int→Heap
  | []=>[]
  | a :: l=>[.row 1 (rI (a :: l))]
@[simp] theorem accV_nil (id:Nat):accV id []=.d .nilsl:=rfl
@[simp] theorem accH_nil:accH []=[]:=rfl
@[simp] theorem accV_cons (id:Nat) (a:Int) (l:List Int):accV id (a :: l)=.sl id 1 0 (l.length + 1):=rfl
@[simp] theorem accH_cons (a:Int) (l:List Int):accH (a :: l)=[.row 1 (rI (a :: l))]:=rfl
def rowD (n:Nat) (o:Nat→D):List (List V):=fillR n n (fun k=>[.d (o k)]) [.d .nilsl]
@[simp] theorem rowD_len (n:Nat) (o:Nat→D):(rowD n o).length=n:=by simp [rowD]
@[simp] theorem rowD_ren (σ:List Nat) (n:Nat) (o:Nat→D):(rowD n o).map (renL σ)=rowD n o:=fillR_ren1 ..
@[simp 2000] theorem setR_rowD {n k id e e' j size:Nat} {o:Nat→D} {l0 l:List V} {H:Heap}:setR ((rowD n o).set k l0) id k e e' j size l H =
    guardR (k < n∧e'=e∧l.length=size∧j + size≤e∧ones l=true) (.ok (.tup []) (H.set id (.row e ((rowD n o).set k (setMany l0 j l))))):=setR_hole
@[simp 2000] theorem elR_rowD {n k e e' j size:Nat} {agg:Bool} {o:Nat→D} {l0:List V} {H:Heap}:elR ((rowD n o).set k l0) k e e' j size agg H =
    guardR (k < n∧e'=e∧j + size≤e∧(agg=true∨size=1)) (.ok (asVal agg ((l0.drop j).take size)) H):=elR_hole
end Go.Proofs.YtcgekblpbheikaaGreatDoor
end

section
namespace Go.Proofs.YtcgekblpbheikaaGreatDoor
set_option maxRecDepth 100000
set_option linter.unusedSimpArgs false
set_option linter.unusedVariables false
end Go.Proofs.YtcgekblpbheikaaGreatDoor
end

section
namespace Go.Proofs.YtcgekblpbheikaaGreatDoor
set_option maxRecDepth 100000
set_option linter.unusedSimpArgs false
set_option linter.unusedVariables false
theorem goodF_spec {F:Func} (h:goodF F=true):(0≤F.params_∧F.params_≤4)∧(1≤(F.blocks_.length:Int)∧F.blocks_.length≤8)∧F.blocks_.all headOk=true∧many F≤80∧many F=F.params_ + sumI F.blocks_∧0≤sumI F.blocks_∧F.blocks_.all (bodyOk F.blocks_ (many F))=true:=by
  simp only [goodF,Bool.and_eq_true,decide_eq_true_eq] at h
  obtain ⟨h1,h2,h3,h4,h5,h6⟩:=h
  have h1':=inR_t.1 h1
  have h2':=inR_t.1 h2
  obtain ⟨c1,c2,c3⟩:=cntB_sum F.blocks_ F.params_ h4 h1'.1 (by omega)
  exact ⟨h1',⟨h2'.1,by omega⟩,h4,h5,c1,c2,h6⟩
end Go.Proofs.YtcgekblpbheikaaGreatDoor
end

section
namespace Go.Proofs.YtcgekblpbheikaaGreatDoor
set_option maxRecDepth 100000
set_option linter.unusedSimpArgs false
set_option linter.unusedVariables false
theorem Rch.ne {nx:List (List Int)} {fr but x:Int} (h:Rch nx fr but x):x ≠ but:=by
  cases h with
  | base h=>exact h
  | step _ _ h=>exact h
def okW (w:Ways) (n b:Int):Prop:=okV w.view_.v n∧(0≤bk w.view_.v n→(0≤b∧b < w.dom_.length)∧bk w.view_.v n < (w.dom_[b.toNat]?.getD default).length)
end Go.Proofs.YtcgekblpbheikaaGreatDoor
end
