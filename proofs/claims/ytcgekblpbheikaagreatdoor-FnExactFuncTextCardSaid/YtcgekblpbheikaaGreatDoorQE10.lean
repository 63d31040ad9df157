/- The abstract machine: drawn regions with any number of operations whose order tells, one of them a call told by a relation. No condition. -/
import Derived.Test.YtcgekblpbheikaaGreatDoorQE9
namespace Go.Proofs.YtcgekblpbheikaaGreatDoor
set_option linter.unusedVariables false
set_option linter.unusedSimpArgs false
section
variable {P:Program} {Γ:Table} {own:List FuncId} {all:List (Option Nat)} {x:Ctx} {N:Nat} {gd:FuncId} {n1:Nat}
def isLd:Op→Bool
  | .load ..=>true
  | _=>false
theorem clOf_ld {o:Op} (h:clOf own o=.read):isLd o=true:=by
  cases o
  case call c =>
    simp only [clOf] at h
    split at h
    · cases h
    · split at h <;> cases h
  case convert s d x=>simp only [clOf] at h;split at h <;> cases h
  all_goals first | rfl | (simp only [clOf] at h;cases h)
end
section
variable {P:Program} {Γ:Table} {own:List FuncId} {x:Ctx} {N:Nat} {gd:FuncId} {n1:Nat}
inductive OT where
  | leaf
  | nil
  | alt (m:Nat) (t rest:OT)
def OT.has (i:Nat):OT→Bool
  | .alt m _ r=>m == i || r.has i
  | _=>false
def covB (ops:Array Oper) (M:List Nat) (T:OT):Bool:=match T with
  | .leaf=>M.isEmpty
  | T=>!M.isEmpty && M.all fun i=>(M.any fun j=>j != i && reachB ops 5 i j) || T.has i
def okT (ops:Array Oper):List Nat→OT→Bool
  | _,.leaf=>true
  | _,.nil=>true
  | M,.alt m t r=>covB ops (M.erase m) t && okT ops (M.erase m) t && okT ops M r
end
def nQ (f:St→Prop):Exit→St→Prop
  | .normal,s=>f s
  | _,_=>False
theorem nQ_n {f:St→Prop} {s:St}:nQ f .normal s=f s:=rfl
attribute [simp] nQ_n
def OT.ms:OT→List Nat
  | .alt m t r=>m :: (t.ms++r.ms)
  | _=>[]
def pairs0 (own:List FuncId) (ops:Array Oper) (all:List (Option Nat)):List Nat→Bool
  | []=>true
  | z :: l=>(l.all fun y=>indepX own all (sop ops z) (sop ops y) || reachB ops 5 y z) && pairs0 own ops all l
theorem pairs0_spec {own:List FuncId} {ops:Array Oper} {all:List (Option Nat)}:∀ (l:List Nat),pairs0 own ops all l=true→l.Pairwise (fun z y=>indepX own all (sop ops z) (sop ops y)=true∨reachB ops 5 y z=true)
  | [],_=>.nil
  | z :: l,h=>by
    simp only [pairs0,Bool.and_eq_true,List.all_eq_true,Bool.or_eq_true] at h
    exact .cons (fun y hy=>h.1 y hy) (pairs0_spec l h.2)
end Go.Proofs.YtcgekblpbheikaaGreatDoor
