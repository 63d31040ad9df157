/- Contracts of LineOf of both programs, and that they are the same. No condition. -/
import Derived.Test.YtbmloeahcdneaaaGreatS7
import Derived.Test.YtbmloeahcdneaaaGreatRd
import Derived.Test.YtbmloeahcdneaaaGreatRows
namespace Go.Proofs.YtbmloeahcdneaaaGreat
set_option maxRecDepth 100000
set_option linter.unusedSimpArgs false
set_option linter.unusedVariables false
def isBlk (F : Func) (k : Int) : Bool := goodF F && inR k 0 (IntKind.i64.wrap (F.blocks_.length - 1))
theorem isBlk_t {F : Func} {k : Int} (hF : Enc.good F) (h : isBlk F k = true) : goodF F = true ∧ 0 ≤ k ∧ k < F.blocks_.length := by
  simp only [isBlk, Bool.and_eq_true] at h
  have := inR_index (good_len hF.2) h.2
  exact ⟨h.1, this.1, by omega⟩
def linB (bs : List Block) (n : Int) : Int := bs.foldl (fun n b => IntKind.i64.wrap (n + IntKind.i64.wrap (b.insts_.length + 2))) n
theorem linB_cons (b : Block) (bs : List Block) (n : Int) : linB (b :: bs) n = linB bs (IntKind.i64.wrap (n + IntKind.i64.wrap (b.insts_.length + 2))) := rfl
def lineN (F : Func) (k at_ : Int) : Int := IntKind.i64.wrap (IntKind.i64.wrap (linB (F.blocks_.take k.toNat) 2 + 1) + at_)
def isLine (F : Func) (k a : Int) : Bool := isBlk F k && inR a 0 (F.blocks_[k.toNat]?.getD default).insts_.length
def lineR (F : Func) (k a : Int) : V := if isLine F k a = true then .tup [.d (.int .i64 (lineN F k a)), .d (.bool true)] else .tup [.d (.int .i64 0), .d (.bool false)]
end Go.Proofs.YtbmloeahcdneaaaGreat
