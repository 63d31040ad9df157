/-
  No cell of these rows narrows 'for every input' (looked for: loops, veiled, ifaces, maps, wideKeys, modest, calm, conditions, laid).
  DERIVED. THE GIVEN ROWS OF THIS SEAT. 10 by the template 'for every input the law returns true; each argument reads behind the call as it read before'; 0 by the template 'total and deterministic' (their statements: YtpakdkiceoknjaaTotals.lean).
  GIVEN WITH THE SEED: the statements are not yours to turn. If you find one false, say at which input.
  Laid BY PROGRAM, IN A SANDBOX (cutbox-rows.mjs): the forced cells as the released guide's own fill.sh prints them over the translation f9cd68a44be8079f… (all of the seat's roots in one cut). By AI agents, Wed Nov 11 2026. No macro, syntax, notation, axiom, sorry.
-/
import Derived.Test.YtpakdkiceoknjaaChecked
import GoSem.Claim
import GoSem.ClaimJoined
import GoSem.ClaimMapViews
import Derived.JoinedTies
import Derived.KernelRfl
namespace Go.Proofs.Ytpakdkiceoknjaa
/- THE CELL 'sum', in the pinned program and in every row, IS THE sha256 OF THE DUMP (.gsa) THAT YtpakdkiceoknjaaProg.lean LOADS. Nothing in Lean hashes anything: it is a label: what it is worth is what the hold of that sum in a sandbox is worth. -/
noncomputable def Try.pinned : Pinned := { name := "ytpakdkiceoknjaa", sum := "f9cd68a44be8079f480dfb2abc4b0d846d2f48dbd820d710ed4d5a0cdce61521", checked := Try.checked }
namespace Rows
def none {H : Type} : Left H := { results := [], args := [] }

/-- 'laws.FnExactWordOf': WHATEVER THE INPUT: true; the input reads as it did. -/
def fnExactWordOfSpec : ChangeSpec := { name := "fnExactWordOf", fn := fun _ => fun
  | [d] => { results := [.lit (.bool true)], args := [d] }
  | _ => none }
def fnExactWordOfRow : OpenClaim := { program := "ytpakdkiceoknjaa", sum := "f9cd68a44be8079f480dfb2abc4b0d846d2f48dbd820d710ed4d5a0cdce61521", func := "loop.example/g00694/laws.FnExactWordOf", spec := "fnExactWordOf", apart := false }
def FnExactWordOfSaid : Prop := fnExactWordOfRow.holds Try.pinned (OpenSpec.ofChange fnExactWordOfSpec)

/-- ITS FALSE NEIGHBOUR: 'it returns false'. Refute it at one input. -/
def fnExactWordOfWrong : ChangeSpec := { name := "fnExactWordOf", fn := fun _ => fun
  | [d] => { results := [.lit (.bool false)], args := [d] }
  | _ => none }
def FnExactWordOfWrongFalsely : Prop := fnExactWordOfRow.holds Try.pinned (OpenSpec.ofChange fnExactWordOfWrong)

/-- 'laws.FnExactLineOf': WHATEVER THE INPUT: true; the input reads as it did. -/
def fnExactLineOfSpec : ChangeSpec := { name := "fnExactLineOf", fn := fun _ => fun
  | [d1, d2, d3] => { results := [.lit (.bool true)], args := [d1, d2, d3] }
  | _ => none }
def fnExactLineOfRow : OpenClaim := { program := "ytpakdkiceoknjaa", sum := "f9cd68a44be8079f480dfb2abc4b0d846d2f48dbd820d710ed4d5a0cdce61521", func := "loop.example/g00694/laws.FnExactLineOf", spec := "fnExactLineOf", unfollowed := true, recurses := true, apart := false }
def FnExactLineOfSaid : Prop := fnExactLineOfRow.holds Try.pinned (OpenSpec.ofChange fnExactLineOfSpec)

/-- ITS FALSE NEIGHBOUR: 'it returns false'. Refute it at one input. -/
def fnExactLineOfWrong : ChangeSpec := { name := "fnExactLineOf", fn := fun _ => fun
  | [d1, d2, d3] => { results := [.lit (.bool false)], args := [d1, d2, d3] }
  | _ => none }
def FnExactLineOfWrongFalsely : Prop := fnExactLineOfRow.holds Try.pinned (OpenSpec.ofChange fnExactLineOfWrong)

/-- 'laws.FnExactIsPure': WHATEVER THE INPUT: true; the input reads as it did. -/
def fnExactIsPureSpec : ChangeSpec := { name := "fnExactIsPure", fn := fun _ => fun
  | [d1, d2] => { results := [.lit (.bool true)], args := [d1, d2] }
  | _ => none }
def fnExactIsPureRow : OpenClaim := { program := "ytpakdkiceoknjaa", sum := "f9cd68a44be8079f480dfb2abc4b0d846d2f48dbd820d710ed4d5a0cdce61521", func := "loop.example/g00694/laws.FnExactIsPure", spec := "fnExactIsPure", unfollowed := true, recurses := true, apart := false }
def FnExactIsPureSaid : Prop := fnExactIsPureRow.holds Try.pinned (OpenSpec.ofChange fnExactIsPureSpec)

/-- ITS FALSE NEIGHBOUR: 'it returns false'. Refute it at one input. -/
def fnExactIsPureWrong : ChangeSpec := { name := "fnExactIsPure", fn := fun _ => fun
  | [d1, d2] => { results := [.lit (.bool false)], args := [d1, d2] }
  | _ => none }
def FnExactIsPureWrongFalsely : Prop := fnExactIsPureRow.holds Try.pinned (OpenSpec.ofChange fnExactIsPureWrong)

/-- 'laws.FnExactArgsOf': WHATEVER THE INPUT: true; the input reads as it did. -/
def fnExactArgsOfSpec : ChangeSpec := { name := "fnExactArgsOf", fn := fun _ => fun
  | [d1, d2] => { results := [.lit (.bool true)], args := [d1, d2] }
  | _ => none }
def fnExactArgsOfRow : OpenClaim := { program := "ytpakdkiceoknjaa", sum := "f9cd68a44be8079f480dfb2abc4b0d846d2f48dbd820d710ed4d5a0cdce61521", func := "loop.example/g00694/laws.FnExactArgsOf", spec := "fnExactArgsOf", unfollowed := true, recurses := true, apart := false }
def FnExactArgsOfSaid : Prop := fnExactArgsOfRow.holds Try.pinned (OpenSpec.ofChange fnExactArgsOfSpec)

/-- ITS FALSE NEIGHBOUR: 'it returns false'. Refute it at one input. -/
def fnExactArgsOfWrong : ChangeSpec := { name := "fnExactArgsOf", fn := fun _ => fun
  | [d1, d2] => { results := [.lit (.bool false)], args := [d1, d2] }
  | _ => none }
def FnExactArgsOfWrongFalsely : Prop := fnExactArgsOfRow.holds Try.pinned (OpenSpec.ofChange fnExactArgsOfWrong)

/-- 'laws.FnExactIsThere': WHATEVER THE INPUT: true; the input reads as it did. -/
def fnExactIsThereSpec : ChangeSpec := { name := "fnExactIsThere", fn := fun _ => fun
  | [d1, d2, d3, d4] => { results := [.lit (.bool true)], args := [d1, d2, d3, d4] }
  | _ => none }
def fnExactIsThereRow : OpenClaim := { program := "ytpakdkiceoknjaa", sum := "f9cd68a44be8079f480dfb2abc4b0d846d2f48dbd820d710ed4d5a0cdce61521", func := "loop.example/g00694/laws.FnExactIsThere", spec := "fnExactIsThere", unfollowed := true, recurses := true, apart := false }
def FnExactIsThereSaid : Prop := fnExactIsThereRow.holds Try.pinned (OpenSpec.ofChange fnExactIsThereSpec)

/-- ITS FALSE NEIGHBOUR: 'it returns false'. Refute it at one input. -/
def fnExactIsThereWrong : ChangeSpec := { name := "fnExactIsThere", fn := fun _ => fun
  | [d1, d2, d3, d4] => { results := [.lit (.bool false)], args := [d1, d2, d3, d4] }
  | _ => none }
def FnExactIsThereWrongFalsely : Prop := fnExactIsThereRow.holds Try.pinned (OpenSpec.ofChange fnExactIsThereWrong)

/-- 'laws.FnExactCheckFunc': WHATEVER THE INPUT: true; the input reads as it did. -/
def fnExactCheckFuncSpec : ChangeSpec := { name := "fnExactCheckFunc", fn := fun _ => fun
  | [d] => { results := [.lit (.bool true)], args := [d] }
  | _ => none }
def fnExactCheckFuncRow : OpenClaim := { program := "ytpakdkiceoknjaa", sum := "f9cd68a44be8079f480dfb2abc4b0d846d2f48dbd820d710ed4d5a0cdce61521", func := "loop.example/g00694/laws.FnExactCheckFunc", spec := "fnExactCheckFunc", unfollowed := true, recurses := true, apart := false }
def FnExactCheckFuncSaid : Prop := fnExactCheckFuncRow.holds Try.pinned (OpenSpec.ofChange fnExactCheckFuncSpec)

/-- ITS FALSE NEIGHBOUR: 'it returns false'. Refute it at one input. -/
def fnExactCheckFuncWrong : ChangeSpec := { name := "fnExactCheckFunc", fn := fun _ => fun
  | [d] => { results := [.lit (.bool false)], args := [d] }
  | _ => none }
def FnExactCheckFuncWrongFalsely : Prop := fnExactCheckFuncRow.holds Try.pinned (OpenSpec.ofChange fnExactCheckFuncWrong)

/-- 'laws.FnExactOverwrittenBy': WHATEVER THE INPUT: true; the input reads as it did. -/
def fnExactOverwrittenBySpec : ChangeSpec := { name := "fnExactOverwrittenBy", fn := fun _ => fun
  | [d1, d2] => { results := [.lit (.bool true)], args := [d1, d2] }
  | _ => none }
def fnExactOverwrittenByRow : OpenClaim := { program := "ytpakdkiceoknjaa", sum := "f9cd68a44be8079f480dfb2abc4b0d846d2f48dbd820d710ed4d5a0cdce61521", func := "loop.example/g00694/laws.FnExactOverwrittenBy", spec := "fnExactOverwrittenBy", unfollowed := true, recurses := true, apart := false }
def FnExactOverwrittenBySaid : Prop := fnExactOverwrittenByRow.holds Try.pinned (OpenSpec.ofChange fnExactOverwrittenBySpec)

/-- ITS FALSE NEIGHBOUR: 'it returns false'. Refute it at one input. -/
def fnExactOverwrittenByWrong : ChangeSpec := { name := "fnExactOverwrittenBy", fn := fun _ => fun
  | [d1, d2] => { results := [.lit (.bool false)], args := [d1, d2] }
  | _ => none }
def FnExactOverwrittenByWrongFalsely : Prop := fnExactOverwrittenByRow.holds Try.pinned (OpenSpec.ofChange fnExactOverwrittenByWrong)

/-- 'laws.FnExactSameInsts': WHATEVER THE INPUT: true; the input reads as it did. -/
def fnExactSameInstsSpec : ChangeSpec := { name := "fnExactSameInsts", fn := fun _ => fun
  | [d1, d2, d3] => { results := [.lit (.bool true)], args := [d1, d2, d3] }
  | _ => none }
def fnExactSameInstsRow : OpenClaim := { program := "ytpakdkiceoknjaa", sum := "f9cd68a44be8079f480dfb2abc4b0d846d2f48dbd820d710ed4d5a0cdce61521", func := "loop.example/g00694/laws.FnExactSameInsts", spec := "fnExactSameInsts", unfollowed := true, recurses := true, apart := false }
def FnExactSameInstsSaid : Prop := fnExactSameInstsRow.holds Try.pinned (OpenSpec.ofChange fnExactSameInstsSpec)

/-- ITS FALSE NEIGHBOUR: 'it returns false'. Refute it at one input. -/
def fnExactSameInstsWrong : ChangeSpec := { name := "fnExactSameInsts", fn := fun _ => fun
  | [d1, d2, d3] => { results := [.lit (.bool false)], args := [d1, d2, d3] }
  | _ => none }
def FnExactSameInstsWrongFalsely : Prop := fnExactSameInstsRow.holds Try.pinned (OpenSpec.ofChange fnExactSameInstsWrong)

/-- 'laws.FnExactSourceOf': WHATEVER THE INPUT: true; the input reads as it did. -/
def fnExactSourceOfSpec : ChangeSpec := { name := "fnExactSourceOf", fn := fun _ => fun
  | [d1, d2] => { results := [.lit (.bool true)], args := [d1, d2] }
  | _ => none }
def fnExactSourceOfRow : OpenClaim := { program := "ytpakdkiceoknjaa", sum := "f9cd68a44be8079f480dfb2abc4b0d846d2f48dbd820d710ed4d5a0cdce61521", func := "loop.example/g00694/laws.FnExactSourceOf", spec := "fnExactSourceOf", unfollowed := true, recurses := true, apart := false }
def FnExactSourceOfSaid : Prop := fnExactSourceOfRow.holds Try.pinned (OpenSpec.ofChange fnExactSourceOfSpec)

/-- ITS FALSE NEIGHBOUR: 'it returns false'. Refute it at one input. -/
def fnExactSourceOfWrong : ChangeSpec := { name := "fnExactSourceOf", fn := fun _ => fun
  | [d1, d2] => { results := [.lit (.bool false)], args := [d1, d2] }
  | _ => none }
def FnExactSourceOfWrongFalsely : Prop := fnExactSourceOfRow.holds Try.pinned (OpenSpec.ofChange fnExactSourceOfWrong)

/-- 'laws.FnExactEarlierOf': WHATEVER THE INPUT: true; the input reads as it did. -/
def fnExactEarlierOfSpec : ChangeSpec := { name := "fnExactEarlierOf", fn := fun _ => fun
  | [d1, d2] => { results := [.lit (.bool true)], args := [d1, d2] }
  | _ => none }
def fnExactEarlierOfRow : OpenClaim := { program := "ytpakdkiceoknjaa", sum := "f9cd68a44be8079f480dfb2abc4b0d846d2f48dbd820d710ed4d5a0cdce61521", func := "loop.example/g00694/laws.FnExactEarlierOf", spec := "fnExactEarlierOf", unfollowed := true, recurses := true, apart := false }
def FnExactEarlierOfSaid : Prop := fnExactEarlierOfRow.holds Try.pinned (OpenSpec.ofChange fnExactEarlierOfSpec)

/-- ITS FALSE NEIGHBOUR: 'it returns false'. Refute it at one input. -/
def fnExactEarlierOfWrong : ChangeSpec := { name := "fnExactEarlierOf", fn := fun _ => fun
  | [d1, d2] => { results := [.lit (.bool false)], args := [d1, d2] }
  | _ => none }
def FnExactEarlierOfWrongFalsely : Prop := fnExactEarlierOfRow.holds Try.pinned (OpenSpec.ofChange fnExactEarlierOfWrong)

/- THE SECOND FORM. 'bulk': how many values and letters a reading holds, each counted each time it is reached (what is shared counts as often as it is met; a slice's spare places count too). A statement '..UptoSaid' is the law's where the arguments, and the package variables that the reading takes, are together of bulk at most 1048576: NARROWER than '..Said'. Prove '..Said' where nothing that the law and all that it calls make is longer than what came in: it says more and counts as full. Else prove '..UptoSaid'. A law counts once. -/
mutual
def uptoBulk {H : Type} : DataW H → Nat
  | .lit (.string bytes) => bytes.length + 1
  | .lit _ => 1
  | .nil => 1
  | .ptr d => uptoBulk d + 1
  | .slice elems spare => uptoBulkAll elems + uptoBulkAll spare + 1
  | .agg parts => uptoBulkAll parts + 1
  | .iface _ d => uptoBulk d + 1
  | .map entries => uptoBulkEntries entries + 1
  | .held _ => 1
def uptoBulkAll {H : Type} : List (DataW H) → Nat
  | [] => 0
  | d :: r => uptoBulk d + uptoBulkAll r
def uptoBulkEntries {H : Type} : List (Lit × DataW H) → Nat
  | [] => 0
  | x :: r => uptoBulkEntry x + uptoBulkEntries r
def uptoBulkEntry {H : Type} : Lit × DataW H → Nat
  | (.string bytes, d) => bytes.length + uptoBulk d + 1
  | (_, d) => uptoBulk d + 1
 end
def uptoSmall : (H : Type) → List (DataW H) → Bool := fun _ ds => decide (uptoBulkAll ds ≤ 1048576)
def OpenSpec.upto (s : _root_.Go.ChangeSpec) : _root_.Go.OpenSpec := { _root_.Go.OpenSpec.ofChange s with cond := some uptoSmall }

/-- 'laws.FnExactWordOf', WHERE WHAT IT READS IS OF BULK AT MOST 1048576: true; the input reads as it did. -/
def fnExactWordOfUptoRow : OpenClaim := { program := "ytpakdkiceoknjaa", sum := "f9cd68a44be8079f480dfb2abc4b0d846d2f48dbd820d710ed4d5a0cdce61521", func := "loop.example/g00694/laws.FnExactWordOf", spec := "fnExactWordOf", apart := false, narrowed := true }
def FnExactWordOfUptoSaid : Prop := fnExactWordOfUptoRow.holds Try.pinned (OpenSpec.upto fnExactWordOfSpec)

/-- 'laws.FnExactLineOf', WHERE WHAT IT READS IS OF BULK AT MOST 1048576: true; the input reads as it did. -/
def fnExactLineOfUptoRow : OpenClaim := { program := "ytpakdkiceoknjaa", sum := "f9cd68a44be8079f480dfb2abc4b0d846d2f48dbd820d710ed4d5a0cdce61521", func := "loop.example/g00694/laws.FnExactLineOf", spec := "fnExactLineOf", unfollowed := true, recurses := true, apart := false, narrowed := true }
def FnExactLineOfUptoSaid : Prop := fnExactLineOfUptoRow.holds Try.pinned (OpenSpec.upto fnExactLineOfSpec)

/-- 'laws.FnExactIsPure', WHERE WHAT IT READS IS OF BULK AT MOST 1048576: true; the input reads as it did. -/
def fnExactIsPureUptoRow : OpenClaim := { program := "ytpakdkiceoknjaa", sum := "f9cd68a44be8079f480dfb2abc4b0d846d2f48dbd820d710ed4d5a0cdce61521", func := "loop.example/g00694/laws.FnExactIsPure", spec := "fnExactIsPure", unfollowed := true, recurses := true, apart := false, narrowed := true }
def FnExactIsPureUptoSaid : Prop := fnExactIsPureUptoRow.holds Try.pinned (OpenSpec.upto fnExactIsPureSpec)

/-- 'laws.FnExactArgsOf', WHERE WHAT IT READS IS OF BULK AT MOST 1048576: true; the input reads as it did. -/
def fnExactArgsOfUptoRow : OpenClaim := { program := "ytpakdkiceoknjaa", sum := "f9cd68a44be8079f480dfb2abc4b0d846d2f48dbd820d710ed4d5a0cdce61521", func := "loop.example/g00694/laws.FnExactArgsOf", spec := "fnExactArgsOf", unfollowed := true, recurses := true, apart := false, narrowed := true }
def FnExactArgsOfUptoSaid : Prop := fnExactArgsOfUptoRow.holds Try.pinned (OpenSpec.upto fnExactArgsOfSpec)

/-- 'laws.FnExactIsThere', WHERE WHAT IT READS IS OF BULK AT MOST 1048576: true; the input reads as it did. -/
def fnExactIsThereUptoRow : OpenClaim := { program := "ytpakdkiceoknjaa", sum := "f9cd68a44be8079f480dfb2abc4b0d846d2f48dbd820d710ed4d5a0cdce61521", func := "loop.example/g00694/laws.FnExactIsThere", spec := "fnExactIsThere", unfollowed := true, recurses := true, apart := false, narrowed := true }
def FnExactIsThereUptoSaid : Prop := fnExactIsThereUptoRow.holds Try.pinned (OpenSpec.upto fnExactIsThereSpec)

/-- 'laws.FnExactCheckFunc', WHERE WHAT IT READS IS OF BULK AT MOST 1048576: true; the input reads as it did. -/
def fnExactCheckFuncUptoRow : OpenClaim := { program := "ytpakdkiceoknjaa", sum := "f9cd68a44be8079f480dfb2abc4b0d846d2f48dbd820d710ed4d5a0cdce61521", func := "loop.example/g00694/laws.FnExactCheckFunc", spec := "fnExactCheckFunc", unfollowed := true, recurses := true, apart := false, narrowed := true }
def FnExactCheckFuncUptoSaid : Prop := fnExactCheckFuncUptoRow.holds Try.pinned (OpenSpec.upto fnExactCheckFuncSpec)

/-- 'laws.FnExactOverwrittenBy', WHERE WHAT IT READS IS OF BULK AT MOST 1048576: true; the input reads as it did. -/
def fnExactOverwrittenByUptoRow : OpenClaim := { program := "ytpakdkiceoknjaa", sum := "f9cd68a44be8079f480dfb2abc4b0d846d2f48dbd820d710ed4d5a0cdce61521", func := "loop.example/g00694/laws.FnExactOverwrittenBy", spec := "fnExactOverwrittenBy", unfollowed := true, recurses := true, apart := false, narrowed := true }
def FnExactOverwrittenByUptoSaid : Prop := fnExactOverwrittenByUptoRow.holds Try.pinned (OpenSpec.upto fnExactOverwrittenBySpec)

/-- 'laws.FnExactSameInsts', WHERE WHAT IT READS IS OF BULK AT MOST 1048576: true; the input reads as it did. -/
def fnExactSameInstsUptoRow : OpenClaim := { program := "ytpakdkiceoknjaa", sum := "f9cd68a44be8079f480dfb2abc4b0d846d2f48dbd820d710ed4d5a0cdce61521", func := "loop.example/g00694/laws.FnExactSameInsts", spec := "fnExactSameInsts", unfollowed := true, recurses := true, apart := false, narrowed := true }
def FnExactSameInstsUptoSaid : Prop := fnExactSameInstsUptoRow.holds Try.pinned (OpenSpec.upto fnExactSameInstsSpec)

/-- 'laws.FnExactSourceOf', WHERE WHAT IT READS IS OF BULK AT MOST 1048576: true; the input reads as it did. -/
def fnExactSourceOfUptoRow : OpenClaim := { program := "ytpakdkiceoknjaa", sum := "f9cd68a44be8079f480dfb2abc4b0d846d2f48dbd820d710ed4d5a0cdce61521", func := "loop.example/g00694/laws.FnExactSourceOf", spec := "fnExactSourceOf", unfollowed := true, recurses := true, apart := false, narrowed := true }
def FnExactSourceOfUptoSaid : Prop := fnExactSourceOfUptoRow.holds Try.pinned (OpenSpec.upto fnExactSourceOfSpec)

/-- 'laws.FnExactEarlierOf', WHERE WHAT IT READS IS OF BULK AT MOST 1048576: true; the input reads as it did. -/
def fnExactEarlierOfUptoRow : OpenClaim := { program := "ytpakdkiceoknjaa", sum := "f9cd68a44be8079f480dfb2abc4b0d846d2f48dbd820d710ed4d5a0cdce61521", func := "loop.example/g00694/laws.FnExactEarlierOf", spec := "fnExactEarlierOf", unfollowed := true, recurses := true, apart := false, narrowed := true }
def FnExactEarlierOfUptoSaid : Prop := fnExactEarlierOfUptoRow.holds Try.pinned (OpenSpec.upto fnExactEarlierOfSpec)

end Rows
end Go.Proofs.Ytpakdkiceoknjaa
