/-
  No cell of these rows narrows 'for every input' (looked for: loops, veiled, ifaces, maps, wideKeys, modest, calm, conditions, laid).
  DERIVED. THE GIVEN ROWS OF THIS SEAT. 11 by the template 'for every input the law returns true; each argument reads behind the call as it read before'; 0 by the template 'total and deterministic' (their statements: YtbmloeahcdneaaaGreatTotals.lean).
  GIVEN WITH THE SEED: the statements are not yours to turn. If you find one false, say at which input.
  Laid BY PROGRAM, IN A SANDBOX (cutbox-rows.mjs): the forced cells as the released guide's own fill.sh prints them over the translation 1df0dd01ef30b041… (all of the seat's roots in one cut). By AI agents, Wed Nov 11 2026. No macro, syntax, notation, axiom, sorry.
-/
import Derived.Test.YtbmloeahcdneaaaGreatChecked
import GoSem.Claim
import GoSem.ClaimJoined
import GoSem.ClaimMapViews
import Derived.JoinedTies
import Derived.KernelRfl
namespace Go.Proofs.YtbmloeahcdneaaaGreat
/- THE CELL 'sum', in the pinned program and in every row, IS THE sha256 OF THE DUMP (.gsa) THAT YtbmloeahcdneaaaGreatProg.lean LOADS. Nothing in Lean hashes anything: it is a label: what it is worth is what the hold of that sum in a sandbox is worth. -/
noncomputable def Tryz.pinned : Pinned := { name := "ytbmloeahcdneaaagreat", sum := "1df0dd01ef30b04194c515e78b1af934b7691ab3bee997e3dcfaa77e4fdc58c8", checked := Tryz.checked }
namespace Rows
def none {H : Type} : Left H := { results := [], args := [] }

/-- 'laws.FnExactRedirect': WHATEVER THE INPUT: true; the input reads as it did. -/
def fnExactRedirectSpec : ChangeSpec := { name := "fnExactRedirect", fn := fun _ => fun
  | [d1, d2, d3] => { results := [.lit (.bool true)], args := [d1, d2, d3] }
  | _ => none }
def fnExactRedirectRow : OpenClaim := { program := "ytbmloeahcdneaaagreat", sum := "1df0dd01ef30b04194c515e78b1af934b7691ab3bee997e3dcfaa77e4fdc58c8", func := "loop.example/g00694/laws.FnExactRedirect", spec := "fnExactRedirect", unfollowed := true, recurses := true, apart := false }
def FnExactRedirectSaid : Prop := fnExactRedirectRow.holds Tryz.pinned (OpenSpec.ofChange fnExactRedirectSpec)

/-- ITS FALSE NEIGHBOUR: 'it returns false'. Refute it at one input. -/
def fnExactRedirectWrong : ChangeSpec := { name := "fnExactRedirect", fn := fun _ => fun
  | [d1, d2, d3] => { results := [.lit (.bool false)], args := [d1, d2, d3] }
  | _ => none }
def FnExactRedirectWrongFalsely : Prop := fnExactRedirectRow.holds Tryz.pinned (OpenSpec.ofChange fnExactRedirectWrong)

/-- 'laws.FnExactFoldEnds': WHATEVER THE INPUT: true; the input reads as it did. -/
def fnExactFoldEndsSpec : ChangeSpec := { name := "fnExactFoldEnds", fn := fun _ => fun
  | [d] => { results := [.lit (.bool true)], args := [d] }
  | _ => none }
def fnExactFoldEndsRow : OpenClaim := { program := "ytbmloeahcdneaaagreat", sum := "1df0dd01ef30b04194c515e78b1af934b7691ab3bee997e3dcfaa77e4fdc58c8", func := "loop.example/g00694/laws.FnExactFoldEnds", spec := "fnExactFoldEnds", unfollowed := true, recurses := true, apart := false }
def FnExactFoldEndsSaid : Prop := fnExactFoldEndsRow.holds Tryz.pinned (OpenSpec.ofChange fnExactFoldEndsSpec)

/-- ITS FALSE NEIGHBOUR: 'it returns false'. Refute it at one input. -/
def fnExactFoldEndsWrong : ChangeSpec := { name := "fnExactFoldEnds", fn := fun _ => fun
  | [d] => { results := [.lit (.bool false)], args := [d] }
  | _ => none }
def FnExactFoldEndsWrongFalsely : Prop := fnExactFoldEndsRow.holds Tryz.pinned (OpenSpec.ofChange fnExactFoldEndsWrong)

/-- 'laws.FnExactFoldNums': WHATEVER THE INPUT: true; the input reads as it did. -/
def fnExactFoldNumsSpec : ChangeSpec := { name := "fnExactFoldNums", fn := fun _ => fun
  | [d] => { results := [.lit (.bool true)], args := [d] }
  | _ => none }
def fnExactFoldNumsRow : OpenClaim := { program := "ytbmloeahcdneaaagreat", sum := "1df0dd01ef30b04194c515e78b1af934b7691ab3bee997e3dcfaa77e4fdc58c8", func := "loop.example/g00694/laws.FnExactFoldNums", spec := "fnExactFoldNums", unfollowed := true, recurses := true, apart := false }
def FnExactFoldNumsSaid : Prop := fnExactFoldNumsRow.holds Tryz.pinned (OpenSpec.ofChange fnExactFoldNumsSpec)

/-- ITS FALSE NEIGHBOUR: 'it returns false'. Refute it at one input. -/
def fnExactFoldNumsWrong : ChangeSpec := { name := "fnExactFoldNums", fn := fun _ => fun
  | [d] => { results := [.lit (.bool false)], args := [d] }
  | _ => none }
def FnExactFoldNumsWrongFalsely : Prop := fnExactFoldNumsRow.holds Tryz.pinned (OpenSpec.ofChange fnExactFoldNumsWrong)

/-- 'laws.FnExactDropBlocks': WHATEVER THE INPUT: true; the input reads as it did. -/
def fnExactDropBlocksSpec : ChangeSpec := { name := "fnExactDropBlocks", fn := fun _ => fun
  | [d] => { results := [.lit (.bool true)], args := [d] }
  | _ => none }
def fnExactDropBlocksRow : OpenClaim := { program := "ytbmloeahcdneaaagreat", sum := "1df0dd01ef30b04194c515e78b1af934b7691ab3bee997e3dcfaa77e4fdc58c8", func := "loop.example/g00694/laws.FnExactDropBlocks", spec := "fnExactDropBlocks", unfollowed := true, recurses := true, apart := false }
def FnExactDropBlocksSaid : Prop := fnExactDropBlocksRow.holds Tryz.pinned (OpenSpec.ofChange fnExactDropBlocksSpec)

/-- ITS FALSE NEIGHBOUR: 'it returns false'. Refute it at one input. -/
def fnExactDropBlocksWrong : ChangeSpec := { name := "fnExactDropBlocks", fn := fun _ => fun
  | [d] => { results := [.lit (.bool false)], args := [d] }
  | _ => none }
def FnExactDropBlocksWrongFalsely : Prop := fnExactDropBlocksRow.holds Tryz.pinned (OpenSpec.ofChange fnExactDropBlocksWrong)

/-- 'laws.FnExactDropUnused': WHATEVER THE INPUT: true; the input reads as it did. -/
def fnExactDropUnusedSpec : ChangeSpec := { name := "fnExactDropUnused", fn := fun _ => fun
  | [d] => { results := [.lit (.bool true)], args := [d] }
  | _ => none }
def fnExactDropUnusedRow : OpenClaim := { program := "ytbmloeahcdneaaagreat", sum := "1df0dd01ef30b04194c515e78b1af934b7691ab3bee997e3dcfaa77e4fdc58c8", func := "loop.example/g00694/laws.FnExactDropUnused", spec := "fnExactDropUnused", unfollowed := true, recurses := true, apart := false }
def FnExactDropUnusedSaid : Prop := fnExactDropUnusedRow.holds Tryz.pinned (OpenSpec.ofChange fnExactDropUnusedSpec)

/-- ITS FALSE NEIGHBOUR: 'it returns false'. Refute it at one input. -/
def fnExactDropUnusedWrong : ChangeSpec := { name := "fnExactDropUnused", fn := fun _ => fun
  | [d] => { results := [.lit (.bool false)], args := [d] }
  | _ => none }
def FnExactDropUnusedWrongFalsely : Prop := fnExactDropUnusedRow.holds Tryz.pinned (OpenSpec.ofChange fnExactDropUnusedWrong)

/-- 'laws.FnExactSkipCopies': WHATEVER THE INPUT: true; the input reads as it did. -/
def fnExactSkipCopiesSpec : ChangeSpec := { name := "fnExactSkipCopies", fn := fun _ => fun
  | [d] => { results := [.lit (.bool true)], args := [d] }
  | _ => none }
def fnExactSkipCopiesRow : OpenClaim := { program := "ytbmloeahcdneaaagreat", sum := "1df0dd01ef30b04194c515e78b1af934b7691ab3bee997e3dcfaa77e4fdc58c8", func := "loop.example/g00694/laws.FnExactSkipCopies", spec := "fnExactSkipCopies", unfollowed := true, recurses := true, apart := false }
def FnExactSkipCopiesSaid : Prop := fnExactSkipCopiesRow.holds Tryz.pinned (OpenSpec.ofChange fnExactSkipCopiesSpec)

/-- ITS FALSE NEIGHBOUR: 'it returns false'. Refute it at one input. -/
def fnExactSkipCopiesWrong : ChangeSpec := { name := "fnExactSkipCopies", fn := fun _ => fun
  | [d] => { results := [.lit (.bool false)], args := [d] }
  | _ => none }
def FnExactSkipCopiesWrongFalsely : Prop := fnExactSkipCopiesRow.holds Tryz.pinned (OpenSpec.ofChange fnExactSkipCopiesWrong)

/-- 'laws.FnExactForwardLoads': WHATEVER THE INPUT: true; the input reads as it did. -/
def fnExactForwardLoadsSpec : ChangeSpec := { name := "fnExactForwardLoads", fn := fun _ => fun
  | [d] => { results := [.lit (.bool true)], args := [d] }
  | _ => none }
def fnExactForwardLoadsRow : OpenClaim := { program := "ytbmloeahcdneaaagreat", sum := "1df0dd01ef30b04194c515e78b1af934b7691ab3bee997e3dcfaa77e4fdc58c8", func := "loop.example/g00694/laws.FnExactForwardLoads", spec := "fnExactForwardLoads", unfollowed := true, recurses := true, apart := false }
def FnExactForwardLoadsSaid : Prop := fnExactForwardLoadsRow.holds Tryz.pinned (OpenSpec.ofChange fnExactForwardLoadsSpec)

/-- ITS FALSE NEIGHBOUR: 'it returns false'. Refute it at one input. -/
def fnExactForwardLoadsWrong : ChangeSpec := { name := "fnExactForwardLoads", fn := fun _ => fun
  | [d] => { results := [.lit (.bool false)], args := [d] }
  | _ => none }
def FnExactForwardLoadsWrongFalsely : Prop := fnExactForwardLoadsRow.holds Tryz.pinned (OpenSpec.ofChange fnExactForwardLoadsWrong)

/-- 'laws.FnExactShareSame': WHATEVER THE INPUT: true; the input reads as it did. -/
def fnExactShareSameSpec : ChangeSpec := { name := "fnExactShareSame", fn := fun _ => fun
  | [d] => { results := [.lit (.bool true)], args := [d] }
  | _ => none }
def fnExactShareSameRow : OpenClaim := { program := "ytbmloeahcdneaaagreat", sum := "1df0dd01ef30b04194c515e78b1af934b7691ab3bee997e3dcfaa77e4fdc58c8", func := "loop.example/g00694/laws.FnExactShareSame", spec := "fnExactShareSame", unfollowed := true, recurses := true, apart := false }
def FnExactShareSameSaid : Prop := fnExactShareSameRow.holds Tryz.pinned (OpenSpec.ofChange fnExactShareSameSpec)

/-- ITS FALSE NEIGHBOUR: 'it returns false'. Refute it at one input. -/
def fnExactShareSameWrong : ChangeSpec := { name := "fnExactShareSame", fn := fun _ => fun
  | [d] => { results := [.lit (.bool false)], args := [d] }
  | _ => none }
def FnExactShareSameWrongFalsely : Prop := fnExactShareSameRow.holds Tryz.pinned (OpenSpec.ofChange fnExactShareSameWrong)

/-- 'laws.FnExactDropStores': WHATEVER THE INPUT: true; the input reads as it did. -/
def fnExactDropStoresSpec : ChangeSpec := { name := "fnExactDropStores", fn := fun _ => fun
  | [d] => { results := [.lit (.bool true)], args := [d] }
  | _ => none }
def fnExactDropStoresRow : OpenClaim := { program := "ytbmloeahcdneaaagreat", sum := "1df0dd01ef30b04194c515e78b1af934b7691ab3bee997e3dcfaa77e4fdc58c8", func := "loop.example/g00694/laws.FnExactDropStores", spec := "fnExactDropStores", unfollowed := true, recurses := true, apart := false }
def FnExactDropStoresSaid : Prop := fnExactDropStoresRow.holds Tryz.pinned (OpenSpec.ofChange fnExactDropStoresSpec)

/-- ITS FALSE NEIGHBOUR: 'it returns false'. Refute it at one input. -/
def fnExactDropStoresWrong : ChangeSpec := { name := "fnExactDropStores", fn := fun _ => fun
  | [d] => { results := [.lit (.bool false)], args := [d] }
  | _ => none }
def FnExactDropStoresWrongFalsely : Prop := fnExactDropStoresRow.holds Tryz.pinned (OpenSpec.ofChange fnExactDropStoresWrong)

/-- 'laws.FnExactCleanFunc': WHATEVER THE INPUT: true; the input reads as it did. -/
def fnExactCleanFuncSpec : ChangeSpec := { name := "fnExactCleanFunc", fn := fun _ => fun
  | [d] => { results := [.lit (.bool true)], args := [d] }
  | _ => none }
def fnExactCleanFuncRow : OpenClaim := { program := "ytbmloeahcdneaaagreat", sum := "1df0dd01ef30b04194c515e78b1af934b7691ab3bee997e3dcfaa77e4fdc58c8", func := "loop.example/g00694/laws.FnExactCleanFunc", spec := "fnExactCleanFunc", unfollowed := true, recurses := true, apart := false }
def FnExactCleanFuncSaid : Prop := fnExactCleanFuncRow.holds Tryz.pinned (OpenSpec.ofChange fnExactCleanFuncSpec)

/-- ITS FALSE NEIGHBOUR: 'it returns false'. Refute it at one input. -/
def fnExactCleanFuncWrong : ChangeSpec := { name := "fnExactCleanFunc", fn := fun _ => fun
  | [d] => { results := [.lit (.bool false)], args := [d] }
  | _ => none }
def FnExactCleanFuncWrongFalsely : Prop := fnExactCleanFuncRow.holds Tryz.pinned (OpenSpec.ofChange fnExactCleanFuncWrong)

/-- 'laws.FnExactTidyFunc': WHATEVER THE INPUT: true; the input reads as it did. -/
def fnExactTidyFuncSpec : ChangeSpec := { name := "fnExactTidyFunc", fn := fun _ => fun
  | [d] => { results := [.lit (.bool true)], args := [d] }
  | _ => none }
def fnExactTidyFuncRow : OpenClaim := { program := "ytbmloeahcdneaaagreat", sum := "1df0dd01ef30b04194c515e78b1af934b7691ab3bee997e3dcfaa77e4fdc58c8", func := "loop.example/g00694/laws.FnExactTidyFunc", spec := "fnExactTidyFunc", unfollowed := true, recurses := true, apart := false }
def FnExactTidyFuncSaid : Prop := fnExactTidyFuncRow.holds Tryz.pinned (OpenSpec.ofChange fnExactTidyFuncSpec)

/-- ITS FALSE NEIGHBOUR: 'it returns false'. Refute it at one input. -/
def fnExactTidyFuncWrong : ChangeSpec := { name := "fnExactTidyFunc", fn := fun _ => fun
  | [d] => { results := [.lit (.bool false)], args := [d] }
  | _ => none }
def FnExactTidyFuncWrongFalsely : Prop := fnExactTidyFuncRow.holds Tryz.pinned (OpenSpec.ofChange fnExactTidyFuncWrong)

/- THE SECOND FORM. 'bulk': how many values and letters a reading holds, each counted each time it is reached (what is shared counts as often as it is met; a slice's spare places count too). A statement '..UptoSaid' is the law's where the arguments, and the package variables that the reading takes, are together of bulk at most 1048576: NARROWER than '..Said'. Prove '..Said' where nothing that the law and all that it calls make is longer than what came in: it says more and counts as full. Else prove '..UptoSaid'. A law counts once. -/
mutual
def uptoBulk {H : Type} : DataW H → Nat
  | .lit (.string bytes) => bytes.length + 1
  | .lit _ => 1
  | .nil => 1
  | .ptr d => uptoBulk d + 1
  | .slice elems spare => uptoBulkAll elems + uptoBulkAll spare + 1
  | .agg parts => uptoBulkAll parts + 1
  | .iface _ d => uptoBulk d + 1
  | .map entries => uptoBulkEntries entries + 1
  | .held _ => 1
def uptoBulkAll {H : Type} : List (DataW H) → Nat
  | [] => 0
  | d :: r => uptoBulk d + uptoBulkAll r
def uptoBulkEntries {H : Type} : List (Lit × DataW H) → Nat
  | [] => 0
  | x :: r => uptoBulkEntry x + uptoBulkEntries r
def uptoBulkEntry {H : Type} : Lit × DataW H → Nat
  | (.string bytes, d) => bytes.length + uptoBulk d + 1
  | (_, d) => uptoBulk d + 1
 end
def uptoSmall : (H : Type) → List (DataW H) → Bool := fun _ ds => decide (uptoBulkAll ds ≤ 1048576)
def OpenSpec.upto (s : _root_.Go.ChangeSpec) : _root_.Go.OpenSpec := { _root_.Go.OpenSpec.ofChange s with cond := some uptoSmall }

/-- 'laws.FnExactRedirect', WHERE WHAT IT READS IS OF BULK AT MOST 1048576: true; the input reads as it did. -/
def fnExactRedirectUptoRow : OpenClaim := { program := "ytbmloeahcdneaaagreat", sum := "1df0dd01ef30b04194c515e78b1af934b7691ab3bee997e3dcfaa77e4fdc58c8", func := "loop.example/g00694/laws.FnExactRedirect", spec := "fnExactRedirect", unfollowed := true, recurses := true, apart := false, narrowed := true }
def FnExactRedirectUptoSaid : Prop := fnExactRedirectUptoRow.holds Tryz.pinned (OpenSpec.upto fnExactRedirectSpec)

/-- 'laws.FnExactFoldEnds', WHERE WHAT IT READS IS OF BULK AT MOST 1048576: true; the input reads as it did. -/
def fnExactFoldEndsUptoRow : OpenClaim := { program := "ytbmloeahcdneaaagreat", sum := "1df0dd01ef30b04194c515e78b1af934b7691ab3bee997e3dcfaa77e4fdc58c8", func := "loop.example/g00694/laws.FnExactFoldEnds", spec := "fnExactFoldEnds", unfollowed := true, recurses := true, apart := false, narrowed := true }
def FnExactFoldEndsUptoSaid : Prop := fnExactFoldEndsUptoRow.holds Tryz.pinned (OpenSpec.upto fnExactFoldEndsSpec)

/-- 'laws.FnExactFoldNums', WHERE WHAT IT READS IS OF BULK AT MOST 1048576: true; the input reads as it did. -/
def fnExactFoldNumsUptoRow : OpenClaim := { program := "ytbmloeahcdneaaagreat", sum := "1df0dd01ef30b04194c515e78b1af934b7691ab3bee997e3dcfaa77e4fdc58c8", func := "loop.example/g00694/laws.FnExactFoldNums", spec := "fnExactFoldNums", unfollowed := true, recurses := true, apart := false, narrowed := true }
def FnExactFoldNumsUptoSaid : Prop := fnExactFoldNumsUptoRow.holds Tryz.pinned (OpenSpec.upto fnExactFoldNumsSpec)

/-- 'laws.FnExactDropBlocks', WHERE WHAT IT READS IS OF BULK AT MOST 1048576: true; the input reads as it did. -/
def fnExactDropBlocksUptoRow : OpenClaim := { program := "ytbmloeahcdneaaagreat", sum := "1df0dd01ef30b04194c515e78b1af934b7691ab3bee997e3dcfaa77e4fdc58c8", func := "loop.example/g00694/laws.FnExactDropBlocks", spec := "fnExactDropBlocks", unfollowed := true, recurses := true, apart := false, narrowed := true }
def FnExactDropBlocksUptoSaid : Prop := fnExactDropBlocksUptoRow.holds Tryz.pinned (OpenSpec.upto fnExactDropBlocksSpec)

/-- 'laws.FnExactDropUnused', WHERE WHAT IT READS IS OF BULK AT MOST 1048576: true; the input reads as it did. -/
def fnExactDropUnusedUptoRow : OpenClaim := { program := "ytbmloeahcdneaaagreat", sum := "1df0dd01ef30b04194c515e78b1af934b7691ab3bee997e3dcfaa77e4fdc58c8", func := "loop.example/g00694/laws.FnExactDropUnused", spec := "fnExactDropUnused", unfollowed := true, recurses := true, apart := false, narrowed := true }
def FnExactDropUnusedUptoSaid : Prop := fnExactDropUnusedUptoRow.holds Tryz.pinned (OpenSpec.upto fnExactDropUnusedSpec)

/-- 'laws.FnExactSkipCopies', WHERE WHAT IT READS IS OF BULK AT MOST 1048576: true; the input reads as it did. -/
def fnExactSkipCopiesUptoRow : OpenClaim := { program := "ytbmloeahcdneaaagreat", sum := "1df0dd01ef30b04194c515e78b1af934b7691ab3bee997e3dcfaa77e4fdc58c8", func := "loop.example/g00694/laws.FnExactSkipCopies", spec := "fnExactSkipCopies", unfollowed := true, recurses := true, apart := false, narrowed := true }
def FnExactSkipCopiesUptoSaid : Prop := fnExactSkipCopiesUptoRow.holds Tryz.pinned (OpenSpec.upto fnExactSkipCopiesSpec)

/-- 'laws.FnExactForwardLoads', WHERE WHAT IT READS IS OF BULK AT MOST 1048576: true; the input reads as it did. -/
def fnExactForwardLoadsUptoRow : OpenClaim := { program := "ytbmloeahcdneaaagreat", sum := "1df0dd01ef30b04194c515e78b1af934b7691ab3bee997e3dcfaa77e4fdc58c8", func := "loop.example/g00694/laws.FnExactForwardLoads", spec := "fnExactForwardLoads", unfollowed := true, recurses := true, apart := false, narrowed := true }
def FnExactForwardLoadsUptoSaid : Prop := fnExactForwardLoadsUptoRow.holds Tryz.pinned (OpenSpec.upto fnExactForwardLoadsSpec)

/-- 'laws.FnExactShareSame', WHERE WHAT IT READS IS OF BULK AT MOST 1048576: true; the input reads as it did. -/
def fnExactShareSameUptoRow : OpenClaim := { program := "ytbmloeahcdneaaagreat", sum := "1df0dd01ef30b04194c515e78b1af934b7691ab3bee997e3dcfaa77e4fdc58c8", func := "loop.example/g00694/laws.FnExactShareSame", spec := "fnExactShareSame", unfollowed := true, recurses := true, apart := false, narrowed := true }
def FnExactShareSameUptoSaid : Prop := fnExactShareSameUptoRow.holds Tryz.pinned (OpenSpec.upto fnExactShareSameSpec)

/-- 'laws.FnExactDropStores', WHERE WHAT IT READS IS OF BULK AT MOST 1048576: true; the input reads as it did. -/
def fnExactDropStoresUptoRow : OpenClaim := { program := "ytbmloeahcdneaaagreat", sum := "1df0dd01ef30b04194c515e78b1af934b7691ab3bee997e3dcfaa77e4fdc58c8", func := "loop.example/g00694/laws.FnExactDropStores", spec := "fnExactDropStores", unfollowed := true, recurses := true, apart := false, narrowed := true }
def FnExactDropStoresUptoSaid : Prop := fnExactDropStoresUptoRow.holds Tryz.pinned (OpenSpec.upto fnExactDropStoresSpec)

/-- 'laws.FnExactCleanFunc', WHERE WHAT IT READS IS OF BULK AT MOST 1048576: true; the input reads as it did. -/
def fnExactCleanFuncUptoRow : OpenClaim := { program := "ytbmloeahcdneaaagreat", sum := "1df0dd01ef30b04194c515e78b1af934b7691ab3bee997e3dcfaa77e4fdc58c8", func := "loop.example/g00694/laws.FnExactCleanFunc", spec := "fnExactCleanFunc", unfollowed := true, recurses := true, apart := false, narrowed := true }
def FnExactCleanFuncUptoSaid : Prop := fnExactCleanFuncUptoRow.holds Tryz.pinned (OpenSpec.upto fnExactCleanFuncSpec)

/-- 'laws.FnExactTidyFunc', WHERE WHAT IT READS IS OF BULK AT MOST 1048576: true; the input reads as it did. -/
def fnExactTidyFuncUptoRow : OpenClaim := { program := "ytbmloeahcdneaaagreat", sum := "1df0dd01ef30b04194c515e78b1af934b7691ab3bee997e3dcfaa77e4fdc58c8", func := "loop.example/g00694/laws.FnExactTidyFunc", spec := "fnExactTidyFunc", unfollowed := true, recurses := true, apart := false, narrowed := true }
def FnExactTidyFuncUptoSaid : Prop := fnExactTidyFuncUptoRow.holds Tryz.pinned (OpenSpec.upto fnExactTidyFuncSpec)

end Rows
end Go.Proofs.YtbmloeahcdneaaaGreat
