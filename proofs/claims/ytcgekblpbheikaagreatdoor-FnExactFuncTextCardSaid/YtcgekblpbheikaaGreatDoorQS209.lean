/- The law FnExactFuncText. No condition. -/
import Derived.Test.YtcgekblpbheikaaGreatDoorRows
import Derived.LaidByTextLater
import Derived.SevenTiedAt
import Derived.LaidSub
import Derived.LaidOnce
import GoSem.ClaimSeven
import Derived.Lib.LaidTab
import Derived.Stop.LaidErr
import Derived.ChangeSame
import Derived.ChangeVars
import Derived.ChangeMaps5
import Derived.JoinedOf
import Derived.JoinedAt
import Derived.RowKit
import Derived.RowKit3
import Derived.RowKitTokens
import Derived.LaidLaws
import Derived.Test.YtcgekblpbheikaaGreatDoorQS208
import Derived.Test.YtcgekblpbheikaaGreatDoorQS210
section
namespace Go.Proofs.YtcgekblpbheikaaGreatDoor
open Go
set_option maxRecDepth 100000
theorem seatTie1 : Tryz.prog.laidByTextLater [("math/bits.deBruijn32tab", Rows.laid_math_bits_deBruijn32tab), ("math/bits.deBruijn64tab", Rows.laid_math_bits_deBruijn64tab), ("internal/strconv.uint64pow10", Rows.laid_internal_strconv_uint64pow10), ("unicode/utf8.acceptRanges", Rows.laid_unicode_utf8_acceptRanges), ("strconv.ErrRange", Rows.laid_strconv_ErrRange), ("strconv.ErrSyntax", Rows.laid_strconv_ErrSyntax)] [.data, .data, .data, .data, .sentinel, .sentinel] true :=
  Program.laidByTextLater_by_one 72 8 65 (by kernel_rfl) (by kernel_rfl) (by kernel_rfl) (by kernel_rfl) (by kernel_rfl) (by kernel_rfl) (fun _ _=>by kernel_rfl)
theorem noOwnUnsafe : Tryz.pinned.checked.prog.headLifts.contains "ownunsafe" = false := by kernel_rfl
theorem tie : Tryz.prog.laidByTextLater [("math/bits.deBruijn32tab", Rows.laid_math_bits_deBruijn32tab), ("math/bits.deBruijn64tab", Rows.laid_math_bits_deBruijn64tab), ("internal/strconv.uint64pow10", Rows.laid_internal_strconv_uint64pow10)] [.data, .data, .data] true :=
  Program.laidByTextLater.sub seatTie1 ["math/bits.deBruijn32tab", "math/bits.deBruijn64tab", "internal/strconv.uint64pow10"] (by kernel_rfl) (by kernel_rfl)
theorem fnExactFuncText_row_tie:Rows.fnExactFuncTextRow.laidByTextAt .later Tryz.pinned [.data,.data,.data] true :=
  OpenClaim.laidByTextAt_later rfl rfl tie noOwnUnsafe
end Go.Proofs.YtcgekblpbheikaaGreatDoor
end

section
namespace Go.Proofs.YtcgekblpbheikaaGreatDoor
namespace Rows

def fnExactFuncTextCard : Claim7 := { stood := { row := fnExactFuncTextRow, standIns := [], harness := (true, "855a6c4050d373ea78857cb02d6c6a7c4a1690050f686dd4c8b94fdc0d5b69fb"), looks := true }, kinds := [], alts := [], laidByText := true, laidKinds := [.data, .data, .data], laidTests := true, laidLooks := .later }
def FnExactFuncTextCardSaid:Prop:=Claim7.holds Tryz.pinned (.plain (OpenSpec.ofChange fnExactFuncTextSpec)) fnExactFuncTextCard

end Rows
end Go.Proofs.YtcgekblpbheikaaGreatDoor
end

section
namespace Go.Proofs.YtcgekblpbheikaaGreatDoor
set_option maxRecDepth 100000
set_option linter.unusedSimpArgs false
set_option linter.unusedVariables false
def cellsOfR:DataW Unit→Array Value
  | .agg ds=>(ds.map fun | .lit (.int k z)=>Value.int k z | _=>Go.undef).toArray
  | _=>#[]
noncomputable def tabWorldR (os:Os):World :=
  let w0:=World.holding Tryz.prog os ⟨#[],#[],[]⟩
  let put:=fun (d:DataW Unit) (o:Obj)=>match o with
    | .cells _ t frozen=>.cells (cellsOfR d) t frozen
    | o=>o
  { w0 with heap:=((w0.heap.modify 1 (put Rows.laid_internal_strconv_uint64pow10)).modify 4 (put Rows.laid_math_bits_deBruijn32tab)).modify 5 (put Rows.laid_math_bits_deBruijn64tab) }
theorem tabWorldR_met (os:Os) (args:Array Value):laidMet Tryz.prog Rows.fnExactFuncTextRow.laid ((tabWorldR os).forCall (fun _ _=>0) ⟨#[],args,[]⟩).memory :=
  laidMet_of_run' 8 (by kernel_rfl) (by kernel_rfl)
theorem base_of_laidR {W:World} (h:laidMet Tryz.prog Rows.fnExactFuncTextRow.laid W):base W fun _=>False:=by
  have h2 : laidMet Tryz.prog [("internal/strconv.uint64pow10", Lib.tabData .u64 Lib.pow10Tab)] W := h.tail.tail
  have h3 : Lib.TabIs Tryz.prog W "internal/strconv.uint64pow10" .u64 Lib.pow10Tab :=
    Lib.tabIs_of_head (g:=1) (t:=337) (e:=79) (n:=20) (by kernel_rfl) (by kernel_rfl) (by kernel_rfl) (by kernel_rfl) (by kernel_rfl) (by kernel_rfl) h2
  intro g cs e
  cases e
  refine ⟨id, ?_⟩
  unfold Lib.TabIs World.var? at h3
  rw [show Tryz.prog.globalNamed "internal/strconv.uint64pow10" = some 1 by kernel_rfl] at h3
  simp only [Option.bind_some] at h3
  split at h3
  · rename_i cs t fr hh
    cases h3
    exact ⟨t,fr,hh⟩
  · cases h3
namespace fnExactFuncText
open Go.ChangeShapes Go.WideShapes Go.RowKit
theorem own:ownKnob Tryz.prog.godebug=none:=by kernel_rfl
theorem lifted (os:Os) (started:os.Started) (H:Type) (enc:TypeId × Value→H) :
    ReturnsInHanded {} Tryz.checked os 3 .any (fun w args=>(Rows.fnExactFuncTextSpec.pre enc Tryz.prog Tryz.f3 Rows.fnExactFuncTextRow.domain false w args∧laidMet Tryz.prog Rows.fnExactFuncTextRow.laid w)∧sizedMet enc Tryz.prog Tryz.f3 (OpenSpec.ofChange Rows.fnExactFuncTextSpec) false w args)
      (Rows.fnExactFuncTextSpec.post enc Tryz.prog Tryz.f3 false true false false):=by
  refine returnsInHanded_of_change_and (C:=Tryz.checked) (X:=fun w _=>laidMet Tryz.prog Rows.fnExactFuncTextRow.laid w) (fun _ _ _ hh h=>h.of_heap hh) own started (by kernel_rfl) Tryz.func3
    (ChangeSpec.witness_at (enc:=enc) (C:=Tryz.checked) (os:=os) (X:=fun w _=>laidMet Tryz.prog Rows.fnExactFuncTextRow.laid w) false (tabWorldR os) #[.agg #[.int .i64 0,.slice none 0 0]] 8 rfl (by kernel_rfl) (by kernel_rfl) (by kernel_rfl) (by kernel_rfl) (by kernel_rfl) (tabWorldR_met os _)) ?_
  intro W base args ds gs before hval hW hcnd _ hL _
  have hW':=hW
  obtain ⟨p,q,hA,hV,_,_,_⟩:=hW
  rw [Tryz.params3] at hA hval
  obtain ⟨v0,vs0,d0,ds0,p0,q0,hargs,rfl,rfl,h0,r0⟩:=trodAll_cons hA
  obtain ⟨rfl,rfl,rfl⟩:=trodAll_nil r0
  obtain rfl:args=#[v0]:=by cases args;simp_all
  obtain ⟨l,hl,hv0⟩:=arg_of rd_Func (hval 0 _ v0 rfl rfl) h0
  obtain ⟨rfl,rfl⟩:=trodVars_none hV
  exact row_end (by kernel_rfl) (by kernel_rfl) (by kernel_rfl) Tryz.underlying4 hW' rfl rfl rfl rfl (vs:=[argV l]) (by exact ⟨v0,_,rfl,hv0,rfl⟩) (law_FuncText l hl) (base_of_laidR hL)
theorem over:Rows.fnExactFuncTextRow.holds Tryz.pinned (OpenSpec.ofChange Rows.fnExactFuncTextSpec) :=
  OpenClaim.holds_of_wide 3 Tryz.f3 rfl rfl rfl rfl rfl rfl rfl ⟨rfl,rfl,rfl,rfl,rfl⟩ rfl rfl rfl rfl rfl (by kernel_rfl) Tryz.func3 joined
    (of_decide_eq_true (by kernel_rfl)) (by unfold Func.isWrapper;first | (rw [if_pos (by decide +kernel)];kernel_rfl) | (rw [if_neg (by decide +kernel)];exact ⟨rfl,rfl⟩))
    (fun os started H enc _=>lifted os started H enc)
end fnExactFuncText
theorem fnExactFuncTextCard_holds : Rows.FnExactFuncTextCardSaid :=
  Claim7.holds_tied_plain_at .later [] [.data, .data, .data] true (true, "855a6c4050d373ea78857cb02d6c6a7c4a1690050f686dd4c8b94fdc0d5b69fb") true
    fnExactFuncText.over (fun _ h=>by cases h) (by kernel_rfl) (fun _ h=>by cases h) fnExactFuncText_row_tie rfl ⟨rfl,rfl⟩ (by kernel_rfl) rfl
    (fun f fn hf hfn=>by
      obtain rfl : f = 3 := Option.some.inj ((show Tryz.prog.funcNamed "loop.example/g00694/laws.FnExactFuncText" = some 3 by kernel_rfl).symm.trans hf) |>.symm
      obtain rfl:fn=Tryz.f3:=(Option.some.inj (Tryz.func3.symm.trans hfn)).symm
      exact ⟨by kernel_rfl,fun j t ht=>by
        rw [Tryz.params3] at ht
        have h3:t=24:=by
          rcases j with _ | j
          · simpa using ht.symm
          · simp at ht
        subst h3
        exact (show Tryz.prog.wantsStandIn 24=false by kernel_rfl)⟩)
    (by kernel_rfl)
end Go.Proofs.YtcgekblpbheikaaGreatDoor
end
