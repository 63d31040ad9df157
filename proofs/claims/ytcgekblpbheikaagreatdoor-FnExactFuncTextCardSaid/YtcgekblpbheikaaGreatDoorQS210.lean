/- The facts of the row FnExactFuncText that the kernel computes, each by itself (all at once wants too much memory). No condition. -/
import Derived.Test.YtcgekblpbheikaaGreatDoorRows
import Derived.JoinedOf
namespace Go.Proofs.YtcgekblpbheikaaGreatDoor
set_option maxRecDepth 100000
namespace fnExactFuncText
theorem j_wf:(Rows.fnExactFuncTextRow.wf (OpenSpec.ofChange Rows.fnExactFuncTextSpec))=true:=by kernel_rfl
theorem j_lay:(laidOutB Tryz.prog)=true:=by kernel_rfl
theorem j_mro:(mapsRowed Tryz.prog)=true:=by kernel_rfl
theorem j_inp:(Rows.fnExactFuncTextRow.inPlace == Tryz.prog.inPlace 3)=true:=by kernel_rfl
theorem j_unf:(Rows.fnExactFuncTextRow.unfollowed == Tryz.prog.unfollowed 3)=true:=by kernel_rfl
theorem j_rec:(Rows.fnExactFuncTextRow.recurses == Tryz.prog.recurses 3)=true:=by kernel_rfl
theorem j_nam:(Rows.fnExactFuncTextRow.named == Tryz.prog.varsNamed 3)=true:=by kernel_rfl
theorem j_pla:(Rows.fnExactFuncTextRow.plainKeys == Tryz.prog.plainKeys)=true:=by kernel_rfl
theorem j_hea:(Tryz.prog.stopsHeard)=true:=by kernel_rfl
theorem j_may:(Tryz.prog.mayEnter)=true:=by kernel_rfl
theorem j_lif:(Rows.fnExactFuncTextRow.lifted == Tryz.prog.liftsFinal)=true:=by kernel_rfl
theorem j_mak:(Tryz.prog.make == some Rows.fnExactFuncTextRow.make)=true:=by kernel_rfl
theorem j_pin:(Rows.fnExactFuncTextRow.pinned == Rows.fnExactFuncTextRow.pinnedBy)=true:=by kernel_rfl
theorem and_t {a b:Bool} (h:a=true) (k:b=true):(a && b)=true:=by rw [h,k];rfl
theorem joined:joinedFacts Tryz.prog 3 Tryz.f3 Rows.fnExactFuncTextSpec Rows.fnExactFuncTextRow=true:=by
  unfold joinedFacts
  repeat' with_reducible refine and_t ?_ ?_
  all_goals first | with_reducible exact j_wf | with_reducible exact j_lay | with_reducible exact j_mro | with_reducible exact j_inp | with_reducible exact j_unf | with_reducible exact j_rec | with_reducible exact j_nam | with_reducible exact j_pla | with_reducible exact j_hea | with_reducible exact j_may | with_reducible exact j_lif | with_reducible exact j_mak | with_reducible exact j_pin | kernel_rfl
end fnExactFuncText
end Go.Proofs.YtcgekblpbheikaaGreatDoor
