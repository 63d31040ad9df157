/- A weight that is not too much means that nothing is long; the laws' arguments read as data of Lean. Written by a program. No condition. -/
import Derived.Test.YtcgekblpbheikaaGreatDoorQE3
import Derived.Test.YtcgekblpbheikaaGreatDoorQCpy
namespace Go.Proofs.YtcgekblpbheikaaGreatDoor
set_option linter.unusedSimpArgs false
set_option linter.unusedVariables false
def SzOk {α:Type} [Enc α] [Sm α] (sz:α→Int→Int):Prop:=∀ x left,Enc.good x→0≤left→left≤1048576→0≤sz x left→Sm.sm x∧sz x left≤left
theorem chk_ok {m:Int} {k:Int→Int} (h:0≤chk m k):0≤m∧0≤k m∧chk m k=k m:=by
  by_cases hm:m < 0
  · rw [chk_neg hm] at h;exact absurd h (by decide)
  · have e:=chk_pos (k:=k) (Int.not_lt.1 hm);exact ⟨Int.not_lt.1 hm,by rw [← e];exact h,e⟩
theorem szok_IntS:SzOk szIntS:=fun l left hg h0 h1 h=>by
  have hl:=good_len hg
  unfold szIntS at h ⊢
  rw [wrap_id (by omega) (by omega)] at h ⊢
  obtain ⟨a,b,c⟩:=chk_ok h
  rw [c]
  exact ⟨⟨by omega,fun _ _=>trivial⟩,by omega⟩
theorem szok_Inst:SzOk szInst:=fun x left hg h0 h1 h=>by
  unfold szInst at h ⊢
  obtain ⟨a0,b0,c0⟩:=chk_ok h
  obtain ⟨p0,q0⟩:=szok_IntS x.args_ _ hg.2.2 h0 (by omega) a0
  rw [c0]
  exact ⟨⟨trivial,trivial,p0⟩,by omega⟩
theorem szok_InstSL:∀ (l:List Inst) (left:Int),(∀ a∈l,Enc.good a)→0≤left→left≤1048576→0≤szInstSL l left→(∀ a∈l,Sm.sm a)∧szInstSL l left≤left
  | [],left,_,_,_,_=>⟨fun a ha=>absurd ha (List.not_mem_nil),by simp [szInstSL]⟩
  | x :: l,left,hg,h0,h1,h=>by
    simp only [szInstSL] at h ⊢
    obtain ⟨a,b,c⟩:=chk_ok h
    obtain ⟨p,q⟩:=szok_Inst x left (hg x List.mem_cons_self) h0 h1 a
    obtain ⟨r,s⟩:=szok_InstSL l _ (fun y hy=>hg y (List.mem_cons_of_mem _ hy)) a (by omega) b
    rw [c]
    refine ⟨fun y hy=>?_,by omega⟩
    rcases List.mem_cons.1 hy with rfl | hy
    · exact p
    · exact r y hy
theorem szok_InstS:SzOk szInstS:=fun l left hg h0 h1 h=>by
  have hl:=good_len hg
  unfold szInstS at h ⊢
  rw [wrap_id (by omega) (by omega)] at h ⊢
  obtain ⟨a,b,c⟩:=chk_ok h
  obtain ⟨p,q⟩:=szok_InstSL l _ hg.2 a (by omega) b
  rw [c]
  exact ⟨⟨by omega,p⟩,by omega⟩
theorem szok_Jump:SzOk szJump:=fun x left hg h0 h1 h=>by
  unfold szJump at h ⊢
  obtain ⟨a0,b0,c0⟩:=chk_ok h
  obtain ⟨p0,q0⟩:=szok_IntS x.args_ _ hg.2 h0 (by omega) a0
  rw [c0]
  exact ⟨⟨trivial,p0⟩,by omega⟩
theorem szok_JumpSL:∀ (l:List Jump) (left:Int),(∀ a∈l,Enc.good a)→0≤left→left≤1048576→0≤szJumpSL l left→(∀ a∈l,Sm.sm a)∧szJumpSL l left≤left
  | [],left,_,_,_,_=>⟨fun a ha=>absurd ha (List.not_mem_nil),by simp [szJumpSL]⟩
  | x :: l,left,hg,h0,h1,h=>by
    simp only [szJumpSL] at h ⊢
    obtain ⟨a,b,c⟩:=chk_ok h
    obtain ⟨p,q⟩:=szok_Jump x left (hg x List.mem_cons_self) h0 h1 a
    obtain ⟨r,s⟩:=szok_JumpSL l _ (fun y hy=>hg y (List.mem_cons_of_mem _ hy)) a (by omega) b
    rw [c]
    refine ⟨fun y hy=>?_,by omega⟩
    rcases List.mem_cons.1 hy with rfl | hy
    · exact p
    · exact r y hy
theorem szok_JumpS:SzOk szJumpS:=fun l left hg h0 h1 h=>by
  have hl:=good_len hg
  unfold szJumpS at h ⊢
  rw [wrap_id (by omega) (by omega)] at h ⊢
  obtain ⟨a,b,c⟩:=chk_ok h
  obtain ⟨p,q⟩:=szok_JumpSL l _ hg.2 a (by omega) b
  rw [c]
  exact ⟨⟨by omega,p⟩,by omega⟩
theorem szok_Block:SzOk szBlock:=fun x left hg h0 h1 h=>by
  unfold szBlock at h ⊢
  obtain ⟨a0,b0,c0⟩:=chk_ok h
  obtain ⟨p0,q0⟩:=szok_InstS x.insts_ _ hg.2.1 h0 (by omega) a0
  obtain ⟨a1,b1,c1⟩:=chk_ok b0
  obtain ⟨p1,q1⟩:=szok_JumpS x.jumps_ _ hg.2.2.2.2 a0 (by omega) a1
  rw [c0]
  rw [c1]
  exact ⟨⟨trivial,p0,trivial,trivial,p1⟩,by omega⟩
theorem szok_BlockSL:∀ (l:List Block) (left:Int),(∀ a∈l,Enc.good a)→0≤left→left≤1048576→0≤szBlockSL l left→(∀ a∈l,Sm.sm a)∧szBlockSL l left≤left
  | [],left,_,_,_,_=>⟨fun a ha=>absurd ha (List.not_mem_nil),by simp [szBlockSL]⟩
  | x :: l,left,hg,h0,h1,h=>by
    simp only [szBlockSL] at h ⊢
    obtain ⟨a,b,c⟩:=chk_ok h
    obtain ⟨p,q⟩:=szok_Block x left (hg x List.mem_cons_self) h0 h1 a
    obtain ⟨r,s⟩:=szok_BlockSL l _ (fun y hy=>hg y (List.mem_cons_of_mem _ hy)) a (by omega) b
    rw [c]
    refine ⟨fun y hy=>?_,by omega⟩
    rcases List.mem_cons.1 hy with rfl | hy
    · exact p
    · exact r y hy
theorem szok_BlockS:SzOk szBlockS:=fun l left hg h0 h1 h=>by
  have hl:=good_len hg
  unfold szBlockS at h ⊢
  rw [wrap_id (by omega) (by omega)] at h ⊢
  obtain ⟨a,b,c⟩:=chk_ok h
  obtain ⟨p,q⟩:=szok_BlockSL l _ hg.2 a (by omega) b
  rw [c]
  exact ⟨⟨by omega,p⟩,by omega⟩
theorem szok_Func:SzOk szFunc:=fun x left hg h0 h1 h=>by
  unfold szFunc at h ⊢
  obtain ⟨a0,b0,c0⟩:=chk_ok h
  obtain ⟨p0,q0⟩:=szok_BlockS x.blocks_ _ hg.2 h0 (by omega) a0
  rw [c0]
  exact ⟨⟨trivial,p0⟩,by omega⟩
theorem rd_int:Reads Tryz.prog 3 Int:=reads_int (by kernel_rfl) (by kernel_rfl)
theorem rd_int64:Reads Tryz.prog 2 Int:=reads_int (by kernel_rfl) (by kernel_rfl)
theorem rd_Lint:Reads Tryz.prog 117 (List Int):=reads_list (by kernel_rfl) (by kernel_rfl) rd_int
theorem rd_Inst:Reads Tryz.prog 285 Inst:=by
  refine ⟨by kernel_rfl,by rw [Tryz.underlying285];rfl,fun H enc w fuel cs x h=>?_⟩
  have hl:cs.length=3:=by
    obtain ⟨_,_,_,_,e,_⟩:=Go.DataW.trod_struct Tryz.underlying285 h
    rw [e];kernel_rfl
  obtain ⟨a0,g0,e0⟩:=field_read Tryz.underlying285 h 0 _ rfl rd_int
  obtain ⟨a1,g1,e1⟩:=field_read Tryz.underlying285 h 1 _ rfl rd_int64
  obtain ⟨a2,g2,e2⟩:=field_read Tryz.underlying285 h 2 _ rfl rd_Lint
  refine ⟨hl,⟨a0,a1,a2⟩,⟨g0,g1,g2⟩,fun j v hv=>?_⟩
  have hj:j < 3:=by rw [← hl];exact (List.getElem?_eq_some_iff.1 hv).1
  rcases (by omega:j=0∨j=1∨j=2) with rfl | rfl | rfl
  · exact e0 0 v (by decide) hv
  · exact e1 0 v (by decide) hv
  · exact e2 0 v (by decide) hv
theorem rd_Jump:Reads Tryz.prog 287 Jump:=by
  refine ⟨by kernel_rfl,by rw [Tryz.underlying287];rfl,fun H enc w fuel cs x h=>?_⟩
  have hl:cs.length=2:=by
    obtain ⟨_,_,_,_,e,_⟩:=Go.DataW.trod_struct Tryz.underlying287 h
    rw [e];kernel_rfl
  obtain ⟨a0,g0,e0⟩:=field_read Tryz.underlying287 h 0 _ rfl rd_int
  obtain ⟨a1,g1,e1⟩:=field_read Tryz.underlying287 h 1 _ rfl rd_Lint
  refine ⟨hl,⟨a0,a1⟩,⟨g0,g1⟩,fun j v hv=>?_⟩
  have hj:j < 2:=by rw [← hl];exact (List.getElem?_eq_some_iff.1 hv).1
  rcases (by omega:j=0∨j=1) with rfl | rfl
  · exact e0 0 v (by decide) hv
  · exact e1 0 v (by decide) hv
theorem rd_LInst:Reads Tryz.prog 132 (List Inst):=reads_list (by kernel_rfl) (by kernel_rfl) rd_Inst
theorem rd_LJump:Reads Tryz.prog 133 (List Jump):=reads_list (by kernel_rfl) (by kernel_rfl) rd_Jump
theorem rd_Block:Reads Tryz.prog 135 Block:=by
  refine ⟨by kernel_rfl,by rw [Tryz.underlying135];rfl,fun H enc w fuel cs x h=>?_⟩
  have hl:cs.length=5:=by
    obtain ⟨_,_,_,_,e,_⟩:=Go.DataW.trod_struct Tryz.underlying135 h
    rw [e];kernel_rfl
  obtain ⟨a0,g0,e0⟩:=field_read Tryz.underlying135 h 0 _ rfl rd_int
  obtain ⟨a1,g1,e1⟩:=field_read Tryz.underlying135 h 1 _ rfl rd_LInst
  obtain ⟨a2,g2,e2⟩:=field_read Tryz.underlying135 h 2 _ rfl rd_int
  obtain ⟨a3,g3,e3⟩:=field_read Tryz.underlying135 h 3 _ rfl rd_int
  obtain ⟨a4,g4,e4⟩:=field_read Tryz.underlying135 h 4 _ rfl rd_LJump
  refine ⟨hl,⟨a0,a1,a2,a3,a4⟩,⟨g0,g1,g2,g3,g4⟩,fun j v hv=>?_⟩
  have hj:j < 5:=by rw [← hl];exact (List.getElem?_eq_some_iff.1 hv).1
  rcases (by omega:j=0∨j=1∨j=2∨j=3∨j=4) with rfl | rfl | rfl | rfl | rfl
  · exact e0 0 v (by decide) hv
  · exact e1 0 v (by decide) hv
  · exact e2 0 v (by decide) hv
  · exact e3 0 v (by decide) hv
  · exact e4 0 v (by decide) hv
theorem rd_LBlock:Reads Tryz.prog 22 (List Block):=reads_list (by kernel_rfl) (by kernel_rfl) rd_Block
theorem rd_Func:Reads Tryz.prog 24 Func:=by
  refine ⟨by kernel_rfl,by rw [Tryz.underlying24];rfl,fun H enc w fuel cs x h=>?_⟩
  have hl:cs.length=2:=by
    obtain ⟨_,_,_,_,e,_⟩:=Go.DataW.trod_struct Tryz.underlying24 h
    rw [e];kernel_rfl
  obtain ⟨a0,g0,e0⟩:=field_read Tryz.underlying24 h 0 _ rfl rd_int
  obtain ⟨a1,g1,e1⟩:=field_read Tryz.underlying24 h 1 _ rfl rd_LBlock
  refine ⟨hl,⟨a0,a1⟩,⟨g0,g1⟩,fun j v hv=>?_⟩
  have hj:j < 2:=by rw [← hl];exact (List.getElem?_eq_some_iff.1 hv).1
  rcases (by omega:j=0∨j=1) with rfl | rfl
  · exact e0 0 v (by decide) hv
  · exact e1 0 v (by decide) hv
end Go.Proofs.YtcgekblpbheikaaGreatDoor
