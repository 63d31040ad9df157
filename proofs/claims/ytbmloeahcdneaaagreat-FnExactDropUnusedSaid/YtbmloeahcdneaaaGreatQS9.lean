/- Contracts of IsPure of both programs, and that they are the same. No condition. -/
import Derived.Test.YtbmloeahcdneaaaGreatRows
import Derived.Test.YtbmloeahcdneaaaGreatQE3
import Derived.Test.YtbmloeahcdneaaaGreatQCpy
import Derived.Test.YtbmloeahcdneaaaGreatQS8
section
namespace Go.Proofs.YtbmloeahcdneaaaGreat
set_option linter.unusedSimpArgs false
set_option linter.unusedVariables false
def SzOk {α:Type} [Enc α] [Sm α] (sz:α→Int→Int):Prop:=∀ x left,Enc.good x→0≤left→left≤1048576→0≤sz x left→Sm.sm x∧sz x left≤left
theorem chk_ok {m:Int} {k:Int→Int} (h:0≤chk m k):0≤m∧0≤k m∧chk m k=k m:=by
  by_cases hm:m < 0
  · rw [chk_neg hm] at h;exact absurd h (by decide)
  · have e:=chk_pos (k:=k) (Int.not_lt.1 hm);exact ⟨Int.not_lt.1 hm,by rw [← e];exact h,e⟩
theorem szok_IntS:SzOk szIntS:=fun l left hg h0 h1 h=>by
  have hl:=good_len hg
  unfold szIntS at h ⊢
  rw [wrap_id (by omega) (by omega)] at h ⊢
  obtain ⟨a,b,c⟩:=chk_ok h
  rw [c]
  exact ⟨⟨by omega,fun _ _=>trivial⟩,by omega⟩
theorem szok_Inst:SzOk szInst:=fun x left hg h0 h1 h=>by
  unfold szInst at h ⊢
  obtain ⟨a0,b0,c0⟩:=chk_ok h
  obtain ⟨p0,q0⟩:=szok_IntS x.args_ _ hg.2.2 h0 (by omega) a0
  rw [c0]
  exact ⟨⟨trivial,trivial,p0⟩,by omega⟩
theorem szok_InstSL:∀ (l:List Inst) (left:Int),(∀ a∈l,Enc.good a)→0≤left→left≤1048576→0≤szInstSL l left→(∀ a∈l,Sm.sm a)∧szInstSL l left≤left
  | [],left,_,_,_,_=>⟨fun a ha=>absurd ha (List.not_mem_nil),by simp [szInstSL]⟩
  | x :: l,left,hg,h0,h1,h=>by
    simp only [szInstSL] at h ⊢
    obtain ⟨a,b,c⟩:=chk_ok h
    obtain ⟨p,q⟩:=szok_Inst x left (hg x List.mem_cons_self) h0 h1 a
    obtain ⟨r,s⟩:=szok_InstSL l _ (fun y hy=>hg y (List.mem_cons_of_mem _ hy)) a (by omega) b
    rw [c]
    refine ⟨fun y hy=>?_,by omega⟩
    rcases List.mem_cons.1 hy with rfl | hy
    · exact p
    · exact r y hy
theorem szok_InstS:SzOk szInstS:=fun l left hg h0 h1 h=>by
  have hl:=good_len hg
  unfold szInstS at h ⊢
  rw [wrap_id (by omega) (by omega)] at h ⊢
  obtain ⟨a,b,c⟩:=chk_ok h
  obtain ⟨p,q⟩:=szok_InstSL l _ hg.2 a (by omega) b
  rw [c]
  exact ⟨⟨by omega,p⟩,by omega⟩
theorem szok_Jump:SzOk szJump:=fun x left hg h0 h1 h=>by
  unfold szJump at h ⊢
  obtain ⟨a0,b0,c0⟩:=chk_ok h
  obtain ⟨p0,q0⟩:=szok_IntS x.args_ _ hg.2 h0 (by omega) a0
  rw [c0]
  exact ⟨⟨trivial,p0⟩,by omega⟩
theorem szok_JumpSL:∀ (l:List Jump) (left:Int),(∀ a∈l,Enc.good a)→0≤left→left≤1048576→0≤szJumpSL l left→(∀ a∈l,Sm.sm a)∧szJumpSL l left≤left
  | [],left,_,_,_,_=>⟨fun a ha=>absurd ha (List.not_mem_nil),by simp [szJumpSL]⟩
  | x :: l,left,hg,h0,h1,h=>by
    simp only [szJumpSL] at h ⊢
    obtain ⟨a,b,c⟩:=chk_ok h
    obtain ⟨p,q⟩:=szok_Jump x left (hg x List.mem_cons_self) h0 h1 a
    obtain ⟨r,s⟩:=szok_JumpSL l _ (fun y hy=>hg y (List.mem_cons_of_mem _ hy)) a (by omega) b
    rw [c]
    refine ⟨fun y hy=>?_,by omega⟩
    rcases List.mem_cons.1 hy with rfl | hy
    · exact p
    · exact r y hy
theorem szok_JumpS:SzOk szJumpS:=fun l left hg h0 h1 h=>by
  have hl:=good_len hg
  unfold szJumpS at h ⊢
  rw [wrap_id (by omega) (by omega)] at h ⊢
  obtain ⟨a,b,c⟩:=chk_ok h
  obtain ⟨p,q⟩:=szok_JumpSL l _ hg.2 a (by omega) b
  rw [c]
  exact ⟨⟨by omega,p⟩,by omega⟩
theorem szok_Block:SzOk szBlock:=fun x left hg h0 h1 h=>by
  unfold szBlock at h ⊢
  obtain ⟨a0,b0,c0⟩:=chk_ok h
  obtain ⟨p0,q0⟩:=szok_InstS x.insts_ _ hg.2.1 h0 (by omega) a0
  obtain ⟨a1,b1,c1⟩:=chk_ok b0
  obtain ⟨p1,q1⟩:=szok_JumpS x.jumps_ _ hg.2.2.2.2 a0 (by omega) a1
  rw [c0]
  rw [c1]
  exact ⟨⟨trivial,p0,trivial,trivial,p1⟩,by omega⟩
theorem szok_BlockSL:∀ (l:List Block) (left:Int),(∀ a∈l,Enc.good a)→0≤left→left≤1048576→0≤szBlockSL l left→(∀ a∈l,Sm.sm a)∧szBlockSL l left≤left
  | [],left,_,_,_,_=>⟨fun a ha=>absurd ha (List.not_mem_nil),by simp [szBlockSL]⟩
  | x :: l,left,hg,h0,h1,h=>by
    simp only [szBlockSL] at h ⊢
    obtain ⟨a,b,c⟩:=chk_ok h
    obtain ⟨p,q⟩:=szok_Block x left (hg x List.mem_cons_self) h0 h1 a
    obtain ⟨r,s⟩:=szok_BlockSL l _ (fun y hy=>hg y (List.mem_cons_of_mem _ hy)) a (by omega) b
    rw [c]
    refine ⟨fun y hy=>?_,by omega⟩
    rcases List.mem_cons.1 hy with rfl | hy
    · exact p
    · exact r y hy
theorem szok_BlockS:SzOk szBlockS:=fun l left hg h0 h1 h=>by
  have hl:=good_len hg
  unfold szBlockS at h ⊢
  rw [wrap_id (by omega) (by omega)] at h ⊢
  obtain ⟨a,b,c⟩:=chk_ok h
  obtain ⟨p,q⟩:=szok_BlockSL l _ hg.2 a (by omega) b
  rw [c]
  exact ⟨⟨by omega,p⟩,by omega⟩
theorem szok_Func:SzOk szFunc:=fun x left hg h0 h1 h=>by
  unfold szFunc at h ⊢
  obtain ⟨a0,b0,c0⟩:=chk_ok h
  obtain ⟨p0,q0⟩:=szok_BlockS x.blocks_ _ hg.2 h0 (by omega) a0
  rw [c0]
  exact ⟨⟨trivial,p0⟩,by omega⟩
theorem rd_int:Reads Tryz.prog 3 Int:=reads_int (by kernel_rfl) (by kernel_rfl)
theorem rd_int64:Reads Tryz.prog 2 Int:=reads_int (by kernel_rfl) (by kernel_rfl)
theorem rd_Lint:Reads Tryz.prog 71 (List Int):=reads_list (by kernel_rfl) (by kernel_rfl) rd_int
theorem rd_Inst:Reads Tryz.prog 154 Inst:=by
  refine ⟨by kernel_rfl,by rw [Tryz.underlying154];rfl,fun H enc w fuel cs x h=>?_⟩
  have hl:cs.length=3:=by
    obtain ⟨_,_,_,_,e,_⟩:=Go.DataW.trod_struct Tryz.underlying154 h
    rw [e];kernel_rfl
  obtain ⟨a0,g0,e0⟩:=field_read Tryz.underlying154 h 0 _ rfl rd_int
  obtain ⟨a1,g1,e1⟩:=field_read Tryz.underlying154 h 1 _ rfl rd_int64
  obtain ⟨a2,g2,e2⟩:=field_read Tryz.underlying154 h 2 _ rfl rd_Lint
  refine ⟨hl,⟨a0,a1,a2⟩,⟨g0,g1,g2⟩,fun j v hv=>?_⟩
  have hj:j < 3:=by rw [← hl];exact (List.getElem?_eq_some_iff.1 hv).1
  rcases (by omega:j=0∨j=1∨j=2) with rfl | rfl | rfl
  · exact e0 0 v (by decide) hv
  · exact e1 0 v (by decide) hv
  · exact e2 0 v (by decide) hv
theorem rd_Jump:Reads Tryz.prog 156 Jump:=by
  refine ⟨by kernel_rfl,by rw [Tryz.underlying156];rfl,fun H enc w fuel cs x h=>?_⟩
  have hl:cs.length=2:=by
    obtain ⟨_,_,_,_,e,_⟩:=Go.DataW.trod_struct Tryz.underlying156 h
    rw [e];kernel_rfl
  obtain ⟨a0,g0,e0⟩:=field_read Tryz.underlying156 h 0 _ rfl rd_int
  obtain ⟨a1,g1,e1⟩:=field_read Tryz.underlying156 h 1 _ rfl rd_Lint
  refine ⟨hl,⟨a0,a1⟩,⟨g0,g1⟩,fun j v hv=>?_⟩
  have hj:j < 2:=by rw [← hl];exact (List.getElem?_eq_some_iff.1 hv).1
  rcases (by omega:j=0∨j=1) with rfl | rfl
  · exact e0 0 v (by decide) hv
  · exact e1 0 v (by decide) hv
theorem rd_LInst:Reads Tryz.prog 63 (List Inst):=reads_list (by kernel_rfl) (by kernel_rfl) rd_Inst
theorem rd_LJump:Reads Tryz.prog 64 (List Jump):=reads_list (by kernel_rfl) (by kernel_rfl) rd_Jump
theorem rd_Block:Reads Tryz.prog 66 Block:=by
  refine ⟨by kernel_rfl,by rw [Tryz.underlying66];rfl,fun H enc w fuel cs x h=>?_⟩
  have hl:cs.length=5:=by
    obtain ⟨_,_,_,_,e,_⟩:=Go.DataW.trod_struct Tryz.underlying66 h
    rw [e];kernel_rfl
  obtain ⟨a0,g0,e0⟩:=field_read Tryz.underlying66 h 0 _ rfl rd_int
  obtain ⟨a1,g1,e1⟩:=field_read Tryz.underlying66 h 1 _ rfl rd_LInst
  obtain ⟨a2,g2,e2⟩:=field_read Tryz.underlying66 h 2 _ rfl rd_int
  obtain ⟨a3,g3,e3⟩:=field_read Tryz.underlying66 h 3 _ rfl rd_int
  obtain ⟨a4,g4,e4⟩:=field_read Tryz.underlying66 h 4 _ rfl rd_LJump
  refine ⟨hl,⟨a0,a1,a2,a3,a4⟩,⟨g0,g1,g2,g3,g4⟩,fun j v hv=>?_⟩
  have hj:j < 5:=by rw [← hl];exact (List.getElem?_eq_some_iff.1 hv).1
  rcases (by omega:j=0∨j=1∨j=2∨j=3∨j=4) with rfl | rfl | rfl | rfl | rfl
  · exact e0 0 v (by decide) hv
  · exact e1 0 v (by decide) hv
  · exact e2 0 v (by decide) hv
  · exact e3 0 v (by decide) hv
  · exact e4 0 v (by decide) hv
theorem rd_LBlock:Reads Tryz.prog 22 (List Block):=reads_list (by kernel_rfl) (by kernel_rfl) rd_Block
theorem rd_Func:Reads Tryz.prog 24 Func:=by
  refine ⟨by kernel_rfl,by rw [Tryz.underlying24];rfl,fun H enc w fuel cs x h=>?_⟩
  have hl:cs.length=2:=by
    obtain ⟨_,_,_,_,e,_⟩:=Go.DataW.trod_struct Tryz.underlying24 h
    rw [e];kernel_rfl
  obtain ⟨a0,g0,e0⟩:=field_read Tryz.underlying24 h 0 _ rfl rd_int
  obtain ⟨a1,g1,e1⟩:=field_read Tryz.underlying24 h 1 _ rfl rd_LBlock
  refine ⟨hl,⟨a0,a1⟩,⟨g0,g1⟩,fun j v hv=>?_⟩
  have hj:j < 2:=by rw [← hl];exact (List.getElem?_eq_some_iff.1 hv).1
  rcases (by omega:j=0∨j=1) with rfl | rfl
  · exact e0 0 v (by decide) hv
  · exact e1 0 v (by decide) hv
end Go.Proofs.YtbmloeahcdneaaaGreat
end

section
namespace Go.Proofs.YtbmloeahcdneaaaGreat
set_option maxRecDepth 100000
set_option linter.unusedSimpArgs false
set_option linter.unusedVariables false
theorem goodF_spec {F:Func} (h:goodF F=true):(0≤F.params_∧F.params_≤4)∧(1≤(F.blocks_.length:Int)∧F.blocks_.length≤8)∧F.blocks_.all headOk=true∧many F≤80∧many F=F.params_ + sumI F.blocks_∧0≤sumI F.blocks_∧F.blocks_.all (bodyOk F.blocks_ (many F))=true:=by
  simp only [goodF,Bool.and_eq_true,decide_eq_true_eq] at h
  obtain ⟨h1,h2,h3,h4,h5,h6⟩:=h
  have h1':=inR_t.1 h1
  have h2':=inR_t.1 h2
  obtain ⟨c1,c2,c3⟩:=cntB_sum F.blocks_ F.params_ h4 h1'.1 (by omega)
  exact ⟨h1',⟨h2'.1,by omega⟩,h4,h5,c1,c2,h6⟩
theorem view_spec {F:Func} {n:Int} (h:goodF F=true) (h0:0≤n) (h1:n < many F):okV (viewD F) n ∧
    ((bk (viewD F) n = -1∧n < F.params_∧instS F n F.blocks_ 0=(-1,-1)) ∨
     (0≤bk (viewD F) n∧bk (viewD F) n < F.blocks_.length∧F.params_≤n∧atV (viewD F) n < (blkAt (viewD F) n).insts_.length∧-4≤atV (viewD F) n∧instS F n F.blocks_ 0=if 0≤atV (viewD F) n then (bk (viewD F) n,atV (viewD F) n) else (-1,-1))):=by
  obtain ⟨hp,hl,hh,hm,hc,hs,_⟩:=goodF_spec h
  have ec:cntB (F.blocks_.take 0) F.params_=F.params_:=rfl
  by_cases hn:n < F.params_
  · have hg:(viewD F).block_[n.toNat]? = some (-1):=by
      show (List.replicate F.params_.toNat (-1)++blkOf F.blocks_ 0)[n.toNat]? = _
      rw [List.getElem?_append_left (by simp;omega),List.getElem?_replicate,if_pos (by omega)]
    have hb:bk (viewD F) n = -1:=by simp only [bk,hg,Option.getD_some]
    have hlt:=(List.getElem?_eq_some_iff.1 hg).1
    refine ⟨⟨⟨h0,by omega⟩,fun q=>by omega⟩,.inl ⟨hb,hn, ?_⟩⟩
    exact instS_none F n hh hp (by omega) (by omega) F.blocks_ 0 rfl (by rw [ec];exact hn)
  · obtain ⟨k,q1,q2,q3,s,q4,q5,q6,q7,q8,q9⟩:=loc_spec n F.blocks_ 0 F.params_ hh hp.1 (by omega) (by omega) (by omega)
    have hg:(viewD F).block_[n.toNat]? = some ((0 + k:Nat):Int):=by
      show (List.replicate F.params_.toNat (-1)++blkOf F.blocks_ 0)[n.toNat]? = _
      rw [List.getElem?_append_right (by simp;omega),List.length_replicate,show n.toNat - F.params_.toNat=(n - F.params_).toNat by omega]
      exact q3
    have hb:bk (viewD F) n=(k:Int):=by simp only [bk,hg,Option.getD_some];omega
    have hblk:blkAt (viewD F) n=F.blocks_[k]?.getD default:=by simp only [blkAt,hb,viewD_blocks];rfl
    obtain ⟨p0,p1,p2,e,e1,e2⟩:=headOk_sz q8
    have hat:atV (viewD F) n=(loc n F.blocks_ 0 F.params_).2:=by
      have hf:(viewD F).first_[k]?.getD 0=s:=by show (firsts F.blocks_ F.params_)[k]?.getD 0=s;rw [q4];rfl
      simp only [atV,hblk,hb,Int.toNat_natCast]
      have w1:IntKind.i64.wrap (n - s)=n - s:=wrap_sub (by omega) (by omega)
      rw [hf,q7,w1,wrap_sub (by omega) (by omega)]
    have hlt:=(List.getElem?_eq_some_iff.1 hg).1
    have hfl:=(List.getElem?_eq_some_iff.1 q4).1
    have hbl:(viewD F).blocks_.length=F.blocks_.length:=rfl
    have hff:(viewD F).first_=firsts F.blocks_ F.params_:=rfl
    have hi:=instS_loc F n hh hp (by omega) (by omega) F.blocks_ 0 rfl (by rw [ec];omega) (by rw [ec];omega)
    rw [ec] at hi
    refine ⟨⟨⟨h0,by omega⟩,fun _=>⟨by rw [hb,hff];omega,by rw [hb,hbl];omega,fun _=>by rw [hat,hblk];exact q9⟩⟩,.inr ⟨by omega,by omega,by omega,by rw [hat,hblk];exact q9,by rw [hat,q7];omega, ?_⟩⟩
    rw [hi,hat,hb,q2]
    simp
def opAt (F:Func) (p:Int × Int):Int:=((F.blocks_[p.1.toNat]?.getD default).insts_[p.2.toNat]?.getD default).op_
def pureS (F:Func) (n:Int):Bool:=decide (0≤(instS F n F.blocks_ 0).1) && pureOp (opAt F (instS F n F.blocks_ 0))
theorem pure_same {F:Func} {n:Int} (h:goodF F=true) (h0:0≤n) (h1:n < many F):pureV (viewD F) n=pureS F n:=by
  rcases (view_spec h h0 h1).2 with ⟨q1,_,q2⟩ | ⟨q1,_,_,q3,_,q2⟩
  · simp [pureV,pureS,q1,q2]
  · by_cases ha:0≤atV (viewD F) n
    · rw [if_pos ha] at q2
      simp only [pureV,pureS,q2,q1,ha,decide_true,Bool.true_and]
      rfl
    · rw [if_neg ha] at q2
      simp [pureV,pureS,q2,ha]
theorem isVal_t {F:Func} {n:Int} (h:isVal F n=true):goodF F=true∧0≤n∧n < many F:=by
  simp only [isVal,Bool.and_eq_true] at h
  obtain ⟨hp,hl,hh,hm,hc,hs,_⟩:=goodF_spec h.1
  have:=inR_t.1 h.2
  rw [wrap_sub (by omega) (by omega)] at this
  exact ⟨h.1,by omega,by omega⟩
theorem instS_ok {F:Func} {n:Int} (h:isVal F n=true) (h0:0≤(instS F n F.blocks_ 0).1) :
    (instS F n F.blocks_ 0).1 < F.blocks_.length∧0≤(instS F n F.blocks_ 0).2∧(instS F n F.blocks_ 0).2 < (F.blocks_[(instS F n F.blocks_ 0).1.toNat]?.getD default).insts_.length:=by
  obtain ⟨hg,g0,g1⟩:=isVal_t h
  rcases (view_spec hg g0 g1).2 with ⟨q1,_,q2⟩ | ⟨q1,q4,_,q3,_,q2⟩
  · rw [q2] at h0;exact absurd h0 (by decide)
  · by_cases ha:0≤atV (viewD F) n
    · rw [if_pos ha] at q2
      rw [q2]
      exact ⟨q4,ha,q3⟩
    · rw [if_neg ha] at q2
      rw [q2] at h0;exact absurd h0 (by decide)
end Go.Proofs.YtbmloeahcdneaaaGreat
end
