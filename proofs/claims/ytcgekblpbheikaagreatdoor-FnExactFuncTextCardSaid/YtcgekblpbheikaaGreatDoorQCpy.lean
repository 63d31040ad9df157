/- Contracts of the laws' helpers that weigh, copy and compare what is handed over. Written by a program. No condition. -/
import Derived.KernelRfl
import Derived.Test.YtcgekblpbheikaaGreatDoorQDat
import Derived.Test.YtcgekblpbheikaaGreatDoorQTy
namespace Go.Proofs.YtcgekblpbheikaaGreatDoor
set_option maxRecDepth 100000
set_option linter.unusedSimpArgs false
set_option linter.unusedVariables false
theorem mixed:Tryz.prog.follows .mixedOrders=true:=by kernel_rfl
def szIntS (l:List Int) (left:Int):Int:=chk (IntKind.i64.wrap (left - l.length)) fun m=>m
theorem szIntS_c (l:List Int) (left:Int):PureP Tryz.prog 290 [.d (dIntS l),.d (.int .i64 left)] (· = .d (.int .i64 (szIntS l left))):=by
  refine pure_of Tryz.func290 en_290 rfl rfl (W_run mixed ⟨[],[],[],12,0,[0,1,4,10],[10]⟩ (fun _=>[]) (by kernel_rfl) ?_)
  simp only [Tryz.f290,stripX,stripOps,pickOps]
  simp []
  exact ⟨fun h=>by simp only [szIntS,chk_neg h],fun h=>by simp only [szIntS,chk_pos h]⟩
noncomputable def K_290:Ent Tryz.prog:=Ent.p2 (α:=List Int) (β:=Int) 290 (fun a b=>Enc.good a) (fun a b=>.d (.int .i64 (szIntS a b))) (fun a b hc=>szIntS_c a b)
theorem K_290_f:K_290.f=290:=rfl
theorem K_290_e (a:List Int) (b:Int):K_290.e [.d (dIntS a),.d (.int .i64 b)]=some (Enc.good a,.d (.int .i64 (szIntS a b)),[]):=by unfold K_290;exact Ent.p2_eq (α:=List Int) (β:=Int) a b
noncomputable def K_290h:EntH Tryz.prog:=EntH.pk2 (α:=List Int) (β:=Int) 290 (fun a b=>Enc.good a) (fun a b=>.d (.int .i64 (szIntS a b))) (fun a b=>[]) (fun a b hc=>PureP.ans (szIntS_c a b))
theorem K_290h_f:K_290h.f=290:=rfl
theorem K_290h_g:K_290h.gro=true:=rfl
theorem K_290h_e {x1 x2:V} {H:Heap}:K_290h.e [x1,x2] H=guardR ((decA (α:=List Int) H x1).1∧(decA (α:=Int) H x2).1) (peekR (Enc.good (decA (α:=List Int) H x1).2) (.d (.int .i64 (szIntS (decA (α:=List Int) H x1).2 (decA (α:=Int) H x2).2))) ([]) H):=rfl
def szInst (x:Inst) (left:Int):Int:=chk (szIntS x.args_ left) fun m0=>m0
theorem szInst_c (x:Inst) (left:Int) (hx:Enc.good x):PureP Tryz.prog 237 [vInst x,.d (.int .i64 left)] (· = .d (.int .i64 (szInst x left))):=by
  have q2:Enc.good x.args_:=hx.2.2
  refine pure_of Tryz.func237 en_237 rfl rfl (W_run mixed ⟨[K_290],[K_290h],[],12,0,[0,1,2,4,10],[10]⟩ (fun _=>[]) (by kernel_rfl) ?_)
  simp only [Tryz.f237,stripX,stripOps,pickOps]
  simp [K_290_f,K_290_e,K_290h_f,K_290h_e,K_290h_g,q2]
  refine ⟨fun h0=>by simp only [szInst,chk_neg h0],fun h0=>?_⟩
  simp only [szInst,chk_pos h0]
noncomputable def K_237:Ent Tryz.prog:=Ent.p2 (α:=Inst) (β:=Int) 237 (fun a b=>Enc.good a) (fun a b=>.d (.int .i64 (szInst a b))) (fun a b hc=>szInst_c a b hc)
theorem K_237_f:K_237.f=237:=rfl
theorem K_237_e (a0:Int) (a1:Int) (a2:List Int) (b:Int):K_237.e [.agg [.d (.int .i64 a0),.d (.int .i64 a1),.d (dIntS a2)],.d (.int .i64 b)]=some (Enc.good (Inst.mk a0 a1 a2),.d (.int .i64 (szInst (Inst.mk a0 a1 a2) b)),[]):=by unfold K_237;exact Ent.p2_eq (α:=Inst) (β:=Int) (Inst.mk a0 a1 a2) b
noncomputable def K_237h:EntH Tryz.prog:=EntH.pk2 (α:=Inst) (β:=Int) 237 (fun a b=>Enc.good a) (fun a b=>.d (.int .i64 (szInst a b))) (fun a b=>[]) (fun a b hc=>PureP.ans (szInst_c a b hc))
theorem K_237h_f:K_237h.f=237:=rfl
theorem K_237h_g:K_237h.gro=true:=rfl
theorem K_237h_e {x1 x2:V} {H:Heap}:K_237h.e [x1,x2] H=guardR ((decA (α:=Inst) H x1).1∧(decA (α:=Int) H x2).1) (peekR (Enc.good (decA (α:=Inst) H x1).2) (.d (.int .i64 (szInst (decA (α:=Inst) H x1).2 (decA (α:=Int) H x2).2))) ([]) H):=rfl
def szInstSL:List Inst→Int→Int
  | [],left=>left
  | x :: l,left=>chk (szInst x left) fun m=>szInstSL l m
def szInstS (l:List Inst) (left:Int):Int:=chk (IntKind.i64.wrap (left - l.length)) fun m=>szInstSL l m
theorem szInstS_c (l:List Inst) (left:Int) (hl:Enc.good l):PureP Tryz.prog 168 [.d (dInstS l),.d (.int .i64 left)] (· = .d (.int .i64 (szInstS l left))):=by
  have hlen:=good_len hl
  have hg:=good_get hl
  refine pure_of Tryz.func168 en_168 rfl rfl (W_run mixed ⟨[K_237],[K_237h],[],27,0,[0,1,4,5,11,15,25],[11,15,25]⟩ (fun _=>[]) (by kernel_rfl) ?_)
  simp only [Tryz.f168,stripX,stripOps,pickOps]
  simp [K_237_f,K_237_e,K_237h_f,K_237h_e,K_237h_g]
  refine ⟨fun h=>by simp only [szInstS,chk_neg h],fun h=>?_⟩
  refine W_loopA (fun a:Nat × Int=>[(0,.d (dInstS l)),(1,.d (.int .i64 a.2)),(5,.d (.int .i64 a.1))]) (fun _=>[]) (fun a=>a.1≤l.length∧szInstSL (l.drop a.1) a.2=szInstS l left) (fun a=>l.length - a.1) (0,IntKind.i64.wrap (left - l.length)) ?_ ?_ ?_
  · simp
  · simp [szInstS,chk_pos h]
  · rintro ⟨i,m⟩ ⟨hi,hm⟩
    refine W_run mixed ⟨[K_237],[K_237h],[],27,0,[0,1,4,5,11,15,25],[11,15,25]⟩ (fun _=>[]) (by kernel_rfl) ?_
    simp only [stripX,stripOps,pickOps]
    simp [K_237_f,K_237_e,K_237h_f,K_237h_e,K_237h_g,hg]
    simp only [] at hi hm
    refine ⟨fun h=>?_,fun h=>?_⟩
    · rw [drop_cons h] at hm
      simp only [szInstSL] at hm
      refine ⟨h,fun h1=>?_,fun h1=>⟨i + 1,_,⟨by omega, ?_⟩,by omega,rfl,by rw [wrap_id] <;> omega⟩⟩
      · rw [chk_neg h1] at hm;exact hm
      · rw [chk_pos h1] at hm;exact hm
    · rw [List.drop_eq_nil_of_le h] at hm;exact hm
noncomputable def K_168:Ent Tryz.prog:=Ent.p2 (α:=List Inst) (β:=Int) 168 (fun a b=>Enc.good a) (fun a b=>.d (.int .i64 (szInstS a b))) (fun a b hc=>szInstS_c a b hc)
theorem K_168_f:K_168.f=168:=rfl
theorem K_168_e (a:List Inst) (b:Int):K_168.e [.d (dInstS a),.d (.int .i64 b)]=some (Enc.good a,.d (.int .i64 (szInstS a b)),[]):=by unfold K_168;exact Ent.p2_eq (α:=List Inst) (β:=Int) a b
noncomputable def K_168h:EntH Tryz.prog:=EntH.pk2 (α:=List Inst) (β:=Int) 168 (fun a b=>Enc.good a) (fun a b=>.d (.int .i64 (szInstS a b))) (fun a b=>[]) (fun a b hc=>PureP.ans (szInstS_c a b hc))
theorem K_168h_f:K_168h.f=168:=rfl
theorem K_168h_g:K_168h.gro=true:=rfl
theorem K_168h_e {x1 x2:V} {H:Heap}:K_168h.e [x1,x2] H=guardR ((decA (α:=List Inst) H x1).1∧(decA (α:=Int) H x2).1) (peekR (Enc.good (decA (α:=List Inst) H x1).2) (.d (.int .i64 (szInstS (decA (α:=List Inst) H x1).2 (decA (α:=Int) H x2).2))) ([]) H):=rfl
def szJump (x:Jump) (left:Int):Int:=chk (szIntS x.args_ left) fun m0=>m0
theorem szJump_c (x:Jump) (left:Int) (hx:Enc.good x):PureP Tryz.prog 238 [vJump x,.d (.int .i64 left)] (· = .d (.int .i64 (szJump x left))):=by
  have q1:Enc.good x.args_:=hx.2
  refine pure_of Tryz.func238 en_238 rfl rfl (W_run mixed ⟨[K_290],[K_290h],[],12,0,[0,1,2,4,10],[10]⟩ (fun _=>[]) (by kernel_rfl) ?_)
  simp only [Tryz.f238,stripX,stripOps,pickOps]
  simp [K_290_f,K_290_e,K_290h_f,K_290h_e,K_290h_g,q1]
  refine ⟨fun h0=>by simp only [szJump,chk_neg h0],fun h0=>?_⟩
  simp only [szJump,chk_pos h0]
noncomputable def K_238:Ent Tryz.prog:=Ent.p2 (α:=Jump) (β:=Int) 238 (fun a b=>Enc.good a) (fun a b=>.d (.int .i64 (szJump a b))) (fun a b hc=>szJump_c a b hc)
theorem K_238_f:K_238.f=238:=rfl
theorem K_238_e (a0:Int) (a1:List Int) (b:Int):K_238.e [.agg [.d (.int .i64 a0),.d (dIntS a1)],.d (.int .i64 b)]=some (Enc.good (Jump.mk a0 a1),.d (.int .i64 (szJump (Jump.mk a0 a1) b)),[]):=by unfold K_238;exact Ent.p2_eq (α:=Jump) (β:=Int) (Jump.mk a0 a1) b
noncomputable def K_238h:EntH Tryz.prog:=EntH.pk2 (α:=Jump) (β:=Int) 238 (fun a b=>Enc.good a) (fun a b=>.d (.int .i64 (szJump a b))) (fun a b=>[]) (fun a b hc=>PureP.ans (szJump_c a b hc))
theorem K_238h_f:K_238h.f=238:=rfl
theorem K_238h_g:K_238h.gro=true:=rfl
theorem K_238h_e {x1 x2:V} {H:Heap}:K_238h.e [x1,x2] H=guardR ((decA (α:=Jump) H x1).1∧(decA (α:=Int) H x2).1) (peekR (Enc.good (decA (α:=Jump) H x1).2) (.d (.int .i64 (szJump (decA (α:=Jump) H x1).2 (decA (α:=Int) H x2).2))) ([]) H):=rfl
def szJumpSL:List Jump→Int→Int
  | [],left=>left
  | x :: l,left=>chk (szJump x left) fun m=>szJumpSL l m
def szJumpS (l:List Jump) (left:Int):Int:=chk (IntKind.i64.wrap (left - l.length)) fun m=>szJumpSL l m
theorem szJumpS_c (l:List Jump) (left:Int) (hl:Enc.good l):PureP Tryz.prog 169 [.d (dJumpS l),.d (.int .i64 left)] (· = .d (.int .i64 (szJumpS l left))):=by
  have hlen:=good_len hl
  have hg:=good_get hl
  refine pure_of Tryz.func169 en_169 rfl rfl (W_run mixed ⟨[K_238],[K_238h],[],27,0,[0,1,4,5,11,15,25],[11,15,25]⟩ (fun _=>[]) (by kernel_rfl) ?_)
  simp only [Tryz.f169,stripX,stripOps,pickOps]
  simp [K_238_f,K_238_e,K_238h_f,K_238h_e,K_238h_g]
  refine ⟨fun h=>by simp only [szJumpS,chk_neg h],fun h=>?_⟩
  refine W_loopA (fun a:Nat × Int=>[(0,.d (dJumpS l)),(1,.d (.int .i64 a.2)),(5,.d (.int .i64 a.1))]) (fun _=>[]) (fun a=>a.1≤l.length∧szJumpSL (l.drop a.1) a.2=szJumpS l left) (fun a=>l.length - a.1) (0,IntKind.i64.wrap (left - l.length)) ?_ ?_ ?_
  · simp
  · simp [szJumpS,chk_pos h]
  · rintro ⟨i,m⟩ ⟨hi,hm⟩
    refine W_run mixed ⟨[K_238],[K_238h],[],27,0,[0,1,4,5,11,15,25],[11,15,25]⟩ (fun _=>[]) (by kernel_rfl) ?_
    simp only [stripX,stripOps,pickOps]
    simp [K_238_f,K_238_e,K_238h_f,K_238h_e,K_238h_g,hg]
    simp only [] at hi hm
    refine ⟨fun h=>?_,fun h=>?_⟩
    · rw [drop_cons h] at hm
      simp only [szJumpSL] at hm
      refine ⟨h,fun h1=>?_,fun h1=>⟨i + 1,_,⟨by omega, ?_⟩,by omega,rfl,by rw [wrap_id] <;> omega⟩⟩
      · rw [chk_neg h1] at hm;exact hm
      · rw [chk_pos h1] at hm;exact hm
    · rw [List.drop_eq_nil_of_le h] at hm;exact hm
noncomputable def K_169:Ent Tryz.prog:=Ent.p2 (α:=List Jump) (β:=Int) 169 (fun a b=>Enc.good a) (fun a b=>.d (.int .i64 (szJumpS a b))) (fun a b hc=>szJumpS_c a b hc)
theorem K_169_f:K_169.f=169:=rfl
theorem K_169_e (a:List Jump) (b:Int):K_169.e [.d (dJumpS a),.d (.int .i64 b)]=some (Enc.good a,.d (.int .i64 (szJumpS a b)),[]):=by unfold K_169;exact Ent.p2_eq (α:=List Jump) (β:=Int) a b
noncomputable def K_169h:EntH Tryz.prog:=EntH.pk2 (α:=List Jump) (β:=Int) 169 (fun a b=>Enc.good a) (fun a b=>.d (.int .i64 (szJumpS a b))) (fun a b=>[]) (fun a b hc=>PureP.ans (szJumpS_c a b hc))
theorem K_169h_f:K_169h.f=169:=rfl
theorem K_169h_g:K_169h.gro=true:=rfl
theorem K_169h_e {x1 x2:V} {H:Heap}:K_169h.e [x1,x2] H=guardR ((decA (α:=List Jump) H x1).1∧(decA (α:=Int) H x2).1) (peekR (Enc.good (decA (α:=List Jump) H x1).2) (.d (.int .i64 (szJumpS (decA (α:=List Jump) H x1).2 (decA (α:=Int) H x2).2))) ([]) H):=rfl
def szBlock (x:Block) (left:Int):Int:=chk (szInstS x.insts_ left) fun m0=>chk (szJumpS x.jumps_ m0) fun m1=>m1
theorem szBlock_c (x:Block) (left:Int) (hx:Enc.good x):PureP Tryz.prog 92 [vBlock x,.d (.int .i64 left)] (· = .d (.int .i64 (szBlock x left))):=by
  have q1:Enc.good x.insts_:=hx.2.1
  have q4:Enc.good x.jumps_:=hx.2.2.2.2
  refine pure_of Tryz.func92 en_92 rfl rfl (W_run mixed ⟨[K_168,K_169],[K_168h,K_169h],[],18,0,[0,1,2,4,10,16],[10,16]⟩ (fun _=>[]) (by kernel_rfl) ?_)
  simp only [Tryz.f92,stripX,stripOps,pickOps]
  simp [K_168_f,K_168_e,K_169_f,K_169_e,K_168h_f,K_168h_e,K_169h_f,K_169h_e,K_168h_g,K_169h_g,q1,q4]
  refine ⟨fun h0=>by simp only [szBlock,chk_neg h0],fun h0=>?_⟩
  refine ⟨fun h1=>by simp only [szBlock,chk_pos h0,chk_neg h1],fun h1=>?_⟩
  simp only [szBlock,chk_pos h0,chk_pos h1]
noncomputable def K_92:Ent Tryz.prog:=Ent.p2 (α:=Block) (β:=Int) 92 (fun a b=>Enc.good a) (fun a b=>.d (.int .i64 (szBlock a b))) (fun a b hc=>szBlock_c a b hc)
theorem K_92_f:K_92.f=92:=rfl
theorem K_92_e (a0:Int) (a1:List Inst) (a2:Int) (a3:Int) (a4:List Jump) (b:Int):K_92.e [.agg [.d (.int .i64 a0),.d (dInstS a1),.d (.int .i64 a2),.d (.int .i64 a3),.d (dJumpS a4)],.d (.int .i64 b)]=some (Enc.good (Block.mk a0 a1 a2 a3 a4),.d (.int .i64 (szBlock (Block.mk a0 a1 a2 a3 a4) b)),[]):=by unfold K_92;exact Ent.p2_eq (α:=Block) (β:=Int) (Block.mk a0 a1 a2 a3 a4) b
noncomputable def K_92h:EntH Tryz.prog:=EntH.pk2 (α:=Block) (β:=Int) 92 (fun a b=>Enc.good a) (fun a b=>.d (.int .i64 (szBlock a b))) (fun a b=>[]) (fun a b hc=>PureP.ans (szBlock_c a b hc))
theorem K_92h_f:K_92h.f=92:=rfl
theorem K_92h_g:K_92h.gro=true:=rfl
theorem K_92h_e {x1 x2:V} {H:Heap}:K_92h.e [x1,x2] H=guardR ((decA (α:=Block) H x1).1∧(decA (α:=Int) H x2).1) (peekR (Enc.good (decA (α:=Block) H x1).2) (.d (.int .i64 (szBlock (decA (α:=Block) H x1).2 (decA (α:=Int) H x2).2))) ([]) H):=rfl
def szBlockSL:List Block→Int→Int
  | [],left=>left
  | x :: l,left=>chk (szBlock x left) fun m=>szBlockSL l m
def szBlockS (l:List Block) (left:Int):Int:=chk (IntKind.i64.wrap (left - l.length)) fun m=>szBlockSL l m
theorem szBlockS_c (l:List Block) (left:Int) (hl:Enc.good l):PureP Tryz.prog 39 [.d (dBlockS l),.d (.int .i64 left)] (· = .d (.int .i64 (szBlockS l left))):=by
  have hlen:=good_len hl
  have hg:=good_get hl
  refine pure_of Tryz.func39 en_39 rfl rfl (W_run mixed ⟨[K_92],[K_92h],[],27,0,[0,1,4,5,11,15,25],[11,15,25]⟩ (fun _=>[]) (by kernel_rfl) ?_)
  simp only [Tryz.f39,stripX,stripOps,pickOps]
  simp [K_92_f,K_92_e,K_92h_f,K_92h_e,K_92h_g]
  refine ⟨fun h=>by simp only [szBlockS,chk_neg h],fun h=>?_⟩
  refine W_loopA (fun a:Nat × Int=>[(0,.d (dBlockS l)),(1,.d (.int .i64 a.2)),(5,.d (.int .i64 a.1))]) (fun _=>[]) (fun a=>a.1≤l.length∧szBlockSL (l.drop a.1) a.2=szBlockS l left) (fun a=>l.length - a.1) (0,IntKind.i64.wrap (left - l.length)) ?_ ?_ ?_
  · simp
  · simp [szBlockS,chk_pos h]
  · rintro ⟨i,m⟩ ⟨hi,hm⟩
    refine W_run mixed ⟨[K_92],[K_92h],[],27,0,[0,1,4,5,11,15,25],[11,15,25]⟩ (fun _=>[]) (by kernel_rfl) ?_
    simp only [stripX,stripOps,pickOps]
    simp [K_92_f,K_92_e,K_92h_f,K_92h_e,K_92h_g,hg]
    simp only [] at hi hm
    refine ⟨fun h=>?_,fun h=>?_⟩
    · rw [drop_cons h] at hm
      simp only [szBlockSL] at hm
      refine ⟨h,fun h1=>?_,fun h1=>⟨i + 1,_,⟨by omega, ?_⟩,by omega,rfl,by rw [wrap_id] <;> omega⟩⟩
      · rw [chk_neg h1] at hm;exact hm
      · rw [chk_pos h1] at hm;exact hm
    · rw [List.drop_eq_nil_of_le h] at hm;exact hm
noncomputable def K_39:Ent Tryz.prog:=Ent.p2 (α:=List Block) (β:=Int) 39 (fun a b=>Enc.good a) (fun a b=>.d (.int .i64 (szBlockS a b))) (fun a b hc=>szBlockS_c a b hc)
theorem K_39_f:K_39.f=39:=rfl
theorem K_39_e (a:List Block) (b:Int):K_39.e [.d (dBlockS a),.d (.int .i64 b)]=some (Enc.good a,.d (.int .i64 (szBlockS a b)),[]):=by unfold K_39;exact Ent.p2_eq (α:=List Block) (β:=Int) a b
noncomputable def K_39h:EntH Tryz.prog:=EntH.pk2 (α:=List Block) (β:=Int) 39 (fun a b=>Enc.good a) (fun a b=>.d (.int .i64 (szBlockS a b))) (fun a b=>[]) (fun a b hc=>PureP.ans (szBlockS_c a b hc))
theorem K_39h_f:K_39h.f=39:=rfl
theorem K_39h_g:K_39h.gro=true:=rfl
theorem K_39h_e {x1 x2:V} {H:Heap}:K_39h.e [x1,x2] H=guardR ((decA (α:=List Block) H x1).1∧(decA (α:=Int) H x2).1) (peekR (Enc.good (decA (α:=List Block) H x1).2) (.d (.int .i64 (szBlockS (decA (α:=List Block) H x1).2 (decA (α:=Int) H x2).2))) ([]) H):=rfl
def szFunc (x:Func) (left:Int):Int:=chk (szBlockS x.blocks_ left) fun m0=>m0
theorem szFunc_c (x:Func) (left:Int) (hx:Enc.good x):PureP Tryz.prog 8 [vFunc x,.d (.int .i64 left)] (· = .d (.int .i64 (szFunc x left))):=by
  have q1:Enc.good x.blocks_:=hx.2
  refine pure_of Tryz.func8 en_8 rfl rfl (W_run mixed ⟨[K_39],[K_39h],[],12,0,[0,1,2,4,10],[10]⟩ (fun _=>[]) (by kernel_rfl) ?_)
  simp only [Tryz.f8,stripX,stripOps,pickOps]
  simp [K_39_f,K_39_e,K_39h_f,K_39h_e,K_39h_g,q1]
  refine ⟨fun h0=>by simp only [szFunc,chk_neg h0],fun h0=>?_⟩
  simp only [szFunc,chk_pos h0]
noncomputable def K_8:Ent Tryz.prog:=Ent.p2 (α:=Func) (β:=Int) 8 (fun a b=>Enc.good a) (fun a b=>.d (.int .i64 (szFunc a b))) (fun a b hc=>szFunc_c a b hc)
theorem K_8_f:K_8.f=8:=rfl
theorem K_8_e (a0:Int) (a1:List Block) (b:Int):K_8.e [.agg [.d (.int .i64 a0),.d (dBlockS a1)],.d (.int .i64 b)]=some (Enc.good (Func.mk a0 a1),.d (.int .i64 (szFunc (Func.mk a0 a1) b)),[]):=by unfold K_8;exact Ent.p2_eq (α:=Func) (β:=Int) (Func.mk a0 a1) b
noncomputable def K_8h:EntH Tryz.prog:=EntH.pk2 (α:=Func) (β:=Int) 8 (fun a b=>Enc.good a) (fun a b=>.d (.int .i64 (szFunc a b))) (fun a b=>[]) (fun a b hc=>PureP.ans (szFunc_c a b hc))
theorem K_8h_f:K_8h.f=8:=rfl
theorem K_8h_g:K_8h.gro=true:=rfl
theorem K_8h_e {x1 x2:V} {H:Heap}:K_8h.e [x1,x2] H=guardR ((decA (α:=Func) H x1).1∧(decA (α:=Int) H x2).1) (peekR (Enc.good (decA (α:=Func) H x1).2) (.d (.int .i64 (szFunc (decA (α:=Func) H x1).2 (decA (α:=Int) H x2).2))) ([]) H):=rfl
theorem toIntS_c (l:List Int) (hl:Sm.sm l):PureP Tryz.prog 291 [.d (dIntS l)] (· = .d (dIntS l)):=by
  have hlen:=small_len hl
  have hg:=small_get hl
  refine PureP.ro (pure_of Tryz.func291 en_291 rfl rfl (W_run mixed ⟨[],[],[],22,0,[0,2,3,4,11],[11]⟩ (fun _=>[]) (by kernel_rfl) ?_))
  simp only [Tryz.f291,stripX,stripOps,pickOps]
  simp []
  rw [fillR_zero _ (fun j=>[.d (.int .i64 (l[j]?.getD default))])]
  refine ⟨by omega,W_loopA (fun a:Nat=>[(0,.d (dIntS l)),(3,.sl 0 1 0 l.length),(4,.d (.int .i64 a))]) (fun a=>[.row 1 (fillR l.length a (fun j=>[.d (.int .i64 (l[j]?.getD default))]) [.d (.int .i64 0)])]) (fun a=>a≤l.length) (fun a=>l.length - a) 0 ?_ ?_ ?_⟩
  · simp
    exact fillR_under (by simp) (by simp)
  · simp
  · intro i hi
    refine W_run mixed ⟨[],[],[],22,0,[0,2,3,4,11],[11]⟩ (fun _=>[]) (by kernel_rfl) ?_
    simp only [stripX,stripOps,pickOps]
    simp [hg]
    refine ⟨fun h=>⟨h,i + 1,by omega,by omega, ?_,fillR_under (by simp) (by simp),by rw [wrap_id] <;> omega⟩,fun h j hj=>?_⟩
    · exact fillR_set _ _ _ _ h
    · have e:i=l.length:=by omega
      subst e
      rw [fillR_done _ _ _ hj]
      simp
noncomputable def K_291:Ent Tryz.prog:=Ent.p1 (α:=List Int) 291 (fun a=>Sm.sm a) (fun a=>.d (dIntS a)) (fun a hc=>toIntS_c a hc)
theorem K_291_f:K_291.f=291:=rfl
theorem K_291_e (a:List Int):K_291.e [.d (dIntS a)]=some (Sm.sm a,.d (dIntS a),[]):=by unfold K_291;exact Ent.p1_eq (α:=List Int) a
noncomputable def K_291h:EntH Tryz.prog:=EntH.pk1 (α:=List Int) 291 (fun a=>Sm.sm a) (fun a=>.d (dIntS a)) (fun a=>[]) (fun a hc=>PureP.ans (toIntS_c a hc))
theorem K_291h_f:K_291h.f=291:=rfl
theorem K_291h_g:K_291h.gro=true:=rfl
theorem K_291h_e {x1:V} {H:Heap}:K_291h.e [x1] H=guardR ((decA (α:=List Int) H x1).1) (peekR (Sm.sm (decA (α:=List Int) H x1).2) (.d (dIntS (decA (α:=List Int) H x1).2)) ([]) H):=rfl
theorem toInst_c (x:Inst) (hx:Sm.sm x):PureP Tryz.prog 239 [vInst x] (· = vInst x):=by
  have q2:Sm.sm x.args_:=hx.2.2
  refine pure_of Tryz.func239 en_239 rfl rfl (W_run mixed ⟨[K_291],[K_291h],[],15,0,[0,1,2,3],[]⟩ (fun _=>[]) (by kernel_rfl) ?_)
  simp only [Tryz.f239,stripX,stripOps,pickOps]
  simp [K_291_f,K_291_e,K_291h_f,K_291h_e,K_291h_g,q2]
noncomputable def K_239:Ent Tryz.prog:=Ent.p1 (α:=Inst) 239 (fun a=>Sm.sm a) (fun a=>vInst a) (fun a hc=>toInst_c a hc)
theorem K_239_f:K_239.f=239:=rfl
theorem K_239_e (a0:Int) (a1:Int) (a2:List Int):K_239.e [.agg [.d (.int .i64 a0),.d (.int .i64 a1),.d (dIntS a2)]]=some (Sm.sm (Inst.mk a0 a1 a2),vInst (Inst.mk a0 a1 a2),[]):=by unfold K_239;exact Ent.p1_eq (α:=Inst) (Inst.mk a0 a1 a2)
noncomputable def K_239h:EntH Tryz.prog:=EntH.pk1 (α:=Inst) 239 (fun a=>Sm.sm a) (fun a=>vInst a) (fun a=>[]) (fun a hc=>PureP.ans (toInst_c a hc))
theorem K_239h_f:K_239h.f=239:=rfl
theorem K_239h_g:K_239h.gro=true:=rfl
theorem K_239h_e {x1:V} {H:Heap}:K_239h.e [x1] H=guardR ((decA (α:=Inst) H x1).1) (peekR (Sm.sm (decA (α:=Inst) H x1).2) (vInst (decA (α:=Inst) H x1).2) ([]) H):=rfl
theorem toInstS_c (l:List Inst) (hl:Sm.sm l):PureP Tryz.prog 171 [.d (dInstS l)] (· = .d (dInstS l)):=by
  have hlen:=small_len hl
  have hg:=small_get hl
  refine PureP.ro (pure_of Tryz.func171 en_171 rfl rfl (W_run mixed ⟨[K_239],[K_239h],[],23,0,[0,2,3,4,11],[11]⟩ (fun _=>[]) (by kernel_rfl) ?_))
  simp only [Tryz.f171,stripX,stripOps,pickOps]
  simp [K_239_f,K_239_e,K_239h_f,K_239h_e,K_239h_g]
  rw [fillR_zero _ (fun j=>[.d (.int .i64 (l[j]?.getD default).op_),.d (.int .i64 (l[j]?.getD default).n_),.d (dIntS (l[j]?.getD default).args_)])]
  refine ⟨by omega,W_loopA (fun a:Nat=>[(0,.d (dInstS l)),(3,.sl 0 3 0 l.length),(4,.d (.int .i64 a))]) (fun a=>[.row 3 (fillR l.length a (fun j=>[.d (.int .i64 (l[j]?.getD default).op_),.d (.int .i64 (l[j]?.getD default).n_),.d (dIntS (l[j]?.getD default).args_)]) [.d (.int .i64 0),.d (.int .i64 0),.d .nilsl])]) (fun a=>a≤l.length) (fun a=>l.length - a) 0 ?_ ?_ ?_⟩
  · simp
    exact fillR_under (by simp) (by simp)
  · simp
  · intro i hi
    refine W_run mixed ⟨[K_239],[K_239h],[],23,0,[0,2,3,4,11],[11]⟩ (fun _=>[]) (by kernel_rfl) ?_
    simp only [stripX,stripOps,pickOps]
    simp [K_239_f,K_239_e,K_239h_f,K_239h_e,K_239h_g,hg]
    refine ⟨fun h=>⟨h,i + 1,by omega,by omega, ?_,fillR_under (by simp) (by simp),by rw [wrap_id] <;> omega⟩,fun h j k hj hk=>?_⟩
    · exact fillR_set _ _ _ _ h
    · have e:i=l.length:=by omega
      subst e
      rw [fillR_done _ _ _ hj]
      rcases (by omega:k=0∨k=1∨k=2) with rfl | rfl | rfl <;> simp
noncomputable def K_171:Ent Tryz.prog:=Ent.p1 (α:=List Inst) 171 (fun a=>Sm.sm a) (fun a=>.d (dInstS a)) (fun a hc=>toInstS_c a hc)
theorem K_171_f:K_171.f=171:=rfl
theorem K_171_e (a:List Inst):K_171.e [.d (dInstS a)]=some (Sm.sm a,.d (dInstS a),[]):=by unfold K_171;exact Ent.p1_eq (α:=List Inst) a
noncomputable def K_171h:EntH Tryz.prog:=EntH.pk1 (α:=List Inst) 171 (fun a=>Sm.sm a) (fun a=>.d (dInstS a)) (fun a=>[]) (fun a hc=>PureP.ans (toInstS_c a hc))
theorem K_171h_f:K_171h.f=171:=rfl
theorem K_171h_g:K_171h.gro=true:=rfl
theorem K_171h_e {x1:V} {H:Heap}:K_171h.e [x1] H=guardR ((decA (α:=List Inst) H x1).1) (peekR (Sm.sm (decA (α:=List Inst) H x1).2) (.d (dInstS (decA (α:=List Inst) H x1).2)) ([]) H):=rfl
theorem toJump_c (x:Jump) (hx:Sm.sm x):PureP Tryz.prog 240 [vJump x] (· = vJump x):=by
  have q1:Sm.sm x.args_:=hx.2
  refine pure_of Tryz.func240 en_240 rfl rfl (W_run mixed ⟨[K_291],[K_291h],[],12,0,[0,1,2,3],[]⟩ (fun _=>[]) (by kernel_rfl) ?_)
  simp only [Tryz.f240,stripX,stripOps,pickOps]
  simp [K_291_f,K_291_e,K_291h_f,K_291h_e,K_291h_g,q1]
noncomputable def K_240:Ent Tryz.prog:=Ent.p1 (α:=Jump) 240 (fun a=>Sm.sm a) (fun a=>vJump a) (fun a hc=>toJump_c a hc)
theorem K_240_f:K_240.f=240:=rfl
theorem K_240_e (a0:Int) (a1:List Int):K_240.e [.agg [.d (.int .i64 a0),.d (dIntS a1)]]=some (Sm.sm (Jump.mk a0 a1),vJump (Jump.mk a0 a1),[]):=by unfold K_240;exact Ent.p1_eq (α:=Jump) (Jump.mk a0 a1)
noncomputable def K_240h:EntH Tryz.prog:=EntH.pk1 (α:=Jump) 240 (fun a=>Sm.sm a) (fun a=>vJump a) (fun a=>[]) (fun a hc=>PureP.ans (toJump_c a hc))
theorem K_240h_f:K_240h.f=240:=rfl
theorem K_240h_g:K_240h.gro=true:=rfl
theorem K_240h_e {x1:V} {H:Heap}:K_240h.e [x1] H=guardR ((decA (α:=Jump) H x1).1) (peekR (Sm.sm (decA (α:=Jump) H x1).2) (vJump (decA (α:=Jump) H x1).2) ([]) H):=rfl
theorem toJumpS_c (l:List Jump) (hl:Sm.sm l):PureP Tryz.prog 172 [.d (dJumpS l)] (· = .d (dJumpS l)):=by
  have hlen:=small_len hl
  have hg:=small_get hl
  refine PureP.ro (pure_of Tryz.func172 en_172 rfl rfl (W_run mixed ⟨[K_240],[K_240h],[],23,0,[0,2,3,4,11],[11]⟩ (fun _=>[]) (by kernel_rfl) ?_))
  simp only [Tryz.f172,stripX,stripOps,pickOps]
  simp [K_240_f,K_240_e,K_240h_f,K_240h_e,K_240h_g]
  rw [fillR_zero _ (fun j=>[.d (.int .i64 (l[j]?.getD default).to_),.d (dIntS (l[j]?.getD default).args_)])]
  refine ⟨by omega,W_loopA (fun a:Nat=>[(0,.d (dJumpS l)),(3,.sl 0 2 0 l.length),(4,.d (.int .i64 a))]) (fun a=>[.row 2 (fillR l.length a (fun j=>[.d (.int .i64 (l[j]?.getD default).to_),.d (dIntS (l[j]?.getD default).args_)]) [.d (.int .i64 0),.d .nilsl])]) (fun a=>a≤l.length) (fun a=>l.length - a) 0 ?_ ?_ ?_⟩
  · simp
    exact fillR_under (by simp) (by simp)
  · simp
  · intro i hi
    refine W_run mixed ⟨[K_240],[K_240h],[],23,0,[0,2,3,4,11],[11]⟩ (fun _=>[]) (by kernel_rfl) ?_
    simp only [stripX,stripOps,pickOps]
    simp [K_240_f,K_240_e,K_240h_f,K_240h_e,K_240h_g,hg]
    refine ⟨fun h=>⟨h,i + 1,by omega,by omega, ?_,fillR_under (by simp) (by simp),by rw [wrap_id] <;> omega⟩,fun h j k hj hk=>?_⟩
    · exact fillR_set _ _ _ _ h
    · have e:i=l.length:=by omega
      subst e
      rw [fillR_done _ _ _ hj]
      rcases (by omega:k=0∨k=1) with rfl | rfl <;> simp
noncomputable def K_172:Ent Tryz.prog:=Ent.p1 (α:=List Jump) 172 (fun a=>Sm.sm a) (fun a=>.d (dJumpS a)) (fun a hc=>toJumpS_c a hc)
theorem K_172_f:K_172.f=172:=rfl
theorem K_172_e (a:List Jump):K_172.e [.d (dJumpS a)]=some (Sm.sm a,.d (dJumpS a),[]):=by unfold K_172;exact Ent.p1_eq (α:=List Jump) a
noncomputable def K_172h:EntH Tryz.prog:=EntH.pk1 (α:=List Jump) 172 (fun a=>Sm.sm a) (fun a=>.d (dJumpS a)) (fun a=>[]) (fun a hc=>PureP.ans (toJumpS_c a hc))
theorem K_172h_f:K_172h.f=172:=rfl
theorem K_172h_g:K_172h.gro=true:=rfl
theorem K_172h_e {x1:V} {H:Heap}:K_172h.e [x1] H=guardR ((decA (α:=List Jump) H x1).1) (peekR (Sm.sm (decA (α:=List Jump) H x1).2) (.d (dJumpS (decA (α:=List Jump) H x1).2)) ([]) H):=rfl
theorem toBlock_c (x:Block) (hx:Sm.sm x):PureP Tryz.prog 99 [vBlock x] (· = vBlock x):=by
  have q1:Sm.sm x.insts_:=hx.2.1
  have q4:Sm.sm x.jumps_:=hx.2.2.2.2
  refine pure_of Tryz.func99 en_99 rfl rfl (W_run mixed ⟨[K_171,K_172],[K_171h,K_172h],[],22,0,[0,1,2,3],[]⟩ (fun _=>[]) (by kernel_rfl) ?_)
  simp only [Tryz.f99,stripX,stripOps,pickOps]
  simp [K_171_f,K_171_e,K_172_f,K_172_e,K_171h_f,K_171h_e,K_172h_f,K_172h_e,K_171h_g,K_172h_g,q1,q4]
noncomputable def K_99:Ent Tryz.prog:=Ent.p1 (α:=Block) 99 (fun a=>Sm.sm a) (fun a=>vBlock a) (fun a hc=>toBlock_c a hc)
theorem K_99_f:K_99.f=99:=rfl
theorem K_99_e (a0:Int) (a1:List Inst) (a2:Int) (a3:Int) (a4:List Jump):K_99.e [.agg [.d (.int .i64 a0),.d (dInstS a1),.d (.int .i64 a2),.d (.int .i64 a3),.d (dJumpS a4)]]=some (Sm.sm (Block.mk a0 a1 a2 a3 a4),vBlock (Block.mk a0 a1 a2 a3 a4),[]):=by unfold K_99;exact Ent.p1_eq (α:=Block) (Block.mk a0 a1 a2 a3 a4)
noncomputable def K_99h:EntH Tryz.prog:=EntH.pk1 (α:=Block) 99 (fun a=>Sm.sm a) (fun a=>vBlock a) (fun a=>[]) (fun a hc=>PureP.ans (toBlock_c a hc))
theorem K_99h_f:K_99h.f=99:=rfl
theorem K_99h_g:K_99h.gro=true:=rfl
theorem K_99h_e {x1:V} {H:Heap}:K_99h.e [x1] H=guardR ((decA (α:=Block) H x1).1) (peekR (Sm.sm (decA (α:=Block) H x1).2) (vBlock (decA (α:=Block) H x1).2) ([]) H):=rfl
theorem toBlockS_c (l:List Block) (hl:Sm.sm l):PureP Tryz.prog 42 [.d (dBlockS l)] (· = .d (dBlockS l)):=by
  have hlen:=small_len hl
  have hg:=small_get hl
  refine PureP.ro (pure_of Tryz.func42 en_42 rfl rfl (W_run mixed ⟨[K_99],[K_99h],[],23,0,[0,2,3,4,11],[11]⟩ (fun _=>[]) (by kernel_rfl) ?_))
  simp only [Tryz.f42,stripX,stripOps,pickOps]
  simp [K_99_f,K_99_e,K_99h_f,K_99h_e,K_99h_g]
  rw [fillR_zero _ (fun j=>[.d (.int .i64 (l[j]?.getD default).params_),.d (dInstS (l[j]?.getD default).insts_),.d (.int .i64 (l[j]?.getD default).end_),.d (.int .i64 (l[j]?.getD default).value_),.d (dJumpS (l[j]?.getD default).jumps_)])]
  refine ⟨by omega,W_loopA (fun a:Nat=>[(0,.d (dBlockS l)),(3,.sl 0 5 0 l.length),(4,.d (.int .i64 a))]) (fun a=>[.row 5 (fillR l.length a (fun j=>[.d (.int .i64 (l[j]?.getD default).params_),.d (dInstS (l[j]?.getD default).insts_),.d (.int .i64 (l[j]?.getD default).end_),.d (.int .i64 (l[j]?.getD default).value_),.d (dJumpS (l[j]?.getD default).jumps_)]) [.d (.int .i64 0),.d .nilsl,.d (.int .i64 0),.d (.int .i64 0),.d .nilsl])]) (fun a=>a≤l.length) (fun a=>l.length - a) 0 ?_ ?_ ?_⟩
  · simp
    exact fillR_under (by simp) (by simp)
  · simp
  · intro i hi
    refine W_run mixed ⟨[K_99],[K_99h],[],23,0,[0,2,3,4,11],[11]⟩ (fun _=>[]) (by kernel_rfl) ?_
    simp only [stripX,stripOps,pickOps]
    simp [K_99_f,K_99_e,K_99h_f,K_99h_e,K_99h_g,hg]
    refine ⟨fun h=>⟨h,i + 1,by omega,by omega, ?_,fillR_under (by simp) (by simp),by rw [wrap_id] <;> omega⟩,fun h j k hj hk=>?_⟩
    · exact fillR_set _ _ _ _ h
    · have e:i=l.length:=by omega
      subst e
      rw [fillR_done _ _ _ hj]
      rcases (by omega:k=0∨k=1∨k=2∨k=3∨k=4) with rfl | rfl | rfl | rfl | rfl <;> simp
noncomputable def K_42:Ent Tryz.prog:=Ent.p1 (α:=List Block) 42 (fun a=>Sm.sm a) (fun a=>.d (dBlockS a)) (fun a hc=>toBlockS_c a hc)
theorem K_42_f:K_42.f=42:=rfl
theorem K_42_e (a:List Block):K_42.e [.d (dBlockS a)]=some (Sm.sm a,.d (dBlockS a),[]):=by unfold K_42;exact Ent.p1_eq (α:=List Block) a
noncomputable def K_42h:EntH Tryz.prog:=EntH.pk1 (α:=List Block) 42 (fun a=>Sm.sm a) (fun a=>.d (dBlockS a)) (fun a=>[]) (fun a hc=>PureP.ans (toBlockS_c a hc))
theorem K_42h_f:K_42h.f=42:=rfl
theorem K_42h_g:K_42h.gro=true:=rfl
theorem K_42h_e {x1:V} {H:Heap}:K_42h.e [x1] H=guardR ((decA (α:=List Block) H x1).1) (peekR (Sm.sm (decA (α:=List Block) H x1).2) (.d (dBlockS (decA (α:=List Block) H x1).2)) ([]) H):=rfl
theorem toFunc_c (x:Func) (hx:Sm.sm x):PureP Tryz.prog 10 [vFunc x] (· = vFunc x):=by
  have q1:Sm.sm x.blocks_:=hx.2
  refine pure_of Tryz.func10 en_10 rfl rfl (W_run mixed ⟨[K_42],[K_42h],[],12,0,[0,1,2,3],[]⟩ (fun _=>[]) (by kernel_rfl) ?_)
  simp only [Tryz.f10,stripX,stripOps,pickOps]
  simp [K_42_f,K_42_e,K_42h_f,K_42h_e,K_42h_g,q1]
noncomputable def K_10:Ent Tryz.prog:=Ent.p1 (α:=Func) 10 (fun a=>Sm.sm a) (fun a=>vFunc a) (fun a hc=>toFunc_c a hc)
theorem K_10_f:K_10.f=10:=rfl
theorem K_10_e (a0:Int) (a1:List Block):K_10.e [.agg [.d (.int .i64 a0),.d (dBlockS a1)]]=some (Sm.sm (Func.mk a0 a1),vFunc (Func.mk a0 a1),[]):=by unfold K_10;exact Ent.p1_eq (α:=Func) (Func.mk a0 a1)
noncomputable def K_10h:EntH Tryz.prog:=EntH.pk1 (α:=Func) 10 (fun a=>Sm.sm a) (fun a=>vFunc a) (fun a=>[]) (fun a hc=>PureP.ans (toFunc_c a hc))
theorem K_10h_f:K_10h.f=10:=rfl
theorem K_10h_g:K_10h.gro=true:=rfl
theorem K_10h_e {x1:V} {H:Heap}:K_10h.e [x1] H=guardR ((decA (α:=Func) H x1).1) (peekR (Sm.sm (decA (α:=Func) H x1).2) (vFunc (decA (α:=Func) H x1).2) ([]) H):=rfl
theorem eqIntS_c (l:List Int) (hl:Sm.sm l):PureP Tryz.prog 292 [.d (dIntS l),.d (dIntS l)] (· = .d (.bool true)):=by
  have hlen:=small_len hl
  have hg:=small_get hl
  refine pure_of Tryz.func292 en_292 rfl rfl (W_run mixed ⟨[],[],[],26,0,[0,1,4,5,10,14,25],[10,14,25]⟩ (fun | 6=>[0,1,2,4,5,6,3,7,8] | _=>[]) (by kernel_rfl) ?_)
  simp only [Tryz.f292,stripX,stripOps,pickOps]
  simp []
  refine W_loopA (fun a:Nat=>[(0,.d (dIntS l)),(1,.d (dIntS l)),(5,.d (.int .i64 a))]) (fun _=>[]) (fun a=>a≤l.length) (fun a=>l.length - a) 0 ?_ ?_ ?_
  · simp
  · simp
  · intro i hi
    refine W_run mixed ⟨[],[],[],26,0,[0,1,4,5,10,14,25],[10,14,25]⟩ (fun | 6=>[0,1,2,4,5,6,3,7,8] | _=>[]) (by kernel_rfl) ?_
    simp only [stripX,stripOps,pickOps]
    simp [hg]
    intro h
    exact ⟨h,i + 1,by omega,by omega,by rw [wrap_id] <;> omega⟩
noncomputable def K_292:Ent Tryz.prog:=Ent.p2 (α:=List Int) (β:=List Int) 292 (fun a b=>Sm.sm a∧a=b) (fun a b=>.d (.bool true)) (fun a b hc=>(by obtain ⟨h1,rfl⟩:=hc;exact eqIntS_c a h1))
theorem K_292_f:K_292.f=292:=rfl
theorem K_292_e (a:List Int) (b:List Int):K_292.e [.d (dIntS a),.d (dIntS b)]=some (Sm.sm a∧a=b,.d (.bool true),[]):=by unfold K_292;exact Ent.p2_eq (α:=List Int) (β:=List Int) a b
noncomputable def K_292h:EntH Tryz.prog:=EntH.pk2 (α:=List Int) (β:=List Int) 292 (fun a b=>Sm.sm a∧a=b) (fun a b=>.d (.bool true)) (fun a b=>[]) (fun a b hc=>PureP.ans ((by obtain ⟨h1,rfl⟩:=hc;exact eqIntS_c a h1)))
theorem K_292h_f:K_292h.f=292:=rfl
theorem K_292h_g:K_292h.gro=true:=rfl
theorem K_292h_e {x1 x2:V} {H:Heap}:K_292h.e [x1,x2] H=guardR ((decA (α:=List Int) H x1).1∧(decA (α:=List Int) H x2).1) (peekR (Sm.sm (decA (α:=List Int) H x1).2∧(decA (α:=List Int) H x1).2=(decA (α:=List Int) H x2).2) (.d (.bool true)) ([]) H):=rfl
theorem eqInst_c (x:Inst) (hx:Sm.sm x):PureP Tryz.prog 243 [vInst x,vInst x] (· = .d (.bool true)):=by
  have q2:Sm.sm x.args_:=hx.2.2
  refine pure_of Tryz.func243 en_243 rfl rfl (W_run mixed ⟨[K_292],[K_292h],[],21,0,[0,1,2,3,4,9,14,20],[9,14,20]⟩ (fun _=>[]) (by kernel_rfl) ?_)
  simp only [Tryz.f243,stripX,stripOps,pickOps]
  simp [K_292_f,K_292_e,K_292h_f,K_292h_e,K_292h_g,q2]
noncomputable def K_243:Ent Tryz.prog:=Ent.p2 (α:=Inst) (β:=Inst) 243 (fun a b=>Sm.sm a∧a=b) (fun a b=>.d (.bool true)) (fun a b hc=>(by obtain ⟨h1,rfl⟩:=hc;exact eqInst_c a h1))
theorem K_243_f:K_243.f=243:=rfl
theorem K_243_e (a0:Int) (a1:Int) (a2:List Int) (b0:Int) (b1:Int) (b2:List Int):K_243.e [.agg [.d (.int .i64 a0),.d (.int .i64 a1),.d (dIntS a2)],.agg [.d (.int .i64 b0),.d (.int .i64 b1),.d (dIntS b2)]]=some (Sm.sm (Inst.mk a0 a1 a2)∧(Inst.mk a0 a1 a2)=(Inst.mk b0 b1 b2),.d (.bool true),[]):=by unfold K_243;exact Ent.p2_eq (α:=Inst) (β:=Inst) (Inst.mk a0 a1 a2) (Inst.mk b0 b1 b2)
noncomputable def K_243h:EntH Tryz.prog:=EntH.pk2 (α:=Inst) (β:=Inst) 243 (fun a b=>Sm.sm a∧a=b) (fun a b=>.d (.bool true)) (fun a b=>[]) (fun a b hc=>PureP.ans ((by obtain ⟨h1,rfl⟩:=hc;exact eqInst_c a h1)))
theorem K_243h_f:K_243h.f=243:=rfl
theorem K_243h_g:K_243h.gro=true:=rfl
theorem K_243h_e {x1 x2:V} {H:Heap}:K_243h.e [x1,x2] H=guardR ((decA (α:=Inst) H x1).1∧(decA (α:=Inst) H x2).1) (peekR (Sm.sm (decA (α:=Inst) H x1).2∧(decA (α:=Inst) H x1).2=(decA (α:=Inst) H x2).2) (.d (.bool true)) ([]) H):=rfl
theorem eqInstS_c (l:List Inst) (hl:Sm.sm l):PureP Tryz.prog 176 [.d (dInstS l),.d (dInstS l)] (· = .d (.bool true)):=by
  have hlen:=small_len hl
  have hg:=small_get hl
  refine pure_of Tryz.func176 en_176 rfl rfl (W_run mixed ⟨[K_243],[K_243h],[],27,0,[0,1,4,5,10,14,26],[10,14,26]⟩ (fun | 6=>[0,1,2,4,5,6,3,7,8,9] | _=>[]) (by kernel_rfl) ?_)
  simp only [Tryz.f176,stripX,stripOps,pickOps]
  simp [K_243_f,K_243_e,K_243h_f,K_243h_e,K_243h_g]
  refine W_loopA (fun a:Nat=>[(0,.d (dInstS l)),(1,.d (dInstS l)),(5,.d (.int .i64 a))]) (fun _=>[]) (fun a=>a≤l.length) (fun a=>l.length - a) 0 ?_ ?_ ?_
  · simp
  · simp
  · intro i hi
    refine W_run mixed ⟨[K_243],[K_243h],[],27,0,[0,1,4,5,10,14,26],[10,14,26]⟩ (fun | 6=>[0,1,2,4,5,6,3,7,8,9] | _=>[]) (by kernel_rfl) ?_
    simp only [stripX,stripOps,pickOps]
    simp [K_243_f,K_243_e,K_243h_f,K_243h_e,K_243h_g,hg]
    intro h
    exact ⟨h,i + 1,by omega,by omega,by rw [wrap_id] <;> omega⟩
noncomputable def K_176:Ent Tryz.prog:=Ent.p2 (α:=List Inst) (β:=List Inst) 176 (fun a b=>Sm.sm a∧a=b) (fun a b=>.d (.bool true)) (fun a b hc=>(by obtain ⟨h1,rfl⟩:=hc;exact eqInstS_c a h1))
theorem K_176_f:K_176.f=176:=rfl
theorem K_176_e (a:List Inst) (b:List Inst):K_176.e [.d (dInstS a),.d (dInstS b)]=some (Sm.sm a∧a=b,.d (.bool true),[]):=by unfold K_176;exact Ent.p2_eq (α:=List Inst) (β:=List Inst) a b
noncomputable def K_176h:EntH Tryz.prog:=EntH.pk2 (α:=List Inst) (β:=List Inst) 176 (fun a b=>Sm.sm a∧a=b) (fun a b=>.d (.bool true)) (fun a b=>[]) (fun a b hc=>PureP.ans ((by obtain ⟨h1,rfl⟩:=hc;exact eqInstS_c a h1)))
theorem K_176h_f:K_176h.f=176:=rfl
theorem K_176h_g:K_176h.gro=true:=rfl
theorem K_176h_e {x1 x2:V} {H:Heap}:K_176h.e [x1,x2] H=guardR ((decA (α:=List Inst) H x1).1∧(decA (α:=List Inst) H x2).1) (peekR (Sm.sm (decA (α:=List Inst) H x1).2∧(decA (α:=List Inst) H x1).2=(decA (α:=List Inst) H x2).2) (.d (.bool true)) ([]) H):=rfl
theorem eqJump_c (x:Jump) (hx:Sm.sm x):PureP Tryz.prog 244 [vJump x,vJump x] (· = .d (.bool true)):=by
  have q1:Sm.sm x.args_:=hx.2
  refine pure_of Tryz.func244 en_244 rfl rfl (W_run mixed ⟨[K_292],[K_292h],[],16,0,[0,1,2,3,4,9,15],[9,15]⟩ (fun _=>[]) (by kernel_rfl) ?_)
  simp only [Tryz.f244,stripX,stripOps,pickOps]
  simp [K_292_f,K_292_e,K_292h_f,K_292h_e,K_292h_g,q1]
noncomputable def K_244:Ent Tryz.prog:=Ent.p2 (α:=Jump) (β:=Jump) 244 (fun a b=>Sm.sm a∧a=b) (fun a b=>.d (.bool true)) (fun a b hc=>(by obtain ⟨h1,rfl⟩:=hc;exact eqJump_c a h1))
theorem K_244_f:K_244.f=244:=rfl
theorem K_244_e (a0:Int) (a1:List Int) (b0:Int) (b1:List Int):K_244.e [.agg [.d (.int .i64 a0),.d (dIntS a1)],.agg [.d (.int .i64 b0),.d (dIntS b1)]]=some (Sm.sm (Jump.mk a0 a1)∧(Jump.mk a0 a1)=(Jump.mk b0 b1),.d (.bool true),[]):=by unfold K_244;exact Ent.p2_eq (α:=Jump) (β:=Jump) (Jump.mk a0 a1) (Jump.mk b0 b1)
noncomputable def K_244h:EntH Tryz.prog:=EntH.pk2 (α:=Jump) (β:=Jump) 244 (fun a b=>Sm.sm a∧a=b) (fun a b=>.d (.bool true)) (fun a b=>[]) (fun a b hc=>PureP.ans ((by obtain ⟨h1,rfl⟩:=hc;exact eqJump_c a h1)))
theorem K_244h_f:K_244h.f=244:=rfl
theorem K_244h_g:K_244h.gro=true:=rfl
theorem K_244h_e {x1 x2:V} {H:Heap}:K_244h.e [x1,x2] H=guardR ((decA (α:=Jump) H x1).1∧(decA (α:=Jump) H x2).1) (peekR (Sm.sm (decA (α:=Jump) H x1).2∧(decA (α:=Jump) H x1).2=(decA (α:=Jump) H x2).2) (.d (.bool true)) ([]) H):=rfl
theorem eqJumpS_c (l:List Jump) (hl:Sm.sm l):PureP Tryz.prog 177 [.d (dJumpS l),.d (dJumpS l)] (· = .d (.bool true)):=by
  have hlen:=small_len hl
  have hg:=small_get hl
  refine pure_of Tryz.func177 en_177 rfl rfl (W_run mixed ⟨[K_244],[K_244h],[],27,0,[0,1,4,5,10,14,26],[10,14,26]⟩ (fun | 6=>[0,1,2,4,5,6,3,7,8,9] | _=>[]) (by kernel_rfl) ?_)
  simp only [Tryz.f177,stripX,stripOps,pickOps]
  simp [K_244_f,K_244_e,K_244h_f,K_244h_e,K_244h_g]
  refine W_loopA (fun a:Nat=>[(0,.d (dJumpS l)),(1,.d (dJumpS l)),(5,.d (.int .i64 a))]) (fun _=>[]) (fun a=>a≤l.length) (fun a=>l.length - a) 0 ?_ ?_ ?_
  · simp
  · simp
  · intro i hi
    refine W_run mixed ⟨[K_244],[K_244h],[],27,0,[0,1,4,5,10,14,26],[10,14,26]⟩ (fun | 6=>[0,1,2,4,5,6,3,7,8,9] | _=>[]) (by kernel_rfl) ?_
    simp only [stripX,stripOps,pickOps]
    simp [K_244_f,K_244_e,K_244h_f,K_244h_e,K_244h_g,hg]
    intro h
    exact ⟨h,i + 1,by omega,by omega,by rw [wrap_id] <;> omega⟩
noncomputable def K_177:Ent Tryz.prog:=Ent.p2 (α:=List Jump) (β:=List Jump) 177 (fun a b=>Sm.sm a∧a=b) (fun a b=>.d (.bool true)) (fun a b hc=>(by obtain ⟨h1,rfl⟩:=hc;exact eqJumpS_c a h1))
theorem K_177_f:K_177.f=177:=rfl
theorem K_177_e (a:List Jump) (b:List Jump):K_177.e [.d (dJumpS a),.d (dJumpS b)]=some (Sm.sm a∧a=b,.d (.bool true),[]):=by unfold K_177;exact Ent.p2_eq (α:=List Jump) (β:=List Jump) a b
noncomputable def K_177h:EntH Tryz.prog:=EntH.pk2 (α:=List Jump) (β:=List Jump) 177 (fun a b=>Sm.sm a∧a=b) (fun a b=>.d (.bool true)) (fun a b=>[]) (fun a b hc=>PureP.ans ((by obtain ⟨h1,rfl⟩:=hc;exact eqJumpS_c a h1)))
theorem K_177h_f:K_177h.f=177:=rfl
theorem K_177h_g:K_177h.gro=true:=rfl
theorem K_177h_e {x1 x2:V} {H:Heap}:K_177h.e [x1,x2] H=guardR ((decA (α:=List Jump) H x1).1∧(decA (α:=List Jump) H x2).1) (peekR (Sm.sm (decA (α:=List Jump) H x1).2∧(decA (α:=List Jump) H x1).2=(decA (α:=List Jump) H x2).2) (.d (.bool true)) ([]) H):=rfl
theorem eqBlock_c (x:Block) (hx:Sm.sm x):PureP Tryz.prog 105 [vBlock x,vBlock x] (· = .d (.bool true)):=by
  have q1:Sm.sm x.insts_:=hx.2.1
  have q4:Sm.sm x.jumps_:=hx.2.2.2.2
  refine pure_of Tryz.func105 en_105 rfl rfl (W_run mixed ⟨[K_176,K_177],[K_176h,K_177h],[],32,0,[0,1,2,3,4,9,15,20,25,31],[9,15,20,25,31]⟩ (fun _=>[]) (by kernel_rfl) ?_)
  simp only [Tryz.f105,stripX,stripOps,pickOps]
  simp [K_176_f,K_176_e,K_177_f,K_177_e,K_176h_f,K_176h_e,K_177h_f,K_177h_e,K_176h_g,K_177h_g,q1,q4]
noncomputable def K_105:Ent Tryz.prog:=Ent.p2 (α:=Block) (β:=Block) 105 (fun a b=>Sm.sm a∧a=b) (fun a b=>.d (.bool true)) (fun a b hc=>(by obtain ⟨h1,rfl⟩:=hc;exact eqBlock_c a h1))
theorem K_105_f:K_105.f=105:=rfl
theorem K_105_e (a0:Int) (a1:List Inst) (a2:Int) (a3:Int) (a4:List Jump) (b0:Int) (b1:List Inst) (b2:Int) (b3:Int) (b4:List Jump):K_105.e [.agg [.d (.int .i64 a0),.d (dInstS a1),.d (.int .i64 a2),.d (.int .i64 a3),.d (dJumpS a4)],.agg [.d (.int .i64 b0),.d (dInstS b1),.d (.int .i64 b2),.d (.int .i64 b3),.d (dJumpS b4)]]=some (Sm.sm (Block.mk a0 a1 a2 a3 a4)∧(Block.mk a0 a1 a2 a3 a4)=(Block.mk b0 b1 b2 b3 b4),.d (.bool true),[]):=by unfold K_105;exact Ent.p2_eq (α:=Block) (β:=Block) (Block.mk a0 a1 a2 a3 a4) (Block.mk b0 b1 b2 b3 b4)
noncomputable def K_105h:EntH Tryz.prog:=EntH.pk2 (α:=Block) (β:=Block) 105 (fun a b=>Sm.sm a∧a=b) (fun a b=>.d (.bool true)) (fun a b=>[]) (fun a b hc=>PureP.ans ((by obtain ⟨h1,rfl⟩:=hc;exact eqBlock_c a h1)))
theorem K_105h_f:K_105h.f=105:=rfl
theorem K_105h_g:K_105h.gro=true:=rfl
theorem K_105h_e {x1 x2:V} {H:Heap}:K_105h.e [x1,x2] H=guardR ((decA (α:=Block) H x1).1∧(decA (α:=Block) H x2).1) (peekR (Sm.sm (decA (α:=Block) H x1).2∧(decA (α:=Block) H x1).2=(decA (α:=Block) H x2).2) (.d (.bool true)) ([]) H):=rfl
theorem eqBlockS_c (l:List Block) (hl:Sm.sm l):PureP Tryz.prog 45 [.d (dBlockS l),.d (dBlockS l)] (· = .d (.bool true)):=by
  have hlen:=small_len hl
  have hg:=small_get hl
  refine pure_of Tryz.func45 en_45 rfl rfl (W_run mixed ⟨[K_105],[K_105h],[],27,0,[0,1,4,5,10,14,26],[10,14,26]⟩ (fun | 6=>[0,1,2,4,5,6,3,7,8,9] | _=>[]) (by kernel_rfl) ?_)
  simp only [Tryz.f45,stripX,stripOps,pickOps]
  simp [K_105_f,K_105_e,K_105h_f,K_105h_e,K_105h_g]
  refine W_loopA (fun a:Nat=>[(0,.d (dBlockS l)),(1,.d (dBlockS l)),(5,.d (.int .i64 a))]) (fun _=>[]) (fun a=>a≤l.length) (fun a=>l.length - a) 0 ?_ ?_ ?_
  · simp
  · simp
  · intro i hi
    refine W_run mixed ⟨[K_105],[K_105h],[],27,0,[0,1,4,5,10,14,26],[10,14,26]⟩ (fun | 6=>[0,1,2,4,5,6,3,7,8,9] | _=>[]) (by kernel_rfl) ?_
    simp only [stripX,stripOps,pickOps]
    simp [K_105_f,K_105_e,K_105h_f,K_105h_e,K_105h_g,hg]
    intro h
    exact ⟨h,i + 1,by omega,by omega,by rw [wrap_id] <;> omega⟩
noncomputable def K_45:Ent Tryz.prog:=Ent.p2 (α:=List Block) (β:=List Block) 45 (fun a b=>Sm.sm a∧a=b) (fun a b=>.d (.bool true)) (fun a b hc=>(by obtain ⟨h1,rfl⟩:=hc;exact eqBlockS_c a h1))
theorem K_45_f:K_45.f=45:=rfl
theorem K_45_e (a:List Block) (b:List Block):K_45.e [.d (dBlockS a),.d (dBlockS b)]=some (Sm.sm a∧a=b,.d (.bool true),[]):=by unfold K_45;exact Ent.p2_eq (α:=List Block) (β:=List Block) a b
noncomputable def K_45h:EntH Tryz.prog:=EntH.pk2 (α:=List Block) (β:=List Block) 45 (fun a b=>Sm.sm a∧a=b) (fun a b=>.d (.bool true)) (fun a b=>[]) (fun a b hc=>PureP.ans ((by obtain ⟨h1,rfl⟩:=hc;exact eqBlockS_c a h1)))
theorem K_45h_f:K_45h.f=45:=rfl
theorem K_45h_g:K_45h.gro=true:=rfl
theorem K_45h_e {x1 x2:V} {H:Heap}:K_45h.e [x1,x2] H=guardR ((decA (α:=List Block) H x1).1∧(decA (α:=List Block) H x2).1) (peekR (Sm.sm (decA (α:=List Block) H x1).2∧(decA (α:=List Block) H x1).2=(decA (α:=List Block) H x2).2) (.d (.bool true)) ([]) H):=rfl
theorem eqFunc_c (x:Func) (hx:Sm.sm x):PureP Tryz.prog 12 [vFunc x,vFunc x] (· = .d (.bool true)):=by
  have q1:Sm.sm x.blocks_:=hx.2
  refine pure_of Tryz.func12 en_12 rfl rfl (W_run mixed ⟨[K_45],[K_45h],[],16,0,[0,1,2,3,4,9,15],[9,15]⟩ (fun _=>[]) (by kernel_rfl) ?_)
  simp only [Tryz.f12,stripX,stripOps,pickOps]
  simp [K_45_f,K_45_e,K_45h_f,K_45h_e,K_45h_g,q1]
noncomputable def K_12:Ent Tryz.prog:=Ent.p2 (α:=Func) (β:=Func) 12 (fun a b=>Sm.sm a∧a=b) (fun a b=>.d (.bool true)) (fun a b hc=>(by obtain ⟨h1,rfl⟩:=hc;exact eqFunc_c a h1))
theorem K_12_f:K_12.f=12:=rfl
theorem K_12_e (a0:Int) (a1:List Block) (b0:Int) (b1:List Block):K_12.e [.agg [.d (.int .i64 a0),.d (dBlockS a1)],.agg [.d (.int .i64 b0),.d (dBlockS b1)]]=some (Sm.sm (Func.mk a0 a1)∧(Func.mk a0 a1)=(Func.mk b0 b1),.d (.bool true),[]):=by unfold K_12;exact Ent.p2_eq (α:=Func) (β:=Func) (Func.mk a0 a1) (Func.mk b0 b1)
noncomputable def K_12h:EntH Tryz.prog:=EntH.pk2 (α:=Func) (β:=Func) 12 (fun a b=>Sm.sm a∧a=b) (fun a b=>.d (.bool true)) (fun a b=>[]) (fun a b hc=>PureP.ans ((by obtain ⟨h1,rfl⟩:=hc;exact eqFunc_c a h1)))
theorem K_12h_f:K_12h.f=12:=rfl
theorem K_12h_g:K_12h.gro=true:=rfl
theorem K_12h_e {x1 x2:V} {H:Heap}:K_12h.e [x1,x2] H=guardR ((decA (α:=Func) H x1).1∧(decA (α:=Func) H x2).1) (peekR (Sm.sm (decA (α:=Func) H x1).2∧(decA (α:=Func) H x1).2=(decA (α:=Func) H x2).2) (.d (.bool true)) ([]) H):=rfl
end Go.Proofs.YtcgekblpbheikaaGreatDoor
