/- Contracts of the laws' helpers that weigh, copy and compare what is handed over. Written by a program. No condition. -/
import Derived.KernelRfl
import Derived.Test.YtbmloeahcdneaaaGreatQDat
import Derived.Test.YtbmloeahcdneaaaGreatQTy
namespace Go.Proofs.YtbmloeahcdneaaaGreat
set_option maxRecDepth 100000
set_option linter.unusedSimpArgs false
set_option linter.unusedVariables false
theorem mixed:Tryz.prog.follows .mixedOrders=true:=by kernel_rfl
def szIntS (l:List Int) (left:Int):Int:=chk (IntKind.i64.wrap (left - l.length)) fun m=>m
theorem szIntS_c (l:List Int) (left:Int):PureP Tryz.prog 188 [.d (dIntS l),.d (.int .i64 left)] (· = .d (.int .i64 (szIntS l left))):=by
  refine pure_of Tryz.func188 en_188 rfl rfl (W_run mixed ⟨[],[],[],12,0,[0,1,4,10],[10]⟩ (fun _=>[]) (by kernel_rfl) ?_)
  simp only [Tryz.f188,stripX,stripOps,pickOps]
  simp []
  exact ⟨fun h=>by simp only [szIntS,chk_neg h],fun h=>by simp only [szIntS,chk_pos h]⟩
noncomputable def K_188:Ent Tryz.prog:=Ent.p2 (α:=List Int) (β:=Int) 188 (fun a b=>Enc.good a) (fun a b=>.d (.int .i64 (szIntS a b))) (fun a b hc=>szIntS_c a b)
theorem K_188_f:K_188.f=188:=rfl
theorem K_188_e (a:List Int) (b:Int):K_188.e [.d (dIntS a),.d (.int .i64 b)]=some (Enc.good a,.d (.int .i64 (szIntS a b)),[]):=by unfold K_188;exact Ent.p2_eq (α:=List Int) (β:=Int) a b
noncomputable def K_188h:EntH Tryz.prog:=EntH.pk2 (α:=List Int) (β:=Int) 188 (fun a b=>Enc.good a) (fun a b=>.d (.int .i64 (szIntS a b))) (fun a b=>[]) (fun a b hc=>PureP.ans (szIntS_c a b))
theorem K_188h_f:K_188h.f=188:=rfl
theorem K_188h_g:K_188h.gro=true:=rfl
theorem K_188h_e {x1 x2:V} {H:Heap}:K_188h.e [x1,x2] H=guardR ((decA (α:=List Int) H x1).1∧(decA (α:=Int) H x2).1) (peekR (Enc.good (decA (α:=List Int) H x1).2) (.d (.int .i64 (szIntS (decA (α:=List Int) H x1).2 (decA (α:=Int) H x2).2))) ([]) H):=rfl
def szInst (x:Inst) (left:Int):Int:=chk (szIntS x.args_ left) fun m0=>m0
theorem szInst_c (x:Inst) (left:Int) (hx:Enc.good x):PureP Tryz.prog 166 [vInst x,.d (.int .i64 left)] (· = .d (.int .i64 (szInst x left))):=by
  have q2:Enc.good x.args_:=hx.2.2
  refine pure_of Tryz.func166 en_166 rfl rfl (W_run mixed ⟨[K_188],[K_188h],[],12,0,[0,1,2,4,10],[10]⟩ (fun _=>[]) (by kernel_rfl) ?_)
  simp only [Tryz.f166,stripX,stripOps,pickOps]
  simp [K_188_f,K_188_e,K_188h_f,K_188h_e,K_188h_g,q2]
  refine ⟨fun h0=>by simp only [szInst,chk_neg h0],fun h0=>?_⟩
  simp only [szInst,chk_pos h0]
noncomputable def K_166:Ent Tryz.prog:=Ent.p2 (α:=Inst) (β:=Int) 166 (fun a b=>Enc.good a) (fun a b=>.d (.int .i64 (szInst a b))) (fun a b hc=>szInst_c a b hc)
theorem K_166_f:K_166.f=166:=rfl
theorem K_166_e (a0:Int) (a1:Int) (a2:List Int) (b:Int):K_166.e [.agg [.d (.int .i64 a0),.d (.int .i64 a1),.d (dIntS a2)],.d (.int .i64 b)]=some (Enc.good (Inst.mk a0 a1 a2),.d (.int .i64 (szInst (Inst.mk a0 a1 a2) b)),[]):=by unfold K_166;exact Ent.p2_eq (α:=Inst) (β:=Int) (Inst.mk a0 a1 a2) b
noncomputable def K_166h:EntH Tryz.prog:=EntH.pk2 (α:=Inst) (β:=Int) 166 (fun a b=>Enc.good a) (fun a b=>.d (.int .i64 (szInst a b))) (fun a b=>[]) (fun a b hc=>PureP.ans (szInst_c a b hc))
theorem K_166h_f:K_166h.f=166:=rfl
theorem K_166h_g:K_166h.gro=true:=rfl
theorem K_166h_e {x1 x2:V} {H:Heap}:K_166h.e [x1,x2] H=guardR ((decA (α:=Inst) H x1).1∧(decA (α:=Int) H x2).1) (peekR (Enc.good (decA (α:=Inst) H x1).2) (.d (.int .i64 (szInst (decA (α:=Inst) H x1).2 (decA (α:=Int) H x2).2))) ([]) H):=rfl
def szInstSL:List Inst→Int→Int
  | [],left=>left
  | x :: l,left=>chk (szInst x left) fun m=>szInstSL l m
def szInstS (l:List Inst) (left:Int):Int:=chk (IntKind.i64.wrap (left - l.length)) fun m=>szInstSL l m
theorem szInstS_c (l:List Inst) (left:Int) (hl:Enc.good l):PureP Tryz.prog 127 [.d (dInstS l),.d (.int .i64 left)] (· = .d (.int .i64 (szInstS l left))):=by
  have hlen:=good_len hl
  have hg:=good_get hl
  refine pure_of Tryz.func127 en_127 rfl rfl (W_run mixed ⟨[K_166],[K_166h],[],27,0,[0,1,4,5,11,15,25],[11,15,25]⟩ (fun _=>[]) (by kernel_rfl) ?_)
  simp only [Tryz.f127,stripX,stripOps,pickOps]
  simp [K_166_f,K_166_e,K_166h_f,K_166h_e,K_166h_g]
  refine ⟨fun h=>by simp only [szInstS,chk_neg h],fun h=>?_⟩
  refine W_loopA (fun a:Nat × Int=>[(0,.d (dInstS l)),(1,.d (.int .i64 a.2)),(5,.d (.int .i64 a.1))]) (fun _=>[]) (fun a=>a.1≤l.length∧szInstSL (l.drop a.1) a.2=szInstS l left) (fun a=>l.length - a.1) (0,IntKind.i64.wrap (left - l.length)) ?_ ?_ ?_
  · simp
  · simp [szInstS,chk_pos h]
  · rintro ⟨i,m⟩ ⟨hi,hm⟩
    refine W_run mixed ⟨[K_166],[K_166h],[],27,0,[0,1,4,5,11,15,25],[11,15,25]⟩ (fun _=>[]) (by kernel_rfl) ?_
    simp only [stripX,stripOps,pickOps]
    simp [K_166_f,K_166_e,K_166h_f,K_166h_e,K_166h_g,hg]
    simp only [] at hi hm
    refine ⟨fun h=>?_,fun h=>?_⟩
    · rw [drop_cons h] at hm
      simp only [szInstSL] at hm
      refine ⟨h,fun h1=>?_,fun h1=>⟨i + 1,_,⟨by omega, ?_⟩,by omega,rfl,by rw [wrap_id] <;> omega⟩⟩
      · rw [chk_neg h1] at hm;exact hm
      · rw [chk_pos h1] at hm;exact hm
    · rw [List.drop_eq_nil_of_le h] at hm;exact hm
noncomputable def K_127:Ent Tryz.prog:=Ent.p2 (α:=List Inst) (β:=Int) 127 (fun a b=>Enc.good a) (fun a b=>.d (.int .i64 (szInstS a b))) (fun a b hc=>szInstS_c a b hc)
theorem K_127_f:K_127.f=127:=rfl
theorem K_127_e (a:List Inst) (b:Int):K_127.e [.d (dInstS a),.d (.int .i64 b)]=some (Enc.good a,.d (.int .i64 (szInstS a b)),[]):=by unfold K_127;exact Ent.p2_eq (α:=List Inst) (β:=Int) a b
noncomputable def K_127h:EntH Tryz.prog:=EntH.pk2 (α:=List Inst) (β:=Int) 127 (fun a b=>Enc.good a) (fun a b=>.d (.int .i64 (szInstS a b))) (fun a b=>[]) (fun a b hc=>PureP.ans (szInstS_c a b hc))
theorem K_127h_f:K_127h.f=127:=rfl
theorem K_127h_g:K_127h.gro=true:=rfl
theorem K_127h_e {x1 x2:V} {H:Heap}:K_127h.e [x1,x2] H=guardR ((decA (α:=List Inst) H x1).1∧(decA (α:=Int) H x2).1) (peekR (Enc.good (decA (α:=List Inst) H x1).2) (.d (.int .i64 (szInstS (decA (α:=List Inst) H x1).2 (decA (α:=Int) H x2).2))) ([]) H):=rfl
def szJump (x:Jump) (left:Int):Int:=chk (szIntS x.args_ left) fun m0=>m0
theorem szJump_c (x:Jump) (left:Int) (hx:Enc.good x):PureP Tryz.prog 167 [vJump x,.d (.int .i64 left)] (· = .d (.int .i64 (szJump x left))):=by
  have q1:Enc.good x.args_:=hx.2
  refine pure_of Tryz.func167 en_167 rfl rfl (W_run mixed ⟨[K_188],[K_188h],[],12,0,[0,1,2,4,10],[10]⟩ (fun _=>[]) (by kernel_rfl) ?_)
  simp only [Tryz.f167,stripX,stripOps,pickOps]
  simp [K_188_f,K_188_e,K_188h_f,K_188h_e,K_188h_g,q1]
  refine ⟨fun h0=>by simp only [szJump,chk_neg h0],fun h0=>?_⟩
  simp only [szJump,chk_pos h0]
noncomputable def K_167:Ent Tryz.prog:=Ent.p2 (α:=Jump) (β:=Int) 167 (fun a b=>Enc.good a) (fun a b=>.d (.int .i64 (szJump a b))) (fun a b hc=>szJump_c a b hc)
theorem K_167_f:K_167.f=167:=rfl
theorem K_167_e (a0:Int) (a1:List Int) (b:Int):K_167.e [.agg [.d (.int .i64 a0),.d (dIntS a1)],.d (.int .i64 b)]=some (Enc.good (Jump.mk a0 a1),.d (.int .i64 (szJump (Jump.mk a0 a1) b)),[]):=by unfold K_167;exact Ent.p2_eq (α:=Jump) (β:=Int) (Jump.mk a0 a1) b
noncomputable def K_167h:EntH Tryz.prog:=EntH.pk2 (α:=Jump) (β:=Int) 167 (fun a b=>Enc.good a) (fun a b=>.d (.int .i64 (szJump a b))) (fun a b=>[]) (fun a b hc=>PureP.ans (szJump_c a b hc))
theorem K_167h_f:K_167h.f=167:=rfl
theorem K_167h_g:K_167h.gro=true:=rfl
theorem K_167h_e {x1 x2:V} {H:Heap}:K_167h.e [x1,x2] H=guardR ((decA (α:=Jump) H x1).1∧(decA (α:=Int) H x2).1) (peekR (Enc.good (decA (α:=Jump) H x1).2) (.d (.int .i64 (szJump (decA (α:=Jump) H x1).2 (decA (α:=Int) H x2).2))) ([]) H):=rfl
def szJumpSL:List Jump→Int→Int
  | [],left=>left
  | x :: l,left=>chk (szJump x left) fun m=>szJumpSL l m
def szJumpS (l:List Jump) (left:Int):Int:=chk (IntKind.i64.wrap (left - l.length)) fun m=>szJumpSL l m
theorem szJumpS_c (l:List Jump) (left:Int) (hl:Enc.good l):PureP Tryz.prog 128 [.d (dJumpS l),.d (.int .i64 left)] (· = .d (.int .i64 (szJumpS l left))):=by
  have hlen:=good_len hl
  have hg:=good_get hl
  refine pure_of Tryz.func128 en_128 rfl rfl (W_run mixed ⟨[K_167],[K_167h],[],27,0,[0,1,4,5,11,15,25],[11,15,25]⟩ (fun _=>[]) (by kernel_rfl) ?_)
  simp only [Tryz.f128,stripX,stripOps,pickOps]
  simp [K_167_f,K_167_e,K_167h_f,K_167h_e,K_167h_g]
  refine ⟨fun h=>by simp only [szJumpS,chk_neg h],fun h=>?_⟩
  refine W_loopA (fun a:Nat × Int=>[(0,.d (dJumpS l)),(1,.d (.int .i64 a.2)),(5,.d (.int .i64 a.1))]) (fun _=>[]) (fun a=>a.1≤l.length∧szJumpSL (l.drop a.1) a.2=szJumpS l left) (fun a=>l.length - a.1) (0,IntKind.i64.wrap (left - l.length)) ?_ ?_ ?_
  · simp
  · simp [szJumpS,chk_pos h]
  · rintro ⟨i,m⟩ ⟨hi,hm⟩
    refine W_run mixed ⟨[K_167],[K_167h],[],27,0,[0,1,4,5,11,15,25],[11,15,25]⟩ (fun _=>[]) (by kernel_rfl) ?_
    simp only [stripX,stripOps,pickOps]
    simp [K_167_f,K_167_e,K_167h_f,K_167h_e,K_167h_g,hg]
    simp only [] at hi hm
    refine ⟨fun h=>?_,fun h=>?_⟩
    · rw [drop_cons h] at hm
      simp only [szJumpSL] at hm
      refine ⟨h,fun h1=>?_,fun h1=>⟨i + 1,_,⟨by omega, ?_⟩,by omega,rfl,by rw [wrap_id] <;> omega⟩⟩
      · rw [chk_neg h1] at hm;exact hm
      · rw [chk_pos h1] at hm;exact hm
    · rw [List.drop_eq_nil_of_le h] at hm;exact hm
noncomputable def K_128:Ent Tryz.prog:=Ent.p2 (α:=List Jump) (β:=Int) 128 (fun a b=>Enc.good a) (fun a b=>.d (.int .i64 (szJumpS a b))) (fun a b hc=>szJumpS_c a b hc)
theorem K_128_f:K_128.f=128:=rfl
theorem K_128_e (a:List Jump) (b:Int):K_128.e [.d (dJumpS a),.d (.int .i64 b)]=some (Enc.good a,.d (.int .i64 (szJumpS a b)),[]):=by unfold K_128;exact Ent.p2_eq (α:=List Jump) (β:=Int) a b
noncomputable def K_128h:EntH Tryz.prog:=EntH.pk2 (α:=List Jump) (β:=Int) 128 (fun a b=>Enc.good a) (fun a b=>.d (.int .i64 (szJumpS a b))) (fun a b=>[]) (fun a b hc=>PureP.ans (szJumpS_c a b hc))
theorem K_128h_f:K_128h.f=128:=rfl
theorem K_128h_g:K_128h.gro=true:=rfl
theorem K_128h_e {x1 x2:V} {H:Heap}:K_128h.e [x1,x2] H=guardR ((decA (α:=List Jump) H x1).1∧(decA (α:=Int) H x2).1) (peekR (Enc.good (decA (α:=List Jump) H x1).2) (.d (.int .i64 (szJumpS (decA (α:=List Jump) H x1).2 (decA (α:=Int) H x2).2))) ([]) H):=rfl
def szBlock (x:Block) (left:Int):Int:=chk (szInstS x.insts_ left) fun m0=>chk (szJumpS x.jumps_ m0) fun m1=>m1
theorem szBlock_c (x:Block) (left:Int) (hx:Enc.good x):PureP Tryz.prog 76 [vBlock x,.d (.int .i64 left)] (· = .d (.int .i64 (szBlock x left))):=by
  have q1:Enc.good x.insts_:=hx.2.1
  have q4:Enc.good x.jumps_:=hx.2.2.2.2
  refine pure_of Tryz.func76 en_76 rfl rfl (W_run mixed ⟨[K_127,K_128],[K_127h,K_128h],[],18,0,[0,1,2,4,10,16],[10,16]⟩ (fun _=>[]) (by kernel_rfl) ?_)
  simp only [Tryz.f76,stripX,stripOps,pickOps]
  simp [K_127_f,K_127_e,K_128_f,K_128_e,K_127h_f,K_127h_e,K_128h_f,K_128h_e,K_127h_g,K_128h_g,q1,q4]
  refine ⟨fun h0=>by simp only [szBlock,chk_neg h0],fun h0=>?_⟩
  refine ⟨fun h1=>by simp only [szBlock,chk_pos h0,chk_neg h1],fun h1=>?_⟩
  simp only [szBlock,chk_pos h0,chk_pos h1]
noncomputable def K_76:Ent Tryz.prog:=Ent.p2 (α:=Block) (β:=Int) 76 (fun a b=>Enc.good a) (fun a b=>.d (.int .i64 (szBlock a b))) (fun a b hc=>szBlock_c a b hc)
theorem K_76_f:K_76.f=76:=rfl
theorem K_76_e (a0:Int) (a1:List Inst) (a2:Int) (a3:Int) (a4:List Jump) (b:Int):K_76.e [.agg [.d (.int .i64 a0),.d (dInstS a1),.d (.int .i64 a2),.d (.int .i64 a3),.d (dJumpS a4)],.d (.int .i64 b)]=some (Enc.good (Block.mk a0 a1 a2 a3 a4),.d (.int .i64 (szBlock (Block.mk a0 a1 a2 a3 a4) b)),[]):=by unfold K_76;exact Ent.p2_eq (α:=Block) (β:=Int) (Block.mk a0 a1 a2 a3 a4) b
noncomputable def K_76h:EntH Tryz.prog:=EntH.pk2 (α:=Block) (β:=Int) 76 (fun a b=>Enc.good a) (fun a b=>.d (.int .i64 (szBlock a b))) (fun a b=>[]) (fun a b hc=>PureP.ans (szBlock_c a b hc))
theorem K_76h_f:K_76h.f=76:=rfl
theorem K_76h_g:K_76h.gro=true:=rfl
theorem K_76h_e {x1 x2:V} {H:Heap}:K_76h.e [x1,x2] H=guardR ((decA (α:=Block) H x1).1∧(decA (α:=Int) H x2).1) (peekR (Enc.good (decA (α:=Block) H x1).2) (.d (.int .i64 (szBlock (decA (α:=Block) H x1).2 (decA (α:=Int) H x2).2))) ([]) H):=rfl
def szBlockSL:List Block→Int→Int
  | [],left=>left
  | x :: l,left=>chk (szBlock x left) fun m=>szBlockSL l m
def szBlockS (l:List Block) (left:Int):Int:=chk (IntKind.i64.wrap (left - l.length)) fun m=>szBlockSL l m
theorem szBlockS_c (l:List Block) (left:Int) (hl:Enc.good l):PureP Tryz.prog 41 [.d (dBlockS l),.d (.int .i64 left)] (· = .d (.int .i64 (szBlockS l left))):=by
  have hlen:=good_len hl
  have hg:=good_get hl
  refine pure_of Tryz.func41 en_41 rfl rfl (W_run mixed ⟨[K_76],[K_76h],[],27,0,[0,1,4,5,11,15,25],[11,15,25]⟩ (fun _=>[]) (by kernel_rfl) ?_)
  simp only [Tryz.f41,stripX,stripOps,pickOps]
  simp [K_76_f,K_76_e,K_76h_f,K_76h_e,K_76h_g]
  refine ⟨fun h=>by simp only [szBlockS,chk_neg h],fun h=>?_⟩
  refine W_loopA (fun a:Nat × Int=>[(0,.d (dBlockS l)),(1,.d (.int .i64 a.2)),(5,.d (.int .i64 a.1))]) (fun _=>[]) (fun a=>a.1≤l.length∧szBlockSL (l.drop a.1) a.2=szBlockS l left) (fun a=>l.length - a.1) (0,IntKind.i64.wrap (left - l.length)) ?_ ?_ ?_
  · simp
  · simp [szBlockS,chk_pos h]
  · rintro ⟨i,m⟩ ⟨hi,hm⟩
    refine W_run mixed ⟨[K_76],[K_76h],[],27,0,[0,1,4,5,11,15,25],[11,15,25]⟩ (fun _=>[]) (by kernel_rfl) ?_
    simp only [stripX,stripOps,pickOps]
    simp [K_76_f,K_76_e,K_76h_f,K_76h_e,K_76h_g,hg]
    simp only [] at hi hm
    refine ⟨fun h=>?_,fun h=>?_⟩
    · rw [drop_cons h] at hm
      simp only [szBlockSL] at hm
      refine ⟨h,fun h1=>?_,fun h1=>⟨i + 1,_,⟨by omega, ?_⟩,by omega,rfl,by rw [wrap_id] <;> omega⟩⟩
      · rw [chk_neg h1] at hm;exact hm
      · rw [chk_pos h1] at hm;exact hm
    · rw [List.drop_eq_nil_of_le h] at hm;exact hm
noncomputable def K_41:Ent Tryz.prog:=Ent.p2 (α:=List Block) (β:=Int) 41 (fun a b=>Enc.good a) (fun a b=>.d (.int .i64 (szBlockS a b))) (fun a b hc=>szBlockS_c a b hc)
theorem K_41_f:K_41.f=41:=rfl
theorem K_41_e (a:List Block) (b:Int):K_41.e [.d (dBlockS a),.d (.int .i64 b)]=some (Enc.good a,.d (.int .i64 (szBlockS a b)),[]):=by unfold K_41;exact Ent.p2_eq (α:=List Block) (β:=Int) a b
noncomputable def K_41h:EntH Tryz.prog:=EntH.pk2 (α:=List Block) (β:=Int) 41 (fun a b=>Enc.good a) (fun a b=>.d (.int .i64 (szBlockS a b))) (fun a b=>[]) (fun a b hc=>PureP.ans (szBlockS_c a b hc))
theorem K_41h_f:K_41h.f=41:=rfl
theorem K_41h_g:K_41h.gro=true:=rfl
theorem K_41h_e {x1 x2:V} {H:Heap}:K_41h.e [x1,x2] H=guardR ((decA (α:=List Block) H x1).1∧(decA (α:=Int) H x2).1) (peekR (Enc.good (decA (α:=List Block) H x1).2) (.d (.int .i64 (szBlockS (decA (α:=List Block) H x1).2 (decA (α:=Int) H x2).2))) ([]) H):=rfl
def szFunc (x:Func) (left:Int):Int:=chk (szBlockS x.blocks_ left) fun m0=>m0
theorem szFunc_c (x:Func) (left:Int) (hx:Enc.good x):PureP Tryz.prog 14 [vFunc x,.d (.int .i64 left)] (· = .d (.int .i64 (szFunc x left))):=by
  have q1:Enc.good x.blocks_:=hx.2
  refine pure_of Tryz.func14 en_14 rfl rfl (W_run mixed ⟨[K_41],[K_41h],[],12,0,[0,1,2,4,10],[10]⟩ (fun _=>[]) (by kernel_rfl) ?_)
  simp only [Tryz.f14,stripX,stripOps,pickOps]
  simp [K_41_f,K_41_e,K_41h_f,K_41h_e,K_41h_g,q1]
  refine ⟨fun h0=>by simp only [szFunc,chk_neg h0],fun h0=>?_⟩
  simp only [szFunc,chk_pos h0]
noncomputable def K_14:Ent Tryz.prog:=Ent.p2 (α:=Func) (β:=Int) 14 (fun a b=>Enc.good a) (fun a b=>.d (.int .i64 (szFunc a b))) (fun a b hc=>szFunc_c a b hc)
theorem K_14_f:K_14.f=14:=rfl
theorem K_14_e (a0:Int) (a1:List Block) (b:Int):K_14.e [.agg [.d (.int .i64 a0),.d (dBlockS a1)],.d (.int .i64 b)]=some (Enc.good (Func.mk a0 a1),.d (.int .i64 (szFunc (Func.mk a0 a1) b)),[]):=by unfold K_14;exact Ent.p2_eq (α:=Func) (β:=Int) (Func.mk a0 a1) b
noncomputable def K_14h:EntH Tryz.prog:=EntH.pk2 (α:=Func) (β:=Int) 14 (fun a b=>Enc.good a) (fun a b=>.d (.int .i64 (szFunc a b))) (fun a b=>[]) (fun a b hc=>PureP.ans (szFunc_c a b hc))
theorem K_14h_f:K_14h.f=14:=rfl
theorem K_14h_g:K_14h.gro=true:=rfl
theorem K_14h_e {x1 x2:V} {H:Heap}:K_14h.e [x1,x2] H=guardR ((decA (α:=Func) H x1).1∧(decA (α:=Int) H x2).1) (peekR (Enc.good (decA (α:=Func) H x1).2) (.d (.int .i64 (szFunc (decA (α:=Func) H x1).2 (decA (α:=Int) H x2).2))) ([]) H):=rfl
theorem toIntS_c (l:List Int) (hl:Sm.sm l):PureP Tryz.prog 189 [.d (dIntS l)] (· = .d (dIntS l)):=by
  have hlen:=small_len hl
  have hg:=small_get hl
  refine PureP.ro (pure_of Tryz.func189 en_189 rfl rfl (W_run mixed ⟨[],[],[],22,0,[0,2,3,4,11],[11]⟩ (fun _=>[]) (by kernel_rfl) ?_))
  simp only [Tryz.f189,stripX,stripOps,pickOps]
  simp []
  rw [fillR_zero _ (fun j=>[.d (.int .i64 (l[j]?.getD default))])]
  refine ⟨by omega,W_loopA (fun a:Nat=>[(0,.d (dIntS l)),(3,.sl 0 1 0 l.length),(4,.d (.int .i64 a))]) (fun a=>[.row 1 (fillR l.length a (fun j=>[.d (.int .i64 (l[j]?.getD default))]) [.d (.int .i64 0)])]) (fun a=>a≤l.length) (fun a=>l.length - a) 0 ?_ ?_ ?_⟩
  · simp
    exact fillR_under (by simp) (by simp)
  · simp
  · intro i hi
    refine W_run mixed ⟨[],[],[],22,0,[0,2,3,4,11],[11]⟩ (fun _=>[]) (by kernel_rfl) ?_
    simp only [stripX,stripOps,pickOps]
    simp [hg]
    refine ⟨fun h=>⟨h,i + 1,by omega,by omega, ?_,fillR_under (by simp) (by simp),by rw [wrap_id] <;> omega⟩,fun h j hj=>?_⟩
    · exact fillR_set _ _ _ _ h
    · have e:i=l.length:=by omega
      subst e
      rw [fillR_done _ _ _ hj]
      simp
noncomputable def K_189:Ent Tryz.prog:=Ent.p1 (α:=List Int) 189 (fun a=>Sm.sm a) (fun a=>.d (dIntS a)) (fun a hc=>toIntS_c a hc)
theorem K_189_f:K_189.f=189:=rfl
theorem K_189_e (a:List Int):K_189.e [.d (dIntS a)]=some (Sm.sm a,.d (dIntS a),[]):=by unfold K_189;exact Ent.p1_eq (α:=List Int) a
noncomputable def K_189h:EntH Tryz.prog:=EntH.pk1 (α:=List Int) 189 (fun a=>Sm.sm a) (fun a=>.d (dIntS a)) (fun a=>[]) (fun a hc=>PureP.ans (toIntS_c a hc))
theorem K_189h_f:K_189h.f=189:=rfl
theorem K_189h_g:K_189h.gro=true:=rfl
theorem K_189h_e {x1:V} {H:Heap}:K_189h.e [x1] H=guardR ((decA (α:=List Int) H x1).1) (peekR (Sm.sm (decA (α:=List Int) H x1).2) (.d (dIntS (decA (α:=List Int) H x1).2)) ([]) H):=rfl
theorem toInst_c (x:Inst) (hx:Sm.sm x):PureP Tryz.prog 171 [vInst x] (· = vInst x):=by
  have q2:Sm.sm x.args_:=hx.2.2
  refine pure_of Tryz.func171 en_171 rfl rfl (W_run mixed ⟨[K_189],[K_189h],[],15,0,[0,1,2,3],[]⟩ (fun _=>[]) (by kernel_rfl) ?_)
  simp only [Tryz.f171,stripX,stripOps,pickOps]
  simp [K_189_f,K_189_e,K_189h_f,K_189h_e,K_189h_g,q2]
noncomputable def K_171:Ent Tryz.prog:=Ent.p1 (α:=Inst) 171 (fun a=>Sm.sm a) (fun a=>vInst a) (fun a hc=>toInst_c a hc)
theorem K_171_f:K_171.f=171:=rfl
theorem K_171_e (a0:Int) (a1:Int) (a2:List Int):K_171.e [.agg [.d (.int .i64 a0),.d (.int .i64 a1),.d (dIntS a2)]]=some (Sm.sm (Inst.mk a0 a1 a2),vInst (Inst.mk a0 a1 a2),[]):=by unfold K_171;exact Ent.p1_eq (α:=Inst) (Inst.mk a0 a1 a2)
noncomputable def K_171h:EntH Tryz.prog:=EntH.pk1 (α:=Inst) 171 (fun a=>Sm.sm a) (fun a=>vInst a) (fun a=>[]) (fun a hc=>PureP.ans (toInst_c a hc))
theorem K_171h_f:K_171h.f=171:=rfl
theorem K_171h_g:K_171h.gro=true:=rfl
theorem K_171h_e {x1:V} {H:Heap}:K_171h.e [x1] H=guardR ((decA (α:=Inst) H x1).1) (peekR (Sm.sm (decA (α:=Inst) H x1).2) (vInst (decA (α:=Inst) H x1).2) ([]) H):=rfl
theorem toInstS_c (l:List Inst) (hl:Sm.sm l):PureP Tryz.prog 136 [.d (dInstS l)] (· = .d (dInstS l)):=by
  have hlen:=small_len hl
  have hg:=small_get hl
  refine PureP.ro (pure_of Tryz.func136 en_136 rfl rfl (W_run mixed ⟨[K_171],[K_171h],[],23,0,[0,2,3,4,11],[11]⟩ (fun _=>[]) (by kernel_rfl) ?_))
  simp only [Tryz.f136,stripX,stripOps,pickOps]
  simp [K_171_f,K_171_e,K_171h_f,K_171h_e,K_171h_g]
  rw [fillR_zero _ (fun j=>[.d (.int .i64 (l[j]?.getD default).op_),.d (.int .i64 (l[j]?.getD default).n_),.d (dIntS (l[j]?.getD default).args_)])]
  refine ⟨by omega,W_loopA (fun a:Nat=>[(0,.d (dInstS l)),(3,.sl 0 3 0 l.length),(4,.d (.int .i64 a))]) (fun a=>[.row 3 (fillR l.length a (fun j=>[.d (.int .i64 (l[j]?.getD default).op_),.d (.int .i64 (l[j]?.getD default).n_),.d (dIntS (l[j]?.getD default).args_)]) [.d (.int .i64 0),.d (.int .i64 0),.d .nilsl])]) (fun a=>a≤l.length) (fun a=>l.length - a) 0 ?_ ?_ ?_⟩
  · simp
    exact fillR_under (by simp) (by simp)
  · simp
  · intro i hi
    refine W_run mixed ⟨[K_171],[K_171h],[],23,0,[0,2,3,4,11],[11]⟩ (fun _=>[]) (by kernel_rfl) ?_
    simp only [stripX,stripOps,pickOps]
    simp [K_171_f,K_171_e,K_171h_f,K_171h_e,K_171h_g,hg]
    refine ⟨fun h=>⟨h,i + 1,by omega,by omega, ?_,fillR_under (by simp) (by simp),by rw [wrap_id] <;> omega⟩,fun h j k hj hk=>?_⟩
    · exact fillR_set _ _ _ _ h
    · have e:i=l.length:=by omega
      subst e
      rw [fillR_done _ _ _ hj]
      rcases (by omega:k=0∨k=1∨k=2) with rfl | rfl | rfl <;> simp
noncomputable def K_136:Ent Tryz.prog:=Ent.p1 (α:=List Inst) 136 (fun a=>Sm.sm a) (fun a=>.d (dInstS a)) (fun a hc=>toInstS_c a hc)
theorem K_136_f:K_136.f=136:=rfl
theorem K_136_e (a:List Inst):K_136.e [.d (dInstS a)]=some (Sm.sm a,.d (dInstS a),[]):=by unfold K_136;exact Ent.p1_eq (α:=List Inst) a
noncomputable def K_136h:EntH Tryz.prog:=EntH.pk1 (α:=List Inst) 136 (fun a=>Sm.sm a) (fun a=>.d (dInstS a)) (fun a=>[]) (fun a hc=>PureP.ans (toInstS_c a hc))
theorem K_136h_f:K_136h.f=136:=rfl
theorem K_136h_g:K_136h.gro=true:=rfl
theorem K_136h_e {x1:V} {H:Heap}:K_136h.e [x1] H=guardR ((decA (α:=List Inst) H x1).1) (peekR (Sm.sm (decA (α:=List Inst) H x1).2) (.d (dInstS (decA (α:=List Inst) H x1).2)) ([]) H):=rfl
theorem toJump_c (x:Jump) (hx:Sm.sm x):PureP Tryz.prog 172 [vJump x] (· = vJump x):=by
  have q1:Sm.sm x.args_:=hx.2
  refine pure_of Tryz.func172 en_172 rfl rfl (W_run mixed ⟨[K_189],[K_189h],[],12,0,[0,1,2,3],[]⟩ (fun _=>[]) (by kernel_rfl) ?_)
  simp only [Tryz.f172,stripX,stripOps,pickOps]
  simp [K_189_f,K_189_e,K_189h_f,K_189h_e,K_189h_g,q1]
noncomputable def K_172:Ent Tryz.prog:=Ent.p1 (α:=Jump) 172 (fun a=>Sm.sm a) (fun a=>vJump a) (fun a hc=>toJump_c a hc)
theorem K_172_f:K_172.f=172:=rfl
theorem K_172_e (a0:Int) (a1:List Int):K_172.e [.agg [.d (.int .i64 a0),.d (dIntS a1)]]=some (Sm.sm (Jump.mk a0 a1),vJump (Jump.mk a0 a1),[]):=by unfold K_172;exact Ent.p1_eq (α:=Jump) (Jump.mk a0 a1)
noncomputable def K_172h:EntH Tryz.prog:=EntH.pk1 (α:=Jump) 172 (fun a=>Sm.sm a) (fun a=>vJump a) (fun a=>[]) (fun a hc=>PureP.ans (toJump_c a hc))
theorem K_172h_f:K_172h.f=172:=rfl
theorem K_172h_g:K_172h.gro=true:=rfl
theorem K_172h_e {x1:V} {H:Heap}:K_172h.e [x1] H=guardR ((decA (α:=Jump) H x1).1) (peekR (Sm.sm (decA (α:=Jump) H x1).2) (vJump (decA (α:=Jump) H x1).2) ([]) H):=rfl
theorem toJumpS_c (l:List Jump) (hl:Sm.sm l):PureP Tryz.prog 137 [.d (dJumpS l)] (· = .d (dJumpS l)):=by
  have hlen:=small_len hl
  have hg:=small_get hl
  refine PureP.ro (pure_of Tryz.func137 en_137 rfl rfl (W_run mixed ⟨[K_172],[K_172h],[],23,0,[0,2,3,4,11],[11]⟩ (fun _=>[]) (by kernel_rfl) ?_))
  simp only [Tryz.f137,stripX,stripOps,pickOps]
  simp [K_172_f,K_172_e,K_172h_f,K_172h_e,K_172h_g]
  rw [fillR_zero _ (fun j=>[.d (.int .i64 (l[j]?.getD default).to_),.d (dIntS (l[j]?.getD default).args_)])]
  refine ⟨by omega,W_loopA (fun a:Nat=>[(0,.d (dJumpS l)),(3,.sl 0 2 0 l.length),(4,.d (.int .i64 a))]) (fun a=>[.row 2 (fillR l.length a (fun j=>[.d (.int .i64 (l[j]?.getD default).to_),.d (dIntS (l[j]?.getD default).args_)]) [.d (.int .i64 0),.d .nilsl])]) (fun a=>a≤l.length) (fun a=>l.length - a) 0 ?_ ?_ ?_⟩
  · simp
    exact fillR_under (by simp) (by simp)
  · simp
  · intro i hi
    refine W_run mixed ⟨[K_172],[K_172h],[],23,0,[0,2,3,4,11],[11]⟩ (fun _=>[]) (by kernel_rfl) ?_
    simp only [stripX,stripOps,pickOps]
    simp [K_172_f,K_172_e,K_172h_f,K_172h_e,K_172h_g,hg]
    refine ⟨fun h=>⟨h,i + 1,by omega,by omega, ?_,fillR_under (by simp) (by simp),by rw [wrap_id] <;> omega⟩,fun h j k hj hk=>?_⟩
    · exact fillR_set _ _ _ _ h
    · have e:i=l.length:=by omega
      subst e
      rw [fillR_done _ _ _ hj]
      rcases (by omega:k=0∨k=1) with rfl | rfl <;> simp
noncomputable def K_137:Ent Tryz.prog:=Ent.p1 (α:=List Jump) 137 (fun a=>Sm.sm a) (fun a=>.d (dJumpS a)) (fun a hc=>toJumpS_c a hc)
theorem K_137_f:K_137.f=137:=rfl
theorem K_137_e (a:List Jump):K_137.e [.d (dJumpS a)]=some (Sm.sm a,.d (dJumpS a),[]):=by unfold K_137;exact Ent.p1_eq (α:=List Jump) a
noncomputable def K_137h:EntH Tryz.prog:=EntH.pk1 (α:=List Jump) 137 (fun a=>Sm.sm a) (fun a=>.d (dJumpS a)) (fun a=>[]) (fun a hc=>PureP.ans (toJumpS_c a hc))
theorem K_137h_f:K_137h.f=137:=rfl
theorem K_137h_g:K_137h.gro=true:=rfl
theorem K_137h_e {x1:V} {H:Heap}:K_137h.e [x1] H=guardR ((decA (α:=List Jump) H x1).1) (peekR (Sm.sm (decA (α:=List Jump) H x1).2) (.d (dJumpS (decA (α:=List Jump) H x1).2)) ([]) H):=rfl
theorem toBlock_c (x:Block) (hx:Sm.sm x):PureP Tryz.prog 83 [vBlock x] (· = vBlock x):=by
  have q1:Sm.sm x.insts_:=hx.2.1
  have q4:Sm.sm x.jumps_:=hx.2.2.2.2
  refine pure_of Tryz.func83 en_83 rfl rfl (W_run mixed ⟨[K_136,K_137],[K_136h,K_137h],[],22,0,[0,1,2,3],[]⟩ (fun _=>[]) (by kernel_rfl) ?_)
  simp only [Tryz.f83,stripX,stripOps,pickOps]
  simp [K_136_f,K_136_e,K_137_f,K_137_e,K_136h_f,K_136h_e,K_137h_f,K_137h_e,K_136h_g,K_137h_g,q1,q4]
noncomputable def K_83:Ent Tryz.prog:=Ent.p1 (α:=Block) 83 (fun a=>Sm.sm a) (fun a=>vBlock a) (fun a hc=>toBlock_c a hc)
theorem K_83_f:K_83.f=83:=rfl
theorem K_83_e (a0:Int) (a1:List Inst) (a2:Int) (a3:Int) (a4:List Jump):K_83.e [.agg [.d (.int .i64 a0),.d (dInstS a1),.d (.int .i64 a2),.d (.int .i64 a3),.d (dJumpS a4)]]=some (Sm.sm (Block.mk a0 a1 a2 a3 a4),vBlock (Block.mk a0 a1 a2 a3 a4),[]):=by unfold K_83;exact Ent.p1_eq (α:=Block) (Block.mk a0 a1 a2 a3 a4)
noncomputable def K_83h:EntH Tryz.prog:=EntH.pk1 (α:=Block) 83 (fun a=>Sm.sm a) (fun a=>vBlock a) (fun a=>[]) (fun a hc=>PureP.ans (toBlock_c a hc))
theorem K_83h_f:K_83h.f=83:=rfl
theorem K_83h_g:K_83h.gro=true:=rfl
theorem K_83h_e {x1:V} {H:Heap}:K_83h.e [x1] H=guardR ((decA (α:=Block) H x1).1) (peekR (Sm.sm (decA (α:=Block) H x1).2) (vBlock (decA (α:=Block) H x1).2) ([]) H):=rfl
theorem toBlockS_c (l:List Block) (hl:Sm.sm l):PureP Tryz.prog 45 [.d (dBlockS l)] (· = .d (dBlockS l)):=by
  have hlen:=small_len hl
  have hg:=small_get hl
  refine PureP.ro (pure_of Tryz.func45 en_45 rfl rfl (W_run mixed ⟨[K_83],[K_83h],[],23,0,[0,2,3,4,11],[11]⟩ (fun _=>[]) (by kernel_rfl) ?_))
  simp only [Tryz.f45,stripX,stripOps,pickOps]
  simp [K_83_f,K_83_e,K_83h_f,K_83h_e,K_83h_g]
  rw [fillR_zero _ (fun j=>[.d (.int .i64 (l[j]?.getD default).params_),.d (dInstS (l[j]?.getD default).insts_),.d (.int .i64 (l[j]?.getD default).end_),.d (.int .i64 (l[j]?.getD default).value_),.d (dJumpS (l[j]?.getD default).jumps_)])]
  refine ⟨by omega,W_loopA (fun a:Nat=>[(0,.d (dBlockS l)),(3,.sl 0 5 0 l.length),(4,.d (.int .i64 a))]) (fun a=>[.row 5 (fillR l.length a (fun j=>[.d (.int .i64 (l[j]?.getD default).params_),.d (dInstS (l[j]?.getD default).insts_),.d (.int .i64 (l[j]?.getD default).end_),.d (.int .i64 (l[j]?.getD default).value_),.d (dJumpS (l[j]?.getD default).jumps_)]) [.d (.int .i64 0),.d .nilsl,.d (.int .i64 0),.d (.int .i64 0),.d .nilsl])]) (fun a=>a≤l.length) (fun a=>l.length - a) 0 ?_ ?_ ?_⟩
  · simp
    exact fillR_under (by simp) (by simp)
  · simp
  · intro i hi
    refine W_run mixed ⟨[K_83],[K_83h],[],23,0,[0,2,3,4,11],[11]⟩ (fun _=>[]) (by kernel_rfl) ?_
    simp only [stripX,stripOps,pickOps]
    simp [K_83_f,K_83_e,K_83h_f,K_83h_e,K_83h_g,hg]
    refine ⟨fun h=>⟨h,i + 1,by omega,by omega, ?_,fillR_under (by simp) (by simp),by rw [wrap_id] <;> omega⟩,fun h j k hj hk=>?_⟩
    · exact fillR_set _ _ _ _ h
    · have e:i=l.length:=by omega
      subst e
      rw [fillR_done _ _ _ hj]
      rcases (by omega:k=0∨k=1∨k=2∨k=3∨k=4) with rfl | rfl | rfl | rfl | rfl <;> simp
noncomputable def K_45:Ent Tryz.prog:=Ent.p1 (α:=List Block) 45 (fun a=>Sm.sm a) (fun a=>.d (dBlockS a)) (fun a hc=>toBlockS_c a hc)
theorem K_45_f:K_45.f=45:=rfl
theorem K_45_e (a:List Block):K_45.e [.d (dBlockS a)]=some (Sm.sm a,.d (dBlockS a),[]):=by unfold K_45;exact Ent.p1_eq (α:=List Block) a
noncomputable def K_45h:EntH Tryz.prog:=EntH.pk1 (α:=List Block) 45 (fun a=>Sm.sm a) (fun a=>.d (dBlockS a)) (fun a=>[]) (fun a hc=>PureP.ans (toBlockS_c a hc))
theorem K_45h_f:K_45h.f=45:=rfl
theorem K_45h_g:K_45h.gro=true:=rfl
theorem K_45h_e {x1:V} {H:Heap}:K_45h.e [x1] H=guardR ((decA (α:=List Block) H x1).1) (peekR (Sm.sm (decA (α:=List Block) H x1).2) (.d (dBlockS (decA (α:=List Block) H x1).2)) ([]) H):=rfl
theorem toFunc_c (x:Func) (hx:Sm.sm x):PureP Tryz.prog 16 [vFunc x] (· = vFunc x):=by
  have q1:Sm.sm x.blocks_:=hx.2
  refine pure_of Tryz.func16 en_16 rfl rfl (W_run mixed ⟨[K_45],[K_45h],[],12,0,[0,1,2,3],[]⟩ (fun _=>[]) (by kernel_rfl) ?_)
  simp only [Tryz.f16,stripX,stripOps,pickOps]
  simp [K_45_f,K_45_e,K_45h_f,K_45h_e,K_45h_g,q1]
noncomputable def K_16:Ent Tryz.prog:=Ent.p1 (α:=Func) 16 (fun a=>Sm.sm a) (fun a=>vFunc a) (fun a hc=>toFunc_c a hc)
theorem K_16_f:K_16.f=16:=rfl
theorem K_16_e (a0:Int) (a1:List Block):K_16.e [.agg [.d (.int .i64 a0),.d (dBlockS a1)]]=some (Sm.sm (Func.mk a0 a1),vFunc (Func.mk a0 a1),[]):=by unfold K_16;exact Ent.p1_eq (α:=Func) (Func.mk a0 a1)
noncomputable def K_16h:EntH Tryz.prog:=EntH.pk1 (α:=Func) 16 (fun a=>Sm.sm a) (fun a=>vFunc a) (fun a=>[]) (fun a hc=>PureP.ans (toFunc_c a hc))
theorem K_16h_f:K_16h.f=16:=rfl
theorem K_16h_g:K_16h.gro=true:=rfl
theorem K_16h_e {x1:V} {H:Heap}:K_16h.e [x1] H=guardR ((decA (α:=Func) H x1).1) (peekR (Sm.sm (decA (α:=Func) H x1).2) (vFunc (decA (α:=Func) H x1).2) ([]) H):=rfl
theorem eqIntS_c (l:List Int) (hl:Sm.sm l):PureP Tryz.prog 194 [.d (dIntS l),.d (dIntS l)] (· = .d (.bool true)):=by
  have hlen:=small_len hl
  have hg:=small_get hl
  refine pure_of Tryz.func194 en_194 rfl rfl (W_run mixed ⟨[],[],[],26,0,[0,1,4,5,10,14,25],[10,14,25]⟩ (fun | 6=>[0,1,2,4,5,6,3,7,8] | _=>[]) (by kernel_rfl) ?_)
  simp only [Tryz.f194,stripX,stripOps,pickOps]
  simp []
  refine W_loopA (fun a:Nat=>[(0,.d (dIntS l)),(1,.d (dIntS l)),(5,.d (.int .i64 a))]) (fun _=>[]) (fun a=>a≤l.length) (fun a=>l.length - a) 0 ?_ ?_ ?_
  · simp
  · simp
  · intro i hi
    refine W_run mixed ⟨[],[],[],26,0,[0,1,4,5,10,14,25],[10,14,25]⟩ (fun | 6=>[0,1,2,4,5,6,3,7,8] | _=>[]) (by kernel_rfl) ?_
    simp only [stripX,stripOps,pickOps]
    simp [hg]
    intro h
    exact ⟨h,i + 1,by omega,by omega,by rw [wrap_id] <;> omega⟩
noncomputable def K_194:Ent Tryz.prog:=Ent.p2 (α:=List Int) (β:=List Int) 194 (fun a b=>Sm.sm a∧a=b) (fun a b=>.d (.bool true)) (fun a b hc=>(by obtain ⟨h1,rfl⟩:=hc;exact eqIntS_c a h1))
theorem K_194_f:K_194.f=194:=rfl
theorem K_194_e (a:List Int) (b:List Int):K_194.e [.d (dIntS a),.d (dIntS b)]=some (Sm.sm a∧a=b,.d (.bool true),[]):=by unfold K_194;exact Ent.p2_eq (α:=List Int) (β:=List Int) a b
noncomputable def K_194h:EntH Tryz.prog:=EntH.pk2 (α:=List Int) (β:=List Int) 194 (fun a b=>Sm.sm a∧a=b) (fun a b=>.d (.bool true)) (fun a b=>[]) (fun a b hc=>PureP.ans ((by obtain ⟨h1,rfl⟩:=hc;exact eqIntS_c a h1)))
theorem K_194h_f:K_194h.f=194:=rfl
theorem K_194h_g:K_194h.gro=true:=rfl
theorem K_194h_e {x1 x2:V} {H:Heap}:K_194h.e [x1,x2] H=guardR ((decA (α:=List Int) H x1).1∧(decA (α:=List Int) H x2).1) (peekR (Sm.sm (decA (α:=List Int) H x1).2∧(decA (α:=List Int) H x1).2=(decA (α:=List Int) H x2).2) (.d (.bool true)) ([]) H):=rfl
theorem eqInst_c (x:Inst) (hx:Sm.sm x):PureP Tryz.prog 181 [vInst x,vInst x] (· = .d (.bool true)):=by
  have q2:Sm.sm x.args_:=hx.2.2
  refine pure_of Tryz.func181 en_181 rfl rfl (W_run mixed ⟨[K_194],[K_194h],[],21,0,[0,1,2,3,4,9,14,20],[9,14,20]⟩ (fun _=>[]) (by kernel_rfl) ?_)
  simp only [Tryz.f181,stripX,stripOps,pickOps]
  simp [K_194_f,K_194_e,K_194h_f,K_194h_e,K_194h_g,q2]
noncomputable def K_181:Ent Tryz.prog:=Ent.p2 (α:=Inst) (β:=Inst) 181 (fun a b=>Sm.sm a∧a=b) (fun a b=>.d (.bool true)) (fun a b hc=>(by obtain ⟨h1,rfl⟩:=hc;exact eqInst_c a h1))
theorem K_181_f:K_181.f=181:=rfl
theorem K_181_e (a0:Int) (a1:Int) (a2:List Int) (b0:Int) (b1:Int) (b2:List Int):K_181.e [.agg [.d (.int .i64 a0),.d (.int .i64 a1),.d (dIntS a2)],.agg [.d (.int .i64 b0),.d (.int .i64 b1),.d (dIntS b2)]]=some (Sm.sm (Inst.mk a0 a1 a2)∧(Inst.mk a0 a1 a2)=(Inst.mk b0 b1 b2),.d (.bool true),[]):=by unfold K_181;exact Ent.p2_eq (α:=Inst) (β:=Inst) (Inst.mk a0 a1 a2) (Inst.mk b0 b1 b2)
noncomputable def K_181h:EntH Tryz.prog:=EntH.pk2 (α:=Inst) (β:=Inst) 181 (fun a b=>Sm.sm a∧a=b) (fun a b=>.d (.bool true)) (fun a b=>[]) (fun a b hc=>PureP.ans ((by obtain ⟨h1,rfl⟩:=hc;exact eqInst_c a h1)))
theorem K_181h_f:K_181h.f=181:=rfl
theorem K_181h_g:K_181h.gro=true:=rfl
theorem K_181h_e {x1 x2:V} {H:Heap}:K_181h.e [x1,x2] H=guardR ((decA (α:=Inst) H x1).1∧(decA (α:=Inst) H x2).1) (peekR (Sm.sm (decA (α:=Inst) H x1).2∧(decA (α:=Inst) H x1).2=(decA (α:=Inst) H x2).2) (.d (.bool true)) ([]) H):=rfl
theorem eqInstS_c (l:List Inst) (hl:Sm.sm l):PureP Tryz.prog 149 [.d (dInstS l),.d (dInstS l)] (· = .d (.bool true)):=by
  have hlen:=small_len hl
  have hg:=small_get hl
  refine pure_of Tryz.func149 en_149 rfl rfl (W_run mixed ⟨[K_181],[K_181h],[],27,0,[0,1,4,5,10,14,26],[10,14,26]⟩ (fun | 6=>[0,1,2,4,5,6,3,7,8,9] | _=>[]) (by kernel_rfl) ?_)
  simp only [Tryz.f149,stripX,stripOps,pickOps]
  simp [K_181_f,K_181_e,K_181h_f,K_181h_e,K_181h_g]
  refine W_loopA (fun a:Nat=>[(0,.d (dInstS l)),(1,.d (dInstS l)),(5,.d (.int .i64 a))]) (fun _=>[]) (fun a=>a≤l.length) (fun a=>l.length - a) 0 ?_ ?_ ?_
  · simp
  · simp
  · intro i hi
    refine W_run mixed ⟨[K_181],[K_181h],[],27,0,[0,1,4,5,10,14,26],[10,14,26]⟩ (fun | 6=>[0,1,2,4,5,6,3,7,8,9] | _=>[]) (by kernel_rfl) ?_
    simp only [stripX,stripOps,pickOps]
    simp [K_181_f,K_181_e,K_181h_f,K_181h_e,K_181h_g,hg]
    intro h
    exact ⟨h,i + 1,by omega,by omega,by rw [wrap_id] <;> omega⟩
noncomputable def K_149:Ent Tryz.prog:=Ent.p2 (α:=List Inst) (β:=List Inst) 149 (fun a b=>Sm.sm a∧a=b) (fun a b=>.d (.bool true)) (fun a b hc=>(by obtain ⟨h1,rfl⟩:=hc;exact eqInstS_c a h1))
theorem K_149_f:K_149.f=149:=rfl
theorem K_149_e (a:List Inst) (b:List Inst):K_149.e [.d (dInstS a),.d (dInstS b)]=some (Sm.sm a∧a=b,.d (.bool true),[]):=by unfold K_149;exact Ent.p2_eq (α:=List Inst) (β:=List Inst) a b
noncomputable def K_149h:EntH Tryz.prog:=EntH.pk2 (α:=List Inst) (β:=List Inst) 149 (fun a b=>Sm.sm a∧a=b) (fun a b=>.d (.bool true)) (fun a b=>[]) (fun a b hc=>PureP.ans ((by obtain ⟨h1,rfl⟩:=hc;exact eqInstS_c a h1)))
theorem K_149h_f:K_149h.f=149:=rfl
theorem K_149h_g:K_149h.gro=true:=rfl
theorem K_149h_e {x1 x2:V} {H:Heap}:K_149h.e [x1,x2] H=guardR ((decA (α:=List Inst) H x1).1∧(decA (α:=List Inst) H x2).1) (peekR (Sm.sm (decA (α:=List Inst) H x1).2∧(decA (α:=List Inst) H x1).2=(decA (α:=List Inst) H x2).2) (.d (.bool true)) ([]) H):=rfl
theorem eqJump_c (x:Jump) (hx:Sm.sm x):PureP Tryz.prog 182 [vJump x,vJump x] (· = .d (.bool true)):=by
  have q1:Sm.sm x.args_:=hx.2
  refine pure_of Tryz.func182 en_182 rfl rfl (W_run mixed ⟨[K_194],[K_194h],[],16,0,[0,1,2,3,4,9,15],[9,15]⟩ (fun _=>[]) (by kernel_rfl) ?_)
  simp only [Tryz.f182,stripX,stripOps,pickOps]
  simp [K_194_f,K_194_e,K_194h_f,K_194h_e,K_194h_g,q1]
noncomputable def K_182:Ent Tryz.prog:=Ent.p2 (α:=Jump) (β:=Jump) 182 (fun a b=>Sm.sm a∧a=b) (fun a b=>.d (.bool true)) (fun a b hc=>(by obtain ⟨h1,rfl⟩:=hc;exact eqJump_c a h1))
theorem K_182_f:K_182.f=182:=rfl
theorem K_182_e (a0:Int) (a1:List Int) (b0:Int) (b1:List Int):K_182.e [.agg [.d (.int .i64 a0),.d (dIntS a1)],.agg [.d (.int .i64 b0),.d (dIntS b1)]]=some (Sm.sm (Jump.mk a0 a1)∧(Jump.mk a0 a1)=(Jump.mk b0 b1),.d (.bool true),[]):=by unfold K_182;exact Ent.p2_eq (α:=Jump) (β:=Jump) (Jump.mk a0 a1) (Jump.mk b0 b1)
noncomputable def K_182h:EntH Tryz.prog:=EntH.pk2 (α:=Jump) (β:=Jump) 182 (fun a b=>Sm.sm a∧a=b) (fun a b=>.d (.bool true)) (fun a b=>[]) (fun a b hc=>PureP.ans ((by obtain ⟨h1,rfl⟩:=hc;exact eqJump_c a h1)))
theorem K_182h_f:K_182h.f=182:=rfl
theorem K_182h_g:K_182h.gro=true:=rfl
theorem K_182h_e {x1 x2:V} {H:Heap}:K_182h.e [x1,x2] H=guardR ((decA (α:=Jump) H x1).1∧(decA (α:=Jump) H x2).1) (peekR (Sm.sm (decA (α:=Jump) H x1).2∧(decA (α:=Jump) H x1).2=(decA (α:=Jump) H x2).2) (.d (.bool true)) ([]) H):=rfl
theorem eqJumpS_c (l:List Jump) (hl:Sm.sm l):PureP Tryz.prog 150 [.d (dJumpS l),.d (dJumpS l)] (· = .d (.bool true)):=by
  have hlen:=small_len hl
  have hg:=small_get hl
  refine pure_of Tryz.func150 en_150 rfl rfl (W_run mixed ⟨[K_182],[K_182h],[],27,0,[0,1,4,5,10,14,26],[10,14,26]⟩ (fun | 6=>[0,1,2,4,5,6,3,7,8,9] | _=>[]) (by kernel_rfl) ?_)
  simp only [Tryz.f150,stripX,stripOps,pickOps]
  simp [K_182_f,K_182_e,K_182h_f,K_182h_e,K_182h_g]
  refine W_loopA (fun a:Nat=>[(0,.d (dJumpS l)),(1,.d (dJumpS l)),(5,.d (.int .i64 a))]) (fun _=>[]) (fun a=>a≤l.length) (fun a=>l.length - a) 0 ?_ ?_ ?_
  · simp
  · simp
  · intro i hi
    refine W_run mixed ⟨[K_182],[K_182h],[],27,0,[0,1,4,5,10,14,26],[10,14,26]⟩ (fun | 6=>[0,1,2,4,5,6,3,7,8,9] | _=>[]) (by kernel_rfl) ?_
    simp only [stripX,stripOps,pickOps]
    simp [K_182_f,K_182_e,K_182h_f,K_182h_e,K_182h_g,hg]
    intro h
    exact ⟨h,i + 1,by omega,by omega,by rw [wrap_id] <;> omega⟩
noncomputable def K_150:Ent Tryz.prog:=Ent.p2 (α:=List Jump) (β:=List Jump) 150 (fun a b=>Sm.sm a∧a=b) (fun a b=>.d (.bool true)) (fun a b hc=>(by obtain ⟨h1,rfl⟩:=hc;exact eqJumpS_c a h1))
theorem K_150_f:K_150.f=150:=rfl
theorem K_150_e (a:List Jump) (b:List Jump):K_150.e [.d (dJumpS a),.d (dJumpS b)]=some (Sm.sm a∧a=b,.d (.bool true),[]):=by unfold K_150;exact Ent.p2_eq (α:=List Jump) (β:=List Jump) a b
noncomputable def K_150h:EntH Tryz.prog:=EntH.pk2 (α:=List Jump) (β:=List Jump) 150 (fun a b=>Sm.sm a∧a=b) (fun a b=>.d (.bool true)) (fun a b=>[]) (fun a b hc=>PureP.ans ((by obtain ⟨h1,rfl⟩:=hc;exact eqJumpS_c a h1)))
theorem K_150h_f:K_150h.f=150:=rfl
theorem K_150h_g:K_150h.gro=true:=rfl
theorem K_150h_e {x1 x2:V} {H:Heap}:K_150h.e [x1,x2] H=guardR ((decA (α:=List Jump) H x1).1∧(decA (α:=List Jump) H x2).1) (peekR (Sm.sm (decA (α:=List Jump) H x1).2∧(decA (α:=List Jump) H x1).2=(decA (α:=List Jump) H x2).2) (.d (.bool true)) ([]) H):=rfl
theorem eqBlock_c (x:Block) (hx:Sm.sm x):PureP Tryz.prog 93 [vBlock x,vBlock x] (· = .d (.bool true)):=by
  have q1:Sm.sm x.insts_:=hx.2.1
  have q4:Sm.sm x.jumps_:=hx.2.2.2.2
  refine pure_of Tryz.func93 en_93 rfl rfl (W_run mixed ⟨[K_149,K_150],[K_149h,K_150h],[],32,0,[0,1,2,3,4,9,15,20,25,31],[9,15,20,25,31]⟩ (fun _=>[]) (by kernel_rfl) ?_)
  simp only [Tryz.f93,stripX,stripOps,pickOps]
  simp [K_149_f,K_149_e,K_150_f,K_150_e,K_149h_f,K_149h_e,K_150h_f,K_150h_e,K_149h_g,K_150h_g,q1,q4]
noncomputable def K_93:Ent Tryz.prog:=Ent.p2 (α:=Block) (β:=Block) 93 (fun a b=>Sm.sm a∧a=b) (fun a b=>.d (.bool true)) (fun a b hc=>(by obtain ⟨h1,rfl⟩:=hc;exact eqBlock_c a h1))
theorem K_93_f:K_93.f=93:=rfl
theorem K_93_e (a0:Int) (a1:List Inst) (a2:Int) (a3:Int) (a4:List Jump) (b0:Int) (b1:List Inst) (b2:Int) (b3:Int) (b4:List Jump):K_93.e [.agg [.d (.int .i64 a0),.d (dInstS a1),.d (.int .i64 a2),.d (.int .i64 a3),.d (dJumpS a4)],.agg [.d (.int .i64 b0),.d (dInstS b1),.d (.int .i64 b2),.d (.int .i64 b3),.d (dJumpS b4)]]=some (Sm.sm (Block.mk a0 a1 a2 a3 a4)∧(Block.mk a0 a1 a2 a3 a4)=(Block.mk b0 b1 b2 b3 b4),.d (.bool true),[]):=by unfold K_93;exact Ent.p2_eq (α:=Block) (β:=Block) (Block.mk a0 a1 a2 a3 a4) (Block.mk b0 b1 b2 b3 b4)
noncomputable def K_93h:EntH Tryz.prog:=EntH.pk2 (α:=Block) (β:=Block) 93 (fun a b=>Sm.sm a∧a=b) (fun a b=>.d (.bool true)) (fun a b=>[]) (fun a b hc=>PureP.ans ((by obtain ⟨h1,rfl⟩:=hc;exact eqBlock_c a h1)))
theorem K_93h_f:K_93h.f=93:=rfl
theorem K_93h_g:K_93h.gro=true:=rfl
theorem K_93h_e {x1 x2:V} {H:Heap}:K_93h.e [x1,x2] H=guardR ((decA (α:=Block) H x1).1∧(decA (α:=Block) H x2).1) (peekR (Sm.sm (decA (α:=Block) H x1).2∧(decA (α:=Block) H x1).2=(decA (α:=Block) H x2).2) (.d (.bool true)) ([]) H):=rfl
theorem eqBlockS_c (l:List Block) (hl:Sm.sm l):PureP Tryz.prog 50 [.d (dBlockS l),.d (dBlockS l)] (· = .d (.bool true)):=by
  have hlen:=small_len hl
  have hg:=small_get hl
  refine pure_of Tryz.func50 en_50 rfl rfl (W_run mixed ⟨[K_93],[K_93h],[],27,0,[0,1,4,5,10,14,26],[10,14,26]⟩ (fun | 6=>[0,1,2,4,5,6,3,7,8,9] | _=>[]) (by kernel_rfl) ?_)
  simp only [Tryz.f50,stripX,stripOps,pickOps]
  simp [K_93_f,K_93_e,K_93h_f,K_93h_e,K_93h_g]
  refine W_loopA (fun a:Nat=>[(0,.d (dBlockS l)),(1,.d (dBlockS l)),(5,.d (.int .i64 a))]) (fun _=>[]) (fun a=>a≤l.length) (fun a=>l.length - a) 0 ?_ ?_ ?_
  · simp
  · simp
  · intro i hi
    refine W_run mixed ⟨[K_93],[K_93h],[],27,0,[0,1,4,5,10,14,26],[10,14,26]⟩ (fun | 6=>[0,1,2,4,5,6,3,7,8,9] | _=>[]) (by kernel_rfl) ?_
    simp only [stripX,stripOps,pickOps]
    simp [K_93_f,K_93_e,K_93h_f,K_93h_e,K_93h_g,hg]
    intro h
    exact ⟨h,i + 1,by omega,by omega,by rw [wrap_id] <;> omega⟩
noncomputable def K_50:Ent Tryz.prog:=Ent.p2 (α:=List Block) (β:=List Block) 50 (fun a b=>Sm.sm a∧a=b) (fun a b=>.d (.bool true)) (fun a b hc=>(by obtain ⟨h1,rfl⟩:=hc;exact eqBlockS_c a h1))
theorem K_50_f:K_50.f=50:=rfl
theorem K_50_e (a:List Block) (b:List Block):K_50.e [.d (dBlockS a),.d (dBlockS b)]=some (Sm.sm a∧a=b,.d (.bool true),[]):=by unfold K_50;exact Ent.p2_eq (α:=List Block) (β:=List Block) a b
noncomputable def K_50h:EntH Tryz.prog:=EntH.pk2 (α:=List Block) (β:=List Block) 50 (fun a b=>Sm.sm a∧a=b) (fun a b=>.d (.bool true)) (fun a b=>[]) (fun a b hc=>PureP.ans ((by obtain ⟨h1,rfl⟩:=hc;exact eqBlockS_c a h1)))
theorem K_50h_f:K_50h.f=50:=rfl
theorem K_50h_g:K_50h.gro=true:=rfl
theorem K_50h_e {x1 x2:V} {H:Heap}:K_50h.e [x1,x2] H=guardR ((decA (α:=List Block) H x1).1∧(decA (α:=List Block) H x2).1) (peekR (Sm.sm (decA (α:=List Block) H x1).2∧(decA (α:=List Block) H x1).2=(decA (α:=List Block) H x2).2) (.d (.bool true)) ([]) H):=rfl
theorem eqFunc_c (x:Func) (hx:Sm.sm x):PureP Tryz.prog 18 [vFunc x,vFunc x] (· = .d (.bool true)):=by
  have q1:Sm.sm x.blocks_:=hx.2
  refine pure_of Tryz.func18 en_18 rfl rfl (W_run mixed ⟨[K_50],[K_50h],[],16,0,[0,1,2,3,4,9,15],[9,15]⟩ (fun _=>[]) (by kernel_rfl) ?_)
  simp only [Tryz.f18,stripX,stripOps,pickOps]
  simp [K_50_f,K_50_e,K_50h_f,K_50h_e,K_50h_g,q1]
noncomputable def K_18:Ent Tryz.prog:=Ent.p2 (α:=Func) (β:=Func) 18 (fun a b=>Sm.sm a∧a=b) (fun a b=>.d (.bool true)) (fun a b hc=>(by obtain ⟨h1,rfl⟩:=hc;exact eqFunc_c a h1))
theorem K_18_f:K_18.f=18:=rfl
theorem K_18_e (a0:Int) (a1:List Block) (b0:Int) (b1:List Block):K_18.e [.agg [.d (.int .i64 a0),.d (dBlockS a1)],.agg [.d (.int .i64 b0),.d (dBlockS b1)]]=some (Sm.sm (Func.mk a0 a1)∧(Func.mk a0 a1)=(Func.mk b0 b1),.d (.bool true),[]):=by unfold K_18;exact Ent.p2_eq (α:=Func) (β:=Func) (Func.mk a0 a1) (Func.mk b0 b1)
noncomputable def K_18h:EntH Tryz.prog:=EntH.pk2 (α:=Func) (β:=Func) 18 (fun a b=>Sm.sm a∧a=b) (fun a b=>.d (.bool true)) (fun a b=>[]) (fun a b hc=>PureP.ans ((by obtain ⟨h1,rfl⟩:=hc;exact eqFunc_c a h1)))
theorem K_18h_f:K_18h.f=18:=rfl
theorem K_18h_g:K_18h.gro=true:=rfl
theorem K_18h_e {x1 x2:V} {H:Heap}:K_18h.e [x1,x2] H=guardR ((decA (α:=Func) H x1).1∧(decA (α:=Func) H x2).1) (peekR (Sm.sm (decA (α:=Func) H x1).2∧(decA (α:=Func) H x1).2=(decA (α:=Func) H x2).2) (.d (.bool true)) ([]) H):=rfl
end Go.Proofs.YtbmloeahcdneaaaGreat
