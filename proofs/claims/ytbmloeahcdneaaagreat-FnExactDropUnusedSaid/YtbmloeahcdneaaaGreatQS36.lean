/- The laws' looks at marks: held.., contracts over closed data. No condition. -/
import Derived.Test.YtbmloeahcdneaaaGreatQS33
namespace Go.Proofs.YtbmloeahcdneaaaGreat
set_option maxRecDepth 100000
set_option linter.unusedSimpArgs false
set_option linter.unusedVariables false
theorem mkL_cons {β:Type} {f:β→Int→β × Int} {x:β} {l:List β} {k T:Int} (h:mkL f (x :: l) k=(x :: l,T)):(f x k).1=x∧mkL f l (f x k).2=(l,T):=by
  simp only [mkL,Prod.mk.injEq,List.cons.injEq] at h
  exact ⟨h.1.1,Prod.ext h.1.2 h.2⟩
theorem mkL_fix {β:Type} {f:β→Int→β × Int} {l:List β} {k:Int} (h:(mkL f l k).1=l):mkL f (l.drop 0) k=(l.drop 0,(mkL f l k).2):=Prod.ext h rfl
theorem heldInstS_c (l:List Inst) (k:Int) (h:(mkL mInst l k).1=l) (h0:0≤k) (hb:(mkL mInst l k).2≤4000000000000000000):PureP Tryz.prog 96 [.d (dInstS l),.d (.int .i64 k)] (· = .d (.int .i64 (mkL mInst l k).2)):=by
  have hl:=len_mInst l k
  refine pure_of Tryz.func96 en_96 rfl rfl (W_run mixed ⟨[K_152],[K_152h],[],40,0,[0,1,4,5,9,18,27,38],[9,18,27,38]⟩ (fun _=>[]) (by kernel_rfl) ?_)
  simp only [Tryz.f96,stripX,stripOps,pickOps]
  simp [K_152_f,K_152_e,K_152h_f,K_152h_e,K_152h_g]
  refine W_loopA (α:=Nat × Int) (fun a=>[(0,.d (dInstS l)),(1,.d (.int .i64 a.2)),(5,.d (.int .i64 a.1))]) (fun _=>[]) (fun a=>a.1≤l.length∧0≤a.2∧mkL mInst (l.drop a.1) a.2=(l.drop a.1,(mkL mInst l k).2)) (fun a=>l.length - a.1) (0,k) ?_ ?_ ?_
  · simp
  · exact ⟨Nat.zero_le _,h0,mkL_fix h⟩
  rintro ⟨i,j⟩ ⟨hi,hj,hT⟩
  dsimp only at hi hj hT
  by_cases hil:i < l.length
  · rw [drop_cons hil] at hT
    obtain ⟨hx,hr⟩:=mkL_cons hT
    have hmo:=mInst_mono (l.drop (i + 1)) (mInst (l[i]?.getD default) j).2
    rw [hr] at hmo
    have hja:(mInst (l[i]?.getD default) j).2=j + 1 + 1 + (l[i]?.getD default).args_.length:=by show (mkL mI (l[i]?.getD default).args_ (j + 1 + 1)).2=_;rw [len_mI]
    have e1:(l[i]?.getD default).op_=j:=(congrArg Inst.op_ hx).symm
    have e2:(l[i]?.getD default).n_=j + 1:=(congrArg Inst.n_ hx).symm
    have e3:(mkL mI (l[i]?.getD default).args_ (j + 1 + 1)).1=(l[i]?.getD default).args_:=congrArg Inst.args_ hx
    have e4:(mInst (l[i]?.getD default) j).2=(mkL mI (l[i]?.getD default).args_ (j + 1 + 1)).2:=rfl
    rw [e4] at hja hr hmo
    dsimp only at hmo
    have w1:IntKind.i64.wrap (j + 1)=j + 1:=by rw [wrap_id] <;> omega
    have w2:IntKind.i64.wrap (j + 1 + 1)=j + 1 + 1:=by rw [wrap_id] <;> omega
    have hle:(mkL mI (l[i]?.getD default).args_ (j + 1 + 1)).2≤4000000000000000000:=by omega
    have hp:¬ (mkL mI (l[i]?.getD default).args_ (j + 1 + 1)).2 < 0:=by omega
    have hj2:0≤j + 1 + 1:=by omega
    refine W_run mixed ⟨[K_152],[K_152h],[],40,0,[0,1,4,5,9,18,27,38],[9,18,27,38]⟩ (fun _=>[]) (by kernel_rfl) ?_
    simp only [stripX,stripOps,pickOps]
    simp [K_152_f,K_152_e,K_152h_f,K_152h_e,K_152h_g,w1,w2,e1,e2,e3,hle,hp,hj2]
    refine ⟨fun h=>⟨h,i + 1,_,⟨by omega,by omega,hr⟩,by omega,rfl,by rw [wrap_id] <;> omega⟩,fun h=>by omega⟩
  · refine W_run mixed ⟨[K_152],[K_152h],[],40,0,[0,1,4,5,9,18,27,38],[9,18,27,38]⟩ (fun _=>[]) (by kernel_rfl) ?_
    simp only [stripX,stripOps,pickOps]
    simp [K_152_f,K_152_e,K_152h_f,K_152h_e,K_152h_g,hil]
    rw [List.drop_eq_nil_of_le (by omega)] at hT
    exact (congrArg Prod.snd hT)
noncomputable def K_96:Ent Tryz.prog:=Ent.p2 (α:=List Inst) (β:=Int) 96 (fun l k=>(mkL mInst l k).1=l∧0≤k∧(mkL mInst l k).2≤4000000000000000000) (fun l k=>.d (.int .i64 (mkL mInst l k).2)) (fun l k hc=>heldInstS_c l k hc.1 hc.2.1 hc.2.2)
theorem K_96_f:K_96.f=96:=rfl
theorem K_96_e (l:List Inst) (k:Int):K_96.e [.d (dInstS l),.d (.int .i64 k)]=some ((mkL mInst l k).1=l∧0≤k∧(mkL mInst l k).2≤4000000000000000000,.d (.int .i64 (mkL mInst l k).2),[]):=by unfold K_96;exact Ent.p2_eq (α:=List Inst) (β:=Int) l k
noncomputable def K_96h:EntH Tryz.prog:=EntH.pk2 (α:=List Inst) (β:=Int) 96 (fun l k=>(mkL mInst l k).1=l∧0≤k∧(mkL mInst l k).2≤4000000000000000000) (fun l k=>.d (.int .i64 (mkL mInst l k).2)) (fun l k=>[]) (fun l k hc=>PureP.ans (heldInstS_c l k hc.1 hc.2.1 hc.2.2))
theorem K_96h_f:K_96h.f=96:=rfl
theorem K_96h_g:K_96h.gro=true:=rfl
theorem K_96h_e {x1 x2:V} {H:Heap}:K_96h.e [x1,x2] H=guardR ((decA (α:=List Inst) H x1).1∧(decA (α:=Int) H x2).1) (peekR ((mkL mInst (decA (α:=List Inst) H x1).2 (decA (α:=Int) H x2).2).1=(decA (α:=List Inst) H x1).2∧0≤(decA (α:=Int) H x2).2∧(mkL mInst (decA (α:=List Inst) H x1).2 (decA (α:=Int) H x2).2).2≤4000000000000000000) (.d (.int .i64 (mkL mInst (decA (α:=List Inst) H x1).2 (decA (α:=Int) H x2).2).2)) ([]) H):=rfl
theorem heldJumpS_c (l:List Jump) (k:Int) (h:(mkL mJump l k).1=l) (h0:0≤k) (hb:(mkL mJump l k).2≤4000000000000000000):PureP Tryz.prog 97 [.d (dJumpS l),.d (.int .i64 k)] (· = .d (.int .i64 (mkL mJump l k).2)):=by
  have hl:=len_mJump l k
  refine pure_of Tryz.func97 en_97 rfl rfl (W_run mixed ⟨[K_152],[K_152h],[],31,0,[0,1,4,5,9,18,29],[9,18,29]⟩ (fun _=>[]) (by kernel_rfl) ?_)
  simp only [Tryz.f97,stripX,stripOps,pickOps]
  simp [K_152_f,K_152_e,K_152h_f,K_152h_e,K_152h_g]
  refine W_loopA (α:=Nat × Int) (fun a=>[(0,.d (dJumpS l)),(1,.d (.int .i64 a.2)),(5,.d (.int .i64 a.1))]) (fun _=>[]) (fun a=>a.1≤l.length∧0≤a.2∧mkL mJump (l.drop a.1) a.2=(l.drop a.1,(mkL mJump l k).2)) (fun a=>l.length - a.1) (0,k) ?_ ?_ ?_
  · simp
  · exact ⟨Nat.zero_le _,h0,mkL_fix h⟩
  rintro ⟨i,j⟩ ⟨hi,hj,hT⟩
  dsimp only at hi hj hT
  by_cases hil:i < l.length
  · rw [drop_cons hil] at hT
    obtain ⟨hx,hr⟩:=mkL_cons hT
    have hmo:=mJump_mono (l.drop (i + 1)) (mJump (l[i]?.getD default) j).2
    rw [hr] at hmo
    have hja:(mJump (l[i]?.getD default) j).2=j + 1 + (l[i]?.getD default).args_.length:=by show (mkL mI (l[i]?.getD default).args_ (j + 1)).2=_;rw [len_mI]
    have e1:(l[i]?.getD default).to_=j:=(congrArg Jump.to_ hx).symm
    have e3:(mkL mI (l[i]?.getD default).args_ (j + 1)).1=(l[i]?.getD default).args_:=congrArg Jump.args_ hx
    have e4:(mJump (l[i]?.getD default) j).2=(mkL mI (l[i]?.getD default).args_ (j + 1)).2:=rfl
    rw [e4] at hja hr hmo
    dsimp only at hmo
    have w1:IntKind.i64.wrap (j + 1)=j + 1:=by rw [wrap_id] <;> omega
    have hle:(mkL mI (l[i]?.getD default).args_ (j + 1)).2≤4000000000000000000:=by omega
    have hp:¬ (mkL mI (l[i]?.getD default).args_ (j + 1)).2 < 0:=by omega
    have hj2:0≤j + 1:=by omega
    refine W_run mixed ⟨[K_152],[K_152h],[],31,0,[0,1,4,5,9,18,29],[9,18,29]⟩ (fun _=>[]) (by kernel_rfl) ?_
    simp only [stripX,stripOps,pickOps]
    simp [K_152_f,K_152_e,K_152h_f,K_152h_e,K_152h_g,w1,e1,e3,hle,hp,hj2]
    refine ⟨fun h=>⟨h,i + 1,_,⟨by omega,by omega,hr⟩,by omega,rfl,by rw [wrap_id] <;> omega⟩,fun h=>by omega⟩
  · refine W_run mixed ⟨[K_152],[K_152h],[],31,0,[0,1,4,5,9,18,29],[9,18,29]⟩ (fun _=>[]) (by kernel_rfl) ?_
    simp only [stripX,stripOps,pickOps]
    simp [K_152_f,K_152_e,K_152h_f,K_152h_e,K_152h_g,hil]
    rw [List.drop_eq_nil_of_le (by omega)] at hT
    exact (congrArg Prod.snd hT)
noncomputable def K_97:Ent Tryz.prog:=Ent.p2 (α:=List Jump) (β:=Int) 97 (fun l k=>(mkL mJump l k).1=l∧0≤k∧(mkL mJump l k).2≤4000000000000000000) (fun l k=>.d (.int .i64 (mkL mJump l k).2)) (fun l k hc=>heldJumpS_c l k hc.1 hc.2.1 hc.2.2)
theorem K_97_f:K_97.f=97:=rfl
theorem K_97_e (l:List Jump) (k:Int):K_97.e [.d (dJumpS l),.d (.int .i64 k)]=some ((mkL mJump l k).1=l∧0≤k∧(mkL mJump l k).2≤4000000000000000000,.d (.int .i64 (mkL mJump l k).2),[]):=by unfold K_97;exact Ent.p2_eq (α:=List Jump) (β:=Int) l k
noncomputable def K_97h:EntH Tryz.prog:=EntH.pk2 (α:=List Jump) (β:=Int) 97 (fun l k=>(mkL mJump l k).1=l∧0≤k∧(mkL mJump l k).2≤4000000000000000000) (fun l k=>.d (.int .i64 (mkL mJump l k).2)) (fun l k=>[]) (fun l k hc=>PureP.ans (heldJumpS_c l k hc.1 hc.2.1 hc.2.2))
theorem K_97h_f:K_97h.f=97:=rfl
theorem K_97h_g:K_97h.gro=true:=rfl
theorem K_97h_e {x1 x2:V} {H:Heap}:K_97h.e [x1,x2] H=guardR ((decA (α:=List Jump) H x1).1∧(decA (α:=Int) H x2).1) (peekR ((mkL mJump (decA (α:=List Jump) H x1).2 (decA (α:=Int) H x2).2).1=(decA (α:=List Jump) H x1).2∧0≤(decA (α:=Int) H x2).2∧(mkL mJump (decA (α:=List Jump) H x1).2 (decA (α:=Int) H x2).2).2≤4000000000000000000) (.d (.int .i64 (mkL mJump (decA (α:=List Jump) H x1).2 (decA (α:=Int) H x2).2).2)) ([]) H):=rfl
theorem len_mBlock (l:List Block):∀ k,k + l.length≤(mkL mBlock l k).2:=by
  induction l with
  | nil=>intro k;simp [mkL]
  | cons a l ih =>
    intro k
    have h1:=ih (mBlock a k).2
    have h2:=len_mInst a.insts_ (k + 1)
    have h3:=len_mJump a.jumps_ ((mkL mInst a.insts_ (k + 1)).2 + 1 + 1)
    have e:(mBlock a k).2=(mkL mJump a.jumps_ ((mkL mInst a.insts_ (k + 1)).2 + 1 + 1)).2:=rfl
    simp only [mkL,List.length_cons];omega
theorem heldBlockS_c (l:List Block) (k:Int) (h:(mkL mBlock l k).1=l) (h0:0≤k) (hb:(mkL mBlock l k).2≤4000000000000000000):PureP Tryz.prog 52 [.d (dBlockS l),.d (.int .i64 k)] (· = .d (.int .i64 (mkL mBlock l k).2)):=by
  have hl:=len_mBlock l k
  refine pure_of Tryz.func52 en_52 rfl rfl (W_run mixed ⟨[K_96,K_97],[K_96h,K_97h],[],58,0,[0,1,4,5,9,18,29,36,45,56],[9,18,29,36,45,56]⟩ (fun _=>[]) (by kernel_rfl) ?_)
  simp only [Tryz.f52,stripX,stripOps,pickOps]
  simp [K_96_f,K_96_e,K_97_f,K_97_e,K_96h_f,K_96h_e,K_97h_f,K_97h_e,K_96h_g,K_97h_g]
  refine W_loopA (α:=Nat × Int) (fun a=>[(0,.d (dBlockS l)),(1,.d (.int .i64 a.2)),(5,.d (.int .i64 a.1))]) (fun _=>[]) (fun a=>a.1≤l.length∧0≤a.2∧mkL mBlock (l.drop a.1) a.2=(l.drop a.1,(mkL mBlock l k).2)) (fun a=>l.length - a.1) (0,k) ?_ ?_ ?_
  · simp
  · exact ⟨Nat.zero_le _,h0,mkL_fix h⟩
  rintro ⟨i,j⟩ ⟨hi,hj,hT⟩
  dsimp only at hi hj hT
  by_cases hil:i < l.length
  · rw [drop_cons hil] at hT
    obtain ⟨hx,hr⟩:=mkL_cons hT
    have hmo:=mBlock_mono (l.drop (i + 1)) (mBlock (l[i]?.getD default) j).2
    rw [hr] at hmo
    obtain ⟨k1,hk1⟩:∃ k1,(mkL mInst (l[i]?.getD default).insts_ (j + 1)).2=k1:=⟨_,rfl⟩
    have b1:=len_mInst (l[i]?.getD default).insts_ (j + 1)
    have b2:=len_mJump (l[i]?.getD default).jumps_ (k1 + 1 + 1)
    have e4:(mBlock (l[i]?.getD default) j).2=(mkL mJump (l[i]?.getD default).jumps_ (k1 + 1 + 1)).2:=by rw [← hk1];rfl
    have e1:(l[i]?.getD default).params_=j:=(congrArg Block.params_ hx).symm
    have e2:(mkL mInst (l[i]?.getD default).insts_ (j + 1)).1=(l[i]?.getD default).insts_:=congrArg Block.insts_ hx
    have e3:(l[i]?.getD default).end_=k1:=by rw [← hk1];exact (congrArg Block.end_ hx).symm
    have e5:(l[i]?.getD default).value_=k1 + 1:=by rw [← hk1];exact (congrArg Block.value_ hx).symm
    have e6:(mkL mJump (l[i]?.getD default).jumps_ (k1 + 1 + 1)).1=(l[i]?.getD default).jumps_:=by rw [← hk1];exact congrArg Block.jumps_ hx
    rw [e4] at hr hmo
    dsimp only at hmo
    rw [hk1] at b1
    have w1:IntKind.i64.wrap (j + 1)=j + 1:=by rw [wrap_id] <;> omega
    have w2:IntKind.i64.wrap (k1 + 1)=k1 + 1:=by rw [wrap_id] <;> omega
    have w3:IntKind.i64.wrap (k1 + 1 + 1)=k1 + 1 + 1:=by rw [wrap_id] <;> omega
    have g1:k1≤4000000000000000000:=by omega
    have g2:¬ k1 < 0:=by omega
    have g3:0≤j + 1:=by omega
    have g4:0≤k1 + 1 + 1:=by omega
    have g5:(mkL mJump (l[i]?.getD default).jumps_ (k1 + 1 + 1)).2≤4000000000000000000:=by omega
    have g6:¬ (mkL mJump (l[i]?.getD default).jumps_ (k1 + 1 + 1)).2 < 0:=by omega
    refine W_run mixed ⟨[K_96,K_97],[K_96h,K_97h],[],58,0,[0,1,4,5,9,18,29,36,45,56],[9,18,29,36,45,56]⟩ (fun _=>[]) (by kernel_rfl) ?_
    simp only [stripX,stripOps,pickOps]
    simp [K_96_f,K_96_e,K_97_f,K_97_e,K_96h_f,K_96h_e,K_97h_f,K_97h_e,K_96h_g,K_97h_g,w1,w2,w3,e1,e2,e3,e5,e6,hk1,g1,g2,g3,g4,g5,g6]
    refine ⟨fun h=>⟨h,i + 1,_,⟨by omega,by omega,hr⟩,by omega,rfl,by rw [wrap_id] <;> omega⟩,fun h=>by omega⟩
  · refine W_run mixed ⟨[K_96,K_97],[K_96h,K_97h],[],58,0,[0,1,4,5,9,18,29,36,45,56],[9,18,29,36,45,56]⟩ (fun _=>[]) (by kernel_rfl) ?_
    simp only [stripX,stripOps,pickOps]
    simp [K_96_f,K_96_e,K_97_f,K_97_e,K_96h_f,K_96h_e,K_97h_f,K_97h_e,K_96h_g,K_97h_g,hil]
    rw [List.drop_eq_nil_of_le (by omega)] at hT
    exact (congrArg Prod.snd hT)
noncomputable def K_52:Ent Tryz.prog:=Ent.p2 (α:=List Block) (β:=Int) 52 (fun l k=>(mkL mBlock l k).1=l∧0≤k∧(mkL mBlock l k).2≤4000000000000000000) (fun l k=>.d (.int .i64 (mkL mBlock l k).2)) (fun l k hc=>heldBlockS_c l k hc.1 hc.2.1 hc.2.2)
theorem K_52_f:K_52.f=52:=rfl
theorem K_52_e (l:List Block) (k:Int):K_52.e [.d (dBlockS l),.d (.int .i64 k)]=some ((mkL mBlock l k).1=l∧0≤k∧(mkL mBlock l k).2≤4000000000000000000,.d (.int .i64 (mkL mBlock l k).2),[]):=by unfold K_52;exact Ent.p2_eq (α:=List Block) (β:=Int) l k
noncomputable def K_52h:EntH Tryz.prog:=EntH.pk2 (α:=List Block) (β:=Int) 52 (fun l k=>(mkL mBlock l k).1=l∧0≤k∧(mkL mBlock l k).2≤4000000000000000000) (fun l k=>.d (.int .i64 (mkL mBlock l k).2)) (fun l k=>[]) (fun l k hc=>PureP.ans (heldBlockS_c l k hc.1 hc.2.1 hc.2.2))
theorem K_52h_f:K_52h.f=52:=rfl
theorem K_52h_g:K_52h.gro=true:=rfl
theorem K_52h_e {x1 x2:V} {H:Heap}:K_52h.e [x1,x2] H=guardR ((decA (α:=List Block) H x1).1∧(decA (α:=Int) H x2).1) (peekR ((mkL mBlock (decA (α:=List Block) H x1).2 (decA (α:=Int) H x2).2).1=(decA (α:=List Block) H x1).2∧0≤(decA (α:=Int) H x2).2∧(mkL mBlock (decA (α:=List Block) H x1).2 (decA (α:=Int) H x2).2).2≤4000000000000000000) (.d (.int .i64 (mkL mBlock (decA (α:=List Block) H x1).2 (decA (α:=Int) H x2).2).2)) ([]) H):=rfl
theorem heldFunc_c (x:Func) (k:Int) (h:(mFunc x k).1=x) (h0:0≤k) (hb:(mFunc x k).2≤4000000000000000000):PureP Tryz.prog 20 [vFunc x,.d (.int .i64 k)] (· = .d (.int .i64 (mFunc x k).2)):=by
  have e1:(mkL mBlock x.blocks_ k).1=x.blocks_:=congrArg Func.blocks_ h
  have e2:(mkL mBlock x.blocks_ k).2≤4000000000000000000:=hb
  have e3:(mFunc x k).2=(mkL mBlock x.blocks_ k).2:=rfl
  have e4:=mBlock_mono x.blocks_ k
  have e5:¬ (mkL mBlock x.blocks_ k).2 < 0:=by omega
  refine pure_of Tryz.func20 en_20 rfl rfl (W_run mixed ⟨[K_52],[K_52h],[],12,0,[0,1,2,4,10],[10]⟩ (fun _=>[]) (by kernel_rfl) ?_)
  simp only [Tryz.f20,stripX,stripOps,pickOps]
  simp [K_52_f,K_52_e,K_52h_f,K_52h_e,K_52h_g,e1,e2,h0,e5,e3]
noncomputable def K_20:Ent Tryz.prog:=Ent.p2 (α:=Func) (β:=Int) 20 (fun x k=>(mFunc x k).1=x∧0≤k∧(mFunc x k).2≤4000000000000000000) (fun x k=>.d (.int .i64 (mFunc x k).2)) (fun x k hc=>heldFunc_c x k hc.1 hc.2.1 hc.2.2)
theorem K_20_f:K_20.f=20:=rfl
theorem K_20_e (x0:Int) (x1:List Block) (k:Int):K_20.e [.agg [.d (.int .i64 x0),.d (dBlockS x1)],.d (.int .i64 k)]=some ((mFunc (Func.mk x0 x1) k).1=(Func.mk x0 x1)∧0≤k∧(mFunc (Func.mk x0 x1) k).2≤4000000000000000000,.d (.int .i64 (mFunc (Func.mk x0 x1) k).2),[]):=by unfold K_20;exact Ent.p2_eq (α:=Func) (β:=Int) (Func.mk x0 x1) k
noncomputable def K_20h:EntH Tryz.prog:=EntH.pk2 (α:=Func) (β:=Int) 20 (fun x k=>(mFunc x k).1=x∧0≤k∧(mFunc x k).2≤4000000000000000000) (fun x k=>.d (.int .i64 (mFunc x k).2)) (fun x k=>[]) (fun x k hc=>PureP.ans (heldFunc_c x k hc.1 hc.2.1 hc.2.2))
theorem K_20h_f:K_20h.f=20:=rfl
theorem K_20h_g:K_20h.gro=true:=rfl
theorem K_20h_e {x1 x2:V} {H:Heap}:K_20h.e [x1,x2] H=guardR ((decA (α:=Func) H x1).1∧(decA (α:=Int) H x2).1) (peekR ((mFunc (decA (α:=Func) H x1).2 (decA (α:=Int) H x2).2).1=(decA (α:=Func) H x1).2∧0≤(decA (α:=Int) H x2).2∧(mFunc (decA (α:=Func) H x1).2 (decA (α:=Int) H x2).2).2≤4000000000000000000) (.d (.int .i64 (mFunc (decA (α:=Func) H x1).2 (decA (α:=Int) H x2).2).2)) ([]) H):=rfl
end Go.Proofs.YtbmloeahcdneaaaGreat
