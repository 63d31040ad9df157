/- Contracts of both programs' look at a value's instruction, and of IsPure. No condition. -/
import Derived.Test.YtnomiclfiijniaaGreatQS6
namespace Go.Proofs.YtnomiclfiijniaaGreat
set_option maxRecDepth 100000
set_option linter.unusedSimpArgs false
set_option linter.unusedVariables false
def bk (v:View) (n:Int):Int:=v.block_[n.toNat]?.getD 0
def blkAt (v:View) (n:Int):Block:=v.blocks_[(bk v n).toNat]?.getD default
def atV (v:View) (n:Int):Int:=IntKind.i64.wrap (IntKind.i64.wrap (n - (v.first_[(bk v n).toNat]?.getD 0)) - (blkAt v n).params_)
def instI (v:View) (n:Int):Inst:=(blkAt v n).insts_[(atV v n).toNat]?.getD default
def okV (v:View) (n:Int):Prop:=(0≤n∧n < v.block_.length)∧(0≤bk v n→bk v n < v.first_.length∧bk v n < v.blocks_.length∧(0≤atV v n→atV v n < (blkAt v n).insts_.length))
def instV (v:View) (n:Int):V :=
  if bk v n < 0 then .tup [.d .nilp,.d (.int .i64 (-1)),.d (.int .i64 (-1))] else if atV v n < 0 then .tup [.d .nilp,.d (.int .i64 (bk v n)),.d (.int .i64 (atV v n))]
  else .tup [.d (.rp 3 (dInst (instI v n))),.d (.int .i64 (bk v n)),.d (.int .i64 (atV v n))]
theorem inst_c (v:View) (n:Int) (h:okV v n):PureP Tryz.prog 57 [.d (.rp 5 (dView v)),.d (.int .i64 n)] (· = instV v n):=by
  obtain ⟨h1,h2⟩:=h
  have e1:v.block_[n.toNat]?.getD 0=bk v n:=rfl
  have e2:v.blocks_[(bk v n).toNat]?.getD default=blkAt v n:=rfl
  have e3:IntKind.i64.wrap (IntKind.i64.wrap (n - (v.first_[(bk v n).toNat]?.getD 0)) - (blkAt v n).params_)=atV v n:=rfl
  have e4:(blkAt v n).insts_[(atV v n).toNat]?.getD default=instI v n:=rfl
  refine pure_of Tryz.func57 en_57 rfl rfl (W_run mixed ⟨[],[],[],54,0,[0,1,4,5,6,7,8,17,38],[17,38]⟩ (fun | 4=>[0,1,2,3,5,9,10,11,12,14,4,6,7,8,13,15,16,17,18,19] | _=>[]) (by kernel_rfl) ?_)
  simp only [Tryz.f57,stripX,stripOps,pickOps]
  simp [e1,e2,e3,e4]
  refine ⟨h1,fun q=>by simp [instV,q],fun q=>?_⟩
  obtain ⟨h3,h4,h5⟩:=h2 q
  refine ⟨⟨q,h3⟩,⟨q,h4⟩,fun q2=>?_,fun q2=>⟨⟨q,h4⟩,⟨q2,h5 q2⟩, ?_⟩⟩
  · have:¬ bk v n < 0:=by omega
    simp [instV,this,q2]
  · have q3:¬ bk v n < 0:=by omega
    have q4:¬ atV v n < 0:=by omega
    simp [instV,q3,q4]
noncomputable def K_57:Ent Tryz.prog:=Ent.p2 (α:=Ptr View) (β:=Int) 57 (fun v n=>okV v.v n) (fun v n=>instV v.v n) (fun v n hc=>inst_c v.v n hc)
theorem K_57_f:K_57.f=57:=rfl
theorem K_57_e (v:View) (n:Int):K_57.e [.d (.rp 5 (dView v)),.d (.int .i64 n)]=some (okV v n,instV v n,[]):=by unfold K_57;exact Ent.p2_eq (α:=Ptr View) (β:=Int) (Ptr.mk v) n
noncomputable def K_57h:EntH Tryz.prog:=EntH.pk2 (α:=Ptr View) (β:=Int) 57 (fun v n=>okV v.v n) (fun v n=>instV v.v n) (fun v n=>[]) (fun v n hc=>PureP.ans (inst_c v.v n hc))
theorem K_57h_f:K_57h.f=57:=rfl
theorem K_57h_g:K_57h.gro=true:=rfl
theorem K_57h_e {x1 x2:V} {H:Heap}:K_57h.e [x1,x2] H=guardR ((decA (α:=Ptr View) H x1).1∧(decA (α:=Int) H x2).1) (peekR (okV (decA (α:=Ptr View) H x1).2.v (decA (α:=Int) H x2).2) (instV (decA (α:=Ptr View) H x1).2.v (decA (α:=Int) H x2).2) ([]) H):=rfl
def pureOp (op:Int):Bool:=!decide (op=8) && (!decide (op=12) && !decide (op=13))
def pureV (v:View) (n:Int):Bool:=decide (0≤bk v n) && (decide (0≤atV v n) && pureOp (instI v n).op_)
theorem pureV_c (v:View) (n:Int) (h:okV v n):PureP Tryz.prog 54 [.d (.rp 5 (dView v)),.d (.int .i64 n)] (· = .d (.bool (pureV v n))):=by
  by_cases q:bk v n < 0
  · have q':¬ 0≤bk v n:=by omega
    refine pure_of Tryz.func54 en_54 rfl rfl (W_run mixed ⟨[K_57],[K_57h],[],38,0,[0,1,4,5],[17,24,31]⟩ (fun _=>[]) (by kernel_rfl) ?_)
    simp only [Tryz.f54,stripX,stripOps,pickOps]
    simp [K_57_f,K_57_e,K_57h_f,K_57h_e,K_57h_g,h,instV,q]
    simp [pureV,q']
  have q':0≤bk v n:=by omega
  by_cases q2:atV v n < 0
  · have q2':¬ 0≤atV v n:=by omega
    refine pure_of Tryz.func54 en_54 rfl rfl (W_run mixed ⟨[K_57],[K_57h],[],38,0,[0,1,4,5],[17,24,31]⟩ (fun _=>[]) (by kernel_rfl) ?_)
    simp only [Tryz.f54,stripX,stripOps,pickOps]
    simp [K_57_f,K_57_e,K_57h_f,K_57h_e,K_57h_g,h,instV,q,q2]
    simp [pureV,q2']
  · have q2':0≤atV v n:=by omega
    refine pure_of Tryz.func54 en_54 rfl rfl (W_run mixed ⟨[K_57],[K_57h],[],38,0,[0,1,4,5],[17,24,31]⟩ (fun _=>[]) (by kernel_rfl) ?_)
    simp only [Tryz.f54,stripX,stripOps,pickOps]
    simp [K_57_f,K_57_e,K_57h_f,K_57h_e,K_57h_g,h,instV,q,q2]
    repeat' first | apply And.intro | intro _
    all_goals simp [pureV,pureOp, *]
noncomputable def K_54:Ent Tryz.prog:=Ent.p2 (α:=Ptr View) (β:=Int) 54 (fun v n=>okV v.v n) (fun v n=>.d (.bool (pureV v.v n))) (fun v n hc=>pureV_c v.v n hc)
theorem K_54_f:K_54.f=54:=rfl
theorem K_54_e (v:View) (n:Int):K_54.e [.d (.rp 5 (dView v)),.d (.int .i64 n)]=some (okV v n,.d (.bool (pureV v n)),[]):=by unfold K_54;exact Ent.p2_eq (α:=Ptr View) (β:=Int) (Ptr.mk v) n
noncomputable def K_54h:EntH Tryz.prog:=EntH.pk2 (α:=Ptr View) (β:=Int) 54 (fun v n=>okV v.v n) (fun v n=>.d (.bool (pureV v.v n))) (fun v n=>[]) (fun v n hc=>PureP.ans (pureV_c v.v n hc))
theorem K_54h_f:K_54h.f=54:=rfl
theorem K_54h_g:K_54h.gro=true:=rfl
theorem K_54h_e {x1 x2:V} {H:Heap}:K_54h.e [x1,x2] H=guardR ((decA (α:=Ptr View) H x1).1∧(decA (α:=Int) H x2).1) (peekR (okV (decA (α:=Ptr View) H x1).2.v (decA (α:=Int) H x2).2) (.d (.bool (pureV (decA (α:=Ptr View) H x1).2.v (decA (α:=Int) H x2).2))) ([]) H):=rfl
theorem l14Pure_c (op:Int):PureP Tryz.prog 56 [.d (.int .i64 op)] (· = .d (.bool (pureOp op))):=by
  refine pure_of Tryz.func56 en_56 rfl rfl (W_run mixed ⟨[],[],[],13,0,[0,2],[5,9]⟩ (fun _=>[]) (by kernel_rfl) ?_)
  simp only [Tryz.f56,stripX,stripOps,pickOps]
  simp []
  repeat' first | apply And.intro | intro _
  all_goals simp [pureOp, *]
noncomputable def K_56:Ent Tryz.prog:=Ent.p1 (α:=Int) 56 (fun op=>True) (fun op=>.d (.bool (pureOp op))) (fun op hc=>l14Pure_c op)
theorem K_56_f:K_56.f=56:=rfl
theorem K_56_e (op:Int):K_56.e [.d (.int .i64 op)]=some (True,.d (.bool (pureOp op)),[]):=by unfold K_56;exact Ent.p1_eq (α:=Int) op
noncomputable def K_56h:EntH Tryz.prog:=EntH.pk1 (α:=Int) 56 (fun op=>True) (fun op=>.d (.bool (pureOp op))) (fun op=>[]) (fun op hc=>PureP.ans (l14Pure_c op))
theorem K_56h_f:K_56h.f=56:=rfl
theorem K_56h_g:K_56h.gro=true:=rfl
theorem K_56h_e {x1:V} {H:Heap}:K_56h.e [x1] H=guardR ((decA (α:=Int) H x1).1) (peekR (True) (.d (.bool (pureOp (decA (α:=Int) H x1).2))) ([]) H):=rfl
def isVal (F:Func) (n:Int):Bool:=goodF F && inR n 0 (IntKind.i64.wrap (many F - 1))
theorem l14Is_c (F:Func) (n:Int) (hF:Enc.good F):PureP Tryz.prog 51 [vFunc F,.d (.int .i64 n)] (· = .d (.bool (isVal F n))):=by
  refine pure_of Tryz.func51 en_51 rfl rfl (W_run mixed ⟨[K_72,K_103,K_102],[K_72h,K_103h,K_102h],[],14,0,[0,1,2,4],[7]⟩ (fun _=>[]) (by kernel_rfl) ?_)
  simp only [Tryz.f51,stripX,stripOps,pickOps]
  simp [K_72_f,K_72_e,K_103_f,K_103_e,K_102_f,K_102_e,K_72h_f,K_72h_e,K_103h_f,K_103h_e,K_102h_f,K_102h_e,K_72h_g,K_103h_g,K_102h_g,hF]
  repeat' first | apply And.intro | intro _
  all_goals simp [isVal,many, *]
noncomputable def K_51:Ent Tryz.prog:=Ent.p2 (α:=Func) (β:=Int) 51 (fun F n=>Enc.good F) (fun F n=>.d (.bool (isVal F n))) (fun F n hc=>l14Is_c F n hc)
theorem K_51_f:K_51.f=51:=rfl
theorem K_51_e (F0:Int) (F1:List Block) (n:Int):K_51.e [.agg [.d (.int .i64 F0),.d (dBlockS F1)],.d (.int .i64 n)]=some (Enc.good (Func.mk F0 F1),.d (.bool (isVal (Func.mk F0 F1) n)),[]):=by unfold K_51;exact Ent.p2_eq (α:=Func) (β:=Int) (Func.mk F0 F1) n
noncomputable def K_51h:EntH Tryz.prog:=EntH.pk2 (α:=Func) (β:=Int) 51 (fun F n=>Enc.good F) (fun F n=>.d (.bool (isVal F n))) (fun F n=>[]) (fun F n hc=>PureP.ans (l14Is_c F n hc))
theorem K_51h_f:K_51h.f=51:=rfl
theorem K_51h_g:K_51h.gro=true:=rfl
theorem K_51h_e {x1 x2:V} {H:Heap}:K_51h.e [x1,x2] H=guardR ((decA (α:=Func) H x1).1∧(decA (α:=Int) H x2).1) (peekR (Enc.good (decA (α:=Func) H x1).2) (.d (.bool (isVal (decA (α:=Func) H x1).2 (decA (α:=Int) H x2).2))) ([]) H):=rfl
def instS (F:Func) (n:Int):List Block→Nat→Int × Int
  | [],_=>(-1,-1)
  | b :: bs,i =>
    let a:=IntKind.i64.wrap (IntKind.i64.wrap (n - cntB (F.blocks_.take i) F.params_) - b.params_)
    if inR a 0 (IntKind.i64.wrap (b.insts_.length - 1))=true then (i,a) else instS F n bs (i + 1)
theorem l12Inst_c (F:Func) (n:Int) (hF:Enc.good F):PureP Tryz.prog 55 [vFunc F,.d (.int .i64 n)] (· = .tup [.d (.int .i64 (instS F n F.blocks_ 0).1),.d (.int .i64 (instS F n F.blocks_ 0).2)]):=by
  have hbs:Enc.good F.blocks_:=hF.2
  have hlb:=good_len hbs
  refine pure_of Tryz.func55 en_55 rfl rfl (W_run mixed ⟨[K_105,K_102],[K_105h,K_102h],[],34,0,[0,1,2,4,5,6,7,8,10,11,12,13,30],[13,30]⟩ (fun | 4=>[0,2,5,1,3,4,6,7,8] | _=>[]) (by kernel_rfl) ?_)
  simp only [Tryz.f55,stripX,stripOps,pickOps]
  simp [K_105_f,K_105_e,K_102_f,K_102_e,K_105h_f,K_105h_e,K_102h_f,K_102h_e,K_105h_g,K_102h_g,hF]
  refine W_loopA (fun i:Nat=>[(1,.d (.int .i64 n)),(2,.ptr 0 2 0 0),(10,.d (dBlockS F.blocks_)),(11,.d (.int .i64 F.blocks_.length)),(12,.d (.int .i64 i))]) (fun _=>[.row 2 [[.d (.int .i64 F.params_),.d (dBlockS F.blocks_)]]]) (fun i=>i≤F.blocks_.length∧instS F n (F.blocks_.drop i) i=instS F n F.blocks_ 0) (fun i=>F.blocks_.length - i) 0 ?_ ?_ ?_
  · simp
  · simp
  rintro i ⟨hi,hm⟩
  refine W_run mixed ⟨[K_105,K_102],[K_105h,K_102h],[],34,0,[0,1,2,4,5,6,7,8,10,11,12,13,30],[13,30]⟩ (fun | 4=>[0,2,5,1,3,4,6,7,8] | _=>[]) (by kernel_rfl) ?_
  simp only [stripX,stripOps,pickOps]
  simp [K_105_f,K_105_e,K_102_f,K_102_e,K_105h_f,K_105h_e,K_102h_f,K_102h_e,K_105h_g,K_102h_g,hF]
  refine ⟨fun h=>?_,fun h=>?_⟩
  · rw [drop_cons h] at hm
    simp only [instS] at hm
    refine ⟨h,by omega,fun q=>?_,fun q=>⟨i + 1,⟨by omega, ?_⟩,by omega,by rw [wrap_id] <;> omega⟩⟩
    · rw [if_pos q] at hm;rw [← hm];exact ⟨rfl,rfl⟩
    · rw [if_neg (by rw [q];decide)] at hm;exact hm
  · rw [List.drop_eq_nil_of_le h] at hm
    simp [← hm,instS]
noncomputable def K_55:Ent Tryz.prog:=Ent.p2 (α:=Func) (β:=Int) 55 (fun F n=>Enc.good F) (fun F n=>.tup [.d (.int .i64 (instS F n F.blocks_ 0).1),.d (.int .i64 (instS F n F.blocks_ 0).2)]) (fun F n hc=>l12Inst_c F n hc)
theorem K_55_f:K_55.f=55:=rfl
theorem K_55_e (F0:Int) (F1:List Block) (n:Int):K_55.e [.agg [.d (.int .i64 F0),.d (dBlockS F1)],.d (.int .i64 n)]=some (Enc.good (Func.mk F0 F1),.tup [.d (.int .i64 (instS (Func.mk F0 F1) n (Func.mk F0 F1).blocks_ 0).1),.d (.int .i64 (instS (Func.mk F0 F1) n (Func.mk F0 F1).blocks_ 0).2)],[]):=by unfold K_55;exact Ent.p2_eq (α:=Func) (β:=Int) (Func.mk F0 F1) n
noncomputable def K_55h:EntH Tryz.prog:=EntH.pk2 (α:=Func) (β:=Int) 55 (fun F n=>Enc.good F) (fun F n=>.tup [.d (.int .i64 (instS F n F.blocks_ 0).1),.d (.int .i64 (instS F n F.blocks_ 0).2)]) (fun F n=>[]) (fun F n hc=>PureP.ans (l12Inst_c F n hc))
theorem K_55h_f:K_55h.f=55:=rfl
theorem K_55h_g:K_55h.gro=true:=rfl
theorem K_55h_e {x1 x2:V} {H:Heap}:K_55h.e [x1,x2] H=guardR ((decA (α:=Func) H x1).1∧(decA (α:=Int) H x2).1) (peekR (Enc.good (decA (α:=Func) H x1).2) (.tup [.d (.int .i64 (instS (decA (α:=Func) H x1).2 (decA (α:=Int) H x2).2 (decA (α:=Func) H x1).2.blocks_ 0).1),.d (.int .i64 (instS (decA (α:=Func) H x1).2 (decA (α:=Int) H x2).2 (decA (α:=Func) H x1).2.blocks_ 0).2)]) ([]) H):=rfl
end Go.Proofs.YtnomiclfiijniaaGreat
