/- Contracts of the program's small functions over numbers, of slices' search functions, and of what a view says of values. No condition. -/
import Derived.Test.YtcgekblpbheikaaGreatDoorQS1
namespace Go.Proofs.YtcgekblpbheikaaGreatDoor
set_option maxRecDepth 100000
set_option linter.unusedSimpArgs false
set_option linter.unusedVariables false
theorem isOp_c (op:Int):PureP Tryz.prog 246 [.d (.int .i64 op)] (· = .d (.bool (inR op 1 11))):=by
  refine pure_of Tryz.func246 en_246 rfl rfl (W_run mixed ⟨[K_83],[K_83h],[],5,0,[0,2],[]⟩ (fun _=>[]) (by kernel_rfl) ?_)
  simp only [Tryz.f246,stripX,stripOps,pickOps]
  simp [K_83_f,K_83_e,K_83h_f,K_83h_e,K_83h_g]
noncomputable def K_246:Ent Tryz.prog:=Ent.p1 (α:=Int) 246 (fun a=>True) (fun a=>.d (.bool (inR a 1 11))) (fun a hc=>isOp_c a)
theorem K_246_f:K_246.f=246:=rfl
theorem K_246_e (a:Int):K_246.e [.d (.int .i64 a)]=some (True,.d (.bool (inR a 1 11)),[]):=by unfold K_246;exact Ent.p1_eq (α:=Int) a
noncomputable def K_246h:EntH Tryz.prog:=EntH.pk1 (α:=Int) 246 (fun a=>True) (fun a=>.d (.bool (inR a 1 11))) (fun a=>[]) (fun a hc=>PureP.ans (isOp_c a))
theorem K_246h_f:K_246h.f=246:=rfl
theorem K_246h_g:K_246h.gro=true:=rfl
theorem K_246h_e {x1:V} {H:Heap}:K_246h.e [x1] H=guardR ((decA (α:=Int) H x1).1) (peekR (True) (.d (.bool (inR (decA (α:=Int) H x1).2 1 11))) ([]) H):=rfl
def arityI (op:Int):Int:=if op=1∨op=2 then 0 else if op=3 then 1 else if op=11 then 3 else 2
theorem arityI_c (op:Int):PureP Tryz.prog 181 [.d (.int .i64 op)] (· = .d (.int .i64 (arityI op))):=by
  refine pure_of Tryz.func181 en_181 rfl rfl (W_run mixed ⟨[],[],[],11,0,[0,2,3,4,7,9],[4,7,9]⟩ (fun _=>[]) (by kernel_rfl) ?_)
  simp only [Tryz.f181,stripX,stripOps,pickOps]
  simp []
  repeat' first | apply And.intro | intro _
  all_goals simp [arityI, *]
noncomputable def K_181:Ent Tryz.prog:=Ent.p1 (α:=Int) 181 (fun a=>True) (fun a=>.d (.int .i64 (arityI a))) (fun a hc=>arityI_c a)
theorem K_181_f:K_181.f=181:=rfl
theorem K_181_e (a:Int):K_181.e [.d (.int .i64 a)]=some (True,.d (.int .i64 (arityI a)),[]):=by unfold K_181;exact Ent.p1_eq (α:=Int) a
noncomputable def K_181h:EntH Tryz.prog:=EntH.pk1 (α:=Int) 181 (fun a=>True) (fun a=>.d (.int .i64 (arityI a))) (fun a=>[]) (fun a hc=>PureP.ans (arityI_c a))
theorem K_181h_f:K_181h.f=181:=rfl
theorem K_181h_g:K_181h.gro=true:=rfl
theorem K_181h_e {x1:V} {H:Heap}:K_181h.e [x1] H=guardR ((decA (α:=Int) H x1).1) (peekR (True) (.d (.int .i64 (arityI (decA (α:=Int) H x1).2))) ([]) H):=rfl
theorem argsOf_c (op:Int):PureP Tryz.prog 273 [.d (.int .i64 op)] (· = .d (.int .i64 (arity op))):=by
  refine pure_of Tryz.func273 en_273 rfl rfl (W_run mixed ⟨[K_246,K_181],[K_246h,K_181h],[],18,0,[0,2,3,6,9],[3,6,9,12]⟩ (fun _=>[]) (by kernel_rfl) ?_)
  simp only [Tryz.f273,stripX,stripOps,pickOps]
  simp [K_246_f,K_246_e,K_181_f,K_181_e,K_246h_f,K_246h_e,K_181h_f,K_181h_e,K_246h_g,K_181h_g]
  repeat' first | apply And.intro | intro _
  all_goals try simp only [inR_t,inR_f] at *
  all_goals simp [arity,arity1,arityI,inR, *]
  all_goals (repeat' split) <;> omega
noncomputable def K_273:Ent Tryz.prog:=Ent.p1 (α:=Int) 273 (fun a=>True) (fun a=>.d (.int .i64 (arity a))) (fun a hc=>argsOf_c a)
theorem K_273_f:K_273.f=273:=rfl
theorem K_273_e (a:Int):K_273.e [.d (.int .i64 a)]=some (True,.d (.int .i64 (arity a)),[]):=by unfold K_273;exact Ent.p1_eq (α:=Int) a
noncomputable def K_273h:EntH Tryz.prog:=EntH.pk1 (α:=Int) 273 (fun a=>True) (fun a=>.d (.int .i64 (arity a))) (fun a=>[]) (fun a hc=>PureP.ans (argsOf_c a))
theorem K_273h_f:K_273h.f=273:=rfl
theorem K_273h_g:K_273h.gro=true:=rfl
theorem K_273h_e {x1:V} {H:Heap}:K_273h.e [x1] H=guardR ((decA (α:=Int) H x1).1) (peekR (True) (.d (.int .i64 (arity (decA (α:=Int) H x1).2))) ([]) H):=rfl
@[simp] theorem closedL_upto (n:Nat) (f:Nat→D):closedL (upto n fun j=>.d (f j))=true:=by
  induction n generalizing f with
  | zero=>rfl
  | succ n ih=>simp [upto,ih]
def idxP {α:Type} (p:α→Bool):List α→Int→Int
  | [],_=>-1
  | x :: l,i=>if p x then i else idxP p l (i + 1)
theorem idxP_ge {α:Type} (p:α→Bool):∀ (l:List α) (i:Int),0≤i→(decide (0≤idxP p l i)=l.any p)
  | [],i,h=>by simp [idxP]
  | x :: l, i, h => by
    simp only [idxP,List.any_cons]
    by_cases hp:p x=true
    · simp [hp,h]
    · simp only [Bool.not_eq_true] at hp
      simp only [hp,Bool.false_eq_true,if_false,Bool.false_or]
      exact idxP_ge p l (i + 1) (by omega)
theorem indexFuncInt_c {g n:Nat} {cap:Nat→D} (p:Int→Bool) (l:List Int) (hl:Enc.good l) (hg:∀ i,i < l.length→PureP Tryz.prog g ((fun x:Int=>.d (.int .i64 x)) (l[i]?.getD default) :: upto n fun j=>.d (cap j)) (· = .d (.bool (p (l[i]?.getD default))))) :
    PureP Tryz.prog 228 [.d (dIntS l),.d (.clo g n cap)] (· = .d (.int .i64 (idxP p l 0))):=by
  have hlen:=good_len hl
  refine pure_of Tryz.func228 en_228 rfl rfl (W_run mixed ⟨[],[],[],19,0,[0,1,4,5,7,8,9,16],[9,16]⟩ (fun _=>[]) (by kernel_rfl) ?_)
  simp only [Tryz.f228,stripX,stripOps,pickOps]
  simp []
  refine W_loopA (fun i:Nat=>[(0,.d (dIntS l)),(1,.d (.clo g n cap)),(7,.d (.int .i64 l.length)),(8,.d (.int .i64 i))]) (fun _=>[]) (fun i=>i≤l.length∧idxP p (l.drop i) i=idxP p l 0) (fun i=>l.length - i) 0 ?_ ?_ ?_
  · simp
  · simp
  rintro i ⟨hi,hm⟩
  refine W_run mixed ⟨[],[],[],19,0,[0,1,4,5,7,8,9,16],[9,16]⟩ (fun _=>[]) (by kernel_rfl) ?_
  simp only [stripX,stripOps,pickOps]
  simp []
  refine ⟨fun h=>⟨h, ?_⟩,fun h=>?_⟩
  · rw [drop_cons h] at hm
    simp only [idxP] at hm
    refine ((hg i h).calls (by simp [closedL,V.closed])).mono ?_
    rintro r H' ⟨rfl,rfl⟩
    simp
    refine ⟨fun q=>?_,fun q=>⟨i + 1,⟨by omega, ?_⟩,by omega,by rw [wrap_id] <;> omega⟩⟩
    · rw [if_pos (by exact q)] at hm;exact hm
    · rw [if_neg (by intro q';have:=q.symm.trans q';cases this)] at hm;exact hm
  · rw [List.drop_eq_nil_of_le h] at hm;simpa [idxP] using hm
theorem containsFuncInt_c {g n:Nat} {cap:Nat→D} (p:Int→Bool) (l:List Int) (hl:Enc.good l) (hg:∀ i,i < l.length→PureP Tryz.prog g ((fun x:Int=>.d (.int .i64 x)) (l[i]?.getD default) :: upto n fun j=>.d (cap j)) (· = .d (.bool (p (l[i]?.getD default))))) :
    PureP Tryz.prog 158 [.d (dIntS l),.d (.clo g n cap)] (· = .d (.bool (l.any p))):=by
  refine pure_of Tryz.func158 en_158 rfl rfl (W_run mixed ⟨[],[],[228],9,0,[0,1,4],[]⟩ (fun _=>[]) (by kernel_rfl) ?_)
  simp only [Tryz.f158,stripX,stripOps,pickOps]
  simp []
  refine ((indexFuncInt_c p l hl hg).calls (by simp)).mono ?_
  rintro r H' ⟨rfl,rfl⟩
  simp
  exact idxP_ge p l 0 (by omega)
theorem indexFuncInst_c {g n:Nat} {cap:Nat→D} (p:Inst→Bool) (l:List Inst) (hl:Enc.good l) (hg:∀ i,i < l.length→PureP Tryz.prog g ((fun x:Inst=>vInst x) (l[i]?.getD default) :: upto n fun j=>.d (cap j)) (· = .d (.bool (p (l[i]?.getD default))))) :
    PureP Tryz.prog 281 [.d (dInstS l),.d (.clo g n cap)] (· = .d (.int .i64 (idxP p l 0))):=by
  have hlen:=good_len hl
  refine pure_of Tryz.func281 en_281 rfl rfl (W_run mixed ⟨[],[],[],19,0,[0,1,4,5,7,8,9,16],[9,16]⟩ (fun _=>[]) (by kernel_rfl) ?_)
  simp only [Tryz.f281,stripX,stripOps,pickOps]
  simp []
  refine W_loopA (fun i:Nat=>[(0,.d (dInstS l)),(1,.d (.clo g n cap)),(7,.d (.int .i64 l.length)),(8,.d (.int .i64 i))]) (fun _=>[]) (fun i=>i≤l.length∧idxP p (l.drop i) i=idxP p l 0) (fun i=>l.length - i) 0 ?_ ?_ ?_
  · simp
  · simp
  rintro i ⟨hi,hm⟩
  refine W_run mixed ⟨[],[],[],19,0,[0,1,4,5,7,8,9,16],[9,16]⟩ (fun _=>[]) (by kernel_rfl) ?_
  simp only [stripX,stripOps,pickOps]
  simp []
  refine ⟨fun h=>⟨h, ?_⟩,fun h=>?_⟩
  · rw [drop_cons h] at hm
    simp only [idxP] at hm
    refine ((hg i h).calls (by simp [closedL,V.closed])).mono ?_
    rintro r H' ⟨rfl,rfl⟩
    simp
    refine ⟨fun q=>?_,fun q=>⟨i + 1,⟨by omega, ?_⟩,by omega,by rw [wrap_id] <;> omega⟩⟩
    · rw [if_pos (by exact q)] at hm;exact hm
    · rw [if_neg (by intro q';have:=q.symm.trans q';cases this)] at hm;exact hm
  · rw [List.drop_eq_nil_of_le h] at hm;simpa [idxP] using hm
theorem containsFuncInst_c {g n:Nat} {cap:Nat→D} (p:Inst→Bool) (l:List Inst) (hl:Enc.good l) (hg:∀ i,i < l.length→PureP Tryz.prog g ((fun x:Inst=>vInst x) (l[i]?.getD default) :: upto n fun j=>.d (cap j)) (· = .d (.bool (p (l[i]?.getD default))))) :
    PureP Tryz.prog 221 [.d (dInstS l),.d (.clo g n cap)] (· = .d (.bool (l.any p))):=by
  refine pure_of Tryz.func221 en_221 rfl rfl (W_run mixed ⟨[],[],[281],9,0,[0,1,4],[]⟩ (fun _=>[]) (by kernel_rfl) ?_)
  simp only [Tryz.f221,stripX,stripOps,pickOps]
  simp []
  refine ((indexFuncInst_c p l hl hg).calls (by simp)).mono ?_
  rintro r H' ⟨rfl,rfl⟩
  simp
  exact idxP_ge p l 0 (by omega)
theorem indexFuncJump_c {g n:Nat} {cap:Nat→D} (p:Jump→Bool) (l:List Jump) (hl:Enc.good l) (hg:∀ i,i < l.length→PureP Tryz.prog g ((fun x:Jump=>vJump x) (l[i]?.getD default) :: upto n fun j=>.d (cap j)) (· = .d (.bool (p (l[i]?.getD default))))) :
    PureP Tryz.prog 282 [.d (dJumpS l),.d (.clo g n cap)] (· = .d (.int .i64 (idxP p l 0))):=by
  have hlen:=good_len hl
  refine pure_of Tryz.func282 en_282 rfl rfl (W_run mixed ⟨[],[],[],19,0,[0,1,4,5,7,8,9,16],[9,16]⟩ (fun _=>[]) (by kernel_rfl) ?_)
  simp only [Tryz.f282,stripX,stripOps,pickOps]
  simp []
  refine W_loopA (fun i:Nat=>[(0,.d (dJumpS l)),(1,.d (.clo g n cap)),(7,.d (.int .i64 l.length)),(8,.d (.int .i64 i))]) (fun _=>[]) (fun i=>i≤l.length∧idxP p (l.drop i) i=idxP p l 0) (fun i=>l.length - i) 0 ?_ ?_ ?_
  · simp
  · simp
  rintro i ⟨hi,hm⟩
  refine W_run mixed ⟨[],[],[],19,0,[0,1,4,5,7,8,9,16],[9,16]⟩ (fun _=>[]) (by kernel_rfl) ?_
  simp only [stripX,stripOps,pickOps]
  simp []
  refine ⟨fun h=>⟨h, ?_⟩,fun h=>?_⟩
  · rw [drop_cons h] at hm
    simp only [idxP] at hm
    refine ((hg i h).calls (by simp [closedL,V.closed])).mono ?_
    rintro r H' ⟨rfl,rfl⟩
    simp
    refine ⟨fun q=>?_,fun q=>⟨i + 1,⟨by omega, ?_⟩,by omega,by rw [wrap_id] <;> omega⟩⟩
    · rw [if_pos (by exact q)] at hm;exact hm
    · rw [if_neg (by intro q';have:=q.symm.trans q';cases this)] at hm;exact hm
  · rw [List.drop_eq_nil_of_le h] at hm;simpa [idxP] using hm
theorem containsFuncJump_c {g n:Nat} {cap:Nat→D} (p:Jump→Bool) (l:List Jump) (hl:Enc.good l) (hg:∀ i,i < l.length→PureP Tryz.prog g ((fun x:Jump=>vJump x) (l[i]?.getD default) :: upto n fun j=>.d (cap j)) (· = .d (.bool (p (l[i]?.getD default))))) :
    PureP Tryz.prog 224 [.d (dJumpS l),.d (.clo g n cap)] (· = .d (.bool (l.any p))):=by
  refine pure_of Tryz.func224 en_224 rfl rfl (W_run mixed ⟨[],[],[282],9,0,[0,1,4],[]⟩ (fun _=>[]) (by kernel_rfl) ?_)
  simp only [Tryz.f224,stripX,stripOps,pickOps]
  simp []
  refine ((indexFuncJump_c p l hl hg).calls (by simp)).mono ?_
  rintro r H' ⟨rfl,rfl⟩
  simp
  exact idxP_ge p l 0 (by omega)
theorem indexFuncBlock_c {g n:Nat} {cap:Nat→D} (p:Block→Bool) (l:List Block) (hl:Enc.good l) (hg:∀ i,i < l.length→PureP Tryz.prog g ((fun x:Block=>vBlock x) (l[i]?.getD default) :: upto n fun j=>.d (cap j)) (· = .d (.bool (p (l[i]?.getD default))))) :
    PureP Tryz.prog 220 [.d (dBlockS l),.d (.clo g n cap)] (· = .d (.int .i64 (idxP p l 0))):=by
  have hlen:=good_len hl
  refine pure_of Tryz.func220 en_220 rfl rfl (W_run mixed ⟨[],[],[],19,0,[0,1,4,5,7,8,9,16],[9,16]⟩ (fun _=>[]) (by kernel_rfl) ?_)
  simp only [Tryz.f220,stripX,stripOps,pickOps]
  simp []
  refine W_loopA (fun i:Nat=>[(0,.d (dBlockS l)),(1,.d (.clo g n cap)),(7,.d (.int .i64 l.length)),(8,.d (.int .i64 i))]) (fun _=>[]) (fun i=>i≤l.length∧idxP p (l.drop i) i=idxP p l 0) (fun i=>l.length - i) 0 ?_ ?_ ?_
  · simp
  · simp
  rintro i ⟨hi,hm⟩
  refine W_run mixed ⟨[],[],[],19,0,[0,1,4,5,7,8,9,16],[9,16]⟩ (fun _=>[]) (by kernel_rfl) ?_
  simp only [stripX,stripOps,pickOps]
  simp []
  refine ⟨fun h=>⟨h, ?_⟩,fun h=>?_⟩
  · rw [drop_cons h] at hm
    simp only [idxP] at hm
    refine ((hg i h).calls (by simp [closedL,V.closed])).mono ?_
    rintro r H' ⟨rfl,rfl⟩
    simp
    refine ⟨fun q=>?_,fun q=>⟨i + 1,⟨by omega, ?_⟩,by omega,by rw [wrap_id] <;> omega⟩⟩
    · rw [if_pos (by exact q)] at hm;exact hm
    · rw [if_neg (by intro q';have:=q.symm.trans q';cases this)] at hm;exact hm
  · rw [List.drop_eq_nil_of_le h] at hm;simpa [idxP] using hm
theorem containsFuncBlock_c {g n:Nat} {cap:Nat→D} (p:Block→Bool) (l:List Block) (hl:Enc.good l) (hg:∀ i,i < l.length→PureP Tryz.prog g ((fun x:Block=>vBlock x) (l[i]?.getD default) :: upto n fun j=>.d (cap j)) (· = .d (.bool (p (l[i]?.getD default))))) :
    PureP Tryz.prog 151 [.d (dBlockS l),.d (.clo g n cap)] (· = .d (.bool (l.any p))):=by
  refine pure_of Tryz.func151 en_151 rfl rfl (W_run mixed ⟨[],[],[220],9,0,[0,1,4],[]⟩ (fun _=>[]) (by kernel_rfl) ?_)
  simp only [Tryz.f151,stripX,stripOps,pickOps]
  simp []
  refine ((indexFuncBlock_c p l hl hg).calls (by simp)).mono ?_
  rintro r H' ⟨rfl,rfl⟩
  simp
  exact idxP_ge p l 0 (by omega)
end Go.Proofs.YtcgekblpbheikaaGreatDoor
