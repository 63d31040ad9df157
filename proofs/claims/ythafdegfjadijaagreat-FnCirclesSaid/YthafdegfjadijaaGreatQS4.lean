/- Contracts of the program's small functions over numbers, of slices' search functions, and of what a view says of values. No condition. -/
import Derived.KernelRfl
import Derived.Test.YthafdegfjadijaaGreatQDat
import Derived.Test.YthafdegfjadijaaGreatQTy
section
namespace Go.Proofs.YthafdegfjadijaaGreat
set_option maxRecDepth 100000
set_option linter.unusedSimpArgs false
set_option linter.unusedVariables false
theorem mixed:Tryz.prog.follows .mixedOrders=true:=by kernel_rfl
end Go.Proofs.YthafdegfjadijaaGreat
end

section
namespace Go.Proofs.YthafdegfjadijaaGreat
set_option maxRecDepth 100000
set_option linter.unusedSimpArgs false
set_option linter.unusedVariables false
def inR (n lo hi:Int):Bool:=decide (lo≤n∧n≤hi)
theorem inR_t {n lo hi:Int}:inR n lo hi=true ↔ lo≤n∧n≤hi:=by simp [inR]
theorem inR_f {n lo hi:Int}:inR n lo hi=false ↔ ¬ (lo≤n∧n≤hi):=by simp [inR]
theorem l1In_c (n lo hi:Int):PureP Tryz.prog 64 [.d (.int .i64 n),.d (.int .i64 lo),.d (.int .i64 hi)] (· = .d (.bool (inR n lo hi))):=by
  refine pure_of Tryz.func64 en_64 rfl rfl (W_run mixed ⟨[],[],[],15,0,[0,1,2,6],[10]⟩ (fun _=>[]) (by kernel_rfl) ?_)
  simp only [Tryz.f64,stripX,stripOps,pickOps]
  simp []
  refine ⟨fun h=>?_,fun h=>?_⟩ <;> simp [inR] <;> omega
theorem within_c (n lo hi:Int):PureP Tryz.prog 72 [.d (.int .i64 n),.d (.int .i64 lo),.d (.int .i64 hi)] (· = .d (.bool (inR n lo hi))):=by
  refine pure_of Tryz.func72 en_72 rfl rfl (W_run mixed ⟨[],[],[],15,0,[0,1,2,6],[10]⟩ (fun _=>[]) (by kernel_rfl) ?_)
  simp only [Tryz.f72,stripX,stripOps,pickOps]
  simp []
  refine ⟨fun h=>?_,fun h=>?_⟩ <;> simp [inR] <;> omega
noncomputable def K_64:Ent Tryz.prog:=Ent.p3 (α:=Int) (β:=Int) (γ:=Int) 64 (fun a b c=>True) (fun a b c=>.d (.bool (inR a b c))) (fun a b c hc=>l1In_c a b c)
theorem K_64_f:K_64.f=64:=rfl
theorem K_64_e (a:Int) (b:Int) (c:Int):K_64.e [.d (.int .i64 a),.d (.int .i64 b),.d (.int .i64 c)]=some (True,.d (.bool (inR a b c)),[]):=by unfold K_64;exact Ent.p3_eq (α:=Int) (β:=Int) (γ:=Int) a b c
noncomputable def K_64h:EntH Tryz.prog:=EntH.pk3 (α:=Int) (β:=Int) (γ:=Int) 64 (fun a b c=>True) (fun a b c=>.d (.bool (inR a b c))) (fun a b c=>[]) (fun a b c hc=>PureP.ans (l1In_c a b c))
theorem K_64h_f:K_64h.f=64:=rfl
theorem K_64h_g:K_64h.gro=true:=rfl
theorem K_64h_e {x1 x2 x3:V} {H:Heap}:K_64h.e [x1,x2,x3] H=guardR ((decA (α:=Int) H x1).1∧(decA (α:=Int) H x2).1∧(decA (α:=Int) H x3).1) (peekR (True) (.d (.bool (inR (decA (α:=Int) H x1).2 (decA (α:=Int) H x2).2 (decA (α:=Int) H x3).2))) ([]) H):=rfl
noncomputable def K_72:Ent Tryz.prog:=Ent.p3 (α:=Int) (β:=Int) (γ:=Int) 72 (fun a b c=>True) (fun a b c=>.d (.bool (inR a b c))) (fun a b c hc=>within_c a b c)
theorem K_72_f:K_72.f=72:=rfl
theorem K_72_e (a:Int) (b:Int) (c:Int):K_72.e [.d (.int .i64 a),.d (.int .i64 b),.d (.int .i64 c)]=some (True,.d (.bool (inR a b c)),[]):=by unfold K_72;exact Ent.p3_eq (α:=Int) (β:=Int) (γ:=Int) a b c
noncomputable def K_72h:EntH Tryz.prog:=EntH.pk3 (α:=Int) (β:=Int) (γ:=Int) 72 (fun a b c=>True) (fun a b c=>.d (.bool (inR a b c))) (fun a b c=>[]) (fun a b c hc=>PureP.ans (within_c a b c))
theorem K_72h_f:K_72h.f=72:=rfl
theorem K_72h_g:K_72h.gro=true:=rfl
theorem K_72h_e {x1 x2 x3:V} {H:Heap}:K_72h.e [x1,x2,x3] H=guardR ((decA (α:=Int) H x1).1∧(decA (α:=Int) H x2).1∧(decA (α:=Int) H x3).1) (peekR (True) (.d (.bool (inR (decA (α:=Int) H x1).2 (decA (α:=Int) H x2).2 (decA (α:=Int) H x3).2))) ([]) H):=rfl
def arity1 (op:Int):Int:=if op=1∨op=2 then 0 else if op=3 then 1 else if op=11 then 3 else if inR op 4 10 then 2 else -1
theorem l1Arity_c (op:Int):PureP Tryz.prog 90 [.d (.int .i64 op)] (· = .d (.int .i64 (arity1 op))):=by
  refine pure_of Tryz.func90 en_90 rfl rfl (W_run mixed ⟨[K_64],[K_64h],[],19,0,[0,2,3,10,13,16],[3,6,10,13,16]⟩ (fun _=>[]) (by kernel_rfl) ?_)
  simp only [Tryz.f90,stripX,stripOps,pickOps]
  simp [K_64_f,K_64_e,K_64h_f,K_64h_e,K_64h_g]
  repeat' first | apply And.intro | intro _
  all_goals simp [arity1, *]
noncomputable def K_90:Ent Tryz.prog:=Ent.p1 (α:=Int) 90 (fun a=>True) (fun a=>.d (.int .i64 (arity1 a))) (fun a hc=>l1Arity_c a)
theorem K_90_f:K_90.f=90:=rfl
theorem K_90_e (a:Int):K_90.e [.d (.int .i64 a)]=some (True,.d (.int .i64 (arity1 a)),[]):=by unfold K_90;exact Ent.p1_eq (α:=Int) a
noncomputable def K_90h:EntH Tryz.prog:=EntH.pk1 (α:=Int) 90 (fun a=>True) (fun a=>.d (.int .i64 (arity1 a))) (fun a=>[]) (fun a hc=>PureP.ans (l1Arity_c a))
theorem K_90h_f:K_90h.f=90:=rfl
theorem K_90h_g:K_90h.gro=true:=rfl
theorem K_90h_e {x1:V} {H:Heap}:K_90h.e [x1] H=guardR ((decA (α:=Int) H x1).1) (peekR (True) (.d (.int .i64 (arity1 (decA (α:=Int) H x1).2))) ([]) H):=rfl
def arity (op:Int):Int:=if op=12 then 1 else if op=13 then 2 else if op=2 then -1 else arity1 op
theorem l12Arity_c (op:Int):PureP Tryz.prog 66 [.d (.int .i64 op)] (· = .d (.int .i64 (arity op))):=by
  refine pure_of Tryz.func66 en_66 rfl rfl (W_run mixed ⟨[K_90],[K_90h],[],12,0,[0,2,3,4,6,8],[4,6,8]⟩ (fun _=>[]) (by kernel_rfl) ?_)
  simp only [Tryz.f66,stripX,stripOps,pickOps]
  simp [K_90_f,K_90_e,K_90h_f,K_90h_e,K_90h_g]
  repeat' first | apply And.intro | intro _
  all_goals simp [arity, *]
noncomputable def K_66:Ent Tryz.prog:=Ent.p1 (α:=Int) 66 (fun a=>True) (fun a=>.d (.int .i64 (arity a))) (fun a hc=>l12Arity_c a)
theorem K_66_f:K_66.f=66:=rfl
theorem K_66_e (a:Int):K_66.e [.d (.int .i64 a)]=some (True,.d (.int .i64 (arity a)),[]):=by unfold K_66;exact Ent.p1_eq (α:=Int) a
noncomputable def K_66h:EntH Tryz.prog:=EntH.pk1 (α:=Int) 66 (fun a=>True) (fun a=>.d (.int .i64 (arity a))) (fun a=>[]) (fun a hc=>PureP.ans (l12Arity_c a))
theorem K_66h_f:K_66h.f=66:=rfl
theorem K_66h_g:K_66h.gro=true:=rfl
theorem K_66h_e {x1:V} {H:Heap}:K_66h.e [x1] H=guardR ((decA (α:=Int) H x1).1) (peekR (True) (.d (.int .i64 (arity (decA (α:=Int) H x1).2))) ([]) H):=rfl
def allIn (l:List Int) (lo hi:Int):Bool:=l.all fun n=>inR n lo hi
theorem allIn_cons (x:Int) (l:List Int) (lo hi:Int):allIn (x :: l) lo hi=(inR x lo hi && allIn l lo hi):=by simp [allIn]
theorem l1All_c (l:List Int) (lo hi:Int) (hl:Enc.good l):PureP Tryz.prog 67 [.d (dIntS l),.d (.int .i64 lo),.d (.int .i64 hi)] (· = .d (.bool (allIn l lo hi))):=by
  have hlen:=good_len hl
  refine pure_of Tryz.func67 en_67 rfl rfl (W_run mixed ⟨[K_64],[K_64h],[],21,0,[0,1,2,6,8,9,10,11,12,19],[12,19]⟩ (fun _=>[]) (by kernel_rfl) ?_)
  simp only [Tryz.f67,stripX,stripOps,pickOps]
  simp [K_64_f,K_64_e,K_64h_f,K_64h_e,K_64h_g]
  refine W_loopA (fun i:Nat=>[(1,.d (.int .i64 lo)),(2,.d (.int .i64 hi)),(9,.d (dIntS l)),(10,.d (.int .i64 l.length)),(11,.d (.int .i64 i))]) (fun _=>[]) (fun i=>i≤l.length∧allIn l lo hi=allIn (l.drop i) lo hi) (fun i=>l.length - i) 0 ?_ ?_ ?_
  · simp
  · simp
  · rintro i ⟨hi,hm⟩
    refine W_run mixed ⟨[K_64],[K_64h],[],21,0,[0,1,2,6,8,9,10,11,12,19],[12,19]⟩ (fun _=>[]) (by kernel_rfl) ?_
    simp only [stripX,stripOps,pickOps]
    simp [K_64_f,K_64_e,K_64h_f,K_64h_e,K_64h_g]
    refine ⟨fun h=>?_,fun h=>?_⟩
    · rw [drop_cons h] at hm
      refine ⟨h,fun h1=>?_,fun h1=>⟨i + 1,⟨by omega, ?_⟩,by omega,by rw [wrap_id] <;> omega⟩⟩
      · rw [hm];simp [allIn_cons,h1]
      · rw [hm];simp [allIn_cons,h1]
    · rw [hm,List.drop_eq_nil_of_le h];rfl
noncomputable def K_67:Ent Tryz.prog:=Ent.p3 (α:=List Int) (β:=Int) (γ:=Int) 67 (fun l lo hi=>Enc.good l) (fun l lo hi=>.d (.bool (allIn l lo hi))) (fun l lo hi hc=>l1All_c l lo hi hc)
theorem K_67_f:K_67.f=67:=rfl
theorem K_67_e (l:List Int) (lo:Int) (hi:Int):K_67.e [.d (dIntS l),.d (.int .i64 lo),.d (.int .i64 hi)]=some (Enc.good l,.d (.bool (allIn l lo hi)),[]):=by unfold K_67;exact Ent.p3_eq (α:=List Int) (β:=Int) (γ:=Int) l lo hi
noncomputable def K_67h:EntH Tryz.prog:=EntH.pk3 (α:=List Int) (β:=Int) (γ:=Int) 67 (fun l lo hi=>Enc.good l) (fun l lo hi=>.d (.bool (allIn l lo hi))) (fun l lo hi=>[]) (fun l lo hi hc=>PureP.ans (l1All_c l lo hi hc))
theorem K_67h_f:K_67h.f=67:=rfl
theorem K_67h_g:K_67h.gro=true:=rfl
theorem K_67h_e {x1 x2 x3:V} {H:Heap}:K_67h.e [x1,x2,x3] H=guardR ((decA (α:=List Int) H x1).1∧(decA (α:=Int) H x2).1∧(decA (α:=Int) H x3).1) (peekR (Enc.good (decA (α:=List Int) H x1).2) (.d (.bool (allIn (decA (α:=List Int) H x1).2 (decA (α:=Int) H x2).2 (decA (α:=Int) H x3).2))) ([]) H):=rfl
end Go.Proofs.YthafdegfjadijaaGreat
end

section
namespace Go.Proofs.YthafdegfjadijaaGreat
set_option maxRecDepth 100000
set_option linter.unusedSimpArgs false
set_option linter.unusedVariables false
theorem isOp_c (op:Int):PureP Tryz.prog 123 [.d (.int .i64 op)] (· = .d (.bool (inR op 1 11))):=by
  refine pure_of Tryz.func123 en_123 rfl rfl (W_run mixed ⟨[K_72],[K_72h],[],5,0,[0,2],[]⟩ (fun _=>[]) (by kernel_rfl) ?_)
  simp only [Tryz.f123,stripX,stripOps,pickOps]
  simp [K_72_f,K_72_e,K_72h_f,K_72h_e,K_72h_g]
noncomputable def K_123:Ent Tryz.prog:=Ent.p1 (α:=Int) 123 (fun a=>True) (fun a=>.d (.bool (inR a 1 11))) (fun a hc=>isOp_c a)
theorem K_123_f:K_123.f=123:=rfl
theorem K_123_e (a:Int):K_123.e [.d (.int .i64 a)]=some (True,.d (.bool (inR a 1 11)),[]):=by unfold K_123;exact Ent.p1_eq (α:=Int) a
noncomputable def K_123h:EntH Tryz.prog:=EntH.pk1 (α:=Int) 123 (fun a=>True) (fun a=>.d (.bool (inR a 1 11))) (fun a=>[]) (fun a hc=>PureP.ans (isOp_c a))
theorem K_123h_f:K_123h.f=123:=rfl
theorem K_123h_g:K_123h.gro=true:=rfl
theorem K_123h_e {x1:V} {H:Heap}:K_123h.e [x1] H=guardR ((decA (α:=Int) H x1).1) (peekR (True) (.d (.bool (inR (decA (α:=Int) H x1).2 1 11))) ([]) H):=rfl
def arityI (op:Int):Int:=if op=1∨op=2 then 0 else if op=3 then 1 else if op=11 then 3 else 2
theorem arityI_c (op:Int):PureP Tryz.prog 124 [.d (.int .i64 op)] (· = .d (.int .i64 (arityI op))):=by
  refine pure_of Tryz.func124 en_124 rfl rfl (W_run mixed ⟨[],[],[],11,0,[0,2,3,4,7,9],[4,7,9]⟩ (fun _=>[]) (by kernel_rfl) ?_)
  simp only [Tryz.f124,stripX,stripOps,pickOps]
  simp []
  repeat' first | apply And.intro | intro _
  all_goals simp [arityI, *]
noncomputable def K_124:Ent Tryz.prog:=Ent.p1 (α:=Int) 124 (fun a=>True) (fun a=>.d (.int .i64 (arityI a))) (fun a hc=>arityI_c a)
theorem K_124_f:K_124.f=124:=rfl
theorem K_124_e (a:Int):K_124.e [.d (.int .i64 a)]=some (True,.d (.int .i64 (arityI a)),[]):=by unfold K_124;exact Ent.p1_eq (α:=Int) a
noncomputable def K_124h:EntH Tryz.prog:=EntH.pk1 (α:=Int) 124 (fun a=>True) (fun a=>.d (.int .i64 (arityI a))) (fun a=>[]) (fun a hc=>PureP.ans (arityI_c a))
theorem K_124h_f:K_124h.f=124:=rfl
theorem K_124h_g:K_124h.gro=true:=rfl
theorem K_124h_e {x1:V} {H:Heap}:K_124h.e [x1] H=guardR ((decA (α:=Int) H x1).1) (peekR (True) (.d (.int .i64 (arityI (decA (α:=Int) H x1).2))) ([]) H):=rfl
theorem argsOf_c (op:Int):PureP Tryz.prog 110 [.d (.int .i64 op)] (· = .d (.int .i64 (arity op))):=by
  refine pure_of Tryz.func110 en_110 rfl rfl (W_run mixed ⟨[K_123,K_124],[K_123h,K_124h],[],18,0,[0,2,3,6,9],[3,6,9,12]⟩ (fun _=>[]) (by kernel_rfl) ?_)
  simp only [Tryz.f110,stripX,stripOps,pickOps]
  simp [K_123_f,K_123_e,K_124_f,K_124_e,K_123h_f,K_123h_e,K_124h_f,K_124h_e,K_123h_g,K_124h_g]
  repeat' first | apply And.intro | intro _
  all_goals try simp only [inR_t,inR_f] at *
  all_goals simp [arity,arity1,arityI,inR, *]
  all_goals (repeat' split) <;> omega
noncomputable def K_110:Ent Tryz.prog:=Ent.p1 (α:=Int) 110 (fun a=>True) (fun a=>.d (.int .i64 (arity a))) (fun a hc=>argsOf_c a)
theorem K_110_f:K_110.f=110:=rfl
theorem K_110_e (a:Int):K_110.e [.d (.int .i64 a)]=some (True,.d (.int .i64 (arity a)),[]):=by unfold K_110;exact Ent.p1_eq (α:=Int) a
noncomputable def K_110h:EntH Tryz.prog:=EntH.pk1 (α:=Int) 110 (fun a=>True) (fun a=>.d (.int .i64 (arity a))) (fun a=>[]) (fun a hc=>PureP.ans (argsOf_c a))
theorem K_110h_f:K_110h.f=110:=rfl
theorem K_110h_g:K_110h.gro=true:=rfl
theorem K_110h_e {x1:V} {H:Heap}:K_110h.e [x1] H=guardR ((decA (α:=Int) H x1).1) (peekR (True) (.d (.int .i64 (arity (decA (α:=Int) H x1).2))) ([]) H):=rfl
@[simp] theorem closedL_upto (n:Nat) (f:Nat→D):closedL (upto n fun j=>.d (f j))=true:=by
  induction n generalizing f with
  | zero=>rfl
  | succ n ih=>simp [upto,ih]
def idxP {α:Type} (p:α→Bool):List α→Int→Int
  | [],_=>-1
  | x :: l,i=>if p x then i else idxP p l (i + 1)
theorem idxP_ge {α:Type} (p:α→Bool):∀ (l:List α) (i:Int),0≤i→(decide (0≤idxP p l i)=l.any p)
  | [],i,h=>by simp [idxP]
  | x :: l, i, h => by
    simp only [idxP,List.any_cons]
    by_cases hp:p x=true
    · simp [hp,h]
    · simp only [Bool.not_eq_true] at hp
      simp only [hp,Bool.false_eq_true,if_false,Bool.false_or]
      exact idxP_ge p l (i + 1) (by omega)
theorem indexFuncInt_c {g n:Nat} {cap:Nat→D} (p:Int→Bool) (l:List Int) (hl:Enc.good l) (hg:∀ i,i < l.length→PureP Tryz.prog g ((fun x:Int=>.d (.int .i64 x)) (l[i]?.getD default) :: upto n fun j=>.d (cap j)) (· = .d (.bool (p (l[i]?.getD default))))) :
    PureP Tryz.prog 102 [.d (dIntS l),.d (.clo g n cap)] (· = .d (.int .i64 (idxP p l 0))):=by
  have hlen:=good_len hl
  refine pure_of Tryz.func102 en_102 rfl rfl (W_run mixed ⟨[],[],[],19,0,[0,1,4,5,7,8,9,16],[9,16]⟩ (fun _=>[]) (by kernel_rfl) ?_)
  simp only [Tryz.f102,stripX,stripOps,pickOps]
  simp []
  refine W_loopA (fun i:Nat=>[(0,.d (dIntS l)),(1,.d (.clo g n cap)),(7,.d (.int .i64 l.length)),(8,.d (.int .i64 i))]) (fun _=>[]) (fun i=>i≤l.length∧idxP p (l.drop i) i=idxP p l 0) (fun i=>l.length - i) 0 ?_ ?_ ?_
  · simp
  · simp
  rintro i ⟨hi,hm⟩
  refine W_run mixed ⟨[],[],[],19,0,[0,1,4,5,7,8,9,16],[9,16]⟩ (fun _=>[]) (by kernel_rfl) ?_
  simp only [stripX,stripOps,pickOps]
  simp []
  refine ⟨fun h=>⟨h, ?_⟩,fun h=>?_⟩
  · rw [drop_cons h] at hm
    simp only [idxP] at hm
    refine ((hg i h).calls (by simp [closedL,V.closed])).mono ?_
    rintro r H' ⟨rfl,rfl⟩
    simp
    refine ⟨fun q=>?_,fun q=>⟨i + 1,⟨by omega, ?_⟩,by omega,by rw [wrap_id] <;> omega⟩⟩
    · rw [if_pos (by exact q)] at hm;exact hm
    · rw [if_neg (by intro q';have:=q.symm.trans q';cases this)] at hm;exact hm
  · rw [List.drop_eq_nil_of_le h] at hm;simpa [idxP] using hm
theorem containsFuncInt_c {g n:Nat} {cap:Nat→D} (p:Int→Bool) (l:List Int) (hl:Enc.good l) (hg:∀ i,i < l.length→PureP Tryz.prog g ((fun x:Int=>.d (.int .i64 x)) (l[i]?.getD default) :: upto n fun j=>.d (cap j)) (· = .d (.bool (p (l[i]?.getD default))))) :
    PureP Tryz.prog 76 [.d (dIntS l),.d (.clo g n cap)] (· = .d (.bool (l.any p))):=by
  refine pure_of Tryz.func76 en_76 rfl rfl (W_run mixed ⟨[],[],[102],9,0,[0,1,4],[]⟩ (fun _=>[]) (by kernel_rfl) ?_)
  simp only [Tryz.f76,stripX,stripOps,pickOps]
  simp []
  refine ((indexFuncInt_c p l hl hg).calls (by simp)).mono ?_
  rintro r H' ⟨rfl,rfl⟩
  simp
  exact idxP_ge p l 0 (by omega)
theorem indexFuncInst_c {g n:Nat} {cap:Nat→D} (p:Inst→Bool) (l:List Inst) (hl:Enc.good l) (hg:∀ i,i < l.length→PureP Tryz.prog g ((fun x:Inst=>vInst x) (l[i]?.getD default) :: upto n fun j=>.d (cap j)) (· = .d (.bool (p (l[i]?.getD default))))) :
    PureP Tryz.prog 109 [.d (dInstS l),.d (.clo g n cap)] (· = .d (.int .i64 (idxP p l 0))):=by
  have hlen:=good_len hl
  refine pure_of Tryz.func109 en_109 rfl rfl (W_run mixed ⟨[],[],[],19,0,[0,1,4,5,7,8,9,16],[9,16]⟩ (fun _=>[]) (by kernel_rfl) ?_)
  simp only [Tryz.f109,stripX,stripOps,pickOps]
  simp []
  refine W_loopA (fun i:Nat=>[(0,.d (dInstS l)),(1,.d (.clo g n cap)),(7,.d (.int .i64 l.length)),(8,.d (.int .i64 i))]) (fun _=>[]) (fun i=>i≤l.length∧idxP p (l.drop i) i=idxP p l 0) (fun i=>l.length - i) 0 ?_ ?_ ?_
  · simp
  · simp
  rintro i ⟨hi,hm⟩
  refine W_run mixed ⟨[],[],[],19,0,[0,1,4,5,7,8,9,16],[9,16]⟩ (fun _=>[]) (by kernel_rfl) ?_
  simp only [stripX,stripOps,pickOps]
  simp []
  refine ⟨fun h=>⟨h, ?_⟩,fun h=>?_⟩
  · rw [drop_cons h] at hm
    simp only [idxP] at hm
    refine ((hg i h).calls (by simp [closedL,V.closed])).mono ?_
    rintro r H' ⟨rfl,rfl⟩
    simp
    refine ⟨fun q=>?_,fun q=>⟨i + 1,⟨by omega, ?_⟩,by omega,by rw [wrap_id] <;> omega⟩⟩
    · rw [if_pos (by exact q)] at hm;exact hm
    · rw [if_neg (by intro q';have:=q.symm.trans q';cases this)] at hm;exact hm
  · rw [List.drop_eq_nil_of_le h] at hm;simpa [idxP] using hm
theorem containsFuncInst_c {g n:Nat} {cap:Nat→D} (p:Inst→Bool) (l:List Inst) (hl:Enc.good l) (hg:∀ i,i < l.length→PureP Tryz.prog g ((fun x:Inst=>vInst x) (l[i]?.getD default) :: upto n fun j=>.d (cap j)) (· = .d (.bool (p (l[i]?.getD default))))) :
    PureP Tryz.prog 83 [.d (dInstS l),.d (.clo g n cap)] (· = .d (.bool (l.any p))):=by
  refine pure_of Tryz.func83 en_83 rfl rfl (W_run mixed ⟨[],[],[109],9,0,[0,1,4],[]⟩ (fun _=>[]) (by kernel_rfl) ?_)
  simp only [Tryz.f83,stripX,stripOps,pickOps]
  simp []
  refine ((indexFuncInst_c p l hl hg).calls (by simp)).mono ?_
  rintro r H' ⟨rfl,rfl⟩
  simp
  exact idxP_ge p l 0 (by omega)
theorem indexFuncJump_c {g n:Nat} {cap:Nat→D} (p:Jump→Bool) (l:List Jump) (hl:Enc.good l) (hg:∀ i,i < l.length→PureP Tryz.prog g ((fun x:Jump=>vJump x) (l[i]?.getD default) :: upto n fun j=>.d (cap j)) (· = .d (.bool (p (l[i]?.getD default))))) :
    PureP Tryz.prog 111 [.d (dJumpS l),.d (.clo g n cap)] (· = .d (.int .i64 (idxP p l 0))):=by
  have hlen:=good_len hl
  refine pure_of Tryz.func111 en_111 rfl rfl (W_run mixed ⟨[],[],[],19,0,[0,1,4,5,7,8,9,16],[9,16]⟩ (fun _=>[]) (by kernel_rfl) ?_)
  simp only [Tryz.f111,stripX,stripOps,pickOps]
  simp []
  refine W_loopA (fun i:Nat=>[(0,.d (dJumpS l)),(1,.d (.clo g n cap)),(7,.d (.int .i64 l.length)),(8,.d (.int .i64 i))]) (fun _=>[]) (fun i=>i≤l.length∧idxP p (l.drop i) i=idxP p l 0) (fun i=>l.length - i) 0 ?_ ?_ ?_
  · simp
  · simp
  rintro i ⟨hi,hm⟩
  refine W_run mixed ⟨[],[],[],19,0,[0,1,4,5,7,8,9,16],[9,16]⟩ (fun _=>[]) (by kernel_rfl) ?_
  simp only [stripX,stripOps,pickOps]
  simp []
  refine ⟨fun h=>⟨h, ?_⟩,fun h=>?_⟩
  · rw [drop_cons h] at hm
    simp only [idxP] at hm
    refine ((hg i h).calls (by simp [closedL,V.closed])).mono ?_
    rintro r H' ⟨rfl,rfl⟩
    simp
    refine ⟨fun q=>?_,fun q=>⟨i + 1,⟨by omega, ?_⟩,by omega,by rw [wrap_id] <;> omega⟩⟩
    · rw [if_pos (by exact q)] at hm;exact hm
    · rw [if_neg (by intro q';have:=q.symm.trans q';cases this)] at hm;exact hm
  · rw [List.drop_eq_nil_of_le h] at hm;simpa [idxP] using hm
theorem containsFuncJump_c {g n:Nat} {cap:Nat→D} (p:Jump→Bool) (l:List Jump) (hl:Enc.good l) (hg:∀ i,i < l.length→PureP Tryz.prog g ((fun x:Jump=>vJump x) (l[i]?.getD default) :: upto n fun j=>.d (cap j)) (· = .d (.bool (p (l[i]?.getD default))))) :
    PureP Tryz.prog 86 [.d (dJumpS l),.d (.clo g n cap)] (· = .d (.bool (l.any p))):=by
  refine pure_of Tryz.func86 en_86 rfl rfl (W_run mixed ⟨[],[],[111],9,0,[0,1,4],[]⟩ (fun _=>[]) (by kernel_rfl) ?_)
  simp only [Tryz.f86,stripX,stripOps,pickOps]
  simp []
  refine ((indexFuncJump_c p l hl hg).calls (by simp)).mono ?_
  rintro r H' ⟨rfl,rfl⟩
  simp
  exact idxP_ge p l 0 (by omega)
theorem indexFuncBlock_c {g n:Nat} {cap:Nat→D} (p:Block→Bool) (l:List Block) (hl:Enc.good l) (hg:∀ i,i < l.length→PureP Tryz.prog g ((fun x:Block=>vBlock x) (l[i]?.getD default) :: upto n fun j=>.d (cap j)) (· = .d (.bool (p (l[i]?.getD default))))) :
    PureP Tryz.prog 82 [.d (dBlockS l),.d (.clo g n cap)] (· = .d (.int .i64 (idxP p l 0))):=by
  have hlen:=good_len hl
  refine pure_of Tryz.func82 en_82 rfl rfl (W_run mixed ⟨[],[],[],19,0,[0,1,4,5,7,8,9,16],[9,16]⟩ (fun _=>[]) (by kernel_rfl) ?_)
  simp only [Tryz.f82,stripX,stripOps,pickOps]
  simp []
  refine W_loopA (fun i:Nat=>[(0,.d (dBlockS l)),(1,.d (.clo g n cap)),(7,.d (.int .i64 l.length)),(8,.d (.int .i64 i))]) (fun _=>[]) (fun i=>i≤l.length∧idxP p (l.drop i) i=idxP p l 0) (fun i=>l.length - i) 0 ?_ ?_ ?_
  · simp
  · simp
  rintro i ⟨hi,hm⟩
  refine W_run mixed ⟨[],[],[],19,0,[0,1,4,5,7,8,9,16],[9,16]⟩ (fun _=>[]) (by kernel_rfl) ?_
  simp only [stripX,stripOps,pickOps]
  simp []
  refine ⟨fun h=>⟨h, ?_⟩,fun h=>?_⟩
  · rw [drop_cons h] at hm
    simp only [idxP] at hm
    refine ((hg i h).calls (by simp [closedL,V.closed])).mono ?_
    rintro r H' ⟨rfl,rfl⟩
    simp
    refine ⟨fun q=>?_,fun q=>⟨i + 1,⟨by omega, ?_⟩,by omega,by rw [wrap_id] <;> omega⟩⟩
    · rw [if_pos (by exact q)] at hm;exact hm
    · rw [if_neg (by intro q';have:=q.symm.trans q';cases this)] at hm;exact hm
  · rw [List.drop_eq_nil_of_le h] at hm;simpa [idxP] using hm
theorem containsFuncBlock_c {g n:Nat} {cap:Nat→D} (p:Block→Bool) (l:List Block) (hl:Enc.good l) (hg:∀ i,i < l.length→PureP Tryz.prog g ((fun x:Block=>vBlock x) (l[i]?.getD default) :: upto n fun j=>.d (cap j)) (· = .d (.bool (p (l[i]?.getD default))))) :
    PureP Tryz.prog 61 [.d (dBlockS l),.d (.clo g n cap)] (· = .d (.bool (l.any p))):=by
  refine pure_of Tryz.func61 en_61 rfl rfl (W_run mixed ⟨[],[],[82],9,0,[0,1,4],[]⟩ (fun _=>[]) (by kernel_rfl) ?_)
  simp only [Tryz.f61,stripX,stripOps,pickOps]
  simp []
  refine ((indexFuncBlock_c p l hl hg).calls (by simp)).mono ?_
  rintro r H' ⟨rfl,rfl⟩
  simp
  exact idxP_ge p l 0 (by omega)
end Go.Proofs.YthafdegfjadijaaGreat
end
