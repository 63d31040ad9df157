/- Contracts of the program's small functions over numbers, of slices' search functions, and of what a view says of values. No condition. -/
import Derived.KernelRfl
import Derived.Test.YtnomiclfiijniaaQDat
import Derived.Test.YtnomiclfiijniaaQTy
section
namespace Go.Proofs.Ytnomiclfiijniaa
set_option maxRecDepth 100000
set_option linter.unusedSimpArgs false
set_option linter.unusedVariables false
theorem mixed:Try.prog.follows .mixedOrders=true:=by kernel_rfl
end Go.Proofs.Ytnomiclfiijniaa
end

section
namespace Go.Proofs.Ytnomiclfiijniaa
set_option maxRecDepth 100000
set_option linter.unusedSimpArgs false
set_option linter.unusedVariables false
def inR (n lo hi:Int):Bool:=decide (lo≤n∧n≤hi)
theorem inR_t {n lo hi:Int}:inR n lo hi=true ↔ lo≤n∧n≤hi:=by simp [inR]
theorem inR_f {n lo hi:Int}:inR n lo hi=false ↔ ¬ (lo≤n∧n≤hi):=by simp [inR]
theorem l1In_c (n lo hi:Int):PureP Try.prog 44 [.d (.int .i64 n),.d (.int .i64 lo),.d (.int .i64 hi)] (· = .d (.bool (inR n lo hi))):=by
  refine pure_of Try.func44 en_44 rfl rfl (W_run mixed ⟨[],[],[],15,0,[0,1,2,6],[10]⟩ (fun _=>[]) (by kernel_rfl) ?_)
  simp only [Try.f44,stripX,stripOps,pickOps]
  simp []
  refine ⟨fun h=>?_,fun h=>?_⟩ <;> simp [inR] <;> omega
theorem within_c (n lo hi:Int):PureP Try.prog 47 [.d (.int .i64 n),.d (.int .i64 lo),.d (.int .i64 hi)] (· = .d (.bool (inR n lo hi))):=by
  refine pure_of Try.func47 en_47 rfl rfl (W_run mixed ⟨[],[],[],15,0,[0,1,2,6],[10]⟩ (fun _=>[]) (by kernel_rfl) ?_)
  simp only [Try.f47,stripX,stripOps,pickOps]
  simp []
  refine ⟨fun h=>?_,fun h=>?_⟩ <;> simp [inR] <;> omega
noncomputable def K_44:Ent Try.prog:=Ent.p3 (α:=Int) (β:=Int) (γ:=Int) 44 (fun a b c=>True) (fun a b c=>.d (.bool (inR a b c))) (fun a b c hc=>l1In_c a b c)
theorem K_44_f:K_44.f=44:=rfl
theorem K_44_e (a:Int) (b:Int) (c:Int):K_44.e [.d (.int .i64 a),.d (.int .i64 b),.d (.int .i64 c)]=some (True,.d (.bool (inR a b c)),[]):=by unfold K_44;exact Ent.p3_eq (α:=Int) (β:=Int) (γ:=Int) a b c
noncomputable def K_44h:EntH Try.prog:=EntH.pk3 (α:=Int) (β:=Int) (γ:=Int) 44 (fun a b c=>True) (fun a b c=>.d (.bool (inR a b c))) (fun a b c=>[]) (fun a b c hc=>PureP.ans (l1In_c a b c))
theorem K_44h_f:K_44h.f=44:=rfl
theorem K_44h_g:K_44h.gro=true:=rfl
theorem K_44h_e {x1 x2 x3:V} {H:Heap}:K_44h.e [x1,x2,x3] H=guardR ((decA (α:=Int) H x1).1∧(decA (α:=Int) H x2).1∧(decA (α:=Int) H x3).1) (peekR (True) (.d (.bool (inR (decA (α:=Int) H x1).2 (decA (α:=Int) H x2).2 (decA (α:=Int) H x3).2))) ([]) H):=rfl
noncomputable def K_47:Ent Try.prog:=Ent.p3 (α:=Int) (β:=Int) (γ:=Int) 47 (fun a b c=>True) (fun a b c=>.d (.bool (inR a b c))) (fun a b c hc=>within_c a b c)
theorem K_47_f:K_47.f=47:=rfl
theorem K_47_e (a:Int) (b:Int) (c:Int):K_47.e [.d (.int .i64 a),.d (.int .i64 b),.d (.int .i64 c)]=some (True,.d (.bool (inR a b c)),[]):=by unfold K_47;exact Ent.p3_eq (α:=Int) (β:=Int) (γ:=Int) a b c
noncomputable def K_47h:EntH Try.prog:=EntH.pk3 (α:=Int) (β:=Int) (γ:=Int) 47 (fun a b c=>True) (fun a b c=>.d (.bool (inR a b c))) (fun a b c=>[]) (fun a b c hc=>PureP.ans (within_c a b c))
theorem K_47h_f:K_47h.f=47:=rfl
theorem K_47h_g:K_47h.gro=true:=rfl
theorem K_47h_e {x1 x2 x3:V} {H:Heap}:K_47h.e [x1,x2,x3] H=guardR ((decA (α:=Int) H x1).1∧(decA (α:=Int) H x2).1∧(decA (α:=Int) H x3).1) (peekR (True) (.d (.bool (inR (decA (α:=Int) H x1).2 (decA (α:=Int) H x2).2 (decA (α:=Int) H x3).2))) ([]) H):=rfl
def arity1 (op:Int):Int:=if op=1∨op=2 then 0 else if op=3 then 1 else if op=11 then 3 else if inR op 4 10 then 2 else -1
theorem l1Arity_c (op:Int):PureP Try.prog 99 [.d (.int .i64 op)] (· = .d (.int .i64 (arity1 op))):=by
  refine pure_of Try.func99 en_99 rfl rfl (W_run mixed ⟨[K_44],[K_44h],[],19,0,[0,2,3,10,13,16],[3,6,10,13,16]⟩ (fun _=>[]) (by kernel_rfl) ?_)
  simp only [Try.f99,stripX,stripOps,pickOps]
  simp [K_44_f,K_44_e,K_44h_f,K_44h_e,K_44h_g]
  repeat' first | apply And.intro | intro _
  all_goals simp [arity1, *]
noncomputable def K_99:Ent Try.prog:=Ent.p1 (α:=Int) 99 (fun a=>True) (fun a=>.d (.int .i64 (arity1 a))) (fun a hc=>l1Arity_c a)
theorem K_99_f:K_99.f=99:=rfl
theorem K_99_e (a:Int):K_99.e [.d (.int .i64 a)]=some (True,.d (.int .i64 (arity1 a)),[]):=by unfold K_99;exact Ent.p1_eq (α:=Int) a
noncomputable def K_99h:EntH Try.prog:=EntH.pk1 (α:=Int) 99 (fun a=>True) (fun a=>.d (.int .i64 (arity1 a))) (fun a=>[]) (fun a hc=>PureP.ans (l1Arity_c a))
theorem K_99h_f:K_99h.f=99:=rfl
theorem K_99h_g:K_99h.gro=true:=rfl
theorem K_99h_e {x1:V} {H:Heap}:K_99h.e [x1] H=guardR ((decA (α:=Int) H x1).1) (peekR (True) (.d (.int .i64 (arity1 (decA (α:=Int) H x1).2))) ([]) H):=rfl
def arity (op:Int):Int:=if op=12 then 1 else if op=13 then 2 else if op=2 then -1 else arity1 op
theorem l12Arity_c (op:Int):PureP Try.prog 58 [.d (.int .i64 op)] (· = .d (.int .i64 (arity op))):=by
  refine pure_of Try.func58 en_58 rfl rfl (W_run mixed ⟨[K_99],[K_99h],[],12,0,[0,2,3,4,6,8],[4,6,8]⟩ (fun _=>[]) (by kernel_rfl) ?_)
  simp only [Try.f58,stripX,stripOps,pickOps]
  simp [K_99_f,K_99_e,K_99h_f,K_99h_e,K_99h_g]
  repeat' first | apply And.intro | intro _
  all_goals simp [arity, *]
noncomputable def K_58:Ent Try.prog:=Ent.p1 (α:=Int) 58 (fun a=>True) (fun a=>.d (.int .i64 (arity a))) (fun a hc=>l12Arity_c a)
theorem K_58_f:K_58.f=58:=rfl
theorem K_58_e (a:Int):K_58.e [.d (.int .i64 a)]=some (True,.d (.int .i64 (arity a)),[]):=by unfold K_58;exact Ent.p1_eq (α:=Int) a
noncomputable def K_58h:EntH Try.prog:=EntH.pk1 (α:=Int) 58 (fun a=>True) (fun a=>.d (.int .i64 (arity a))) (fun a=>[]) (fun a hc=>PureP.ans (l12Arity_c a))
theorem K_58h_f:K_58h.f=58:=rfl
theorem K_58h_g:K_58h.gro=true:=rfl
theorem K_58h_e {x1:V} {H:Heap}:K_58h.e [x1] H=guardR ((decA (α:=Int) H x1).1) (peekR (True) (.d (.int .i64 (arity (decA (α:=Int) H x1).2))) ([]) H):=rfl
def allIn (l:List Int) (lo hi:Int):Bool:=l.all fun n=>inR n lo hi
theorem allIn_cons (x:Int) (l:List Int) (lo hi:Int):allIn (x :: l) lo hi=(inR x lo hi && allIn l lo hi):=by simp [allIn]
theorem l1All_c (l:List Int) (lo hi:Int) (hl:Enc.good l):PureP Try.prog 59 [.d (dIntS l),.d (.int .i64 lo),.d (.int .i64 hi)] (· = .d (.bool (allIn l lo hi))):=by
  have hlen:=good_len hl
  refine pure_of Try.func59 en_59 rfl rfl (W_run mixed ⟨[K_44],[K_44h],[],21,0,[0,1,2,6,8,9,10,11,12,19],[12,19]⟩ (fun _=>[]) (by kernel_rfl) ?_)
  simp only [Try.f59,stripX,stripOps,pickOps]
  simp [K_44_f,K_44_e,K_44h_f,K_44h_e,K_44h_g]
  refine W_loopA (fun i:Nat=>[(1,.d (.int .i64 lo)),(2,.d (.int .i64 hi)),(9,.d (dIntS l)),(10,.d (.int .i64 l.length)),(11,.d (.int .i64 i))]) (fun _=>[]) (fun i=>i≤l.length∧allIn l lo hi=allIn (l.drop i) lo hi) (fun i=>l.length - i) 0 ?_ ?_ ?_
  · simp
  · simp
  · rintro i ⟨hi,hm⟩
    refine W_run mixed ⟨[K_44],[K_44h],[],21,0,[0,1,2,6,8,9,10,11,12,19],[12,19]⟩ (fun _=>[]) (by kernel_rfl) ?_
    simp only [stripX,stripOps,pickOps]
    simp [K_44_f,K_44_e,K_44h_f,K_44h_e,K_44h_g]
    refine ⟨fun h=>?_,fun h=>?_⟩
    · rw [drop_cons h] at hm
      refine ⟨h,fun h1=>?_,fun h1=>⟨i + 1,⟨by omega, ?_⟩,by omega,by rw [wrap_id] <;> omega⟩⟩
      · rw [hm];simp [allIn_cons,h1]
      · rw [hm];simp [allIn_cons,h1]
    · rw [hm,List.drop_eq_nil_of_le h];rfl
noncomputable def K_59:Ent Try.prog:=Ent.p3 (α:=List Int) (β:=Int) (γ:=Int) 59 (fun l lo hi=>Enc.good l) (fun l lo hi=>.d (.bool (allIn l lo hi))) (fun l lo hi hc=>l1All_c l lo hi hc)
theorem K_59_f:K_59.f=59:=rfl
theorem K_59_e (l:List Int) (lo:Int) (hi:Int):K_59.e [.d (dIntS l),.d (.int .i64 lo),.d (.int .i64 hi)]=some (Enc.good l,.d (.bool (allIn l lo hi)),[]):=by unfold K_59;exact Ent.p3_eq (α:=List Int) (β:=Int) (γ:=Int) l lo hi
noncomputable def K_59h:EntH Try.prog:=EntH.pk3 (α:=List Int) (β:=Int) (γ:=Int) 59 (fun l lo hi=>Enc.good l) (fun l lo hi=>.d (.bool (allIn l lo hi))) (fun l lo hi=>[]) (fun l lo hi hc=>PureP.ans (l1All_c l lo hi hc))
theorem K_59h_f:K_59h.f=59:=rfl
theorem K_59h_g:K_59h.gro=true:=rfl
theorem K_59h_e {x1 x2 x3:V} {H:Heap}:K_59h.e [x1,x2,x3] H=guardR ((decA (α:=List Int) H x1).1∧(decA (α:=Int) H x2).1∧(decA (α:=Int) H x3).1) (peekR (Enc.good (decA (α:=List Int) H x1).2) (.d (.bool (allIn (decA (α:=List Int) H x1).2 (decA (α:=Int) H x2).2 (decA (α:=Int) H x3).2))) ([]) H):=rfl
end Go.Proofs.Ytnomiclfiijniaa
end

section
namespace Go.Proofs.Ytnomiclfiijniaa
set_option maxRecDepth 100000
set_option linter.unusedSimpArgs false
set_option linter.unusedVariables false
theorem isOp_c (op:Int):PureP Try.prog 132 [.d (.int .i64 op)] (· = .d (.bool (inR op 1 11))):=by
  refine pure_of Try.func132 en_132 rfl rfl (W_run mixed ⟨[K_47],[K_47h],[],5,0,[0,2],[]⟩ (fun _=>[]) (by kernel_rfl) ?_)
  simp only [Try.f132,stripX,stripOps,pickOps]
  simp [K_47_f,K_47_e,K_47h_f,K_47h_e,K_47h_g]
noncomputable def K_132:Ent Try.prog:=Ent.p1 (α:=Int) 132 (fun a=>True) (fun a=>.d (.bool (inR a 1 11))) (fun a hc=>isOp_c a)
theorem K_132_f:K_132.f=132:=rfl
theorem K_132_e (a:Int):K_132.e [.d (.int .i64 a)]=some (True,.d (.bool (inR a 1 11)),[]):=by unfold K_132;exact Ent.p1_eq (α:=Int) a
noncomputable def K_132h:EntH Try.prog:=EntH.pk1 (α:=Int) 132 (fun a=>True) (fun a=>.d (.bool (inR a 1 11))) (fun a=>[]) (fun a hc=>PureP.ans (isOp_c a))
theorem K_132h_f:K_132h.f=132:=rfl
theorem K_132h_g:K_132h.gro=true:=rfl
theorem K_132h_e {x1:V} {H:Heap}:K_132h.e [x1] H=guardR ((decA (α:=Int) H x1).1) (peekR (True) (.d (.bool (inR (decA (α:=Int) H x1).2 1 11))) ([]) H):=rfl
def arityI (op:Int):Int:=if op=1∨op=2 then 0 else if op=3 then 1 else if op=11 then 3 else 2
theorem arityI_c (op:Int):PureP Try.prog 133 [.d (.int .i64 op)] (· = .d (.int .i64 (arityI op))):=by
  refine pure_of Try.func133 en_133 rfl rfl (W_run mixed ⟨[],[],[],11,0,[0,2,3,4,7,9],[4,7,9]⟩ (fun _=>[]) (by kernel_rfl) ?_)
  simp only [Try.f133,stripX,stripOps,pickOps]
  simp []
  repeat' first | apply And.intro | intro _
  all_goals simp [arityI, *]
noncomputable def K_133:Ent Try.prog:=Ent.p1 (α:=Int) 133 (fun a=>True) (fun a=>.d (.int .i64 (arityI a))) (fun a hc=>arityI_c a)
theorem K_133_f:K_133.f=133:=rfl
theorem K_133_e (a:Int):K_133.e [.d (.int .i64 a)]=some (True,.d (.int .i64 (arityI a)),[]):=by unfold K_133;exact Ent.p1_eq (α:=Int) a
noncomputable def K_133h:EntH Try.prog:=EntH.pk1 (α:=Int) 133 (fun a=>True) (fun a=>.d (.int .i64 (arityI a))) (fun a=>[]) (fun a hc=>PureP.ans (arityI_c a))
theorem K_133h_f:K_133h.f=133:=rfl
theorem K_133h_g:K_133h.gro=true:=rfl
theorem K_133h_e {x1:V} {H:Heap}:K_133h.e [x1] H=guardR ((decA (α:=Int) H x1).1) (peekR (True) (.d (.int .i64 (arityI (decA (α:=Int) H x1).2))) ([]) H):=rfl
theorem argsOf_c (op:Int):PureP Try.prog 125 [.d (.int .i64 op)] (· = .d (.int .i64 (arity op))):=by
  refine pure_of Try.func125 en_125 rfl rfl (W_run mixed ⟨[K_132,K_133],[K_132h,K_133h],[],18,0,[0,2,3,6,9],[3,6,9,12]⟩ (fun _=>[]) (by kernel_rfl) ?_)
  simp only [Try.f125,stripX,stripOps,pickOps]
  simp [K_132_f,K_132_e,K_133_f,K_133_e,K_132h_f,K_132h_e,K_133h_f,K_133h_e,K_132h_g,K_133h_g]
  repeat' first | apply And.intro | intro _
  all_goals try simp only [inR_t,inR_f] at *
  all_goals simp [arity,arity1,arityI,inR, *]
  all_goals (repeat' split) <;> omega
noncomputable def K_125:Ent Try.prog:=Ent.p1 (α:=Int) 125 (fun a=>True) (fun a=>.d (.int .i64 (arity a))) (fun a hc=>argsOf_c a)
theorem K_125_f:K_125.f=125:=rfl
theorem K_125_e (a:Int):K_125.e [.d (.int .i64 a)]=some (True,.d (.int .i64 (arity a)),[]):=by unfold K_125;exact Ent.p1_eq (α:=Int) a
noncomputable def K_125h:EntH Try.prog:=EntH.pk1 (α:=Int) 125 (fun a=>True) (fun a=>.d (.int .i64 (arity a))) (fun a=>[]) (fun a hc=>PureP.ans (argsOf_c a))
theorem K_125h_f:K_125h.f=125:=rfl
theorem K_125h_g:K_125h.gro=true:=rfl
theorem K_125h_e {x1:V} {H:Heap}:K_125h.e [x1] H=guardR ((decA (α:=Int) H x1).1) (peekR (True) (.d (.int .i64 (arity (decA (α:=Int) H x1).2))) ([]) H):=rfl
@[simp] theorem closedL_upto (n:Nat) (f:Nat→D):closedL (upto n fun j=>.d (f j))=true:=by
  induction n generalizing f with
  | zero=>rfl
  | succ n ih=>simp [upto,ih]
def idxP {α:Type} (p:α→Bool):List α→Int→Int
  | [],_=>-1
  | x :: l,i=>if p x then i else idxP p l (i + 1)
theorem idxP_ge {α:Type} (p:α→Bool):∀ (l:List α) (i:Int),0≤i→(decide (0≤idxP p l i)=l.any p)
  | [],i,h=>by simp [idxP]
  | x :: l, i, h => by
    simp only [idxP,List.any_cons]
    by_cases hp:p x=true
    · simp [hp,h]
    · simp only [Bool.not_eq_true] at hp
      simp only [hp,Bool.false_eq_true,if_false,Bool.false_or]
      exact idxP_ge p l (i + 1) (by omega)
theorem indexFuncInt_c {g n:Nat} {cap:Nat→D} (p:Int→Bool) (l:List Int) (hl:Enc.good l) (hg:∀ i,i < l.length→PureP Try.prog g ((fun x:Int=>.d (.int .i64 x)) (l[i]?.getD default) :: upto n fun j=>.d (cap j)) (· = .d (.bool (p (l[i]?.getD default))))) :
    PureP Try.prog 120 [.d (dIntS l),.d (.clo g n cap)] (· = .d (.int .i64 (idxP p l 0))):=by
  have hlen:=good_len hl
  refine pure_of Try.func120 en_120 rfl rfl (W_run mixed ⟨[],[],[],19,0,[0,1,4,5,7,8,9,16],[9,16]⟩ (fun _=>[]) (by kernel_rfl) ?_)
  simp only [Try.f120,stripX,stripOps,pickOps]
  simp []
  refine W_loopA (fun i:Nat=>[(0,.d (dIntS l)),(1,.d (.clo g n cap)),(7,.d (.int .i64 l.length)),(8,.d (.int .i64 i))]) (fun _=>[]) (fun i=>i≤l.length∧idxP p (l.drop i) i=idxP p l 0) (fun i=>l.length - i) 0 ?_ ?_ ?_
  · simp
  · simp
  rintro i ⟨hi,hm⟩
  refine W_run mixed ⟨[],[],[],19,0,[0,1,4,5,7,8,9,16],[9,16]⟩ (fun _=>[]) (by kernel_rfl) ?_
  simp only [stripX,stripOps,pickOps]
  simp []
  refine ⟨fun h=>⟨h, ?_⟩,fun h=>?_⟩
  · rw [drop_cons h] at hm
    simp only [idxP] at hm
    refine ((hg i h).calls (by simp [closedL,V.closed])).mono ?_
    rintro r H' ⟨rfl,rfl⟩
    simp
    refine ⟨fun q=>?_,fun q=>⟨i + 1,⟨by omega, ?_⟩,by omega,by rw [wrap_id] <;> omega⟩⟩
    · rw [if_pos (by exact q)] at hm;exact hm
    · rw [if_neg (by intro q';have:=q.symm.trans q';cases this)] at hm;exact hm
  · rw [List.drop_eq_nil_of_le h] at hm;simpa [idxP] using hm
theorem containsFuncInt_c {g n:Nat} {cap:Nat→D} (p:Int→Bool) (l:List Int) (hl:Enc.good l) (hg:∀ i,i < l.length→PureP Try.prog g ((fun x:Int=>.d (.int .i64 x)) (l[i]?.getD default) :: upto n fun j=>.d (cap j)) (· = .d (.bool (p (l[i]?.getD default))))) :
    PureP Try.prog 89 [.d (dIntS l),.d (.clo g n cap)] (· = .d (.bool (l.any p))):=by
  refine pure_of Try.func89 en_89 rfl rfl (W_run mixed ⟨[],[],[120],9,0,[0,1,4],[]⟩ (fun _=>[]) (by kernel_rfl) ?_)
  simp only [Try.f89,stripX,stripOps,pickOps]
  simp []
  refine ((indexFuncInt_c p l hl hg).calls (by simp)).mono ?_
  rintro r H' ⟨rfl,rfl⟩
  simp
  exact idxP_ge p l 0 (by omega)
theorem indexFuncInst_c {g n:Nat} {cap:Nat→D} (p:Inst→Bool) (l:List Inst) (hl:Enc.good l) (hg:∀ i,i < l.length→PureP Try.prog g ((fun x:Inst=>vInst x) (l[i]?.getD default) :: upto n fun j=>.d (cap j)) (· = .d (.bool (p (l[i]?.getD default))))) :
    PureP Try.prog 124 [.d (dInstS l),.d (.clo g n cap)] (· = .d (.int .i64 (idxP p l 0))):=by
  have hlen:=good_len hl
  refine pure_of Try.func124 en_124 rfl rfl (W_run mixed ⟨[],[],[],19,0,[0,1,4,5,7,8,9,16],[9,16]⟩ (fun _=>[]) (by kernel_rfl) ?_)
  simp only [Try.f124,stripX,stripOps,pickOps]
  simp []
  refine W_loopA (fun i:Nat=>[(0,.d (dInstS l)),(1,.d (.clo g n cap)),(7,.d (.int .i64 l.length)),(8,.d (.int .i64 i))]) (fun _=>[]) (fun i=>i≤l.length∧idxP p (l.drop i) i=idxP p l 0) (fun i=>l.length - i) 0 ?_ ?_ ?_
  · simp
  · simp
  rintro i ⟨hi,hm⟩
  refine W_run mixed ⟨[],[],[],19,0,[0,1,4,5,7,8,9,16],[9,16]⟩ (fun _=>[]) (by kernel_rfl) ?_
  simp only [stripX,stripOps,pickOps]
  simp []
  refine ⟨fun h=>⟨h, ?_⟩,fun h=>?_⟩
  · rw [drop_cons h] at hm
    simp only [idxP] at hm
    refine ((hg i h).calls (by simp [closedL,V.closed])).mono ?_
    rintro r H' ⟨rfl,rfl⟩
    simp
    refine ⟨fun q=>?_,fun q=>⟨i + 1,⟨by omega, ?_⟩,by omega,by rw [wrap_id] <;> omega⟩⟩
    · rw [if_pos (by exact q)] at hm;exact hm
    · rw [if_neg (by intro q';have:=q.symm.trans q';cases this)] at hm;exact hm
  · rw [List.drop_eq_nil_of_le h] at hm;simpa [idxP] using hm
theorem containsFuncInst_c {g n:Nat} {cap:Nat→D} (p:Inst→Bool) (l:List Inst) (hl:Enc.good l) (hg:∀ i,i < l.length→PureP Try.prog g ((fun x:Inst=>vInst x) (l[i]?.getD default) :: upto n fun j=>.d (cap j)) (· = .d (.bool (p (l[i]?.getD default))))) :
    PureP Try.prog 114 [.d (dInstS l),.d (.clo g n cap)] (· = .d (.bool (l.any p))):=by
  refine pure_of Try.func114 en_114 rfl rfl (W_run mixed ⟨[],[],[124],9,0,[0,1,4],[]⟩ (fun _=>[]) (by kernel_rfl) ?_)
  simp only [Try.f114,stripX,stripOps,pickOps]
  simp []
  refine ((indexFuncInst_c p l hl hg).calls (by simp)).mono ?_
  rintro r H' ⟨rfl,rfl⟩
  simp
  exact idxP_ge p l 0 (by omega)
theorem indexFuncJump_c {g n:Nat} {cap:Nat→D} (p:Jump→Bool) (l:List Jump) (hl:Enc.good l) (hg:∀ i,i < l.length→PureP Try.prog g ((fun x:Jump=>vJump x) (l[i]?.getD default) :: upto n fun j=>.d (cap j)) (· = .d (.bool (p (l[i]?.getD default))))) :
    PureP Try.prog 126 [.d (dJumpS l),.d (.clo g n cap)] (· = .d (.int .i64 (idxP p l 0))):=by
  have hlen:=good_len hl
  refine pure_of Try.func126 en_126 rfl rfl (W_run mixed ⟨[],[],[],19,0,[0,1,4,5,7,8,9,16],[9,16]⟩ (fun _=>[]) (by kernel_rfl) ?_)
  simp only [Try.f126,stripX,stripOps,pickOps]
  simp []
  refine W_loopA (fun i:Nat=>[(0,.d (dJumpS l)),(1,.d (.clo g n cap)),(7,.d (.int .i64 l.length)),(8,.d (.int .i64 i))]) (fun _=>[]) (fun i=>i≤l.length∧idxP p (l.drop i) i=idxP p l 0) (fun i=>l.length - i) 0 ?_ ?_ ?_
  · simp
  · simp
  rintro i ⟨hi,hm⟩
  refine W_run mixed ⟨[],[],[],19,0,[0,1,4,5,7,8,9,16],[9,16]⟩ (fun _=>[]) (by kernel_rfl) ?_
  simp only [stripX,stripOps,pickOps]
  simp []
  refine ⟨fun h=>⟨h, ?_⟩,fun h=>?_⟩
  · rw [drop_cons h] at hm
    simp only [idxP] at hm
    refine ((hg i h).calls (by simp [closedL,V.closed])).mono ?_
    rintro r H' ⟨rfl,rfl⟩
    simp
    refine ⟨fun q=>?_,fun q=>⟨i + 1,⟨by omega, ?_⟩,by omega,by rw [wrap_id] <;> omega⟩⟩
    · rw [if_pos (by exact q)] at hm;exact hm
    · rw [if_neg (by intro q';have:=q.symm.trans q';cases this)] at hm;exact hm
  · rw [List.drop_eq_nil_of_le h] at hm;simpa [idxP] using hm
theorem containsFuncJump_c {g n:Nat} {cap:Nat→D} (p:Jump→Bool) (l:List Jump) (hl:Enc.good l) (hg:∀ i,i < l.length→PureP Try.prog g ((fun x:Jump=>vJump x) (l[i]?.getD default) :: upto n fun j=>.d (cap j)) (· = .d (.bool (p (l[i]?.getD default))))) :
    PureP Try.prog 117 [.d (dJumpS l),.d (.clo g n cap)] (· = .d (.bool (l.any p))):=by
  refine pure_of Try.func117 en_117 rfl rfl (W_run mixed ⟨[],[],[126],9,0,[0,1,4],[]⟩ (fun _=>[]) (by kernel_rfl) ?_)
  simp only [Try.f117,stripX,stripOps,pickOps]
  simp []
  refine ((indexFuncJump_c p l hl hg).calls (by simp)).mono ?_
  rintro r H' ⟨rfl,rfl⟩
  simp
  exact idxP_ge p l 0 (by omega)
theorem indexFuncBlock_c {g n:Nat} {cap:Nat→D} (p:Block→Bool) (l:List Block) (hl:Enc.good l) (hg:∀ i,i < l.length→PureP Try.prog g ((fun x:Block=>vBlock x) (l[i]?.getD default) :: upto n fun j=>.d (cap j)) (· = .d (.bool (p (l[i]?.getD default))))) :
    PureP Try.prog 113 [.d (dBlockS l),.d (.clo g n cap)] (· = .d (.int .i64 (idxP p l 0))):=by
  have hlen:=good_len hl
  refine pure_of Try.func113 en_113 rfl rfl (W_run mixed ⟨[],[],[],19,0,[0,1,4,5,7,8,9,16],[9,16]⟩ (fun _=>[]) (by kernel_rfl) ?_)
  simp only [Try.f113,stripX,stripOps,pickOps]
  simp []
  refine W_loopA (fun i:Nat=>[(0,.d (dBlockS l)),(1,.d (.clo g n cap)),(7,.d (.int .i64 l.length)),(8,.d (.int .i64 i))]) (fun _=>[]) (fun i=>i≤l.length∧idxP p (l.drop i) i=idxP p l 0) (fun i=>l.length - i) 0 ?_ ?_ ?_
  · simp
  · simp
  rintro i ⟨hi,hm⟩
  refine W_run mixed ⟨[],[],[],19,0,[0,1,4,5,7,8,9,16],[9,16]⟩ (fun _=>[]) (by kernel_rfl) ?_
  simp only [stripX,stripOps,pickOps]
  simp []
  refine ⟨fun h=>⟨h, ?_⟩,fun h=>?_⟩
  · rw [drop_cons h] at hm
    simp only [idxP] at hm
    refine ((hg i h).calls (by simp [closedL,V.closed])).mono ?_
    rintro r H' ⟨rfl,rfl⟩
    simp
    refine ⟨fun q=>?_,fun q=>⟨i + 1,⟨by omega, ?_⟩,by omega,by rw [wrap_id] <;> omega⟩⟩
    · rw [if_pos (by exact q)] at hm;exact hm
    · rw [if_neg (by intro q';have:=q.symm.trans q';cases this)] at hm;exact hm
  · rw [List.drop_eq_nil_of_le h] at hm;simpa [idxP] using hm
theorem containsFuncBlock_c {g n:Nat} {cap:Nat→D} (p:Block→Bool) (l:List Block) (hl:Enc.good l) (hg:∀ i,i < l.length→PureP Try.prog g ((fun x:Block=>vBlock x) (l[i]?.getD default) :: upto n fun j=>.d (cap j)) (· = .d (.bool (p (l[i]?.getD default))))) :
    PureP Try.prog 86 [.d (dBlockS l),.d (.clo g n cap)] (· = .d (.bool (l.any p))):=by
  refine pure_of Try.func86 en_86 rfl rfl (W_run mixed ⟨[],[],[113],9,0,[0,1,4],[]⟩ (fun _=>[]) (by kernel_rfl) ?_)
  simp only [Try.f86,stripX,stripOps,pickOps]
  simp []
  refine ((indexFuncBlock_c p l hl hg).calls (by simp)).mono ?_
  rintro r H' ⟨rfl,rfl⟩
  simp
  exact idxP_ge p l 0 (by omega)
end Go.Proofs.Ytnomiclfiijniaa
end
