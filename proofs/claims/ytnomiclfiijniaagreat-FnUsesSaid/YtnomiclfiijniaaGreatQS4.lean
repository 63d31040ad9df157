/- Contracts of the program's small functions over numbers, of slices' search functions, and of what a view says of values. No condition. -/
import Derived.KernelRfl
import Derived.Test.YtnomiclfiijniaaGreatQDat
import Derived.Test.YtnomiclfiijniaaGreatQTy
section
namespace Go.Proofs.YtnomiclfiijniaaGreat
set_option maxRecDepth 100000
set_option linter.unusedSimpArgs false
set_option linter.unusedVariables false
theorem mixed:Tryz.prog.follows .mixedOrders=true:=by kernel_rfl
end Go.Proofs.YtnomiclfiijniaaGreat
end

section
namespace Go.Proofs.YtnomiclfiijniaaGreat
set_option maxRecDepth 100000
set_option linter.unusedSimpArgs false
set_option linter.unusedVariables false
def inR (n lo hi:Int):Bool:=decide (lo≤n∧n≤hi)
theorem inR_t {n lo hi:Int}:inR n lo hi=true ↔ lo≤n∧n≤hi:=by simp [inR]
theorem inR_f {n lo hi:Int}:inR n lo hi=false ↔ ¬ (lo≤n∧n≤hi):=by simp [inR]
theorem l1In_c (n lo hi:Int):PureP Tryz.prog 102 [.d (.int .i64 n),.d (.int .i64 lo),.d (.int .i64 hi)] (· = .d (.bool (inR n lo hi))):=by
  refine pure_of Tryz.func102 en_102 rfl rfl (W_run mixed ⟨[],[],[],15,0,[0,1,2,6],[10]⟩ (fun _=>[]) (by kernel_rfl) ?_)
  simp only [Tryz.f102,stripX,stripOps,pickOps]
  simp []
  refine ⟨fun h=>?_,fun h=>?_⟩ <;> simp [inR] <;> omega
theorem within_c (n lo hi:Int):PureP Tryz.prog 59 [.d (.int .i64 n),.d (.int .i64 lo),.d (.int .i64 hi)] (· = .d (.bool (inR n lo hi))):=by
  refine pure_of Tryz.func59 en_59 rfl rfl (W_run mixed ⟨[],[],[],15,0,[0,1,2,6],[10]⟩ (fun _=>[]) (by kernel_rfl) ?_)
  simp only [Tryz.f59,stripX,stripOps,pickOps]
  simp []
  refine ⟨fun h=>?_,fun h=>?_⟩ <;> simp [inR] <;> omega
noncomputable def K_102:Ent Tryz.prog:=Ent.p3 (α:=Int) (β:=Int) (γ:=Int) 102 (fun a b c=>True) (fun a b c=>.d (.bool (inR a b c))) (fun a b c hc=>l1In_c a b c)
theorem K_102_f:K_102.f=102:=rfl
theorem K_102_e (a:Int) (b:Int) (c:Int):K_102.e [.d (.int .i64 a),.d (.int .i64 b),.d (.int .i64 c)]=some (True,.d (.bool (inR a b c)),[]):=by unfold K_102;exact Ent.p3_eq (α:=Int) (β:=Int) (γ:=Int) a b c
noncomputable def K_102h:EntH Tryz.prog:=EntH.pk3 (α:=Int) (β:=Int) (γ:=Int) 102 (fun a b c=>True) (fun a b c=>.d (.bool (inR a b c))) (fun a b c=>[]) (fun a b c hc=>PureP.ans (l1In_c a b c))
theorem K_102h_f:K_102h.f=102:=rfl
theorem K_102h_g:K_102h.gro=true:=rfl
theorem K_102h_e {x1 x2 x3:V} {H:Heap}:K_102h.e [x1,x2,x3] H=guardR ((decA (α:=Int) H x1).1∧(decA (α:=Int) H x2).1∧(decA (α:=Int) H x3).1) (peekR (True) (.d (.bool (inR (decA (α:=Int) H x1).2 (decA (α:=Int) H x2).2 (decA (α:=Int) H x3).2))) ([]) H):=rfl
noncomputable def K_59:Ent Tryz.prog:=Ent.p3 (α:=Int) (β:=Int) (γ:=Int) 59 (fun a b c=>True) (fun a b c=>.d (.bool (inR a b c))) (fun a b c hc=>within_c a b c)
theorem K_59_f:K_59.f=59:=rfl
theorem K_59_e (a:Int) (b:Int) (c:Int):K_59.e [.d (.int .i64 a),.d (.int .i64 b),.d (.int .i64 c)]=some (True,.d (.bool (inR a b c)),[]):=by unfold K_59;exact Ent.p3_eq (α:=Int) (β:=Int) (γ:=Int) a b c
noncomputable def K_59h:EntH Tryz.prog:=EntH.pk3 (α:=Int) (β:=Int) (γ:=Int) 59 (fun a b c=>True) (fun a b c=>.d (.bool (inR a b c))) (fun a b c=>[]) (fun a b c hc=>PureP.ans (within_c a b c))
theorem K_59h_f:K_59h.f=59:=rfl
theorem K_59h_g:K_59h.gro=true:=rfl
theorem K_59h_e {x1 x2 x3:V} {H:Heap}:K_59h.e [x1,x2,x3] H=guardR ((decA (α:=Int) H x1).1∧(decA (α:=Int) H x2).1∧(decA (α:=Int) H x3).1) (peekR (True) (.d (.bool (inR (decA (α:=Int) H x1).2 (decA (α:=Int) H x2).2 (decA (α:=Int) H x3).2))) ([]) H):=rfl
def arity1 (op:Int):Int:=if op=1∨op=2 then 0 else if op=3 then 1 else if op=11 then 3 else if inR op 4 10 then 2 else -1
theorem l1Arity_c (op:Int):PureP Tryz.prog 146 [.d (.int .i64 op)] (· = .d (.int .i64 (arity1 op))):=by
  refine pure_of Tryz.func146 en_146 rfl rfl (W_run mixed ⟨[K_102],[K_102h],[],19,0,[0,2,3,10,13,16],[3,6,10,13,16]⟩ (fun _=>[]) (by kernel_rfl) ?_)
  simp only [Tryz.f146,stripX,stripOps,pickOps]
  simp [K_102_f,K_102_e,K_102h_f,K_102h_e,K_102h_g]
  repeat' first | apply And.intro | intro _
  all_goals simp [arity1, *]
noncomputable def K_146:Ent Tryz.prog:=Ent.p1 (α:=Int) 146 (fun a=>True) (fun a=>.d (.int .i64 (arity1 a))) (fun a hc=>l1Arity_c a)
theorem K_146_f:K_146.f=146:=rfl
theorem K_146_e (a:Int):K_146.e [.d (.int .i64 a)]=some (True,.d (.int .i64 (arity1 a)),[]):=by unfold K_146;exact Ent.p1_eq (α:=Int) a
noncomputable def K_146h:EntH Tryz.prog:=EntH.pk1 (α:=Int) 146 (fun a=>True) (fun a=>.d (.int .i64 (arity1 a))) (fun a=>[]) (fun a hc=>PureP.ans (l1Arity_c a))
theorem K_146h_f:K_146h.f=146:=rfl
theorem K_146h_g:K_146h.gro=true:=rfl
theorem K_146h_e {x1:V} {H:Heap}:K_146h.e [x1] H=guardR ((decA (α:=Int) H x1).1) (peekR (True) (.d (.int .i64 (arity1 (decA (α:=Int) H x1).2))) ([]) H):=rfl
def arity (op:Int):Int:=if op=12 then 1 else if op=13 then 2 else if op=2 then -1 else arity1 op
theorem l12Arity_c (op:Int):PureP Tryz.prog 115 [.d (.int .i64 op)] (· = .d (.int .i64 (arity op))):=by
  refine pure_of Tryz.func115 en_115 rfl rfl (W_run mixed ⟨[K_146],[K_146h],[],12,0,[0,2,3,4,6,8],[4,6,8]⟩ (fun _=>[]) (by kernel_rfl) ?_)
  simp only [Tryz.f115,stripX,stripOps,pickOps]
  simp [K_146_f,K_146_e,K_146h_f,K_146h_e,K_146h_g]
  repeat' first | apply And.intro | intro _
  all_goals simp [arity, *]
noncomputable def K_115:Ent Tryz.prog:=Ent.p1 (α:=Int) 115 (fun a=>True) (fun a=>.d (.int .i64 (arity a))) (fun a hc=>l12Arity_c a)
theorem K_115_f:K_115.f=115:=rfl
theorem K_115_e (a:Int):K_115.e [.d (.int .i64 a)]=some (True,.d (.int .i64 (arity a)),[]):=by unfold K_115;exact Ent.p1_eq (α:=Int) a
noncomputable def K_115h:EntH Tryz.prog:=EntH.pk1 (α:=Int) 115 (fun a=>True) (fun a=>.d (.int .i64 (arity a))) (fun a=>[]) (fun a hc=>PureP.ans (l12Arity_c a))
theorem K_115h_f:K_115h.f=115:=rfl
theorem K_115h_g:K_115h.gro=true:=rfl
theorem K_115h_e {x1:V} {H:Heap}:K_115h.e [x1] H=guardR ((decA (α:=Int) H x1).1) (peekR (True) (.d (.int .i64 (arity (decA (α:=Int) H x1).2))) ([]) H):=rfl
def allIn (l:List Int) (lo hi:Int):Bool:=l.all fun n=>inR n lo hi
theorem allIn_cons (x:Int) (l:List Int) (lo hi:Int):allIn (x :: l) lo hi=(inR x lo hi && allIn l lo hi):=by simp [allIn]
theorem l1All_c (l:List Int) (lo hi:Int) (hl:Enc.good l):PureP Tryz.prog 116 [.d (dIntS l),.d (.int .i64 lo),.d (.int .i64 hi)] (· = .d (.bool (allIn l lo hi))):=by
  have hlen:=good_len hl
  refine pure_of Tryz.func116 en_116 rfl rfl (W_run mixed ⟨[K_102],[K_102h],[],21,0,[0,1,2,6,8,9,10,11,12,19],[12,19]⟩ (fun _=>[]) (by kernel_rfl) ?_)
  simp only [Tryz.f116,stripX,stripOps,pickOps]
  simp [K_102_f,K_102_e,K_102h_f,K_102h_e,K_102h_g]
  refine W_loopA (fun i:Nat=>[(1,.d (.int .i64 lo)),(2,.d (.int .i64 hi)),(9,.d (dIntS l)),(10,.d (.int .i64 l.length)),(11,.d (.int .i64 i))]) (fun _=>[]) (fun i=>i≤l.length∧allIn l lo hi=allIn (l.drop i) lo hi) (fun i=>l.length - i) 0 ?_ ?_ ?_
  · simp
  · simp
  · rintro i ⟨hi,hm⟩
    refine W_run mixed ⟨[K_102],[K_102h],[],21,0,[0,1,2,6,8,9,10,11,12,19],[12,19]⟩ (fun _=>[]) (by kernel_rfl) ?_
    simp only [stripX,stripOps,pickOps]
    simp [K_102_f,K_102_e,K_102h_f,K_102h_e,K_102h_g]
    refine ⟨fun h=>?_,fun h=>?_⟩
    · rw [drop_cons h] at hm
      refine ⟨h,fun h1=>?_,fun h1=>⟨i + 1,⟨by omega, ?_⟩,by omega,by rw [wrap_id] <;> omega⟩⟩
      · rw [hm];simp [allIn_cons,h1]
      · rw [hm];simp [allIn_cons,h1]
    · rw [hm,List.drop_eq_nil_of_le h];rfl
noncomputable def K_116:Ent Tryz.prog:=Ent.p3 (α:=List Int) (β:=Int) (γ:=Int) 116 (fun l lo hi=>Enc.good l) (fun l lo hi=>.d (.bool (allIn l lo hi))) (fun l lo hi hc=>l1All_c l lo hi hc)
theorem K_116_f:K_116.f=116:=rfl
theorem K_116_e (l:List Int) (lo:Int) (hi:Int):K_116.e [.d (dIntS l),.d (.int .i64 lo),.d (.int .i64 hi)]=some (Enc.good l,.d (.bool (allIn l lo hi)),[]):=by unfold K_116;exact Ent.p3_eq (α:=List Int) (β:=Int) (γ:=Int) l lo hi
noncomputable def K_116h:EntH Tryz.prog:=EntH.pk3 (α:=List Int) (β:=Int) (γ:=Int) 116 (fun l lo hi=>Enc.good l) (fun l lo hi=>.d (.bool (allIn l lo hi))) (fun l lo hi=>[]) (fun l lo hi hc=>PureP.ans (l1All_c l lo hi hc))
theorem K_116h_f:K_116h.f=116:=rfl
theorem K_116h_g:K_116h.gro=true:=rfl
theorem K_116h_e {x1 x2 x3:V} {H:Heap}:K_116h.e [x1,x2,x3] H=guardR ((decA (α:=List Int) H x1).1∧(decA (α:=Int) H x2).1∧(decA (α:=Int) H x3).1) (peekR (Enc.good (decA (α:=List Int) H x1).2) (.d (.bool (allIn (decA (α:=List Int) H x1).2 (decA (α:=Int) H x2).2 (decA (α:=Int) H x3).2))) ([]) H):=rfl
end Go.Proofs.YtnomiclfiijniaaGreat
end

section
namespace Go.Proofs.YtnomiclfiijniaaGreat
set_option maxRecDepth 100000
set_option linter.unusedSimpArgs false
set_option linter.unusedVariables false
theorem isOp_c (op:Int):PureP Tryz.prog 172 [.d (.int .i64 op)] (· = .d (.bool (inR op 1 11))):=by
  refine pure_of Tryz.func172 en_172 rfl rfl (W_run mixed ⟨[K_59],[K_59h],[],5,0,[0,2],[]⟩ (fun _=>[]) (by kernel_rfl) ?_)
  simp only [Tryz.f172,stripX,stripOps,pickOps]
  simp [K_59_f,K_59_e,K_59h_f,K_59h_e,K_59h_g]
noncomputable def K_172:Ent Tryz.prog:=Ent.p1 (α:=Int) 172 (fun a=>True) (fun a=>.d (.bool (inR a 1 11))) (fun a hc=>isOp_c a)
theorem K_172_f:K_172.f=172:=rfl
theorem K_172_e (a:Int):K_172.e [.d (.int .i64 a)]=some (True,.d (.bool (inR a 1 11)),[]):=by unfold K_172;exact Ent.p1_eq (α:=Int) a
noncomputable def K_172h:EntH Tryz.prog:=EntH.pk1 (α:=Int) 172 (fun a=>True) (fun a=>.d (.bool (inR a 1 11))) (fun a=>[]) (fun a hc=>PureP.ans (isOp_c a))
theorem K_172h_f:K_172h.f=172:=rfl
theorem K_172h_g:K_172h.gro=true:=rfl
theorem K_172h_e {x1:V} {H:Heap}:K_172h.e [x1] H=guardR ((decA (α:=Int) H x1).1) (peekR (True) (.d (.bool (inR (decA (α:=Int) H x1).2 1 11))) ([]) H):=rfl
def arityI (op:Int):Int:=if op=1∨op=2 then 0 else if op=3 then 1 else if op=11 then 3 else 2
theorem arityI_c (op:Int):PureP Tryz.prog 173 [.d (.int .i64 op)] (· = .d (.int .i64 (arityI op))):=by
  refine pure_of Tryz.func173 en_173 rfl rfl (W_run mixed ⟨[],[],[],11,0,[0,2,3,4,7,9],[4,7,9]⟩ (fun _=>[]) (by kernel_rfl) ?_)
  simp only [Tryz.f173,stripX,stripOps,pickOps]
  simp []
  repeat' first | apply And.intro | intro _
  all_goals simp [arityI, *]
noncomputable def K_173:Ent Tryz.prog:=Ent.p1 (α:=Int) 173 (fun a=>True) (fun a=>.d (.int .i64 (arityI a))) (fun a hc=>arityI_c a)
theorem K_173_f:K_173.f=173:=rfl
theorem K_173_e (a:Int):K_173.e [.d (.int .i64 a)]=some (True,.d (.int .i64 (arityI a)),[]):=by unfold K_173;exact Ent.p1_eq (α:=Int) a
noncomputable def K_173h:EntH Tryz.prog:=EntH.pk1 (α:=Int) 173 (fun a=>True) (fun a=>.d (.int .i64 (arityI a))) (fun a=>[]) (fun a hc=>PureP.ans (arityI_c a))
theorem K_173h_f:K_173h.f=173:=rfl
theorem K_173h_g:K_173h.gro=true:=rfl
theorem K_173h_e {x1:V} {H:Heap}:K_173h.e [x1] H=guardR ((decA (α:=Int) H x1).1) (peekR (True) (.d (.int .i64 (arityI (decA (α:=Int) H x1).2))) ([]) H):=rfl
theorem argsOf_c (op:Int):PureP Tryz.prog 160 [.d (.int .i64 op)] (· = .d (.int .i64 (arity op))):=by
  refine pure_of Tryz.func160 en_160 rfl rfl (W_run mixed ⟨[K_172,K_173],[K_172h,K_173h],[],18,0,[0,2,3,6,9],[3,6,9,12]⟩ (fun _=>[]) (by kernel_rfl) ?_)
  simp only [Tryz.f160,stripX,stripOps,pickOps]
  simp [K_172_f,K_172_e,K_173_f,K_173_e,K_172h_f,K_172h_e,K_173h_f,K_173h_e,K_172h_g,K_173h_g]
  repeat' first | apply And.intro | intro _
  all_goals try simp only [inR_t,inR_f] at *
  all_goals simp [arity,arity1,arityI,inR, *]
  all_goals (repeat' split) <;> omega
noncomputable def K_160:Ent Tryz.prog:=Ent.p1 (α:=Int) 160 (fun a=>True) (fun a=>.d (.int .i64 (arity a))) (fun a hc=>argsOf_c a)
theorem K_160_f:K_160.f=160:=rfl
theorem K_160_e (a:Int):K_160.e [.d (.int .i64 a)]=some (True,.d (.int .i64 (arity a)),[]):=by unfold K_160;exact Ent.p1_eq (α:=Int) a
noncomputable def K_160h:EntH Tryz.prog:=EntH.pk1 (α:=Int) 160 (fun a=>True) (fun a=>.d (.int .i64 (arity a))) (fun a=>[]) (fun a hc=>PureP.ans (argsOf_c a))
theorem K_160h_f:K_160h.f=160:=rfl
theorem K_160h_g:K_160h.gro=true:=rfl
theorem K_160h_e {x1:V} {H:Heap}:K_160h.e [x1] H=guardR ((decA (α:=Int) H x1).1) (peekR (True) (.d (.int .i64 (arity (decA (α:=Int) H x1).2))) ([]) H):=rfl
@[simp] theorem closedL_upto (n:Nat) (f:Nat→D):closedL (upto n fun j=>.d (f j))=true:=by
  induction n generalizing f with
  | zero=>rfl
  | succ n ih=>simp [upto,ih]
def idxP {α:Type} (p:α→Bool):List α→Int→Int
  | [],_=>-1
  | x :: l,i=>if p x then i else idxP p l (i + 1)
theorem idxP_ge {α:Type} (p:α→Bool):∀ (l:List α) (i:Int),0≤i→(decide (0≤idxP p l i)=l.any p)
  | [],i,h=>by simp [idxP]
  | x :: l, i, h => by
    simp only [idxP,List.any_cons]
    by_cases hp:p x=true
    · simp [hp,h]
    · simp only [Bool.not_eq_true] at hp
      simp only [hp,Bool.false_eq_true,if_false,Bool.false_or]
      exact idxP_ge p l (i + 1) (by omega)
theorem indexFuncInt_c {g n:Nat} {cap:Nat→D} (p:Int→Bool) (l:List Int) (hl:Enc.good l) (hg:∀ i,i < l.length→PureP Tryz.prog g ((fun x:Int=>.d (.int .i64 x)) (l[i]?.getD default) :: upto n fun j=>.d (cap j)) (· = .d (.bool (p (l[i]?.getD default))))) :
    PureP Tryz.prog 133 [.d (dIntS l),.d (.clo g n cap)] (· = .d (.int .i64 (idxP p l 0))):=by
  have hlen:=good_len hl
  refine pure_of Tryz.func133 en_133 rfl rfl (W_run mixed ⟨[],[],[],19,0,[0,1,4,5,7,8,9,16],[9,16]⟩ (fun _=>[]) (by kernel_rfl) ?_)
  simp only [Tryz.f133,stripX,stripOps,pickOps]
  simp []
  refine W_loopA (fun i:Nat=>[(0,.d (dIntS l)),(1,.d (.clo g n cap)),(7,.d (.int .i64 l.length)),(8,.d (.int .i64 i))]) (fun _=>[]) (fun i=>i≤l.length∧idxP p (l.drop i) i=idxP p l 0) (fun i=>l.length - i) 0 ?_ ?_ ?_
  · simp
  · simp
  rintro i ⟨hi,hm⟩
  refine W_run mixed ⟨[],[],[],19,0,[0,1,4,5,7,8,9,16],[9,16]⟩ (fun _=>[]) (by kernel_rfl) ?_
  simp only [stripX,stripOps,pickOps]
  simp []
  refine ⟨fun h=>⟨h, ?_⟩,fun h=>?_⟩
  · rw [drop_cons h] at hm
    simp only [idxP] at hm
    refine ((hg i h).calls (by simp [closedL,V.closed])).mono ?_
    rintro r H' ⟨rfl,rfl⟩
    simp
    refine ⟨fun q=>?_,fun q=>⟨i + 1,⟨by omega, ?_⟩,by omega,by rw [wrap_id] <;> omega⟩⟩
    · rw [if_pos (by exact q)] at hm;exact hm
    · rw [if_neg (by intro q';have:=q.symm.trans q';cases this)] at hm;exact hm
  · rw [List.drop_eq_nil_of_le h] at hm;simpa [idxP] using hm
theorem containsFuncInt_c {g n:Nat} {cap:Nat→D} (p:Int→Bool) (l:List Int) (hl:Enc.good l) (hg:∀ i,i < l.length→PureP Tryz.prog g ((fun x:Int=>.d (.int .i64 x)) (l[i]?.getD default) :: upto n fun j=>.d (cap j)) (· = .d (.bool (p (l[i]?.getD default))))) :
    PureP Tryz.prog 98 [.d (dIntS l),.d (.clo g n cap)] (· = .d (.bool (l.any p))):=by
  refine pure_of Tryz.func98 en_98 rfl rfl (W_run mixed ⟨[],[],[133],9,0,[0,1,4],[]⟩ (fun _=>[]) (by kernel_rfl) ?_)
  simp only [Tryz.f98,stripX,stripOps,pickOps]
  simp []
  refine ((indexFuncInt_c p l hl hg).calls (by simp)).mono ?_
  rintro r H' ⟨rfl,rfl⟩
  simp
  exact idxP_ge p l 0 (by omega)
theorem indexFuncInst_c {g n:Nat} {cap:Nat→D} (p:Inst→Bool) (l:List Inst) (hl:Enc.good l) (hg:∀ i,i < l.length→PureP Tryz.prog g ((fun x:Inst=>vInst x) (l[i]?.getD default) :: upto n fun j=>.d (cap j)) (· = .d (.bool (p (l[i]?.getD default))))) :
    PureP Tryz.prog 159 [.d (dInstS l),.d (.clo g n cap)] (· = .d (.int .i64 (idxP p l 0))):=by
  have hlen:=good_len hl
  refine pure_of Tryz.func159 en_159 rfl rfl (W_run mixed ⟨[],[],[],19,0,[0,1,4,5,7,8,9,16],[9,16]⟩ (fun _=>[]) (by kernel_rfl) ?_)
  simp only [Tryz.f159,stripX,stripOps,pickOps]
  simp []
  refine W_loopA (fun i:Nat=>[(0,.d (dInstS l)),(1,.d (.clo g n cap)),(7,.d (.int .i64 l.length)),(8,.d (.int .i64 i))]) (fun _=>[]) (fun i=>i≤l.length∧idxP p (l.drop i) i=idxP p l 0) (fun i=>l.length - i) 0 ?_ ?_ ?_
  · simp
  · simp
  rintro i ⟨hi,hm⟩
  refine W_run mixed ⟨[],[],[],19,0,[0,1,4,5,7,8,9,16],[9,16]⟩ (fun _=>[]) (by kernel_rfl) ?_
  simp only [stripX,stripOps,pickOps]
  simp []
  refine ⟨fun h=>⟨h, ?_⟩,fun h=>?_⟩
  · rw [drop_cons h] at hm
    simp only [idxP] at hm
    refine ((hg i h).calls (by simp [closedL,V.closed])).mono ?_
    rintro r H' ⟨rfl,rfl⟩
    simp
    refine ⟨fun q=>?_,fun q=>⟨i + 1,⟨by omega, ?_⟩,by omega,by rw [wrap_id] <;> omega⟩⟩
    · rw [if_pos (by exact q)] at hm;exact hm
    · rw [if_neg (by intro q';have:=q.symm.trans q';cases this)] at hm;exact hm
  · rw [List.drop_eq_nil_of_le h] at hm;simpa [idxP] using hm
theorem containsFuncInst_c {g n:Nat} {cap:Nat→D} (p:Inst→Bool) (l:List Inst) (hl:Enc.good l) (hg:∀ i,i < l.length→PureP Tryz.prog g ((fun x:Inst=>vInst x) (l[i]?.getD default) :: upto n fun j=>.d (cap j)) (· = .d (.bool (p (l[i]?.getD default))))) :
    PureP Tryz.prog 127 [.d (dInstS l),.d (.clo g n cap)] (· = .d (.bool (l.any p))):=by
  refine pure_of Tryz.func127 en_127 rfl rfl (W_run mixed ⟨[],[],[159],9,0,[0,1,4],[]⟩ (fun _=>[]) (by kernel_rfl) ?_)
  simp only [Tryz.f127,stripX,stripOps,pickOps]
  simp []
  refine ((indexFuncInst_c p l hl hg).calls (by simp)).mono ?_
  rintro r H' ⟨rfl,rfl⟩
  simp
  exact idxP_ge p l 0 (by omega)
theorem indexFuncJump_c {g n:Nat} {cap:Nat→D} (p:Jump→Bool) (l:List Jump) (hl:Enc.good l) (hg:∀ i,i < l.length→PureP Tryz.prog g ((fun x:Jump=>vJump x) (l[i]?.getD default) :: upto n fun j=>.d (cap j)) (· = .d (.bool (p (l[i]?.getD default))))) :
    PureP Tryz.prog 161 [.d (dJumpS l),.d (.clo g n cap)] (· = .d (.int .i64 (idxP p l 0))):=by
  have hlen:=good_len hl
  refine pure_of Tryz.func161 en_161 rfl rfl (W_run mixed ⟨[],[],[],19,0,[0,1,4,5,7,8,9,16],[9,16]⟩ (fun _=>[]) (by kernel_rfl) ?_)
  simp only [Tryz.f161,stripX,stripOps,pickOps]
  simp []
  refine W_loopA (fun i:Nat=>[(0,.d (dJumpS l)),(1,.d (.clo g n cap)),(7,.d (.int .i64 l.length)),(8,.d (.int .i64 i))]) (fun _=>[]) (fun i=>i≤l.length∧idxP p (l.drop i) i=idxP p l 0) (fun i=>l.length - i) 0 ?_ ?_ ?_
  · simp
  · simp
  rintro i ⟨hi,hm⟩
  refine W_run mixed ⟨[],[],[],19,0,[0,1,4,5,7,8,9,16],[9,16]⟩ (fun _=>[]) (by kernel_rfl) ?_
  simp only [stripX,stripOps,pickOps]
  simp []
  refine ⟨fun h=>⟨h, ?_⟩,fun h=>?_⟩
  · rw [drop_cons h] at hm
    simp only [idxP] at hm
    refine ((hg i h).calls (by simp [closedL,V.closed])).mono ?_
    rintro r H' ⟨rfl,rfl⟩
    simp
    refine ⟨fun q=>?_,fun q=>⟨i + 1,⟨by omega, ?_⟩,by omega,by rw [wrap_id] <;> omega⟩⟩
    · rw [if_pos (by exact q)] at hm;exact hm
    · rw [if_neg (by intro q';have:=q.symm.trans q';cases this)] at hm;exact hm
  · rw [List.drop_eq_nil_of_le h] at hm;simpa [idxP] using hm
theorem containsFuncJump_c {g n:Nat} {cap:Nat→D} (p:Jump→Bool) (l:List Jump) (hl:Enc.good l) (hg:∀ i,i < l.length→PureP Tryz.prog g ((fun x:Jump=>vJump x) (l[i]?.getD default) :: upto n fun j=>.d (cap j)) (· = .d (.bool (p (l[i]?.getD default))))) :
    PureP Tryz.prog 130 [.d (dJumpS l),.d (.clo g n cap)] (· = .d (.bool (l.any p))):=by
  refine pure_of Tryz.func130 en_130 rfl rfl (W_run mixed ⟨[],[],[161],9,0,[0,1,4],[]⟩ (fun _=>[]) (by kernel_rfl) ?_)
  simp only [Tryz.f130,stripX,stripOps,pickOps]
  simp []
  refine ((indexFuncJump_c p l hl hg).calls (by simp)).mono ?_
  rintro r H' ⟨rfl,rfl⟩
  simp
  exact idxP_ge p l 0 (by omega)
theorem indexFuncBlock_c {g n:Nat} {cap:Nat→D} (p:Block→Bool) (l:List Block) (hl:Enc.good l) (hg:∀ i,i < l.length→PureP Tryz.prog g ((fun x:Block=>vBlock x) (l[i]?.getD default) :: upto n fun j=>.d (cap j)) (· = .d (.bool (p (l[i]?.getD default))))) :
    PureP Tryz.prog 126 [.d (dBlockS l),.d (.clo g n cap)] (· = .d (.int .i64 (idxP p l 0))):=by
  have hlen:=good_len hl
  refine pure_of Tryz.func126 en_126 rfl rfl (W_run mixed ⟨[],[],[],19,0,[0,1,4,5,7,8,9,16],[9,16]⟩ (fun _=>[]) (by kernel_rfl) ?_)
  simp only [Tryz.f126,stripX,stripOps,pickOps]
  simp []
  refine W_loopA (fun i:Nat=>[(0,.d (dBlockS l)),(1,.d (.clo g n cap)),(7,.d (.int .i64 l.length)),(8,.d (.int .i64 i))]) (fun _=>[]) (fun i=>i≤l.length∧idxP p (l.drop i) i=idxP p l 0) (fun i=>l.length - i) 0 ?_ ?_ ?_
  · simp
  · simp
  rintro i ⟨hi,hm⟩
  refine W_run mixed ⟨[],[],[],19,0,[0,1,4,5,7,8,9,16],[9,16]⟩ (fun _=>[]) (by kernel_rfl) ?_
  simp only [stripX,stripOps,pickOps]
  simp []
  refine ⟨fun h=>⟨h, ?_⟩,fun h=>?_⟩
  · rw [drop_cons h] at hm
    simp only [idxP] at hm
    refine ((hg i h).calls (by simp [closedL,V.closed])).mono ?_
    rintro r H' ⟨rfl,rfl⟩
    simp
    refine ⟨fun q=>?_,fun q=>⟨i + 1,⟨by omega, ?_⟩,by omega,by rw [wrap_id] <;> omega⟩⟩
    · rw [if_pos (by exact q)] at hm;exact hm
    · rw [if_neg (by intro q';have:=q.symm.trans q';cases this)] at hm;exact hm
  · rw [List.drop_eq_nil_of_le h] at hm;simpa [idxP] using hm
theorem containsFuncBlock_c {g n:Nat} {cap:Nat→D} (p:Block→Bool) (l:List Block) (hl:Enc.good l) (hg:∀ i,i < l.length→PureP Tryz.prog g ((fun x:Block=>vBlock x) (l[i]?.getD default) :: upto n fun j=>.d (cap j)) (· = .d (.bool (p (l[i]?.getD default))))) :
    PureP Tryz.prog 95 [.d (dBlockS l),.d (.clo g n cap)] (· = .d (.bool (l.any p))):=by
  refine pure_of Tryz.func95 en_95 rfl rfl (W_run mixed ⟨[],[],[126],9,0,[0,1,4],[]⟩ (fun _=>[]) (by kernel_rfl) ?_)
  simp only [Tryz.f95,stripX,stripOps,pickOps]
  simp []
  refine ((indexFuncBlock_c p l hl hg).calls (by simp)).mono ?_
  rintro r H' ⟨rfl,rfl⟩
  simp
  exact idxP_ge p l 0 (by omega)
end Go.Proofs.YtnomiclfiijniaaGreat
end
