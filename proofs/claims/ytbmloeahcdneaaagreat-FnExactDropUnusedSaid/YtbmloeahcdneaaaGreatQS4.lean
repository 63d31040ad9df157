/- Contracts of the program's small functions over numbers, of slices' search functions, and of what a view says of values. No condition. -/
import Derived.Test.YtbmloeahcdneaaaGreatQCpy
section
namespace Go.Proofs.YtbmloeahcdneaaaGreat
set_option maxRecDepth 100000
set_option linter.unusedSimpArgs false
set_option linter.unusedVariables false
def inR (n lo hi:Int):Bool:=decide (lo≤n∧n≤hi)
theorem inR_t {n lo hi:Int}:inR n lo hi=true ↔ lo≤n∧n≤hi:=by simp [inR]
theorem inR_f {n lo hi:Int}:inR n lo hi=false ↔ ¬ (lo≤n∧n≤hi):=by simp [inR]
theorem l1In_c (n lo hi:Int):PureP Tryz.prog 79 [.d (.int .i64 n),.d (.int .i64 lo),.d (.int .i64 hi)] (· = .d (.bool (inR n lo hi))):=by
  refine pure_of Tryz.func79 en_79 rfl rfl (W_run mixed ⟨[],[],[],15,0,[0,1,2,6],[10]⟩ (fun _=>[]) (by kernel_rfl) ?_)
  simp only [Tryz.f79,stripX,stripOps,pickOps]
  simp []
  refine ⟨fun h=>?_,fun h=>?_⟩ <;> simp [inR] <;> omega
theorem within_c (n lo hi:Int):PureP Tryz.prog 89 [.d (.int .i64 n),.d (.int .i64 lo),.d (.int .i64 hi)] (· = .d (.bool (inR n lo hi))):=by
  refine pure_of Tryz.func89 en_89 rfl rfl (W_run mixed ⟨[],[],[],15,0,[0,1,2,6],[10]⟩ (fun _=>[]) (by kernel_rfl) ?_)
  simp only [Tryz.f89,stripX,stripOps,pickOps]
  simp []
  refine ⟨fun h=>?_,fun h=>?_⟩ <;> simp [inR] <;> omega
noncomputable def K_79:Ent Tryz.prog:=Ent.p3 (α:=Int) (β:=Int) (γ:=Int) 79 (fun a b c=>True) (fun a b c=>.d (.bool (inR a b c))) (fun a b c hc=>l1In_c a b c)
theorem K_79_f:K_79.f=79:=rfl
theorem K_79_e (a:Int) (b:Int) (c:Int):K_79.e [.d (.int .i64 a),.d (.int .i64 b),.d (.int .i64 c)]=some (True,.d (.bool (inR a b c)),[]):=by unfold K_79;exact Ent.p3_eq (α:=Int) (β:=Int) (γ:=Int) a b c
noncomputable def K_79h:EntH Tryz.prog:=EntH.pk3 (α:=Int) (β:=Int) (γ:=Int) 79 (fun a b c=>True) (fun a b c=>.d (.bool (inR a b c))) (fun a b c=>[]) (fun a b c hc=>PureP.ans (l1In_c a b c))
theorem K_79h_f:K_79h.f=79:=rfl
theorem K_79h_g:K_79h.gro=true:=rfl
theorem K_79h_e {x1 x2 x3:V} {H:Heap}:K_79h.e [x1,x2,x3] H=guardR ((decA (α:=Int) H x1).1∧(decA (α:=Int) H x2).1∧(decA (α:=Int) H x3).1) (peekR (True) (.d (.bool (inR (decA (α:=Int) H x1).2 (decA (α:=Int) H x2).2 (decA (α:=Int) H x3).2))) ([]) H):=rfl
noncomputable def K_89:Ent Tryz.prog:=Ent.p3 (α:=Int) (β:=Int) (γ:=Int) 89 (fun a b c=>True) (fun a b c=>.d (.bool (inR a b c))) (fun a b c hc=>within_c a b c)
theorem K_89_f:K_89.f=89:=rfl
theorem K_89_e (a:Int) (b:Int) (c:Int):K_89.e [.d (.int .i64 a),.d (.int .i64 b),.d (.int .i64 c)]=some (True,.d (.bool (inR a b c)),[]):=by unfold K_89;exact Ent.p3_eq (α:=Int) (β:=Int) (γ:=Int) a b c
noncomputable def K_89h:EntH Tryz.prog:=EntH.pk3 (α:=Int) (β:=Int) (γ:=Int) 89 (fun a b c=>True) (fun a b c=>.d (.bool (inR a b c))) (fun a b c=>[]) (fun a b c hc=>PureP.ans (within_c a b c))
theorem K_89h_f:K_89h.f=89:=rfl
theorem K_89h_g:K_89h.gro=true:=rfl
theorem K_89h_e {x1 x2 x3:V} {H:Heap}:K_89h.e [x1,x2,x3] H=guardR ((decA (α:=Int) H x1).1∧(decA (α:=Int) H x2).1∧(decA (α:=Int) H x3).1) (peekR (True) (.d (.bool (inR (decA (α:=Int) H x1).2 (decA (α:=Int) H x2).2 (decA (α:=Int) H x3).2))) ([]) H):=rfl
def arity1 (op:Int):Int:=if op=1∨op=2 then 0 else if op=3 then 1 else if op=11 then 3 else if inR op 4 10 then 2 else -1
theorem l1Arity_c (op:Int):PureP Tryz.prog 168 [.d (.int .i64 op)] (· = .d (.int .i64 (arity1 op))):=by
  refine pure_of Tryz.func168 en_168 rfl rfl (W_run mixed ⟨[K_79],[K_79h],[],19,0,[0,2,3,10,13,16],[3,6,10,13,16]⟩ (fun _=>[]) (by kernel_rfl) ?_)
  simp only [Tryz.f168,stripX,stripOps,pickOps]
  simp [K_79_f,K_79_e,K_79h_f,K_79h_e,K_79h_g]
  repeat' first | apply And.intro | intro _
  all_goals simp [arity1, *]
noncomputable def K_168:Ent Tryz.prog:=Ent.p1 (α:=Int) 168 (fun a=>True) (fun a=>.d (.int .i64 (arity1 a))) (fun a hc=>l1Arity_c a)
theorem K_168_f:K_168.f=168:=rfl
theorem K_168_e (a:Int):K_168.e [.d (.int .i64 a)]=some (True,.d (.int .i64 (arity1 a)),[]):=by unfold K_168;exact Ent.p1_eq (α:=Int) a
noncomputable def K_168h:EntH Tryz.prog:=EntH.pk1 (α:=Int) 168 (fun a=>True) (fun a=>.d (.int .i64 (arity1 a))) (fun a=>[]) (fun a hc=>PureP.ans (l1Arity_c a))
theorem K_168h_f:K_168h.f=168:=rfl
theorem K_168h_g:K_168h.gro=true:=rfl
theorem K_168h_e {x1:V} {H:Heap}:K_168h.e [x1] H=guardR ((decA (α:=Int) H x1).1) (peekR (True) (.d (.int .i64 (arity1 (decA (α:=Int) H x1).2))) ([]) H):=rfl
def arity (op:Int):Int:=if op=12 then 1 else if op=13 then 2 else if op=2 then -1 else arity1 op
theorem l12Arity_c (op:Int):PureP Tryz.prog 129 [.d (.int .i64 op)] (· = .d (.int .i64 (arity op))):=by
  refine pure_of Tryz.func129 en_129 rfl rfl (W_run mixed ⟨[K_168],[K_168h],[],12,0,[0,2,3,4,6,8],[4,6,8]⟩ (fun _=>[]) (by kernel_rfl) ?_)
  simp only [Tryz.f129,stripX,stripOps,pickOps]
  simp [K_168_f,K_168_e,K_168h_f,K_168h_e,K_168h_g]
  repeat' first | apply And.intro | intro _
  all_goals simp [arity, *]
noncomputable def K_129:Ent Tryz.prog:=Ent.p1 (α:=Int) 129 (fun a=>True) (fun a=>.d (.int .i64 (arity a))) (fun a hc=>l12Arity_c a)
theorem K_129_f:K_129.f=129:=rfl
theorem K_129_e (a:Int):K_129.e [.d (.int .i64 a)]=some (True,.d (.int .i64 (arity a)),[]):=by unfold K_129;exact Ent.p1_eq (α:=Int) a
noncomputable def K_129h:EntH Tryz.prog:=EntH.pk1 (α:=Int) 129 (fun a=>True) (fun a=>.d (.int .i64 (arity a))) (fun a=>[]) (fun a hc=>PureP.ans (l12Arity_c a))
theorem K_129h_f:K_129h.f=129:=rfl
theorem K_129h_g:K_129h.gro=true:=rfl
theorem K_129h_e {x1:V} {H:Heap}:K_129h.e [x1] H=guardR ((decA (α:=Int) H x1).1) (peekR (True) (.d (.int .i64 (arity (decA (α:=Int) H x1).2))) ([]) H):=rfl
def allIn (l:List Int) (lo hi:Int):Bool:=l.all fun n=>inR n lo hi
theorem allIn_cons (x:Int) (l:List Int) (lo hi:Int):allIn (x :: l) lo hi=(inR x lo hi && allIn l lo hi):=by simp [allIn]
theorem l1All_c (l:List Int) (lo hi:Int) (hl:Enc.good l):PureP Tryz.prog 130 [.d (dIntS l),.d (.int .i64 lo),.d (.int .i64 hi)] (· = .d (.bool (allIn l lo hi))):=by
  have hlen:=good_len hl
  refine pure_of Tryz.func130 en_130 rfl rfl (W_run mixed ⟨[K_79],[K_79h],[],21,0,[0,1,2,6,8,9,10,11,12,19],[12,19]⟩ (fun _=>[]) (by kernel_rfl) ?_)
  simp only [Tryz.f130,stripX,stripOps,pickOps]
  simp [K_79_f,K_79_e,K_79h_f,K_79h_e,K_79h_g]
  refine W_loopA (fun i:Nat=>[(1,.d (.int .i64 lo)),(2,.d (.int .i64 hi)),(9,.d (dIntS l)),(10,.d (.int .i64 l.length)),(11,.d (.int .i64 i))]) (fun _=>[]) (fun i=>i≤l.length∧allIn l lo hi=allIn (l.drop i) lo hi) (fun i=>l.length - i) 0 ?_ ?_ ?_
  · simp
  · simp
  · rintro i ⟨hi,hm⟩
    refine W_run mixed ⟨[K_79],[K_79h],[],21,0,[0,1,2,6,8,9,10,11,12,19],[12,19]⟩ (fun _=>[]) (by kernel_rfl) ?_
    simp only [stripX,stripOps,pickOps]
    simp [K_79_f,K_79_e,K_79h_f,K_79h_e,K_79h_g]
    refine ⟨fun h=>?_,fun h=>?_⟩
    · rw [drop_cons h] at hm
      refine ⟨h,fun h1=>?_,fun h1=>⟨i + 1,⟨by omega, ?_⟩,by omega,by rw [wrap_id] <;> omega⟩⟩
      · rw [hm];simp [allIn_cons,h1]
      · rw [hm];simp [allIn_cons,h1]
    · rw [hm,List.drop_eq_nil_of_le h];rfl
noncomputable def K_130:Ent Tryz.prog:=Ent.p3 (α:=List Int) (β:=Int) (γ:=Int) 130 (fun l lo hi=>Enc.good l) (fun l lo hi=>.d (.bool (allIn l lo hi))) (fun l lo hi hc=>l1All_c l lo hi hc)
theorem K_130_f:K_130.f=130:=rfl
theorem K_130_e (l:List Int) (lo:Int) (hi:Int):K_130.e [.d (dIntS l),.d (.int .i64 lo),.d (.int .i64 hi)]=some (Enc.good l,.d (.bool (allIn l lo hi)),[]):=by unfold K_130;exact Ent.p3_eq (α:=List Int) (β:=Int) (γ:=Int) l lo hi
noncomputable def K_130h:EntH Tryz.prog:=EntH.pk3 (α:=List Int) (β:=Int) (γ:=Int) 130 (fun l lo hi=>Enc.good l) (fun l lo hi=>.d (.bool (allIn l lo hi))) (fun l lo hi=>[]) (fun l lo hi hc=>PureP.ans (l1All_c l lo hi hc))
theorem K_130h_f:K_130h.f=130:=rfl
theorem K_130h_g:K_130h.gro=true:=rfl
theorem K_130h_e {x1 x2 x3:V} {H:Heap}:K_130h.e [x1,x2,x3] H=guardR ((decA (α:=List Int) H x1).1∧(decA (α:=Int) H x2).1∧(decA (α:=Int) H x3).1) (peekR (Enc.good (decA (α:=List Int) H x1).2) (.d (.bool (allIn (decA (α:=List Int) H x1).2 (decA (α:=Int) H x2).2 (decA (α:=Int) H x3).2))) ([]) H):=rfl
end Go.Proofs.YtbmloeahcdneaaaGreat
end

section
namespace Go.Proofs.YtbmloeahcdneaaaGreat
set_option maxRecDepth 100000
set_option linter.unusedSimpArgs false
set_option linter.unusedVariables false
theorem isOp_c (op:Int):PureP Tryz.prog 197 [.d (.int .i64 op)] (· = .d (.bool (inR op 1 11))):=by
  refine pure_of Tryz.func197 en_197 rfl rfl (W_run mixed ⟨[K_89],[K_89h],[],5,0,[0,2],[]⟩ (fun _=>[]) (by kernel_rfl) ?_)
  simp only [Tryz.f197,stripX,stripOps,pickOps]
  simp [K_89_f,K_89_e,K_89h_f,K_89h_e,K_89h_g]
noncomputable def K_197:Ent Tryz.prog:=Ent.p1 (α:=Int) 197 (fun a=>True) (fun a=>.d (.bool (inR a 1 11))) (fun a hc=>isOp_c a)
theorem K_197_f:K_197.f=197:=rfl
theorem K_197_e (a:Int):K_197.e [.d (.int .i64 a)]=some (True,.d (.bool (inR a 1 11)),[]):=by unfold K_197;exact Ent.p1_eq (α:=Int) a
noncomputable def K_197h:EntH Tryz.prog:=EntH.pk1 (α:=Int) 197 (fun a=>True) (fun a=>.d (.bool (inR a 1 11))) (fun a=>[]) (fun a hc=>PureP.ans (isOp_c a))
theorem K_197h_f:K_197h.f=197:=rfl
theorem K_197h_g:K_197h.gro=true:=rfl
theorem K_197h_e {x1:V} {H:Heap}:K_197h.e [x1] H=guardR ((decA (α:=Int) H x1).1) (peekR (True) (.d (.bool (inR (decA (α:=Int) H x1).2 1 11))) ([]) H):=rfl
def arityI (op:Int):Int:=if op=1∨op=2 then 0 else if op=3 then 1 else if op=11 then 3 else 2
theorem arityI_c (op:Int):PureP Tryz.prog 198 [.d (.int .i64 op)] (· = .d (.int .i64 (arityI op))):=by
  refine pure_of Tryz.func198 en_198 rfl rfl (W_run mixed ⟨[],[],[],11,0,[0,2,3,4,7,9],[4,7,9]⟩ (fun _=>[]) (by kernel_rfl) ?_)
  simp only [Tryz.f198,stripX,stripOps,pickOps]
  simp []
  repeat' first | apply And.intro | intro _
  all_goals simp [arityI, *]
noncomputable def K_198:Ent Tryz.prog:=Ent.p1 (α:=Int) 198 (fun a=>True) (fun a=>.d (.int .i64 (arityI a))) (fun a hc=>arityI_c a)
theorem K_198_f:K_198.f=198:=rfl
theorem K_198_e (a:Int):K_198.e [.d (.int .i64 a)]=some (True,.d (.int .i64 (arityI a)),[]):=by unfold K_198;exact Ent.p1_eq (α:=Int) a
noncomputable def K_198h:EntH Tryz.prog:=EntH.pk1 (α:=Int) 198 (fun a=>True) (fun a=>.d (.int .i64 (arityI a))) (fun a=>[]) (fun a hc=>PureP.ans (arityI_c a))
theorem K_198h_f:K_198h.f=198:=rfl
theorem K_198h_g:K_198h.gro=true:=rfl
theorem K_198h_e {x1:V} {H:Heap}:K_198h.e [x1] H=guardR ((decA (α:=Int) H x1).1) (peekR (True) (.d (.int .i64 (arityI (decA (α:=Int) H x1).2))) ([]) H):=rfl
theorem argsOf_c (op:Int):PureP Tryz.prog 192 [.d (.int .i64 op)] (· = .d (.int .i64 (arity op))):=by
  refine pure_of Tryz.func192 en_192 rfl rfl (W_run mixed ⟨[K_197,K_198],[K_197h,K_198h],[],18,0,[0,2,3,6,9],[3,6,9,12]⟩ (fun _=>[]) (by kernel_rfl) ?_)
  simp only [Tryz.f192,stripX,stripOps,pickOps]
  simp [K_197_f,K_197_e,K_198_f,K_198_e,K_197h_f,K_197h_e,K_198h_f,K_198h_e,K_197h_g,K_198h_g]
  repeat' first | apply And.intro | intro _
  all_goals try simp only [inR_t,inR_f] at *
  all_goals simp [arity,arity1,arityI,inR, *]
  all_goals (repeat' split) <;> omega
noncomputable def K_192:Ent Tryz.prog:=Ent.p1 (α:=Int) 192 (fun a=>True) (fun a=>.d (.int .i64 (arity a))) (fun a hc=>argsOf_c a)
theorem K_192_f:K_192.f=192:=rfl
theorem K_192_e (a:Int):K_192.e [.d (.int .i64 a)]=some (True,.d (.int .i64 (arity a)),[]):=by unfold K_192;exact Ent.p1_eq (α:=Int) a
noncomputable def K_192h:EntH Tryz.prog:=EntH.pk1 (α:=Int) 192 (fun a=>True) (fun a=>.d (.int .i64 (arity a))) (fun a=>[]) (fun a hc=>PureP.ans (argsOf_c a))
theorem K_192h_f:K_192h.f=192:=rfl
theorem K_192h_g:K_192h.gro=true:=rfl
theorem K_192h_e {x1:V} {H:Heap}:K_192h.e [x1] H=guardR ((decA (α:=Int) H x1).1) (peekR (True) (.d (.int .i64 (arity (decA (α:=Int) H x1).2))) ([]) H):=rfl
@[simp] theorem closedL_upto (n:Nat) (f:Nat→D):closedL (upto n fun j=>.d (f j))=true:=by
  induction n generalizing f with
  | zero=>rfl
  | succ n ih=>simp [upto,ih]
def idxP {α:Type} (p:α→Bool):List α→Int→Int
  | [],_=>-1
  | x :: l,i=>if p x then i else idxP p l (i + 1)
theorem idxP_ge {α:Type} (p:α→Bool):∀ (l:List α) (i:Int),0≤i→(decide (0≤idxP p l i)=l.any p)
  | [],i,h=>by simp [idxP]
  | x :: l, i, h => by
    simp only [idxP,List.any_cons]
    by_cases hp:p x=true
    · simp [hp,h]
    · simp only [Bool.not_eq_true] at hp
      simp only [hp,Bool.false_eq_true,if_false,Bool.false_or]
      exact idxP_ge p l (i + 1) (by omega)
theorem indexFuncInt_c {g n:Nat} {cap:Nat→D} (p:Int→Bool) (l:List Int) (hl:Enc.good l) (hg:∀ i,i < l.length→PureP Tryz.prog g ((fun x:Int=>.d (.int .i64 x)) (l[i]?.getD default) :: upto n fun j=>.d (cap j)) (· = .d (.bool (p (l[i]?.getD default))))) :
    PureP Tryz.prog 148 [.d (dIntS l),.d (.clo g n cap)] (· = .d (.int .i64 (idxP p l 0))):=by
  have hlen:=good_len hl
  refine pure_of Tryz.func148 en_148 rfl rfl (W_run mixed ⟨[],[],[],19,0,[0,1,4,5,7,8,9,16],[9,16]⟩ (fun _=>[]) (by kernel_rfl) ?_)
  simp only [Tryz.f148,stripX,stripOps,pickOps]
  simp []
  refine W_loopA (fun i:Nat=>[(0,.d (dIntS l)),(1,.d (.clo g n cap)),(7,.d (.int .i64 l.length)),(8,.d (.int .i64 i))]) (fun _=>[]) (fun i=>i≤l.length∧idxP p (l.drop i) i=idxP p l 0) (fun i=>l.length - i) 0 ?_ ?_ ?_
  · simp
  · simp
  rintro i ⟨hi,hm⟩
  refine W_run mixed ⟨[],[],[],19,0,[0,1,4,5,7,8,9,16],[9,16]⟩ (fun _=>[]) (by kernel_rfl) ?_
  simp only [stripX,stripOps,pickOps]
  simp []
  refine ⟨fun h=>⟨h, ?_⟩,fun h=>?_⟩
  · rw [drop_cons h] at hm
    simp only [idxP] at hm
    refine ((hg i h).calls (by simp [closedL,V.closed])).mono ?_
    rintro r H' ⟨rfl,rfl⟩
    simp
    refine ⟨fun q=>?_,fun q=>⟨i + 1,⟨by omega, ?_⟩,by omega,by rw [wrap_id] <;> omega⟩⟩
    · rw [if_pos (by exact q)] at hm;exact hm
    · rw [if_neg (by intro q';have:=q.symm.trans q';cases this)] at hm;exact hm
  · rw [List.drop_eq_nil_of_le h] at hm;simpa [idxP] using hm
theorem containsFuncInt_c {g n:Nat} {cap:Nat→D} (p:Int→Bool) (l:List Int) (hl:Enc.good l) (hg:∀ i,i < l.length→PureP Tryz.prog g ((fun x:Int=>.d (.int .i64 x)) (l[i]?.getD default) :: upto n fun j=>.d (cap j)) (· = .d (.bool (p (l[i]?.getD default))))) :
    PureP Tryz.prog 87 [.d (dIntS l),.d (.clo g n cap)] (· = .d (.bool (l.any p))):=by
  refine pure_of Tryz.func87 en_87 rfl rfl (W_run mixed ⟨[],[],[148],9,0,[0,1,4],[]⟩ (fun _=>[]) (by kernel_rfl) ?_)
  simp only [Tryz.f87,stripX,stripOps,pickOps]
  simp []
  refine ((indexFuncInt_c p l hl hg).calls (by simp)).mono ?_
  rintro r H' ⟨rfl,rfl⟩
  simp
  exact idxP_ge p l 0 (by omega)
theorem indexFuncInst_c {g n:Nat} {cap:Nat→D} (p:Inst→Bool) (l:List Inst) (hl:Enc.good l) (hg:∀ i,i < l.length→PureP Tryz.prog g ((fun x:Inst=>vInst x) (l[i]?.getD default) :: upto n fun j=>.d (cap j)) (· = .d (.bool (p (l[i]?.getD default))))) :
    PureP Tryz.prog 191 [.d (dInstS l),.d (.clo g n cap)] (· = .d (.int .i64 (idxP p l 0))):=by
  have hlen:=good_len hl
  refine pure_of Tryz.func191 en_191 rfl rfl (W_run mixed ⟨[],[],[],19,0,[0,1,4,5,7,8,9,16],[9,16]⟩ (fun _=>[]) (by kernel_rfl) ?_)
  simp only [Tryz.f191,stripX,stripOps,pickOps]
  simp []
  refine W_loopA (fun i:Nat=>[(0,.d (dInstS l)),(1,.d (.clo g n cap)),(7,.d (.int .i64 l.length)),(8,.d (.int .i64 i))]) (fun _=>[]) (fun i=>i≤l.length∧idxP p (l.drop i) i=idxP p l 0) (fun i=>l.length - i) 0 ?_ ?_ ?_
  · simp
  · simp
  rintro i ⟨hi,hm⟩
  refine W_run mixed ⟨[],[],[],19,0,[0,1,4,5,7,8,9,16],[9,16]⟩ (fun _=>[]) (by kernel_rfl) ?_
  simp only [stripX,stripOps,pickOps]
  simp []
  refine ⟨fun h=>⟨h, ?_⟩,fun h=>?_⟩
  · rw [drop_cons h] at hm
    simp only [idxP] at hm
    refine ((hg i h).calls (by simp [closedL,V.closed])).mono ?_
    rintro r H' ⟨rfl,rfl⟩
    simp
    refine ⟨fun q=>?_,fun q=>⟨i + 1,⟨by omega, ?_⟩,by omega,by rw [wrap_id] <;> omega⟩⟩
    · rw [if_pos (by exact q)] at hm;exact hm
    · rw [if_neg (by intro q';have:=q.symm.trans q';cases this)] at hm;exact hm
  · rw [List.drop_eq_nil_of_le h] at hm;simpa [idxP] using hm
theorem containsFuncInst_c {g n:Nat} {cap:Nat→D} (p:Inst→Bool) (l:List Inst) (hl:Enc.good l) (hg:∀ i,i < l.length→PureP Tryz.prog g ((fun x:Inst=>vInst x) (l[i]?.getD default) :: upto n fun j=>.d (cap j)) (· = .d (.bool (p (l[i]?.getD default))))) :
    PureP Tryz.prog 175 [.d (dInstS l),.d (.clo g n cap)] (· = .d (.bool (l.any p))):=by
  refine pure_of Tryz.func175 en_175 rfl rfl (W_run mixed ⟨[],[],[191],9,0,[0,1,4],[]⟩ (fun _=>[]) (by kernel_rfl) ?_)
  simp only [Tryz.f175,stripX,stripOps,pickOps]
  simp []
  refine ((indexFuncInst_c p l hl hg).calls (by simp)).mono ?_
  rintro r H' ⟨rfl,rfl⟩
  simp
  exact idxP_ge p l 0 (by omega)
theorem indexFuncJump_c {g n:Nat} {cap:Nat→D} (p:Jump→Bool) (l:List Jump) (hl:Enc.good l) (hg:∀ i,i < l.length→PureP Tryz.prog g ((fun x:Jump=>vJump x) (l[i]?.getD default) :: upto n fun j=>.d (cap j)) (· = .d (.bool (p (l[i]?.getD default))))) :
    PureP Tryz.prog 193 [.d (dJumpS l),.d (.clo g n cap)] (· = .d (.int .i64 (idxP p l 0))):=by
  have hlen:=good_len hl
  refine pure_of Tryz.func193 en_193 rfl rfl (W_run mixed ⟨[],[],[],19,0,[0,1,4,5,7,8,9,16],[9,16]⟩ (fun _=>[]) (by kernel_rfl) ?_)
  simp only [Tryz.f193,stripX,stripOps,pickOps]
  simp []
  refine W_loopA (fun i:Nat=>[(0,.d (dJumpS l)),(1,.d (.clo g n cap)),(7,.d (.int .i64 l.length)),(8,.d (.int .i64 i))]) (fun _=>[]) (fun i=>i≤l.length∧idxP p (l.drop i) i=idxP p l 0) (fun i=>l.length - i) 0 ?_ ?_ ?_
  · simp
  · simp
  rintro i ⟨hi,hm⟩
  refine W_run mixed ⟨[],[],[],19,0,[0,1,4,5,7,8,9,16],[9,16]⟩ (fun _=>[]) (by kernel_rfl) ?_
  simp only [stripX,stripOps,pickOps]
  simp []
  refine ⟨fun h=>⟨h, ?_⟩,fun h=>?_⟩
  · rw [drop_cons h] at hm
    simp only [idxP] at hm
    refine ((hg i h).calls (by simp [closedL,V.closed])).mono ?_
    rintro r H' ⟨rfl,rfl⟩
    simp
    refine ⟨fun q=>?_,fun q=>⟨i + 1,⟨by omega, ?_⟩,by omega,by rw [wrap_id] <;> omega⟩⟩
    · rw [if_pos (by exact q)] at hm;exact hm
    · rw [if_neg (by intro q';have:=q.symm.trans q';cases this)] at hm;exact hm
  · rw [List.drop_eq_nil_of_le h] at hm;simpa [idxP] using hm
theorem containsFuncJump_c {g n:Nat} {cap:Nat→D} (p:Jump→Bool) (l:List Jump) (hl:Enc.good l) (hg:∀ i,i < l.length→PureP Tryz.prog g ((fun x:Jump=>vJump x) (l[i]?.getD default) :: upto n fun j=>.d (cap j)) (· = .d (.bool (p (l[i]?.getD default))))) :
    PureP Tryz.prog 178 [.d (dJumpS l),.d (.clo g n cap)] (· = .d (.bool (l.any p))):=by
  refine pure_of Tryz.func178 en_178 rfl rfl (W_run mixed ⟨[],[],[193],9,0,[0,1,4],[]⟩ (fun _=>[]) (by kernel_rfl) ?_)
  simp only [Tryz.f178,stripX,stripOps,pickOps]
  simp []
  refine ((indexFuncJump_c p l hl hg).calls (by simp)).mono ?_
  rintro r H' ⟨rfl,rfl⟩
  simp
  exact idxP_ge p l 0 (by omega)
theorem indexFuncBlock_c {g n:Nat} {cap:Nat→D} (p:Block→Bool) (l:List Block) (hl:Enc.good l) (hg:∀ i,i < l.length→PureP Tryz.prog g ((fun x:Block=>vBlock x) (l[i]?.getD default) :: upto n fun j=>.d (cap j)) (· = .d (.bool (p (l[i]?.getD default))))) :
    PureP Tryz.prog 174 [.d (dBlockS l),.d (.clo g n cap)] (· = .d (.int .i64 (idxP p l 0))):=by
  have hlen:=good_len hl
  refine pure_of Tryz.func174 en_174 rfl rfl (W_run mixed ⟨[],[],[],19,0,[0,1,4,5,7,8,9,16],[9,16]⟩ (fun _=>[]) (by kernel_rfl) ?_)
  simp only [Tryz.f174,stripX,stripOps,pickOps]
  simp []
  refine W_loopA (fun i:Nat=>[(0,.d (dBlockS l)),(1,.d (.clo g n cap)),(7,.d (.int .i64 l.length)),(8,.d (.int .i64 i))]) (fun _=>[]) (fun i=>i≤l.length∧idxP p (l.drop i) i=idxP p l 0) (fun i=>l.length - i) 0 ?_ ?_ ?_
  · simp
  · simp
  rintro i ⟨hi,hm⟩
  refine W_run mixed ⟨[],[],[],19,0,[0,1,4,5,7,8,9,16],[9,16]⟩ (fun _=>[]) (by kernel_rfl) ?_
  simp only [stripX,stripOps,pickOps]
  simp []
  refine ⟨fun h=>⟨h, ?_⟩,fun h=>?_⟩
  · rw [drop_cons h] at hm
    simp only [idxP] at hm
    refine ((hg i h).calls (by simp [closedL,V.closed])).mono ?_
    rintro r H' ⟨rfl,rfl⟩
    simp
    refine ⟨fun q=>?_,fun q=>⟨i + 1,⟨by omega, ?_⟩,by omega,by rw [wrap_id] <;> omega⟩⟩
    · rw [if_pos (by exact q)] at hm;exact hm
    · rw [if_neg (by intro q';have:=q.symm.trans q';cases this)] at hm;exact hm
  · rw [List.drop_eq_nil_of_le h] at hm;simpa [idxP] using hm
theorem containsFuncBlock_c {g n:Nat} {cap:Nat→D} (p:Block→Bool) (l:List Block) (hl:Enc.good l) (hg:∀ i,i < l.length→PureP Tryz.prog g ((fun x:Block=>vBlock x) (l[i]?.getD default) :: upto n fun j=>.d (cap j)) (· = .d (.bool (p (l[i]?.getD default))))) :
    PureP Tryz.prog 139 [.d (dBlockS l),.d (.clo g n cap)] (· = .d (.bool (l.any p))):=by
  refine pure_of Tryz.func139 en_139 rfl rfl (W_run mixed ⟨[],[],[174],9,0,[0,1,4],[]⟩ (fun _=>[]) (by kernel_rfl) ?_)
  simp only [Tryz.f139,stripX,stripOps,pickOps]
  simp []
  refine ((indexFuncBlock_c p l hl hg).calls (by simp)).mono ?_
  rintro r H' ⟨rfl,rfl⟩
  simp
  exact idxP_ge p l 0 (by omega)
end Go.Proofs.YtbmloeahcdneaaaGreat
end
