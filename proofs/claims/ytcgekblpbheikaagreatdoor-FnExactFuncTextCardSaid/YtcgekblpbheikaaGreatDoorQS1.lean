/- Contracts of small functions of the specification and of the program that work on numbers. No condition. -/
import Derived.Test.YtcgekblpbheikaaGreatDoorQCpy
namespace Go.Proofs.YtcgekblpbheikaaGreatDoor
set_option maxRecDepth 100000
set_option linter.unusedSimpArgs false
set_option linter.unusedVariables false
def inR (n lo hi:Int):Bool:=decide (lo≤n∧n≤hi)
theorem inR_t {n lo hi:Int}:inR n lo hi=true ↔ lo≤n∧n≤hi:=by simp [inR]
theorem inR_f {n lo hi:Int}:inR n lo hi=false ↔ ¬ (lo≤n∧n≤hi):=by simp [inR]
theorem l1In_c (n lo hi:Int):PureP Tryz.prog 90 [.d (.int .i64 n),.d (.int .i64 lo),.d (.int .i64 hi)] (· = .d (.bool (inR n lo hi))):=by
  refine pure_of Tryz.func90 en_90 rfl rfl (W_run mixed ⟨[],[],[],15,0,[0,1,2,6],[10]⟩ (fun _=>[]) (by kernel_rfl) ?_)
  simp only [Tryz.f90,stripX,stripOps,pickOps]
  simp []
  refine ⟨fun h=>?_,fun h=>?_⟩ <;> simp [inR] <;> omega
theorem within_c (n lo hi:Int):PureP Tryz.prog 83 [.d (.int .i64 n),.d (.int .i64 lo),.d (.int .i64 hi)] (· = .d (.bool (inR n lo hi))):=by
  refine pure_of Tryz.func83 en_83 rfl rfl (W_run mixed ⟨[],[],[],15,0,[0,1,2,6],[10]⟩ (fun _=>[]) (by kernel_rfl) ?_)
  simp only [Tryz.f83,stripX,stripOps,pickOps]
  simp []
  refine ⟨fun h=>?_,fun h=>?_⟩ <;> simp [inR] <;> omega
noncomputable def K_90:Ent Tryz.prog:=Ent.p3 (α:=Int) (β:=Int) (γ:=Int) 90 (fun a b c=>True) (fun a b c=>.d (.bool (inR a b c))) (fun a b c hc=>l1In_c a b c)
theorem K_90_f:K_90.f=90:=rfl
theorem K_90_e (a:Int) (b:Int) (c:Int):K_90.e [.d (.int .i64 a),.d (.int .i64 b),.d (.int .i64 c)]=some (True,.d (.bool (inR a b c)),[]):=by unfold K_90;exact Ent.p3_eq (α:=Int) (β:=Int) (γ:=Int) a b c
noncomputable def K_90h:EntH Tryz.prog:=EntH.pk3 (α:=Int) (β:=Int) (γ:=Int) 90 (fun a b c=>True) (fun a b c=>.d (.bool (inR a b c))) (fun a b c=>[]) (fun a b c hc=>PureP.ans (l1In_c a b c))
theorem K_90h_f:K_90h.f=90:=rfl
theorem K_90h_g:K_90h.gro=true:=rfl
theorem K_90h_e {x1 x2 x3:V} {H:Heap}:K_90h.e [x1,x2,x3] H=guardR ((decA (α:=Int) H x1).1∧(decA (α:=Int) H x2).1∧(decA (α:=Int) H x3).1) (peekR (True) (.d (.bool (inR (decA (α:=Int) H x1).2 (decA (α:=Int) H x2).2 (decA (α:=Int) H x3).2))) ([]) H):=rfl
noncomputable def K_83:Ent Tryz.prog:=Ent.p3 (α:=Int) (β:=Int) (γ:=Int) 83 (fun a b c=>True) (fun a b c=>.d (.bool (inR a b c))) (fun a b c hc=>within_c a b c)
theorem K_83_f:K_83.f=83:=rfl
theorem K_83_e (a:Int) (b:Int) (c:Int):K_83.e [.d (.int .i64 a),.d (.int .i64 b),.d (.int .i64 c)]=some (True,.d (.bool (inR a b c)),[]):=by unfold K_83;exact Ent.p3_eq (α:=Int) (β:=Int) (γ:=Int) a b c
noncomputable def K_83h:EntH Tryz.prog:=EntH.pk3 (α:=Int) (β:=Int) (γ:=Int) 83 (fun a b c=>True) (fun a b c=>.d (.bool (inR a b c))) (fun a b c=>[]) (fun a b c hc=>PureP.ans (within_c a b c))
theorem K_83h_f:K_83h.f=83:=rfl
theorem K_83h_g:K_83h.gro=true:=rfl
theorem K_83h_e {x1 x2 x3:V} {H:Heap}:K_83h.e [x1,x2,x3] H=guardR ((decA (α:=Int) H x1).1∧(decA (α:=Int) H x2).1∧(decA (α:=Int) H x3).1) (peekR (True) (.d (.bool (inR (decA (α:=Int) H x1).2 (decA (α:=Int) H x2).2 (decA (α:=Int) H x3).2))) ([]) H):=rfl
def arity1 (op:Int):Int:=if op=1∨op=2 then 0 else if op=3 then 1 else if op=11 then 3 else if inR op 4 10 then 2 else -1
theorem l1Arity_c (op:Int):PureP Tryz.prog 170 [.d (.int .i64 op)] (· = .d (.int .i64 (arity1 op))):=by
  refine pure_of Tryz.func170 en_170 rfl rfl (W_run mixed ⟨[K_90],[K_90h],[],19,0,[0,2,3,10,13,16],[3,6,10,13,16]⟩ (fun _=>[]) (by kernel_rfl) ?_)
  simp only [Tryz.f170,stripX,stripOps,pickOps]
  simp [K_90_f,K_90_e,K_90h_f,K_90h_e,K_90h_g]
  repeat' first | apply And.intro | intro _
  all_goals simp [arity1, *]
noncomputable def K_170:Ent Tryz.prog:=Ent.p1 (α:=Int) 170 (fun a=>True) (fun a=>.d (.int .i64 (arity1 a))) (fun a hc=>l1Arity_c a)
theorem K_170_f:K_170.f=170:=rfl
theorem K_170_e (a:Int):K_170.e [.d (.int .i64 a)]=some (True,.d (.int .i64 (arity1 a)),[]):=by unfold K_170;exact Ent.p1_eq (α:=Int) a
noncomputable def K_170h:EntH Tryz.prog:=EntH.pk1 (α:=Int) 170 (fun a=>True) (fun a=>.d (.int .i64 (arity1 a))) (fun a=>[]) (fun a hc=>PureP.ans (l1Arity_c a))
theorem K_170h_f:K_170h.f=170:=rfl
theorem K_170h_g:K_170h.gro=true:=rfl
theorem K_170h_e {x1:V} {H:Heap}:K_170h.e [x1] H=guardR ((decA (α:=Int) H x1).1) (peekR (True) (.d (.int .i64 (arity1 (decA (α:=Int) H x1).2))) ([]) H):=rfl
def arity (op:Int):Int:=if op=12 then 1 else if op=13 then 2 else if op=2 then -1 else arity1 op
theorem l12Arity_c (op:Int):PureP Tryz.prog 94 [.d (.int .i64 op)] (· = .d (.int .i64 (arity op))):=by
  refine pure_of Tryz.func94 en_94 rfl rfl (W_run mixed ⟨[K_170],[K_170h],[],12,0,[0,2,3,4,6,8],[4,6,8]⟩ (fun _=>[]) (by kernel_rfl) ?_)
  simp only [Tryz.f94,stripX,stripOps,pickOps]
  simp [K_170_f,K_170_e,K_170h_f,K_170h_e,K_170h_g]
  repeat' first | apply And.intro | intro _
  all_goals simp [arity, *]
noncomputable def K_94:Ent Tryz.prog:=Ent.p1 (α:=Int) 94 (fun a=>True) (fun a=>.d (.int .i64 (arity a))) (fun a hc=>l12Arity_c a)
theorem K_94_f:K_94.f=94:=rfl
theorem K_94_e (a:Int):K_94.e [.d (.int .i64 a)]=some (True,.d (.int .i64 (arity a)),[]):=by unfold K_94;exact Ent.p1_eq (α:=Int) a
noncomputable def K_94h:EntH Tryz.prog:=EntH.pk1 (α:=Int) 94 (fun a=>True) (fun a=>.d (.int .i64 (arity a))) (fun a=>[]) (fun a hc=>PureP.ans (l12Arity_c a))
theorem K_94h_f:K_94h.f=94:=rfl
theorem K_94h_g:K_94h.gro=true:=rfl
theorem K_94h_e {x1:V} {H:Heap}:K_94h.e [x1] H=guardR ((decA (α:=Int) H x1).1) (peekR (True) (.d (.int .i64 (arity (decA (α:=Int) H x1).2))) ([]) H):=rfl
def allIn (l:List Int) (lo hi:Int):Bool:=l.all fun n=>inR n lo hi
theorem allIn_cons (x:Int) (l:List Int) (lo hi:Int):allIn (x :: l) lo hi=(inR x lo hi && allIn l lo hi):=by simp [allIn]
theorem l1All_c (l:List Int) (lo hi:Int) (hl:Enc.good l):PureP Tryz.prog 95 [.d (dIntS l),.d (.int .i64 lo),.d (.int .i64 hi)] (· = .d (.bool (allIn l lo hi))):=by
  have hlen:=good_len hl
  refine pure_of Tryz.func95 en_95 rfl rfl (W_run mixed ⟨[K_90],[K_90h],[],21,0,[0,1,2,6,8,9,10,11,12,19],[12,19]⟩ (fun _=>[]) (by kernel_rfl) ?_)
  simp only [Tryz.f95,stripX,stripOps,pickOps]
  simp [K_90_f,K_90_e,K_90h_f,K_90h_e,K_90h_g]
  refine W_loopA (fun i:Nat=>[(1,.d (.int .i64 lo)),(2,.d (.int .i64 hi)),(9,.d (dIntS l)),(10,.d (.int .i64 l.length)),(11,.d (.int .i64 i))]) (fun _=>[]) (fun i=>i≤l.length∧allIn l lo hi=allIn (l.drop i) lo hi) (fun i=>l.length - i) 0 ?_ ?_ ?_
  · simp
  · simp
  · rintro i ⟨hi,hm⟩
    refine W_run mixed ⟨[K_90],[K_90h],[],21,0,[0,1,2,6,8,9,10,11,12,19],[12,19]⟩ (fun _=>[]) (by kernel_rfl) ?_
    simp only [stripX,stripOps,pickOps]
    simp [K_90_f,K_90_e,K_90h_f,K_90h_e,K_90h_g]
    refine ⟨fun h=>?_,fun h=>?_⟩
    · rw [drop_cons h] at hm
      refine ⟨h,fun h1=>?_,fun h1=>⟨i + 1,⟨by omega, ?_⟩,by omega,by rw [wrap_id] <;> omega⟩⟩
      · rw [hm];simp [allIn_cons,h1]
      · rw [hm];simp [allIn_cons,h1]
    · rw [hm,List.drop_eq_nil_of_le h];rfl
noncomputable def K_95:Ent Tryz.prog:=Ent.p3 (α:=List Int) (β:=Int) (γ:=Int) 95 (fun l lo hi=>Enc.good l) (fun l lo hi=>.d (.bool (allIn l lo hi))) (fun l lo hi hc=>l1All_c l lo hi hc)
theorem K_95_f:K_95.f=95:=rfl
theorem K_95_e (l:List Int) (lo:Int) (hi:Int):K_95.e [.d (dIntS l),.d (.int .i64 lo),.d (.int .i64 hi)]=some (Enc.good l,.d (.bool (allIn l lo hi)),[]):=by unfold K_95;exact Ent.p3_eq (α:=List Int) (β:=Int) (γ:=Int) l lo hi
noncomputable def K_95h:EntH Tryz.prog:=EntH.pk3 (α:=List Int) (β:=Int) (γ:=Int) 95 (fun l lo hi=>Enc.good l) (fun l lo hi=>.d (.bool (allIn l lo hi))) (fun l lo hi=>[]) (fun l lo hi hc=>PureP.ans (l1All_c l lo hi hc))
theorem K_95h_f:K_95h.f=95:=rfl
theorem K_95h_g:K_95h.gro=true:=rfl
theorem K_95h_e {x1 x2 x3:V} {H:Heap}:K_95h.e [x1,x2,x3] H=guardR ((decA (α:=List Int) H x1).1∧(decA (α:=Int) H x2).1∧(decA (α:=Int) H x3).1) (peekR (Enc.good (decA (α:=List Int) H x1).2) (.d (.bool (allIn (decA (α:=List Int) H x1).2 (decA (α:=Int) H x2).2 (decA (α:=Int) H x3).2))) ([]) H):=rfl
end Go.Proofs.YtcgekblpbheikaaGreatDoor
