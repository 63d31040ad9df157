/- The program's RunFunc. No condition. -/
import Derived.Test.YtnomiclfiijniaaQS115
namespace Go.Proofs.Ytnomiclfiijniaa
set_option maxRecDepth 100000
set_option linter.unusedSimpArgs false
set_option linter.unusedVariables false
theorem cloneN64_c (l:List Int) (h0:l ≠ []) (hl:l.length≤1000):CallsD Try.prog 54 [.d (dIntS l)] [] fun r H=>r=.sl 0 1 0 l.length∧H=[.row 1 (rI l)]:=by
  have hp:0 < l.length:=List.length_pos_iff.2 h0
  have hu:=upto_all l
  refine calls_of Try.func54 en_54 rfl (of_decide_eq_true rfl) (W_run mixed ⟨[],[],[],8,0,[0,2,4],[4]⟩ (fun _=>[]) (by kernel_rfl) ?_)
  simp only [Try.f54,stripX,stripOps,pickOps]
  simp [retQ,hp,hu]
  exact ⟨by omega,Fin.ren [1] (by simp) (by simp) (by simp) (by simp) (by simp)⟩
noncomputable def K_cloneN64:Ent Try.prog:=Ent.o1 (α:=List Int) 54 (fun l=>l ≠ []∧l.length≤1000) (fun l=>.sl 0 1 0 l.length) (fun l=>[.row 1 (rI l)]) (fun l hc H=>(CallsD.good (cloneN64_c l hc.1 hc.2) rfl H))
theorem K_cloneN64_f:K_cloneN64.f=54:=rfl
theorem K_cloneN64_e (l:List Int):K_cloneN64.e [.d (dIntS l)]=some (l ≠ []∧l.length≤1000,.sl 0 1 0 l.length,[.row 1 (rI l)]):=by unfold K_cloneN64;exact Ent.o1_eq (α:=List Int) l
noncomputable def K_cloneN64h:EntH Try.prog:=EntH.pk1 (α:=List Int) 54 (fun l=>l ≠ []∧l.length≤1000) (fun l=>.sl 0 1 0 l.length) (fun l=>[.row 1 (rI l)]) (fun l hc=>CallsD.ans ((CallsD.good (cloneN64_c l hc.1 hc.2) rfl [])))
theorem K_cloneN64h_f:K_cloneN64h.f=54:=rfl
theorem K_cloneN64h_g:K_cloneN64h.gro=true:=rfl
theorem K_cloneN64h_e {x1:V} {H:Heap}:K_cloneN64h.e [x1] H=guardR ((decA (α:=List Int) H x1).1) (peekR ((decA (α:=List Int) H x1).2 ≠ []∧(decA (α:=List Int) H x1).2.length≤1000) (.sl 0 1 0 (decA (α:=List Int) H x1).2.length) ([.row 1 (rI (decA (α:=List Int) H x1).2)]) H):=rfl
structure AOutcome where
  code_:Int
  value_:Int
  mem_:AS Int
  fuel_:Int
  deriving Inhabited
@[reducible] instance trAOutcome:Tr AOutcome Outcome where
  cells x:=[.d (.int .i64 x.code_),.d (.int .i64 x.value_),x.mem_.v,.d (.int .i64 x.fuel_)]
  pls x:=(Tr.pls x.mem_)
  ok x:=Tr.ok x.mem_
  era x:=⟨x.code_,x.value_,Tr.era x.mem_,x.fuel_⟩
  len _ _:=rfl
  one x h:=by
    show (true && (true && (x.mem_.v.one && (true && true))))=true
    rw [(show okS x.mem_ from h).1.scl.2]
    rfl
  dec H x h hp:=by
    have q0:(Dec.dec (α:=List Int) H [x.mem_.v]).1∧(Dec.dec (α:=List Int) H [x.mem_.v]).2=Tr.era x.mem_:=Tr.dec H x.mem_ h hp
    refine ⟨⟨trivial,trivial,q0.1,trivial⟩, ?_⟩
    show Outcome.mk x.code_ x.value_ (Dec.dec (α:=List Int) H [x.mem_.v]).2 x.fuel_=_
    rw [q0.2]
instance trsAOutcome:TrS AOutcome where
  scl x h:=by
    refine ⟨?_,fun q hq=>?_⟩
    · show (true && (true && (x.mem_.v.scl2 && (true && true))))=true
      rw [(show okS x.mem_ from h).1.scl.1]
      rfl
    · exact (TrS.scl x.mem_ h).2 q hq
@[simp] theorem cells_AOutcome (x:AOutcome):Tr.cells x=[.d (.int .i64 x.code_),.d (.int .i64 x.value_),x.mem_.v,.d (.int .i64 x.fuel_)]:=rfl
theorem AOutcome.own_mem_ {H:Heap} {x:AOutcome} (h:Own H x):Own H x.mem_:=⟨h.ok,h.at_,h.nd⟩
theorem AOutcome.own {H:Heap} {x:AOutcome} (h:Own H x.mem_):Own H x:=⟨h.ok,h.at_,h.nd⟩
def runOk (F:Func) (args mem:List Int) (fuel:Int):Bool:=goodF F && (decide ((args.length:Int)=F.params_) && (decide ((mem.length:Int)=8) && inR fuel 0 200))
def begV (F:Func) (args:List Int):List Int:=putV (List.replicate (many F).toNat 0) 0 args
def runO (F:Func) (args mem:List Int) (fuel:Int):Outcome:=if runOk F args mem fuel=true then runV F fuel.toNat 0 (begV F args) mem else ⟨0,0,[],0⟩
def RunR (H:Heap) (F:Func) (args mem:List Int) (fuel:Int) (r:V) (H':Heap):Prop:=∃ o:AOutcome,r=.tup [.agg (Tr.cells o),.d (.bool (runOk F args mem fuel))]∧Tr.era o=runO F args mem fuel∧New H H' o
theorem run_none {H X:Heap} {F:Func} {args mem:List Int} {fuel:Int} (h:runOk F args mem fuel=false):∃ r' H',Fin H.length (H++X) (.tup [.agg [.d (.int .i64 0),.d (.int .i64 0),.d .nilsl,.d (.int .i64 0)],.d (.bool false)]) H' r'∧RunR H F args mem fuel r' H' :=
  fin_new (a:=(⟨0,0,⟨.d .nilsl,[]⟩,0⟩:AOutcome)) (AOutcome.own (own_nil _)) (Only.app _ _ _) (fun j hj=>absurd hj List.not_mem_nil) fun H' h'=>⟨_,by rw [h];rfl,by simp [runO,h];rfl,h'⟩
theorem run_some {H H1:Heap} {F:Func} {args mem ms:List Int} {fuel c v fu:Int} {me n:Nat} (h:runOk F args mem fuel=true) (hm:H1[me]? = some (.row 1 (rI ms))) (hme:H.length≤me) (ho:Only [] H H1) (hn:n=ms.length) (he:runO F args mem fuel=⟨c,v,ms,fu⟩) :
    ∃ r' H',Fin H.length H1 (.tup [.agg [.d (.int .i64 c),.d (.int .i64 v),.sl me 1 0 n,.d (.int .i64 fu)],.d (.bool true)]) H' r'∧RunR H F args mem fuel r' H':=by
  subst hn
  refine fin_new (a:=(⟨c,v,⟨.sl me 1 0 ms.length,ms⟩,fu⟩:AOutcome)) (AOutcome.own (own_row hm)) ho (fun j hj=>?_) fun H' h'=>⟨_,by rw [h];rfl, ?_,h'⟩
  · have:j∈ids (⟨.sl me 1 0 ms.length,ms⟩:AS Int):=hj
    rw [ids_row] at this
    rw [List.mem_singleton.1 this];exact hme
  · rw [he]
    show (⟨c,v,ms.map (Tr.era (β:=Int)),fu⟩:Outcome)=_
    rw [era_ints]
set_option maxHeartbeats 8000000 in
theorem runI_own (H : Heap) (F : Func) (args mem : List Int) (fuel : Int) (hF : Enc.good F) (ha : args.length ≤ 1000) (hm : mem.length ≤ 1000) :
    CallsD Try.prog 19 [vFunc F,.d (dIntS args),.d (dIntS mem),.d (.int .i64 fuel)] H (RunR H F args mem fuel):=by
  cases hg:goodF F with
  | false =>
    have h:runOk F args mem fuel=false:=by simp [runOk,hg]
    refine calls_of Try.func19 en_19 rfl (of_decide_eq_true rfl) (W_runS mixed [4] ⟨[K_40,K_47,K_cloneN64],[K_40h,K_47h,K_cloneN64h],[1000054,55],71,H.length,[0,1,2,3,4,8,9,10,11,12,13,34,51,55],[18,25,30,34,51,55]⟩ (fun | 4=>[0,1,2,3,6,8,4,5,7,9,10,11,12] | _=>[]) (by kernel_rfl) ?_)
    simp only [Try.f19,stripS,skip_cons,skip_nil,Nat.reduceBEq,Bool.or_false,Bool.or_self,Bool.or_true,Bool.true_or,cond_true,cond_false,stripX,stripOps,pickOps]
    simp [K_40_f,K_40_e,K_47_f,K_47_e,K_cloneN64_f,K_cloneN64_e,K_40h_f,K_40h_e,K_47h_f,K_47h_e,K_cloneN64h_f,K_cloneN64h_e,K_40h_g,K_47h_g,K_cloneN64h_g,-V.flat,-V.one,one_int,one_bool,one_str,one_nilp,one_rp,one_nilsl,one_ro,one_cl,one_nilf,one_nili,one_ifc,one_ptr,one_sl,one_clo,flat_d,flat_ptr,flat_sl,flat_clo,flat_agg,hF,viewV_f hg,retQ]
    exact run_none h
  | true =>
  by_cases h1:(args.length:Int)=F.params_
  case neg =>
    have h:runOk F args mem fuel=false:=by simp [runOk,h1]
    refine calls_of Try.func19 en_19 rfl (of_decide_eq_true rfl) (W_runS mixed [4] ⟨[K_40,K_47,K_cloneN64],[K_40h,K_47h,K_cloneN64h],[1000054,55],71,H.length,[0,1,2,3,4,8,9,10,11,12,13,34,51,55],[18,25,30,34,51,55]⟩ (fun | 4=>[0,1,2,3,6,8,4,5,7,9,10,11,12] | _=>[]) (by kernel_rfl) ?_)
    simp only [Try.f19,stripS,skip_cons,skip_nil,Nat.reduceBEq,Bool.or_false,Bool.or_self,Bool.or_true,Bool.true_or,cond_true,cond_false,stripX,stripOps,pickOps]
    simp [K_40_f,K_40_e,K_47_f,K_47_e,K_cloneN64_f,K_cloneN64_e,K_40h_f,K_40h_e,K_47h_f,K_47h_e,K_cloneN64h_f,K_cloneN64h_e,K_40h_g,K_47h_g,K_cloneN64h_g,-V.flat,-V.one,one_int,one_bool,one_str,one_nilp,one_rp,one_nilsl,one_ro,one_cl,one_nilf,one_nili,one_ifc,one_ptr,one_sl,one_clo,flat_d,flat_ptr,flat_sl,flat_clo,flat_agg,hF,viewV_t hg,h1,retQ]
    exact run_none h
  by_cases h2:(mem.length:Int)=8
  case neg =>
    have h:runOk F args mem fuel=false:=by simp [runOk,h2]
    refine calls_of Try.func19 en_19 rfl (of_decide_eq_true rfl) (W_runS mixed [4] ⟨[K_40,K_47,K_cloneN64],[K_40h,K_47h,K_cloneN64h],[1000054,55],71,H.length,[0,1,2,3,4,8,9,10,11,12,13,34,51,55],[18,25,30,34,51,55]⟩ (fun | 4=>[0,1,2,3,6,8,4,5,7,9,10,11,12] | _=>[]) (by kernel_rfl) ?_)
    simp only [Try.f19,stripS,skip_cons,skip_nil,Nat.reduceBEq,Bool.or_false,Bool.or_self,Bool.or_true,Bool.true_or,cond_true,cond_false,stripX,stripOps,pickOps]
    simp [K_40_f,K_40_e,K_47_f,K_47_e,K_cloneN64_f,K_cloneN64_e,K_40h_f,K_40h_e,K_47h_f,K_47h_e,K_cloneN64h_f,K_cloneN64h_e,K_40h_g,K_47h_g,K_cloneN64h_g,-V.flat,-V.one,one_int,one_bool,one_str,one_nilp,one_rp,one_nilsl,one_ro,one_cl,one_nilf,one_nili,one_ifc,one_ptr,one_sl,one_clo,flat_d,flat_ptr,flat_sl,flat_clo,flat_agg,hF,viewV_t hg,h1,h2,retQ]
    exact run_none h
  cases h3:inR fuel 0 200 with
  | false =>
    have h:runOk F args mem fuel=false:=by simp [runOk,h3]
    refine calls_of Try.func19 en_19 rfl (of_decide_eq_true rfl) (W_runS mixed [4] ⟨[K_40,K_47,K_cloneN64],[K_40h,K_47h,K_cloneN64h],[1000054,55],71,H.length,[0,1,2,3,4,8,9,10,11,12,13,34,51,55],[18,25,30,34,51,55]⟩ (fun | 4=>[0,1,2,3,6,8,4,5,7,9,10,11,12] | _=>[]) (by kernel_rfl) ?_)
    simp only [Try.f19,stripS,skip_cons,skip_nil,Nat.reduceBEq,Bool.or_false,Bool.or_self,Bool.or_true,Bool.true_or,cond_true,cond_false,stripX,stripOps,pickOps]
    simp [K_40_f,K_40_e,K_47_f,K_47_e,K_cloneN64_f,K_cloneN64_e,K_40h_f,K_40h_e,K_47h_f,K_47h_e,K_cloneN64h_f,K_cloneN64h_e,K_40h_g,K_47h_g,K_cloneN64h_g,-V.flat,-V.one,one_int,one_bool,one_str,one_nilp,one_rp,one_nilsl,one_ro,one_cl,one_nilf,one_nili,one_ifc,one_ptr,one_sl,one_clo,flat_d,flat_ptr,flat_sl,flat_clo,flat_agg,hF,viewV_t hg,h1,h2,h3,retQ]
    exact run_none h
  | true =>
  refine calls_of Try.func19 en_19 rfl (of_decide_eq_true rfl) (W_runCut mixed 3 ⟨[K_40,K_47,K_cloneN64],[K_40h,K_47h,K_cloneN64h],[1000054,55],71,H.length,[0,1,2,3,4,8,9,10,11,12,13,34,51,55],[18,25,30,34,51,55]⟩ (fun | 4=>[0,1,2,3,6,8,4,5,7,9,10,11,12] | _=>[]) (by kernel_rfl) ?_)
  simp only [Try.f19,stripCut,stripX,stripOps,pickOps]
  simp [K_40_f,K_40_e,K_47_f,K_47_e,K_cloneN64_f,K_cloneN64_e,K_40h_f,K_40h_e,K_47h_f,K_47h_e,K_cloneN64h_f,K_cloneN64h_e,K_40h_g,K_47h_g,K_cloneN64h_g,-V.flat,-V.one,one_int,one_bool,one_str,one_nilp,one_rp,one_nilsl,one_ro,one_cl,one_nilf,one_nili,one_ifc,one_ptr,one_sl,one_clo,flat_d,flat_ptr,flat_sl,flat_clo,flat_agg,hF,viewV_t hg,h1,h2,h3]
  refine W_seqR (α:=Nat × Nat × Nat × Heap) (fun a=>[(1,.d (dIntS args)),(2,.d (dIntS mem)),(3,.d (.int .i64 fuel)),(8,.ptr (H.length + 1) 4 0 0),(9,.d (.bool false)),(11,.ptr a.2.2.1 6 0 0)]) (fun a=>a.2.2.2)
    (fun a=>Only [] H a.2.2.2∧Two a.2.2.2 a.2.2.1 a.1 a.2.1∧(H.length + 2≤a.1∧H.length + 2≤a.2.1∧H.length + 2≤a.2.2.1)∧a.2.2.2[H.length + 1]? = some (.row 4 [[.d (.int .i64 0),.d (.int .i64 0),.d .nilsl,.d (.int .i64 0)]]) ∧
      a.2.2.2[a.1]? = some (.row 1 (rI (List.replicate (many F).toNat 0)))∧a.2.2.2[a.2.1]? = some (.row 1 (rI mem))∧a.2.2.2[a.2.2.1]? = some (rM F a.1 (many F).toNat 0 0 a.2.1 8 fuel)) ?_ ?_
  · have hl0:mem ≠ []:=fun e=>by rw [e] at h2;simp at h2
    have hl8:mem.length=8:=by omega
    obtain ⟨_,_,_,_,_,m0,m80⟩:=at_le hg (k:=0) (by obtain ⟨_,q,_⟩:=goodF_spec hg;omega)
    have f1:many F * 8≤140737488355328:=by omega
    have f2:many F≤140737488355328:=by omega
    have hsh:∀ k,(shiftL k ∘ fun n:Int=>[V.d (.int .i64 n)])=fun n:Int=>[V.d (.int .i64 n)]:=fun k=>rfl
    refine W_drawC mixed ⟨[K_40,K_47,K_cloneN64],[K_40h,K_47h,K_cloneN64h],[1000054,55],71,H.length,[0,1,2,3,4,8,9,10,11,12,13,34,51,55],[18,25,30,34,51,55]⟩ [0,1,2,3,4,6,8] [5,7,9,10,11] [12] (.alt 5 (.alt 7 (.alt 9 (.alt 10 (.alt 11 .leaf .nil) (.alt 11 (.alt 10 .leaf .nil) .nil)) (.alt 11 (.alt 9 (.alt 10 .leaf .nil) .nil) .nil)) (.alt 11 (.alt 7 (.alt 9 (.alt 10 .leaf .nil) .nil) .nil) .nil)) (.alt 7 (.alt 5 (.alt 9 (.alt 10 (.alt 11 .leaf .nil) (.alt 11 (.alt 10 .leaf .nil) .nil)) (.alt 11 (.alt 9 (.alt 10 .leaf .nil) .nil) .nil)) (.alt 9 (.alt 5 (.alt 10 (.alt 11 .leaf .nil) (.alt 11 (.alt 10 .leaf .nil) .nil)) (.alt 11 (.alt 5 (.alt 10 .leaf .nil) .nil) .nil)) (.alt 11 (.alt 5 (.alt 9 (.alt 10 .leaf .nil) .nil) (.alt 9 (.alt 5 (.alt 10 .leaf .nil) .nil) .nil)) .nil))) (.alt 11 (.alt 5 (.alt 7 (.alt 9 (.alt 10 .leaf .nil) .nil) .nil) (.alt 7 (.alt 5 (.alt 9 (.alt 10 .leaf .nil) .nil) (.alt 9 (.alt 5 (.alt 10 .leaf .nil) .nil) .nil)) .nil)) .nil))) (fun | 7=>[4] | 9=>[4] | 11=>[4] | _=>[]) [0,1,2,3,4,8,9,10,11,12,13,34,51,55,36,37,38,39,40,41,42,43,44,45,46] (by kernel_rfl) (by kernel_rfl) ?_
    simp only [stripOps,pickOps]
    simp [denC,demC,loadD,stripOps,pickOps,K_40_f,K_40_e,K_47_f,K_47_e,K_cloneN64_f,K_cloneN64_e,K_40h_f,K_40h_e,K_47h_f,K_47h_e,K_cloneN64h_f,K_cloneN64h_e,K_40h_g,K_47h_g,K_cloneN64h_g,-V.flat,-V.one,one_int,one_bool,one_str,one_nilp,one_rp,one_nilsl,one_ro,one_cl,one_nilf,one_nili,one_ifc,one_ptr,one_sl,one_clo,flat_d,flat_ptr,flat_sl,flat_clo,flat_agg,viewD_total,hsh,hl0,hl8,m0,f1,f2]
    have two:∀ {i j k:Nat} {A B C D E:Place},2≤i→2≤j→2≤k→i≤4→j≤4→k≤4→i ≠ j→k ≠ i→k ≠ j→Two (H++[A,B,C,D,E]) (H.length + k) (H.length + i) (H.length + j):=fun h1 h2 h3 h4 h5 h6 h7 h8 h9=>⟨by simp;omega,by simp;omega,by simp;omega,by omega,by omega,by omega⟩
    have L:∀ (i j k:Nat) (X:Heap),(2≤i∧2≤j∧2≤k)→Two (H++X) (H.length + k) (H.length + i) (H.length + j)→X[1]? = some (.row 4 [[.d (.int .i64 0),.d (.int .i64 0),.d .nilsl,.d (.int .i64 0)]])→X[i]? = some (.row 1 (List.replicate (many F).toNat [.d (.int .i64 0)]))→X[j]? = some (.row 1 (rI mem))→X[k]? = some (rM F (H.length + i) (many F).toNat 0 0 (H.length + j) 8 fuel) →
        ∃ a a_1 a_2 b,(Only [] H b∧Two b a_2 a a_1∧(H.length + 2≤a∧H.length + 2≤a_1∧H.length + 2≤a_2)∧b[H.length + 1]? = some (.row 4 [[.d (.int .i64 0),.d (.int .i64 0),.d .nilsl,.d (.int .i64 0)]])∧b[a]? = some (.row 1 (List.replicate (many F).toNat [.d (.int .i64 0)]))∧b[a_1]? = some (.row 1 (rI mem))∧b[a_2]? = some (rM F a (many F).toNat 0 0 a_1 8 fuel))∧HLe (H++X) b∧H.length + k=a_2:=fun i j k X hX ht g1 g2 g3 g4=>by
      have g:∀ n,(H++X)[H.length + n]? = X[n]?:=fun n=>by rw [List.getElem?_append_right (by omega),Nat.add_sub_cancel_left]
      exact ⟨H.length + i,H.length + j,H.length + k,H++X,⟨Only.app _ _ _,ht,by omega,(g 1).trans g1,(g i).trans g2,(g j).trans g3,(g k).trans g4⟩,HLe.refl _,rfl⟩
    repeat' apply And.intro
    all_goals first
      | exact L 2 3 4 _ (by omega) (two (by omega) (by omega) (by omega) (by omega) (by omega) (by omega) (by omega) (by omega) (by omega)) rfl rfl rfl rfl
      | exact L 2 4 3 _ (by omega) (two (by omega) (by omega) (by omega) (by omega) (by omega) (by omega) (by omega) (by omega) (by omega)) rfl rfl rfl rfl
      | exact L 3 2 4 _ (by omega) (two (by omega) (by omega) (by omega) (by omega) (by omega) (by omega) (by omega) (by omega) (by omega)) rfl rfl rfl rfl
      | exact L 3 4 2 _ (by omega) (two (by omega) (by omega) (by omega) (by omega) (by omega) (by omega) (by omega) (by omega) (by omega)) rfl rfl rfl rfl
      | exact L 4 2 3 _ (by omega) (two (by omega) (by omega) (by omega) (by omega) (by omega) (by omega) (by omega) (by omega) (by omega)) rfl rfl rfl rfl
      | exact L 4 3 2 _ (by omega) (two (by omega) (by omega) (by omega) (by omega) (by omega) (by omega) (by omega) (by omega) (by omega)) rfl rfl rfl rfl
  rintro ⟨ve,me,R,G⟩ ⟨ho,t,⟨g1,g2,g3⟩,gres,gV,gM,gR⟩
  simp only [] at ho t g1 g2 g3 gres gV gM gR ⊢
  have hu:=upto_all args
  refine W_run mixed ⟨[K_40,K_47,K_cloneN64],[K_40h,K_47h,K_cloneN64h],[1000054,55],71,H.length,[0,1,2,3,4,8,9,10,11,12,13,34,51,55],[18,25,30,34,51,55]⟩ (fun | 4=>[0,1,2,3,6,8,4,5,7,9,10,11,12] | _=>[]) (by kernel_rfl) ?_
  simp only [stripX,stripOps,pickOps]
  simp [K_40_f,K_40_e,K_47_f,K_47_e,K_cloneN64_f,K_cloneN64_e,K_40h_f,K_40h_e,K_47h_f,K_47h_e,K_cloneN64h_f,K_cloneN64h_e,K_40h_g,K_47h_g,K_cloneN64h_g,-V.flat,-V.one,one_int,one_bool,one_str,one_nilp,one_rp,one_nilsl,one_ro,one_cl,one_nilf,one_nili,one_ifc,one_ptr,one_sl,one_clo,flat_d,flat_ptr,flat_sl,flat_clo,flat_agg,gR,gV,hu]
  have hbeg:List.take (many F).toNat (rI args)++List.replicate ((many F).toNat - min args.length (many F).toNat) [V.d (.int .i64 0)]=rI (begV F args):=by
    simp [begV,putV,rI]
  rw [hbeg]
  have hlb:(begV F args).length=(many F).toNat:=by unfold begV;rw [putV_len (Nat.zero_le _)];simp
  have hl8:mem.length=8:=by omega
  obtain ⟨_,hbl,_⟩:=goodF_spec hg
  have hfu:=inR_t.1 h3
  have hok:runOk F args mem fuel=true:=by simp [runOk,hg,h1,h2,h3]
  have hO:runO F args mem fuel=runV F fuel.toNat 0 (begV F args) mem:=by simp [runO,hok]
  generalize hOe:runO F args mem fuel=O at hO
  obtain ⟨G1,hG1⟩:∃ G1,G1=G.set ve (.row 1 (rI (begV F args))):=⟨_,rfl⟩
  rw [← hG1]
  have oG1:Only [R,ve,me] G G1:=⟨by rw [hG1];simp,fun j hj hn=>by rw [hG1,List.getElem?_set_ne (fun e=>hn (by simp [e]))]⟩
  have rG1:G1[R]? = some (rM F ve (many F).toNat 0 0 me 8 fuel):=by rw [hG1,List.getElem?_set_ne t.rv.symm];exact gR
  have vG1:G1[ve]? = some (.row 1 (rI (begV F args))):=by rw [hG1,List.getElem?_set_self t.lv]
  have mG1:G1[me]? = some (.row 1 (rI mem)):=by rw [hG1,List.getElem?_set_ne t.vm];exact gM
  refine W_loopH (α:=Nat × Bool × List Int × List Int × Int × Int × Int × Heap) (fun a=>[(8,.ptr (H.length + 1) 4 0 0),(9,.d (.bool false)),(11,.ptr R 6 0 0),(12,.d (.int .i64 a.1)),(13,.d (.bool a.2.1))]) (fun a=>a.2.2.2.2.2.2.2)
    (fun a=>Only [R,ve,me] G a.2.2.2.2.2.2.2∧a.2.2.2.2.2.2.2[R]? = some (rM F ve (many F).toNat a.2.2.2.2.1 a.2.2.2.2.2.1 me 8 a.2.2.2.2.2.2.1)∧a.2.2.2.2.2.2.2[ve]? = some (.row 1 (rI a.2.2.1))∧a.2.2.2.2.2.2.2[me]? = some (.row 1 (rI a.2.2.2.1))∧a.2.2.1.length=(many F).toNat∧a.2.2.2.1.length=8 ∧
      (a.2.1=true→a.1 < F.blocks_.length∧a.2.2.2.2.1=0∧a.2.2.2.2.2.1=0∧(0≤a.2.2.2.2.2.2.1∧a.2.2.2.2.2.2.1≤200)∧runV F a.2.2.2.2.2.2.1.toNat a.1 a.2.2.1 a.2.2.2.1=O)∧(a.2.1=false→0≤a.2.2.2.2.2.2.1∧(⟨a.2.2.2.2.1,a.2.2.2.2.2.1,a.2.2.2.1,a.2.2.2.2.2.2.1⟩:Outcome)=O))
    (fun a=>a.2.2.2.2.2.2.1.toNat + a.2.1.toNat) (0,true,begV F args,mem,0,0,fuel,G1) ?_ ⟨oG1,rG1,vG1,mG1,hlb,hl8,fun _=>⟨by show 0 < F.blocks_.length;omega,rfl,rfl,hfu,hO.symm⟩,fun h=>by cases h⟩ ?_
  · simp
  rintro ⟨k,on,vs,ms,c,v,fu,Gx⟩ ⟨oX,rX,vX,mX,lX,l8,i1,i2⟩
  simp only [] at oX rX vX mX lX l8 i1 i2 ⊢
  have tX:Two Gx R ve me:=⟨(List.getElem?_eq_some_iff.1 vX).1,(List.getElem?_eq_some_iff.1 mX).1,(List.getElem?_eq_some_iff.1 rX).1,t.vm,t.rv,t.rm⟩
  have hsL:H.length + 1 < G.length:=(List.getElem?_eq_some_iff.1 gres).1
  have resX:Gx[H.length + 1]? = some (.row 4 [[.d (.int .i64 0),.d (.int .i64 0),.d .nilsl,.d (.int .i64 0)]]):=(oX.at_ _ hsL (by simp;omega)).trans gres
  have oH:∀ Gy,Only [R,ve,me] G Gy→Only [] H Gy:=fun Gy h=>⟨by have:=ho.len;have:=h.len;omega,fun j hj _=>(h.at_ j (by have:=ho.len;omega) (by simp;omega)).trans (ho.at_ j hj List.not_mem_nil)⟩
  have oR:∀ {Gy:Heap} {P:Place},Only [R,ve,me] G Gy→Only [] H (Gy.set (H.length + 1) P):=fun {Gy P} h=>⟨by have:=(oH _ h).len;simpa using this,fun j hj hn=>by rw [List.getElem?_set_ne (by omega)];exact (oH _ h).at_ j hj hn⟩
  have oS:∀ P,Only [R,ve,me] G (Gx.set R P):=fun P=>⟨by have:=oX.len;simpa using this,fun j hj hn=>by rw [List.getElem?_set_ne (fun e=>hn (by simp [e]))];exact oX.at_ j hj hn⟩
  cases on with
  | false =>
    obtain ⟨f0,e⟩:=i2 rfl
    refine W_run mixed ⟨[K_40,K_47,K_cloneN64],[K_40h,K_47h,K_cloneN64h],[1000054,55],71,H.length,[0,1,2,3,4,8,9,10,11,12,13,34,51,55],[18,25,30,34,51,55]⟩ (fun | 4=>[0,1,2,3,6,8,4,5,7,9,10,11,12] | _=>[]) (by kernel_rfl) ?_
    simp only [stripX,stripOps,pickOps]
    simp [K_40_f,K_40_e,K_47_f,K_47_e,K_cloneN64_f,K_cloneN64_e,K_40h_f,K_40h_e,K_47h_f,K_47h_e,K_cloneN64h_f,K_cloneN64h_e,K_40h_g,K_47h_g,K_cloneN64h_g,-V.flat,-V.one,one_int,one_bool,one_str,one_nilp,one_rp,one_nilsl,one_ro,one_cl,one_nilf,one_nili,one_ifc,one_ptr,one_sl,one_clo,flat_d,flat_ptr,flat_sl,flat_clo,flat_agg,rX,resX,retQ]
    rw [List.getElem?_set_self (by have:=oX.len;omega)]
    exact ⟨rfl,_,rfl,run_some hok ((List.getElem?_set_ne (by omega)).trans mX) (by omega) (oR oX) l8.symm (hOe.trans e.symm)⟩
  | true =>
    obtain ⟨hk,rfl,rfl,hfu2,hrun⟩:=i1 rfl
    by_cases hz:fu=0
    · subst hz
      have sR:∀ P,(Gx.set R P)[R]? = some P:=fun P=>List.getElem?_set_self tX.lr
      have sS:∀ P,(Gx.set R P)[H.length + 1]? = some (.row 4 [[.d (.int .i64 0),.d (.int .i64 0),.d .nilsl,.d (.int .i64 0)]]):=fun P=>(List.getElem?_set_ne (by omega)).trans resX
      refine W_run mixed ⟨[K_40,K_47,K_cloneN64],[K_40h,K_47h,K_cloneN64h],[1000054,55],71,H.length,[0,1,2,3,4,8,9,10,11,12,13,34,51,55],[18,25,30,34,51,55]⟩ (fun | 4=>[0,1,2,3,6,8,4,5,7,9,10,11,12] | _=>[]) (by kernel_rfl) ?_
      simp only [stripX,stripOps,pickOps]
      simp [K_40_f,K_40_e,K_47_f,K_47_e,K_cloneN64_f,K_cloneN64_e,K_40h_f,K_40h_e,K_47h_f,K_47h_e,K_cloneN64h_f,K_cloneN64h_e,K_40h_g,K_47h_g,K_cloneN64h_g,-V.flat,-V.one,one_int,one_bool,one_str,one_nilp,one_rp,one_nilsl,one_ro,one_cl,one_nilf,one_nili,one_ifc,one_ptr,one_sl,one_clo,flat_d,flat_ptr,flat_sl,flat_clo,flat_agg,rX,sR,sS,retQ]
      have e:(⟨3,0,ms,0⟩:Outcome)=O:=hrun
      rw [List.getElem?_set_self (by have:=oX.len;simp;omega)]
      exact ⟨rfl,_,rfl,run_some hok ((List.getElem?_set_ne (by omega)).trans ((List.getElem?_set_ne t.rm).trans mX)) (by omega) (oR (oS _)) l8.symm (hOe.trans e.symm)⟩
    · refine W_run mixed ⟨[K_40,K_47,K_cloneN64],[K_40h,K_47h,K_cloneN64h],[1000054,55],71,H.length,[0,1,2,3,4,8,9,10,11,12,13,34,51,55],[18,25,30,34,51,55]⟩ (fun | 4=>[0,1,2,3,6,8,4,5,7,9,10,11,12] | _=>[]) (by kernel_rfl) ?_
      simp only [stripX,stripOps,pickOps]
      simp [K_40_f,K_40_e,K_47_f,K_47_e,K_cloneN64_f,K_cloneN64_e,K_40h_f,K_40h_e,K_47h_f,K_47h_e,K_cloneN64h_f,K_cloneN64h_e,K_40h_g,K_47h_g,K_cloneN64h_g,-V.flat,-V.one,one_int,one_bool,one_str,one_nilp,one_rp,one_nilsl,one_ro,one_cl,one_nilf,one_nili,one_ifc,one_ptr,one_sl,one_clo,flat_d,flat_ptr,flat_sl,flat_clo,flat_agg,rX,hz]
      rw [aft_call]
      have wf:IntKind.i64.wrap (fu - 1)=fu - 1:=wrap_id (by omega) (by omega)
      rw [wf]
      have nf:fu.toNat=(fu - 1).toNat + 1:=by omega
      have fc:(((fu - 1).toNat:Nat):Int)=fu - 1:=by omega
      rw [nf,runV] at hrun
      obtain ⟨Gy,hGy⟩:∃ Gy,Gy=Gx.set R (rM F ve (many F).toNat 0 0 me 8 (fu - 1)):=⟨_,rfl⟩
      have oY:Only [R,ve,me] G Gy:=by rw [hGy];exact oS _
      have rY:Gy[R]? = some (rM F ve vs.length 0 0 me ms.length (fu - 1)):=by rw [hGy,List.getElem?_set_self tX.lr,lX,l8]
      have vY:Gy[ve]? = some (.row 1 (rI vs)):=by rw [hGy,List.getElem?_set_ne t.rv];exact vX
      have mY:Gy[me]? = some (.row 1 (rI ms)):=by rw [hGy,List.getElem?_set_ne t.rm];exact mX
      have tY:Two Gy R ve me:=⟨(List.getElem?_eq_some_iff.1 vY).1,(List.getElem?_eq_some_iff.1 mY).1,(List.getElem?_eq_some_iff.1 rY).1,t.vm,t.rv,t.rm⟩
      have eGy:Gx.set R (.row 6 [[V.d (D.rp 5 (dView (viewD F))),V.sl ve 1 0 (many F).toNat,V.d (D.int IntKind.i64 0),V.d (D.int IntKind.i64 0),V.sl me 1 0 8,V.d (D.int IntKind.i64 (fu - 1))]])=Gy:=hGy.symm
      rw [eGy]
      have hil:(instsF F k vs ms).2.1.length=vs.length∧(instsF F k vs ms).2.2.length=ms.length:=instsV_len (blkN F k).insts_ (firstN F k + (blkN F k).params_.toNat) vs ms
      have oHH:∀ (v1 m1:List Int) (X:Heap),Only [R,ve,me] G (HH Gy ve me v1 m1++X):=fun v1 m1 X=>⟨by rw [List.length_append,HH_len];have:=oY.len;omega,fun j hj hn=>by
        simp only [List.mem_cons,List.not_mem_nil,not_or] at hn
        rw [List.getElem?_append_left (by rw [HH_len];have:=oY.len;omega),HH,List.getElem?_set_ne (fun e=>hn.2.2.1 e.symm),List.getElem?_set_ne (fun e=>hn.2.1 e.symm)]
        exact oY.at_ j hj (by simp only [List.mem_cons,List.not_mem_nil,not_or];exact hn)⟩
      have oHR:∀ (v1 m1:List Int) (P:Place) (X:Heap),Only [R,ve,me] G ((HH Gy ve me v1 m1).set R P++X):=fun v1 m1 P X=>⟨by have:=(oHH v1 m1 X).len;simpa using this,fun j hj hn=>by
        rw [← tY.setR,List.getElem?_set_ne (fun e=>hn (by simp [e]))]
        exact (oHH v1 m1 X).at_ j hj hn⟩
      have gRR:∀ (v1 m1:List Int) (P:Place) (X:Heap),((HH Gy ve me v1 m1).set R P++X)[R]? = some P:=fun v1 m1 P X=>by rw [← tY.setR,List.getElem?_set_self (by rw [List.length_append,HH_len];have:=tY.lr;omega)]
      have gRV:∀ (v1 m1:List Int) (P:Place) (X:Heap),((HH Gy ve me v1 m1).set R P++X)[ve]? = some (.row 1 (rI v1)):=fun v1 m1 P X=>by rw [← tY.setR,List.getElem?_set_ne t.rv];exact tY.getV v1 m1 X
      have gRM:∀ (v1 m1:List Int) (P:Place) (X:Heap),((HH Gy ve me v1 m1).set R P++X)[me]? = some (.row 1 (rI m1)):=fun v1 m1 P X=>by rw [← tY.setR,List.getElem?_set_ne t.rm];exact tY.getM v1 m1 X
      refine (stepI_own Gy R ve me F hF 0 0 (fu - 1) vs ms k tY rY vY mY l8 hg lX hk).mono ?_
      rintro r H' ⟨kk,h⟩
      rcases h with ⟨e1,rfl,rfl⟩ | ⟨e1,e2,rfl,rfl⟩ | ⟨e1,e2,rfl,rfl⟩
      · rw [if_pos e1] at hrun
        simp [K_40_f,K_40_e,K_47_f,K_47_e,K_cloneN64_f,K_cloneN64_e,K_40h_f,K_40h_e,K_47h_f,K_47h_e,K_cloneN64h_f,K_cloneN64h_e,K_40h_g,K_47h_g,K_cloneN64h_g,-V.flat,-V.one,one_int,one_bool,one_str,one_nilp,one_rp,one_nilsl,one_ro,one_cl,one_nilf,one_nili,one_ifc,one_ptr,one_sl,one_clo,flat_d,flat_ptr,flat_sl,flat_clo,flat_agg]
        exact ⟨0,_,_,2,0,fu - 1,_,⟨oHR _ _ _ _,(gRR _ _ _ _).trans (by rw [lX,l8]),gRV _ _ _ _,gRM _ _ _ _,hil.1.trans lX,hil.2.trans l8,by omega,by rw [← hrun,fc]⟩,by omega,rfl,rfl⟩
      · rw [if_neg (by rw [e1];decide),if_pos e2] at hrun
        simp [K_40_f,K_40_e,K_47_f,K_47_e,K_cloneN64_f,K_cloneN64_e,K_40h_f,K_40h_e,K_47h_f,K_47h_e,K_cloneN64h_f,K_cloneN64h_e,K_40h_g,K_47h_g,K_cloneN64h_g,-V.flat,-V.one,one_int,one_bool,one_str,one_nilp,one_rp,one_nilsl,one_ro,one_cl,one_nilf,one_nili,one_ifc,one_ptr,one_sl,one_clo,flat_d,flat_ptr,flat_sl,flat_clo,flat_agg]
        exact ⟨0,_,_,1,_,fu - 1,_,⟨oHR _ _ _ _,(gRR _ _ _ _).trans (by rw [lX,l8]),gRV _ _ _ _,gRM _ _ _ _,hil.1.trans lX,hil.2.trans l8,by omega,by rw [← hrun,fc]⟩,by omega,rfl,rfl⟩
      · rw [if_neg (by rw [e1];decide),if_neg e2] at hrun
        obtain ⟨hj1,hj2⟩:=good_jmp hg hk e2
        simp [K_40_f,K_40_e,K_47_f,K_47_e,K_cloneN64_f,K_cloneN64_e,K_40h_f,K_40h_e,K_47h_f,K_47h_e,K_cloneN64h_f,K_cloneN64h_e,K_40h_g,K_47h_g,K_cloneN64h_g,-V.flat,-V.one,one_int,one_bool,one_str,one_nilp,one_rp,one_nilsl,one_ro,one_cl,one_nilf,one_nili,one_ifc,one_ptr,one_sl,one_clo,flat_d,flat_ptr,flat_sl,flat_clo,flat_agg]
        have hjm:jmpN (blkN F k) (instsF F k vs ms).2.1∈(blkN F k).jumps_:=by
          unfold jmpN
          split
          · rename_i q
            have hl:1 < (blkN F k).jumps_.length:=by omega
            rw [List.getElem?_eq_getElem hl];exact List.getElem_mem hl
          · have hl:0 < (blkN F k).jumps_.length:=by omega
            rw [List.getElem?_eq_getElem hl];exact List.getElem_mem hl
        obtain ⟨q1,q2,q3,q4⟩:=hj2 _ hjm
        obtain ⟨b1,b2,b3,b4,b5,b6,b7⟩:=at_le hg q2
        exact ⟨_,_,_,0,0,fu - 1,_,⟨oHH _ _ _,((tY.getR _ _ _).trans rY).trans (by rw [lX,l8]),tY.getV _ _ _,tY.getM _ _ _,(putV_len (by omega)).trans (hil.1.trans lX),hil.2.trans l8,q2,rfl,rfl,by omega,hrun⟩,by omega,rfl,(Int.toNat_of_nonneg q1).symm⟩
end Go.Proofs.Ytnomiclfiijniaa
