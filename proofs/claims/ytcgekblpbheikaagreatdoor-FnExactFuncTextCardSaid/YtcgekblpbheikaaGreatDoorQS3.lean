/- Contract of the specification's GoodFunc. No condition. -/
import Derived.Test.YtcgekblpbheikaaGreatDoorQS2
namespace Go.Proofs.YtcgekblpbheikaaGreatDoor
set_option maxRecDepth 100000
set_option linter.unusedSimpArgs false
set_option linter.unusedVariables false
def headOk (b:Block):Bool:=inR b.params_ 0 4 && decide (b.insts_.length≤80)
def instOk (many:Int) (x:Inst):Bool :=
  decide (0≤arity x.op_) && (decide ((x.args_.length:Int)=arity x.op_) && (allIn x.args_ 0 (IntKind.i64.wrap (many - 1)) && (decide (x.op_=1) || decide (x.n_=0))))
def bodyOk (bs:List Block) (many:Int) (b:Block):Bool:=b.insts_.all (instOk many) && endsOk bs b many
def many (F:Func):Int:=cntB F.blocks_ F.params_
def goodF (F:Func):Bool :=
  inR F.params_ 0 4 && (inR F.blocks_.length 1 8 && (decide ((F.blocks_[0]?.getD default).params_=0) && (F.blocks_.all headOk && (decide (many F≤80) && F.blocks_.all (bodyOk F.blocks_ (many F))))))
theorem GoodFunc_c (F : Func) (hF : Enc.good F) : PureP Tryz.prog 40 [vFunc F] (· = .d (.bool (goodF F))) := by
  have hbs:Enc.good F.blocks_:=hF.2
  have hlb:=good_len hbs
  have hgb:=good_get hbs
  have hgi:∀ i:Nat,Enc.good (F.blocks_[i]?.getD default).insts_:=fun i=>(hgb i).2.1
  have hgi':∀ i j:Nat,Enc.good ((F.blocks_[i]?.getD default).insts_[j]?.getD default):=fun i j=>good_get (hgi i) j
  have hga:∀ i j:Nat,Enc.good ((F.blocks_[i]?.getD default).insts_[j]?.getD default).args_:=fun i j=>(hgi' i j).2.2
  refine pure_of Tryz.func40 en_40 rfl rfl (W_run mixed ⟨[K_90,K_93,K_94,K_95,K_96],[K_90h,K_93h,K_94h,K_95h,K_96h],[],103,0,[0,1,2,4,5,7,9,28,30,31,32,33,45,50,52,53,54,55,59,60,61,62,95,101],[14,21,28,33,40,45,50,55,62,69,78,86,90,95,101]⟩ (fun | 18=>[0,1,2,3,4,5,8,6,7,9,10,11,12,13,14,16,17,15,18,19,20,21,22,23,24,25,26,27,28,29,30] | _=>[]) (by kernel_rfl) ?_)
  simp only [Tryz.f40,stripX,stripOps,pickOps]
  simp [K_90_f,K_90_e,K_93_f,K_93_e,K_94_f,K_94_e,K_95_f,K_95_e,K_96_f,K_96_e,K_90h_f,K_90h_e,K_93h_f,K_93h_e,K_94h_f,K_94h_e,K_95h_f,K_95h_e,K_96h_f,K_96h_e,K_90h_g,K_93h_g,K_94h_g,K_95h_g,K_96h_g,hF]
  refine ⟨fun g1=>by simp [goodF,g1],fun g1=>⟨fun g2=>by simp [goodF,g2],fun g2=>?_⟩⟩
  have hl:=inR_t.1 g2
  refine ⟨by omega,fun g3=>by simp [goodF,g3],fun g3=>?_⟩
  refine W_loopA (fun i:Nat=>[(1,.ptr 0 2 0 0),(30,.d (dBlockS F.blocks_)),(31,.d (.int .i64 F.blocks_.length)),(32,.d (.int .i64 i))]) (fun _=>[.row 2 [[.d (.int .i64 F.params_),.d (dBlockS F.blocks_)]]]) (fun i=>i≤F.blocks_.length∧(F.blocks_.drop i).all headOk=F.blocks_.all headOk) (fun i=>F.blocks_.length - i) 0 ?_ ?_ ?_
  · simp
  · simp
  rintro i ⟨hi,hm⟩
  refine W_run mixed ⟨[K_90,K_93,K_94,K_95,K_96],[K_90h,K_93h,K_94h,K_95h,K_96h],[],103,0,[0,1,2,4,5,7,9,28,30,31,32,33,45,50,52,53,54,55,59,60,61,62,95,101],[14,21,28,33,40,45,50,55,62,69,78,86,90,95,101]⟩ (fun | 18=>[0,1,2,3,4,5,8,6,7,9,10,11,12,13,14,16,17,15,18,19,20,21,22,23,24,25,26,27,28,29,30] | _=>[]) (by kernel_rfl) ?_
  simp only [stripX,stripOps,pickOps]
  simp [K_90_f,K_90_e,K_93_f,K_93_e,K_94_f,K_94_e,K_95_f,K_95_e,K_96_f,K_96_e,K_90h_f,K_90h_e,K_93h_f,K_93h_e,K_94h_f,K_94h_e,K_95h_f,K_95h_e,K_96h_f,K_96h_e,K_90h_g,K_93h_g,K_94h_g,K_95h_g,K_96h_g,hF]
  refine ⟨fun h=>?_,fun h=>?_⟩
  · rw [drop_cons h,List.all_cons] at hm
    refine ⟨h,fun q1=>?_,fun q1=>⟨fun q2=>?_,fun q2=>⟨i + 1,⟨by omega, ?_⟩,by omega,by rw [wrap_id] <;> omega⟩⟩⟩
    · have:F.blocks_.all headOk=false:=by rw [← hm];simp [headOk,q1]
      simp [goodF,this]
    · have:F.blocks_.all headOk=false:=by rw [← hm];simp [headOk];intro _ h3;omega
      simp [goodF,this]
    · rw [← hm];simp [headOk,q1];intro h3;omega
  have hh:F.blocks_.all headOk=true:=by rw [← hm,List.drop_eq_nil_of_le h];rfl
  refine ⟨fun q=>?_,fun q=>?_⟩
  · have:¬ many F≤80:=by unfold many;omega
    simp [goodF,this]
  have hq:many F≤80:=q
  refine W_loopA (fun i:Nat=>[(1,.ptr 0 2 0 0),(5,.d (.int .i64 (many F))),(52,.d (dBlockS F.blocks_)),(53,.d (.int .i64 F.blocks_.length)),(54,.d (.int .i64 i))]) (fun _=>[.row 2 [[.d (.int .i64 F.params_),.d (dBlockS F.blocks_)]]]) (fun i=>i≤F.blocks_.length∧(F.blocks_.drop i).all (bodyOk F.blocks_ (many F))=F.blocks_.all (bodyOk F.blocks_ (many F))) (fun i=>F.blocks_.length - i) 0 ?_ ?_ ?_
  · simp [many]
  · simp
  clear hm hi h i
  rintro i ⟨hi,hm⟩
  refine W_run mixed ⟨[K_90,K_93,K_94,K_95,K_96],[K_90h,K_93h,K_94h,K_95h,K_96h],[],103,0,[0,1,2,4,5,7,9,28,30,31,32,33,45,50,52,53,54,55,59,60,61,62,95,101],[14,21,28,33,40,45,50,55,62,69,78,86,90,95,101]⟩ (fun | 18=>[0,1,2,3,4,5,8,6,7,9,10,11,12,13,14,16,17,15,18,19,20,21,22,23,24,25,26,27,28,29,30] | _=>[]) (by kernel_rfl) ?_
  simp only [stripX,stripOps,pickOps]
  simp [K_90_f,K_90_e,K_93_f,K_93_e,K_94_f,K_94_e,K_95_f,K_95_e,K_96_f,K_96_e,K_90h_f,K_90h_e,K_93h_f,K_93h_e,K_94h_f,K_94h_e,K_95h_f,K_95h_e,K_96h_f,K_96h_e,K_90h_g,K_93h_g,K_94h_g,K_95h_g,K_96h_g,hF]
  refine ⟨fun h=>⟨h, ?_⟩,fun h=>?_⟩
  · rw [drop_cons h,List.all_cons] at hm
    refine W_loopA (fun j:Nat=>[(1,.ptr 0 2 0 0),(5,.d (.int .i64 (many F))),(7,.ptr 1 5 0 0),(52,.d (dBlockS F.blocks_)),(53,.d (.int .i64 F.blocks_.length)),(54,.d (.int .i64 i)),(59,.d (dInstS (F.blocks_[i]?.getD default).insts_)),(60,.d (.int .i64 (F.blocks_[i]?.getD default).insts_.length)),(61,.d (.int .i64 j))])
      (fun _=>[.row 2 [[.d (.int .i64 F.params_),.d (dBlockS F.blocks_)]],.row 5 [[.d (.int .i64 (F.blocks_[i]?.getD default).params_),.d (dInstS (F.blocks_[i]?.getD default).insts_),.d (.int .i64 (F.blocks_[i]?.getD default).end_),.d (.int .i64 (F.blocks_[i]?.getD default).value_),.d (dJumpS (F.blocks_[i]?.getD default).jumps_)]]])
      (fun j=>j≤(F.blocks_[i]?.getD default).insts_.length∧((F.blocks_[i]?.getD default).insts_.drop j).all (instOk (many F))=(F.blocks_[i]?.getD default).insts_.all (instOk (many F))) (fun j=>(F.blocks_[i]?.getD default).insts_.length - j) 0 ?_ ?_ ?_
    · simp
    · simp
    · rintro j ⟨hj,hn⟩
      refine W_run mixed ⟨[K_90,K_93,K_94,K_95,K_96],[K_90h,K_93h,K_94h,K_95h,K_96h],[],103,0,[0,1,2,4,5,7,9,28,30,31,32,33,45,50,52,53,54,55,59,60,61,62,95,101],[14,21,28,33,40,45,50,55,62,69,78,86,90,95,101]⟩ (fun | 18=>[0,1,2,3,4,5,8,6,7,9,10,11,12,13,14,16,17,15,18,19,20,21,22,23,24,25,26,27,28,29,30] | _=>[]) (by kernel_rfl) ?_
      simp only [stripX,stripOps,pickOps]
      simp [K_90_f,K_90_e,K_93_f,K_93_e,K_94_f,K_94_e,K_95_f,K_95_e,K_96_f,K_96_e,K_90h_f,K_90h_e,K_93h_f,K_93h_e,K_94h_f,K_94h_e,K_95h_f,K_95h_e,K_96h_f,K_96h_e,K_90h_g,K_93h_g,K_94h_g,K_95h_g,K_96h_g,hF,hga,hgb]
      have hil:=good_len (hgi i)
      have bad:bodyOk F.blocks_ (many F) (F.blocks_[i]?.getD default)=false→goodF F=false:=fun e=>by
        have:F.blocks_.all (bodyOk F.blocks_ (many F))=false:=by rw [← hm,e];rfl
        simp [goodF,this]
      have badI:(F.blocks_[i]?.getD default).insts_.all (instOk (many F))=false→goodF F=false:=fun e=>bad (by simp only [bodyOk,e,Bool.false_and])
      refine ⟨fun h3=>?_,fun h3=>?_⟩
      · rw [drop_cons h3,List.all_cons] at hn
        refine ⟨h3,fun q1=>badI ?_,fun q1=>⟨fun q2=>badI ?_,fun q2=>⟨fun q3=>badI ?_,fun q3=>⟨fun q4=>⟨fun q5=>badI ?_,fun q5=>⟨j + 1,⟨by omega, ?_⟩,by omega,by rw [wrap_id] <;> omega⟩⟩,fun q4=>⟨j + 1,⟨by omega, ?_⟩,by omega,by rw [wrap_id] <;> omega⟩⟩⟩⟩⟩
        · have:¬ 0≤arity ((F.blocks_[i]?.getD default).insts_[j]?.getD default).op_:=by omega
          rw [← hn];simp [instOk,this]
        · rw [← hn];simp [instOk,q2]
        · rw [← hn];simp [instOk,q3]
        · rw [← hn];simp [instOk,q4,q5]
        · rw [← hn];simp [instOk,q1,q2,q3,q5]
        · rw [q4] at q1 q2;rw [← hn];simp [instOk,q1,q2,q3,q4]
      · have hI:(F.blocks_[i]?.getD default).insts_.all (instOk (many F))=true:=by rw [← hn,List.drop_eq_nil_of_le h3];rfl
        refine ⟨fun q1=>bad (by simp only [bodyOk,hI,q1,Bool.and_false]),fun q1=>⟨i + 1,⟨by omega, ?_⟩,by omega,by rw [wrap_id] <;> omega⟩⟩
        rw [← hm];simp only [bodyOk,hI,q1,Bool.true_and]
  · have:F.blocks_.all (bodyOk F.blocks_ (many F))=true:=by rw [← hm,List.drop_eq_nil_of_le h];rfl
    simp [goodF,g1,g2,g3,hh,hq,this]
noncomputable def K_40:Ent Tryz.prog:=Ent.p1 (α:=Func) 40 (fun F=>Enc.good F) (fun F=>.d (.bool (goodF F))) (fun F hc=>GoodFunc_c F hc)
theorem K_40_f:K_40.f=40:=rfl
theorem K_40_e (F0:Int) (F1:List Block):K_40.e [.agg [.d (.int .i64 F0),.d (dBlockS F1)]]=some (Enc.good (Func.mk F0 F1),.d (.bool (goodF (Func.mk F0 F1))),[]):=by unfold K_40;exact Ent.p1_eq (α:=Func) (Func.mk F0 F1)
noncomputable def K_40h:EntH Tryz.prog:=EntH.pk1 (α:=Func) 40 (fun F=>Enc.good F) (fun F=>.d (.bool (goodF F))) (fun F=>[]) (fun F hc=>PureP.ans (GoodFunc_c F hc))
theorem K_40h_f:K_40h.f=40:=rfl
theorem K_40h_g:K_40h.gro=true:=rfl
theorem K_40h_e {x1:V} {H:Heap}:K_40h.e [x1] H=guardR ((decA (α:=Func) H x1).1) (peekR (Enc.good (decA (α:=Func) H x1).2) (.d (.bool (goodF (decA (α:=Func) H x1).2))) ([]) H):=rfl
end Go.Proofs.YtcgekblpbheikaaGreatDoor
