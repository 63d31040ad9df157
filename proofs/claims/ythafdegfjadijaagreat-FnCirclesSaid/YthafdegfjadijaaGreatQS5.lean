/- Contracts of what the program's view of a function says of values, instructions, jumps and blocks. No condition. -/
import Derived.Test.YthafdegfjadijaaGreatQS4
import Derived.Test.YthafdegfjadijaaGreatQS2
section
namespace Go.Proofs.YthafdegfjadijaaGreat
set_option maxRecDepth 100000
set_option linter.unusedSimpArgs false
set_option linter.unusedVariables false
def headOk (b:Block):Bool:=inR b.params_ 0 4 && decide (b.insts_.length≤80)
def instOk (many:Int) (x:Inst):Bool :=
  decide (0≤arity x.op_) && (decide ((x.args_.length:Int)=arity x.op_) && (allIn x.args_ 0 (IntKind.i64.wrap (many - 1)) && (decide (x.op_=1) || decide (x.n_=0))))
def bodyOk (bs:List Block) (many:Int) (b:Block):Bool:=b.insts_.all (instOk many) && endsOk bs b many
def many (F:Func):Int:=cntB F.blocks_ F.params_
def goodF (F:Func):Bool :=
  inR F.params_ 0 4 && (inR F.blocks_.length 1 8 && (decide ((F.blocks_[0]?.getD default).params_=0) && (F.blocks_.all headOk && (decide (many F≤80) && F.blocks_.all (bodyOk F.blocks_ (many F))))))
theorem GoodFunc_c (F : Func) (hF : Enc.good F) : PureP Tryz.prog 37 [vFunc F] (· = .d (.bool (goodF F))) := by
  have hbs:Enc.good F.blocks_:=hF.2
  have hlb:=good_len hbs
  have hgb:=good_get hbs
  have hgi:∀ i:Nat,Enc.good (F.blocks_[i]?.getD default).insts_:=fun i=>(hgb i).2.1
  have hgi':∀ i j:Nat,Enc.good ((F.blocks_[i]?.getD default).insts_[j]?.getD default):=fun i j=>good_get (hgi i) j
  have hga:∀ i j:Nat,Enc.good ((F.blocks_[i]?.getD default).insts_[j]?.getD default).args_:=fun i j=>(hgi' i j).2.2
  refine pure_of Tryz.func37 en_37 rfl rfl (W_run mixed ⟨[K_64,K_65,K_66,K_67,K_68],[K_64h,K_65h,K_66h,K_67h,K_68h],[],103,0,[0,1,2,4,5,7,9,28,30,31,32,33,45,50,52,53,54,55,59,60,61,62,95,101],[14,21,28,33,40,45,50,55,62,69,78,86,90,95,101]⟩ (fun | 18=>[0,1,2,3,4,5,8,6,7,9,10,11,12,13,14,16,17,15,18,19,20,21,22,23,24,25,26,27,28,29,30] | _=>[]) (by kernel_rfl) ?_)
  simp only [Tryz.f37,stripX,stripOps,pickOps]
  simp [K_64_f,K_64_e,K_65_f,K_65_e,K_66_f,K_66_e,K_67_f,K_67_e,K_68_f,K_68_e,K_64h_f,K_64h_e,K_65h_f,K_65h_e,K_66h_f,K_66h_e,K_67h_f,K_67h_e,K_68h_f,K_68h_e,K_64h_g,K_65h_g,K_66h_g,K_67h_g,K_68h_g,hF]
  refine ⟨fun g1=>by simp [goodF,g1],fun g1=>⟨fun g2=>by simp [goodF,g2],fun g2=>?_⟩⟩
  have hl:=inR_t.1 g2
  refine ⟨by omega,fun g3=>by simp [goodF,g3],fun g3=>?_⟩
  refine W_loopA (fun i:Nat=>[(1,.ptr 0 2 0 0),(30,.d (dBlockS F.blocks_)),(31,.d (.int .i64 F.blocks_.length)),(32,.d (.int .i64 i))]) (fun _=>[.row 2 [[.d (.int .i64 F.params_),.d (dBlockS F.blocks_)]]]) (fun i=>i≤F.blocks_.length∧(F.blocks_.drop i).all headOk=F.blocks_.all headOk) (fun i=>F.blocks_.length - i) 0 ?_ ?_ ?_
  · simp
  · simp
  rintro i ⟨hi,hm⟩
  refine W_run mixed ⟨[K_64,K_65,K_66,K_67,K_68],[K_64h,K_65h,K_66h,K_67h,K_68h],[],103,0,[0,1,2,4,5,7,9,28,30,31,32,33,45,50,52,53,54,55,59,60,61,62,95,101],[14,21,28,33,40,45,50,55,62,69,78,86,90,95,101]⟩ (fun | 18=>[0,1,2,3,4,5,8,6,7,9,10,11,12,13,14,16,17,15,18,19,20,21,22,23,24,25,26,27,28,29,30] | _=>[]) (by kernel_rfl) ?_
  simp only [stripX,stripOps,pickOps]
  simp [K_64_f,K_64_e,K_65_f,K_65_e,K_66_f,K_66_e,K_67_f,K_67_e,K_68_f,K_68_e,K_64h_f,K_64h_e,K_65h_f,K_65h_e,K_66h_f,K_66h_e,K_67h_f,K_67h_e,K_68h_f,K_68h_e,K_64h_g,K_65h_g,K_66h_g,K_67h_g,K_68h_g,hF]
  refine ⟨fun h=>?_,fun h=>?_⟩
  · rw [drop_cons h,List.all_cons] at hm
    refine ⟨h,fun q1=>?_,fun q1=>⟨fun q2=>?_,fun q2=>⟨i + 1,⟨by omega, ?_⟩,by omega,by rw [wrap_id] <;> omega⟩⟩⟩
    · have:F.blocks_.all headOk=false:=by rw [← hm];simp [headOk,q1]
      simp [goodF,this]
    · have:F.blocks_.all headOk=false:=by rw [← hm];simp [headOk];intro _ h3;omega
      simp [goodF,this]
    · rw [← hm];simp [headOk,q1];intro h3;omega
  have hh:F.blocks_.all headOk=true:=by rw [← hm,List.drop_eq_nil_of_le h];rfl
  refine ⟨fun q=>?_,fun q=>?_⟩
  · have:¬ many F≤80:=by unfold many;omega
    simp [goodF,this]
  have hq:many F≤80:=q
  refine W_loopA (fun i:Nat=>[(1,.ptr 0 2 0 0),(5,.d (.int .i64 (many F))),(52,.d (dBlockS F.blocks_)),(53,.d (.int .i64 F.blocks_.length)),(54,.d (.int .i64 i))]) (fun _=>[.row 2 [[.d (.int .i64 F.params_),.d (dBlockS F.blocks_)]]]) (fun i=>i≤F.blocks_.length∧(F.blocks_.drop i).all (bodyOk F.blocks_ (many F))=F.blocks_.all (bodyOk F.blocks_ (many F))) (fun i=>F.blocks_.length - i) 0 ?_ ?_ ?_
  · simp [many]
  · simp
  clear hm hi h i
  rintro i ⟨hi,hm⟩
  refine W_run mixed ⟨[K_64,K_65,K_66,K_67,K_68],[K_64h,K_65h,K_66h,K_67h,K_68h],[],103,0,[0,1,2,4,5,7,9,28,30,31,32,33,45,50,52,53,54,55,59,60,61,62,95,101],[14,21,28,33,40,45,50,55,62,69,78,86,90,95,101]⟩ (fun | 18=>[0,1,2,3,4,5,8,6,7,9,10,11,12,13,14,16,17,15,18,19,20,21,22,23,24,25,26,27,28,29,30] | _=>[]) (by kernel_rfl) ?_
  simp only [stripX,stripOps,pickOps]
  simp [K_64_f,K_64_e,K_65_f,K_65_e,K_66_f,K_66_e,K_67_f,K_67_e,K_68_f,K_68_e,K_64h_f,K_64h_e,K_65h_f,K_65h_e,K_66h_f,K_66h_e,K_67h_f,K_67h_e,K_68h_f,K_68h_e,K_64h_g,K_65h_g,K_66h_g,K_67h_g,K_68h_g,hF]
  refine ⟨fun h=>⟨h, ?_⟩,fun h=>?_⟩
  · rw [drop_cons h,List.all_cons] at hm
    refine W_loopA (fun j:Nat=>[(1,.ptr 0 2 0 0),(5,.d (.int .i64 (many F))),(7,.ptr 1 5 0 0),(52,.d (dBlockS F.blocks_)),(53,.d (.int .i64 F.blocks_.length)),(54,.d (.int .i64 i)),(59,.d (dInstS (F.blocks_[i]?.getD default).insts_)),(60,.d (.int .i64 (F.blocks_[i]?.getD default).insts_.length)),(61,.d (.int .i64 j))])
      (fun _=>[.row 2 [[.d (.int .i64 F.params_),.d (dBlockS F.blocks_)]],.row 5 [[.d (.int .i64 (F.blocks_[i]?.getD default).params_),.d (dInstS (F.blocks_[i]?.getD default).insts_),.d (.int .i64 (F.blocks_[i]?.getD default).end_),.d (.int .i64 (F.blocks_[i]?.getD default).value_),.d (dJumpS (F.blocks_[i]?.getD default).jumps_)]]])
      (fun j=>j≤(F.blocks_[i]?.getD default).insts_.length∧((F.blocks_[i]?.getD default).insts_.drop j).all (instOk (many F))=(F.blocks_[i]?.getD default).insts_.all (instOk (many F))) (fun j=>(F.blocks_[i]?.getD default).insts_.length - j) 0 ?_ ?_ ?_
    · simp
    · simp
    · rintro j ⟨hj,hn⟩
      refine W_run mixed ⟨[K_64,K_65,K_66,K_67,K_68],[K_64h,K_65h,K_66h,K_67h,K_68h],[],103,0,[0,1,2,4,5,7,9,28,30,31,32,33,45,50,52,53,54,55,59,60,61,62,95,101],[14,21,28,33,40,45,50,55,62,69,78,86,90,95,101]⟩ (fun | 18=>[0,1,2,3,4,5,8,6,7,9,10,11,12,13,14,16,17,15,18,19,20,21,22,23,24,25,26,27,28,29,30] | _=>[]) (by kernel_rfl) ?_
      simp only [stripX,stripOps,pickOps]
      simp [K_64_f,K_64_e,K_65_f,K_65_e,K_66_f,K_66_e,K_67_f,K_67_e,K_68_f,K_68_e,K_64h_f,K_64h_e,K_65h_f,K_65h_e,K_66h_f,K_66h_e,K_67h_f,K_67h_e,K_68h_f,K_68h_e,K_64h_g,K_65h_g,K_66h_g,K_67h_g,K_68h_g,hF,hga,hgb]
      have hil:=good_len (hgi i)
      have bad:bodyOk F.blocks_ (many F) (F.blocks_[i]?.getD default)=false→goodF F=false:=fun e=>by
        have:F.blocks_.all (bodyOk F.blocks_ (many F))=false:=by rw [← hm,e];rfl
        simp [goodF,this]
      have badI:(F.blocks_[i]?.getD default).insts_.all (instOk (many F))=false→goodF F=false:=fun e=>bad (by simp only [bodyOk,e,Bool.false_and])
      refine ⟨fun h3=>?_,fun h3=>?_⟩
      · rw [drop_cons h3,List.all_cons] at hn
        refine ⟨h3,fun q1=>badI ?_,fun q1=>⟨fun q2=>badI ?_,fun q2=>⟨fun q3=>badI ?_,fun q3=>⟨fun q4=>⟨fun q5=>badI ?_,fun q5=>⟨j + 1,⟨by omega, ?_⟩,by omega,by rw [wrap_id] <;> omega⟩⟩,fun q4=>⟨j + 1,⟨by omega, ?_⟩,by omega,by rw [wrap_id] <;> omega⟩⟩⟩⟩⟩
        · have:¬ 0≤arity ((F.blocks_[i]?.getD default).insts_[j]?.getD default).op_:=by omega
          rw [← hn];simp [instOk,this]
        · rw [← hn];simp [instOk,q2]
        · rw [← hn];simp [instOk,q3]
        · rw [← hn];simp [instOk,q4,q5]
        · rw [← hn];simp [instOk,q1,q2,q3,q5]
        · rw [q4] at q1 q2;rw [← hn];simp [instOk,q1,q2,q3,q4]
      · have hI:(F.blocks_[i]?.getD default).insts_.all (instOk (many F))=true:=by rw [← hn,List.drop_eq_nil_of_le h3];rfl
        refine ⟨fun q1=>bad (by simp only [bodyOk,hI,q1,Bool.and_false]),fun q1=>⟨i + 1,⟨by omega, ?_⟩,by omega,by rw [wrap_id] <;> omega⟩⟩
        rw [← hm];simp only [bodyOk,hI,q1,Bool.true_and]
  · have:F.blocks_.all (bodyOk F.blocks_ (many F))=true:=by rw [← hm,List.drop_eq_nil_of_le h];rfl
    simp [goodF,g1,g2,g3,hh,hq,this]
noncomputable def K_37:Ent Tryz.prog:=Ent.p1 (α:=Func) 37 (fun F=>Enc.good F) (fun F=>.d (.bool (goodF F))) (fun F hc=>GoodFunc_c F hc)
theorem K_37_f:K_37.f=37:=rfl
theorem K_37_e (F0:Int) (F1:List Block):K_37.e [.agg [.d (.int .i64 F0),.d (dBlockS F1)]]=some (Enc.good (Func.mk F0 F1),.d (.bool (goodF (Func.mk F0 F1))),[]):=by unfold K_37;exact Ent.p1_eq (α:=Func) (Func.mk F0 F1)
noncomputable def K_37h:EntH Tryz.prog:=EntH.pk1 (α:=Func) 37 (fun F=>Enc.good F) (fun F=>.d (.bool (goodF F))) (fun F=>[]) (fun F hc=>PureP.ans (GoodFunc_c F hc))
theorem K_37h_f:K_37h.f=37:=rfl
theorem K_37h_g:K_37h.gro=true:=rfl
theorem K_37h_e {x1:V} {H:Heap}:K_37h.e [x1] H=guardR ((decA (α:=Func) H x1).1) (peekR (Enc.good (decA (α:=Func) H x1).2) (.d (.bool (goodF (decA (α:=Func) H x1).2))) ([]) H):=rfl
end Go.Proofs.YthafdegfjadijaaGreat
end

section
namespace Go.Proofs.YthafdegfjadijaaGreat
set_option maxRecDepth 100000
set_option linter.unusedSimpArgs false
set_option linter.unusedVariables false
structure View where
  params_:Int
  blocks_:List Block
  first_:List Int
  block_:List Int
  total_:Int
  deriving Inhabited
def dView (x:View):Nat→D
  | 0=>.int .i64 x.params_
  | 1=>dBlockS x.blocks_
  | 2=>dIntS x.first_
  | 3=>dIntS x.block_
  | 4=>.int .i64 x.total_
  | _=>.undef
@[simp] theorem dView_0 (x:View):dView x 0=.int .i64 x.params_:=rfl
@[simp] theorem dView_1 (x:View):dView x 1=dBlockS x.blocks_:=rfl
@[simp] theorem dView_2 (x:View):dView x 2=dIntS x.first_:=rfl
@[simp] theorem dView_3 (x:View):dView x 3=dIntS x.block_:=rfl
@[simp] theorem dView_4 (x:View):dView x 4=.int .i64 x.total_:=rfl
@[reducible] instance encView:Enc View where
  size:=5
  agg:=true
  cells:=dView
  good x:=Enc.good x.params_∧Enc.good x.blocks_∧Enc.good x.first_∧Enc.good x.block_∧Enc.good x.total_
  un f:=⟨Enc.un fun _=>f 0,Enc.un fun _=>f 1,Enc.un fun _=>f 2,Enc.un fun _=>f 3,Enc.un fun _=>f 4⟩
  un_of a f h:=by
    rw [h 0 (by omega),h 1 (by omega),h 2 (by omega),h 3 (by omega),h 4 (by omega)]
    have e0:(Enc.un fun _=>dView a 0)=a.params_:=Enc.un_of (α:=Int) _ _ fun j hj=>rfl
    have e1:(Enc.un fun _=>dView a 1)=a.blocks_:=Enc.un_of (α:=List Block) _ _ fun j hj=>rfl
    have e2:(Enc.un fun _=>dView a 2)=a.first_:=Enc.un_of (α:=List Int) _ _ fun j hj=>rfl
    have e3:(Enc.un fun _=>dView a 3)=a.block_:=Enc.un_of (α:=List Int) _ _ fun j hj=>rfl
    have e4:(Enc.un fun _=>dView a 4)=a.total_:=Enc.un_of (α:=Int) _ _ fun j hj=>rfl
    rw [e0,e1,e2,e3,e4]
instance:Shaped View:=⟨fun h=>by cases h⟩
@[simp] theorem View.eta (x:View):View.mk x.params_ x.blocks_ x.first_ x.block_ x.total_=x:=rfl
abbrev dViewS (l:List View):D:=.ro 5 l.length fun i j=>dView (l[i]?.getD default) j
@[reducible] instance decView:Dec View where
  dec H l:=match l with | [c0,c1,c2,c3,c4]=>((Dec.dec (α:=Int) H [c0]).1∧(Dec.dec (α:=List Block) H [c1]).1∧(Dec.dec (α:=List Int) H [c2]).1∧(Dec.dec (α:=List Int) H [c3]).1∧(Dec.dec (α:=Int) H [c4]).1,⟨(Dec.dec (α:=Int) H [c0]).2,(Dec.dec (α:=List Block) H [c1]).2,(Dec.dec (α:=List Int) H [c2]).2,(Dec.dec (α:=List Int) H [c3]).2,(Dec.dec (α:=Int) H [c4]).2⟩) | _=>(False,default)
  ok H l h X w φ xs hs hv:=by
    split at h
    · obtain ⟨h0,h1,h2,h3,h4⟩:=h
      obtain ⟨v0,_,rfl,g0,hv⟩:=hv
      obtain ⟨v1,_,rfl,g1,hv⟩:=hv
      obtain ⟨v2,_,rfl,g2,hv⟩:=hv
      obtain ⟨v3,_,rfl,g3,hv⟩:=hv
      obtain ⟨v4,_,rfl,g4,hv⟩:=hv
      have e:_=[]:=hv
      subst e
      have q0:=Dec.ok (α:=Int) H _ h0 X w φ [v0] hs ⟨v0,[],rfl,g0,rfl⟩
      have q1:=Dec.ok (α:=List Block) H _ h1 X w φ [v1] hs ⟨v1,[],rfl,g1,rfl⟩
      have q2:=Dec.ok (α:=List Int) H _ h2 X w φ [v2] hs ⟨v2,[],rfl,g2,rfl⟩
      have q3:=Dec.ok (α:=List Int) H _ h3 X w φ [v3] hs ⟨v3,[],rfl,g3,rfl⟩
      have q4:=Dec.ok (α:=Int) H _ h4 X w φ [v4] hs ⟨v4,[],rfl,g4,rfl⟩
      refine ⟨rfl,fun j u hu=>?_⟩
      match j,hu with
      | 0,hu=>simp at hu;subst hu;exact q0.2 0 _ rfl
      | 1,hu=>simp at hu;subst hu;exact q1.2 0 _ rfl
      | 2,hu=>simp at hu;subst hu;exact q2.2 0 _ rfl
      | 3,hu=>simp at hu;subst hu;exact q3.2 0 _ rfl
      | 4,hu=>simp at hu;subst hu;exact q4.2 0 _ rfl
    · exact h.elim
@[simp] theorem dec_View {H:Heap} {c0 c1 c2 c3 c4:V}:Dec.dec (α:=View) H [c0,c1,c2,c3,c4]=((Dec.dec (α:=Int) H [c0]).1∧(Dec.dec (α:=List Block) H [c1]).1∧(Dec.dec (α:=List Int) H [c2]).1∧(Dec.dec (α:=List Int) H [c3]).1∧(Dec.dec (α:=Int) H [c4]).1,⟨(Dec.dec (α:=Int) H [c0]).2,(Dec.dec (α:=List Block) H [c1]).2,(Dec.dec (α:=List Int) H [c2]).2,(Dec.dec (α:=List Int) H [c3]).2,(Dec.dec (α:=Int) H [c4]).2⟩):=rfl
@[simp] theorem dec_dViewS {H:Heap} {l:List View}:Dec.dec (α:=List View) H [.d (dViewS l)]=(True,l):=dec_ro (α:=View) (l:=l)
@[simp] theorem dec_rpView {H:Heap} {x:View}:Dec.dec (α:=Ptr View) H [.d (.rp 5 (dView x))]=(True,⟨x⟩):=dec_rp (α:=View) (p:=⟨x⟩)
@[simp] theorem agg_View:Enc.agg View=true:=rfl
@[simp] theorem size_View:Enc.size View=5:=rfl
theorem valOK1_c (k:Int) (v:View):PureP Tryz.prog 112 [.d (.int .i64 k),.d (.rp 1 fun _=>.rp 5 (dView v))] (· = .d (.bool (!inR k 0 (IntKind.i64.wrap (v.total_ - 1))))):=by
  refine pure_of Tryz.func112 en_112 rfl rfl (W_run mixed ⟨[K_72],[K_72h],[],12,0,[0,1,3],[]⟩ (fun _=>[]) (by kernel_rfl) ?_)
  simp only [Tryz.f112,stripX,stripOps,pickOps]
  simp [K_72_f,K_72_e,K_72h_f,K_72h_e,K_72h_g]
noncomputable def K_vals:Ent Tryz.prog:=Ent.p2 (α:=List Int) (β:=Clo1 112 (Ptr (Ptr View))) 76 (fun l c=>Enc.good l) (fun l c=>.d (.bool (l.any fun k=>!inR k 0 (IntKind.i64.wrap (c.c.v.v.total_ - 1))))) (fun l c hc=>containsFuncInt_c _ l hc (fun i _=>valOK1_c _ c.c.v.v))
theorem K_vals_f:K_vals.f=76:=rfl
theorem K_vals_e (l:List Int) (c:View):K_vals.e [.d (dIntS l),.d (.clo 112 1 (fun _=>.rp 1 (fun _=>.rp 5 (dView c))))]=some (Enc.good l,.d (.bool (l.any fun k=>!inR k 0 (IntKind.i64.wrap (c.total_ - 1)))),[]):=by unfold K_vals;exact Ent.p2_eq (α:=List Int) (β:=Clo1 112 (Ptr (Ptr View))) l (Clo1.mk (Ptr.mk (Ptr.mk c)))
noncomputable def K_valsh:EntH Tryz.prog:=EntH.pk2 (α:=List Int) (β:=Clo1 112 (Ptr (Ptr View))) 76 (fun l c=>Enc.good l) (fun l c=>.d (.bool (l.any fun k=>!inR k 0 (IntKind.i64.wrap (c.c.v.v.total_ - 1))))) (fun l c=>[]) (fun l c hc=>PureP.ans (containsFuncInt_c _ l hc (fun i _=>valOK1_c _ c.c.v.v)))
theorem K_valsh_f:K_valsh.f=76:=rfl
theorem K_valsh_g:K_valsh.gro=true:=rfl
theorem K_valsh_e {x1 x2:V} {H:Heap}:K_valsh.e [x1,x2] H=guardR ((decA (α:=List Int) H x1).1∧(decA (α:=Clo1 112 (Ptr (Ptr View))) H x2).1) (peekR (Enc.good (decA (α:=List Int) H x1).2) (.d (.bool ((decA (α:=List Int) H x1).2.any fun k=>!inR k 0 (IntKind.i64.wrap ((decA (α:=Clo1 112 (Ptr (Ptr View))) H x2).2.c.v.v.total_ - 1))))) ([]) H):=rfl
theorem valuesOK_c (v:View) (l:List Int) (hl:Enc.good l):PureP Tryz.prog 89 [.d (.rp 5 (dView v)),.d (dIntS l)] (· = .d (.bool (allIn l 0 (IntKind.i64.wrap (v.total_ - 1))))):=by
  refine pure_of Tryz.func89 en_89 rfl rfl (W_run mixed ⟨[K_vals],[K_valsh],[],9,0,[0,1,2,4],[]⟩ (fun _=>[]) (by kernel_rfl) ?_)
  simp only [Tryz.f89,stripX,stripOps,pickOps]
  simp [K_vals_f,K_vals_e,K_valsh_f,K_valsh_e,K_valsh_g,hl]
  exact List.not_all_eq_any_not.symm
noncomputable def K_89:Ent Tryz.prog:=Ent.p2 (α:=Ptr View) (β:=List Int) 89 (fun v l=>Enc.good l) (fun v l=>.d (.bool (allIn l 0 (IntKind.i64.wrap (v.v.total_ - 1))))) (fun v l hc=>valuesOK_c v.v l hc)
theorem K_89_f:K_89.f=89:=rfl
theorem K_89_e (v:View) (l:List Int):K_89.e [.d (.rp 5 (dView v)),.d (dIntS l)]=some (Enc.good l,.d (.bool (allIn l 0 (IntKind.i64.wrap (v.total_ - 1)))),[]):=by unfold K_89;exact Ent.p2_eq (α:=Ptr View) (β:=List Int) (Ptr.mk v) l
noncomputable def K_89h:EntH Tryz.prog:=EntH.pk2 (α:=Ptr View) (β:=List Int) 89 (fun v l=>Enc.good l) (fun v l=>.d (.bool (allIn l 0 (IntKind.i64.wrap (v.v.total_ - 1))))) (fun v l=>[]) (fun v l hc=>PureP.ans (valuesOK_c v.v l hc))
theorem K_89h_f:K_89h.f=89:=rfl
theorem K_89h_g:K_89h.gro=true:=rfl
theorem K_89h_e {x1 x2:V} {H:Heap}:K_89h.e [x1,x2] H=guardR ((decA (α:=Ptr View) H x1).1∧(decA (α:=List Int) H x2).1) (peekR (Enc.good (decA (α:=List Int) H x2).2) (.d (.bool (allIn (decA (α:=List Int) H x2).2 0 (IntKind.i64.wrap ((decA (α:=Ptr View) H x1).2.v.total_ - 1))))) ([]) H):=rfl
def instOkI (many:Int) (x:Inst):Bool :=
  decide ((x.args_.length:Int)=arity x.op_) && ((decide (x.op_=1) || decide (x.n_=0)) && allIn x.args_ 0 (IntKind.i64.wrap (many - 1)))
theorem instOkI_eq (many:Int) (x:Inst):instOkI many x=instOk many x:=by
  rw [Bool.eq_iff_iff]
  simp [instOkI,instOk]
  constructor
  · rintro ⟨h1,h2,h3⟩;exact ⟨by omega,h1,h3,h2⟩
  · rintro ⟨_,h1,h3,h2⟩;exact ⟨h1,h2,h3⟩
theorem instOK_c (v:View) (x:Inst) (hx:Enc.good x):PureP Tryz.prog 85 [.d (.rp 5 (dView v)),vInst x] (· = .d (.bool (instOk v.total_ x))):=by
  have ha:=hx.2.2
  rw [← instOkI_eq]
  refine pure_of Tryz.func85 en_85 rfl rfl (W_run mixed ⟨[K_110,K_89],[K_110h,K_89h],[],28,0,[0,1,3,4],[12,16,22]⟩ (fun | 1=>[0,3,1,2,4,5,6,7,8,9,10,11,12,13,14,15,16,17,18,19,20,21,22,23] | _=>[]) (by kernel_rfl) ?_)
  simp only [Tryz.f85,stripX,stripOps,pickOps]
  simp [K_110_f,K_110_e,K_89_f,K_89_e,K_110h_f,K_110h_e,K_89h_f,K_89h_e,K_110h_g,K_89h_g,ha]
  repeat' first | apply And.intro | intro _
  all_goals simp [instOkI, *]
noncomputable def K_85:Ent Tryz.prog:=Ent.p2 (α:=Ptr View) (β:=Inst) 85 (fun v x=>Enc.good x) (fun v x=>.d (.bool (instOk v.v.total_ x))) (fun v x hc=>instOK_c v.v x hc)
theorem K_85_f:K_85.f=85:=rfl
theorem K_85_e (v:View) (x0:Int) (x1:Int) (x2:List Int):K_85.e [.d (.rp 5 (dView v)),.agg [.d (.int .i64 x0),.d (.int .i64 x1),.d (dIntS x2)]]=some (Enc.good (Inst.mk x0 x1 x2),.d (.bool (instOk v.total_ (Inst.mk x0 x1 x2))),[]):=by unfold K_85;exact Ent.p2_eq (α:=Ptr View) (β:=Inst) (Ptr.mk v) (Inst.mk x0 x1 x2)
noncomputable def K_85h:EntH Tryz.prog:=EntH.pk2 (α:=Ptr View) (β:=Inst) 85 (fun v x=>Enc.good x) (fun v x=>.d (.bool (instOk v.v.total_ x))) (fun v x=>[]) (fun v x hc=>PureP.ans (instOK_c v.v x hc))
theorem K_85h_f:K_85h.f=85:=rfl
theorem K_85h_g:K_85h.gro=true:=rfl
theorem K_85h_e {x1 x2:V} {H:Heap}:K_85h.e [x1,x2] H=guardR ((decA (α:=Ptr View) H x1).1∧(decA (α:=Inst) H x2).1) (peekR (Enc.good (decA (α:=Inst) H x2).2) (.d (.bool (instOk (decA (α:=Ptr View) H x1).2.v.total_ (decA (α:=Inst) H x2).2))) ([]) H):=rfl
theorem jumpOK_c (v:View) (x:Jump) (hx:Enc.good x) (hb:Enc.good v.blocks_):PureP Tryz.prog 88 [.d (.rp 5 (dView v)),vJump x] (· = .d (.bool (jumpOk v.blocks_ v.total_ x))):=by
  have ha:=hx.2
  have hlb:=good_len hb
  refine pure_of Tryz.func88 en_88 rfl rfl (W_run mixed ⟨[K_72,K_89],[K_72h,K_89h],[],37,0,[0,1,3,4],[15,31]⟩ (fun | 1=>[0,2,3,4,5,1,6,7,8,9,10,11,14,15,16,17,19,12,13,18,20,21,22,23,24,25,26,27,28,29,30,31,32] | _=>[]) (by kernel_rfl) ?_)
  simp only [Tryz.f88,stripX,stripOps,pickOps]
  simp [K_72_f,K_72_e,K_89_f,K_89_e,K_72h_f,K_72h_e,K_89h_f,K_89h_e,K_72h_g,K_89h_g,ha]
  refine ⟨fun h=>?_,fun h=>?_⟩
  · have:=inR_index hlb h
    refine ⟨by omega,fun h2=>?_,fun h2=>?_⟩ <;> simp [jumpOk,h,h2]
  · simp [jumpOk,h]
noncomputable def K_88:Ent Tryz.prog:=Ent.p2 (α:=Ptr View) (β:=Jump) 88 (fun v x=>Enc.good x∧Enc.good v.v.blocks_) (fun v x=>.d (.bool (jumpOk v.v.blocks_ v.v.total_ x))) (fun v x hc=>jumpOK_c v.v x hc.1 hc.2)
theorem K_88_f:K_88.f=88:=rfl
theorem K_88_e (v:View) (x0:Int) (x1:List Int):K_88.e [.d (.rp 5 (dView v)),.agg [.d (.int .i64 x0),.d (dIntS x1)]]=some (Enc.good (Jump.mk x0 x1)∧Enc.good v.blocks_,.d (.bool (jumpOk v.blocks_ v.total_ (Jump.mk x0 x1))),[]):=by unfold K_88;exact Ent.p2_eq (α:=Ptr View) (β:=Jump) (Ptr.mk v) (Jump.mk x0 x1)
noncomputable def K_88h:EntH Tryz.prog:=EntH.pk2 (α:=Ptr View) (β:=Jump) 88 (fun v x=>Enc.good x∧Enc.good v.v.blocks_) (fun v x=>.d (.bool (jumpOk v.v.blocks_ v.v.total_ x))) (fun v x=>[]) (fun v x hc=>PureP.ans (jumpOK_c v.v x hc.1 hc.2))
theorem K_88h_f:K_88h.f=88:=rfl
theorem K_88h_g:K_88h.gro=true:=rfl
theorem K_88h_e {x1 x2:V} {H:Heap}:K_88h.e [x1,x2] H=guardR ((decA (α:=Ptr View) H x1).1∧(decA (α:=Jump) H x2).1) (peekR (Enc.good (decA (α:=Jump) H x2).2∧Enc.good (decA (α:=Ptr View) H x1).2.v.blocks_) (.d (.bool (jumpOk (decA (α:=Ptr View) H x1).2.v.blocks_ (decA (α:=Ptr View) H x1).2.v.total_ (decA (α:=Jump) H x2).2))) ([]) H):=rfl
theorem blockOK1_c (x:Inst) (v:View) (hx:Enc.good x):PureP Tryz.prog 84 [vInst x,.d (.rp 1 fun _=>.rp 5 (dView v))] (· = .d (.bool (!instOk v.total_ x))):=by
  refine pure_of Tryz.func84 en_84 rfl rfl (W_run mixed ⟨[K_85],[K_85h],[],8,0,[0,1,2,3],[]⟩ (fun _=>[]) (by kernel_rfl) ?_)
  simp only [Tryz.f84,stripX,stripOps,pickOps]
  simp [K_85_f,K_85_e,K_85h_f,K_85h_e,K_85h_g,hx]
theorem blockOK2_c (x:Jump) (v:View) (hx:Enc.good x) (hb:Enc.good v.blocks_):PureP Tryz.prog 87 [vJump x,.d (.rp 1 fun _=>.rp 5 (dView v))] (· = .d (.bool (!jumpOk v.blocks_ v.total_ x))):=by
  refine pure_of Tryz.func87 en_87 rfl rfl (W_run mixed ⟨[K_88],[K_88h],[],8,0,[0,1,2,3],[]⟩ (fun _=>[]) (by kernel_rfl) ?_)
  simp only [Tryz.f87,stripX,stripOps,pickOps]
  simp [K_88_f,K_88_e,K_88h_f,K_88h_e,K_88h_g,hx,hb]
noncomputable def K_insts:Ent Tryz.prog:=Ent.p2 (α:=List Inst) (β:=Clo1 84 (Ptr (Ptr View))) 83 (fun l c=>Enc.good l) (fun l c=>.d (.bool (l.any fun x=>!instOk c.c.v.v.total_ x))) (fun l c hc=>containsFuncInst_c _ l hc (fun i _=>blockOK1_c _ c.c.v.v (good_get hc i)))
theorem K_insts_f:K_insts.f=83:=rfl
theorem K_insts_e (l:List Inst) (c:View):K_insts.e [.d (dInstS l),.d (.clo 84 1 (fun _=>.rp 1 (fun _=>.rp 5 (dView c))))]=some (Enc.good l,.d (.bool (l.any fun x=>!instOk c.total_ x)),[]):=by unfold K_insts;exact Ent.p2_eq (α:=List Inst) (β:=Clo1 84 (Ptr (Ptr View))) l (Clo1.mk (Ptr.mk (Ptr.mk c)))
noncomputable def K_instsh:EntH Tryz.prog:=EntH.pk2 (α:=List Inst) (β:=Clo1 84 (Ptr (Ptr View))) 83 (fun l c=>Enc.good l) (fun l c=>.d (.bool (l.any fun x=>!instOk c.c.v.v.total_ x))) (fun l c=>[]) (fun l c hc=>PureP.ans (containsFuncInst_c _ l hc (fun i _=>blockOK1_c _ c.c.v.v (good_get hc i))))
theorem K_instsh_f:K_instsh.f=83:=rfl
theorem K_instsh_g:K_instsh.gro=true:=rfl
theorem K_instsh_e {x1 x2:V} {H:Heap}:K_instsh.e [x1,x2] H=guardR ((decA (α:=List Inst) H x1).1∧(decA (α:=Clo1 84 (Ptr (Ptr View))) H x2).1) (peekR (Enc.good (decA (α:=List Inst) H x1).2) (.d (.bool ((decA (α:=List Inst) H x1).2.any fun x=>!instOk (decA (α:=Clo1 84 (Ptr (Ptr View))) H x2).2.c.v.v.total_ x))) ([]) H):=rfl
noncomputable def K_jumps:Ent Tryz.prog:=Ent.p2 (α:=List Jump) (β:=Clo1 87 (Ptr (Ptr View))) 86 (fun l c=>Enc.good l∧Enc.good c.c.v.v.blocks_) (fun l c=>.d (.bool (l.any fun x=>!jumpOk c.c.v.v.blocks_ c.c.v.v.total_ x))) (fun l c hc=>containsFuncJump_c _ l hc.1 (fun i _=>blockOK2_c _ c.c.v.v (good_get hc.1 i) hc.2))
theorem K_jumps_f:K_jumps.f=86:=rfl
theorem K_jumps_e (l:List Jump) (c:View):K_jumps.e [.d (dJumpS l),.d (.clo 87 1 (fun _=>.rp 1 (fun _=>.rp 5 (dView c))))]=some (Enc.good l∧Enc.good c.blocks_,.d (.bool (l.any fun x=>!jumpOk c.blocks_ c.total_ x)),[]):=by unfold K_jumps;exact Ent.p2_eq (α:=List Jump) (β:=Clo1 87 (Ptr (Ptr View))) l (Clo1.mk (Ptr.mk (Ptr.mk c)))
noncomputable def K_jumpsh:EntH Tryz.prog:=EntH.pk2 (α:=List Jump) (β:=Clo1 87 (Ptr (Ptr View))) 86 (fun l c=>Enc.good l∧Enc.good c.c.v.v.blocks_) (fun l c=>.d (.bool (l.any fun x=>!jumpOk c.c.v.v.blocks_ c.c.v.v.total_ x))) (fun l c=>[]) (fun l c hc=>PureP.ans (containsFuncJump_c _ l hc.1 (fun i _=>blockOK2_c _ c.c.v.v (good_get hc.1 i) hc.2)))
theorem K_jumpsh_f:K_jumpsh.f=86:=rfl
theorem K_jumpsh_g:K_jumpsh.gro=true:=rfl
theorem K_jumpsh_e {x1 x2:V} {H:Heap}:K_jumpsh.e [x1,x2] H=guardR ((decA (α:=List Jump) H x1).1∧(decA (α:=Clo1 87 (Ptr (Ptr View))) H x2).1) (peekR (Enc.good (decA (α:=List Jump) H x1).2∧Enc.good (decA (α:=Clo1 87 (Ptr (Ptr View))) H x2).2.c.v.v.blocks_) (.d (.bool ((decA (α:=List Jump) H x1).2.any fun x=>!jumpOk (decA (α:=Clo1 87 (Ptr (Ptr View))) H x2).2.c.v.v.blocks_ (decA (α:=Clo1 87 (Ptr (Ptr View))) H x2).2.c.v.v.total_ x))) ([]) H):=rfl
@[simp] theorem jumpsOk_nil (bs:List Block) (m:Int):jumpsOk bs m []=true:=rfl
theorem blockOK_c (v:View) (b:Block) (hb:Enc.good b) (hv:Enc.good v.blocks_):PureP Tryz.prog 63 [.d (.rp 5 (dView v)),vBlock b] (· = .d (.bool (bodyOk v.blocks_ v.total_ b))):=by
  have h1:Enc.good b.insts_:=hb.2.1
  have h2:Enc.good b.jumps_:=hb.2.2.2.2
  have h3:Enc.good [b.value_]:=⟨by simp,fun a ha=>by simp at ha;subst ha;exact hb.2.2.2.1⟩
  refine pure_of Tryz.func63 en_63 rfl rfl (W_run mixed ⟨[K_insts,K_jumps,K_89],[K_instsh,K_jumpsh,K_89h],[],57,0,[0,1,2,3,4,14,16,17,30],[9,14,17,23,30,36,44,50]⟩ (fun _=>[]) (by kernel_rfl) ?_)
  simp only [Tryz.f63,stripX,stripOps,pickOps]
  simp [K_insts_f,K_insts_e,K_jumps_f,K_jumps_e,K_89_f,K_89_e,K_instsh_f,K_instsh_e,K_jumpsh_f,K_jumpsh_e,K_89h_f,K_89h_e,K_instsh_g,K_jumpsh_g,K_89h_g,h1,h2,h3,hv]
  refine ⟨fun x hx h=>?_,fun hi=>⟨fun x hx h=>?_,fun hj=>?_⟩⟩
  · have:b.insts_.all (instOk v.total_)=false:=List.all_eq_false.2 ⟨x,hx,by simp [h]⟩
    simp [bodyOk,this]
  · have:jumpsOk v.blocks_ v.total_ b.jumps_=false:=List.all_eq_false.2 ⟨x,hx,by simp [h]⟩
    simp [bodyOk,endsOk,this]
  have h4:b.insts_.all (instOk v.total_)=true:=List.all_eq_true.2 hi
  have h5:jumpsOk v.blocks_ v.total_ b.jumps_=true:=List.all_eq_true.2 hj
  have h6:allIn [b.value_] 0 (IntKind.i64.wrap (v.total_ - 1))=inR b.value_ 0 (IntKind.i64.wrap (v.total_ - 1)):=by simp [allIn]
  rw [h6]
  repeat' first | apply And.intro | intro _
  all_goals simp [bodyOk,endsOk, *]
noncomputable def K_63:Ent Tryz.prog:=Ent.p2 (α:=Ptr View) (β:=Block) 63 (fun v b=>Enc.good b∧Enc.good v.v.blocks_) (fun v b=>.d (.bool (bodyOk v.v.blocks_ v.v.total_ b))) (fun v b hc=>blockOK_c v.v b hc.1 hc.2)
theorem K_63_f:K_63.f=63:=rfl
theorem K_63_e (v:View) (b0:Int) (b1:List Inst) (b2:Int) (b3:Int) (b4:List Jump):K_63.e [.d (.rp 5 (dView v)),.agg [.d (.int .i64 b0),.d (dInstS b1),.d (.int .i64 b2),.d (.int .i64 b3),.d (dJumpS b4)]]=some (Enc.good (Block.mk b0 b1 b2 b3 b4)∧Enc.good v.blocks_,.d (.bool (bodyOk v.blocks_ v.total_ (Block.mk b0 b1 b2 b3 b4))),[]):=by unfold K_63;exact Ent.p2_eq (α:=Ptr View) (β:=Block) (Ptr.mk v) (Block.mk b0 b1 b2 b3 b4)
noncomputable def K_63h:EntH Tryz.prog:=EntH.pk2 (α:=Ptr View) (β:=Block) 63 (fun v b=>Enc.good b∧Enc.good v.v.blocks_) (fun v b=>.d (.bool (bodyOk v.v.blocks_ v.v.total_ b))) (fun v b=>[]) (fun v b hc=>PureP.ans (blockOK_c v.v b hc.1 hc.2))
theorem K_63h_f:K_63h.f=63:=rfl
theorem K_63h_g:K_63h.gro=true:=rfl
theorem K_63h_e {x1 x2:V} {H:Heap}:K_63h.e [x1,x2] H=guardR ((decA (α:=Ptr View) H x1).1∧(decA (α:=Block) H x2).1) (peekR (Enc.good (decA (α:=Block) H x2).2∧Enc.good (decA (α:=Ptr View) H x1).2.v.blocks_) (.d (.bool (bodyOk (decA (α:=Ptr View) H x1).2.v.blocks_ (decA (α:=Ptr View) H x1).2.v.total_ (decA (α:=Block) H x2).2))) ([]) H):=rfl
theorem viewOf1_c (b:Block) (v:View) (hb:Enc.good b) (hv:Enc.good v.blocks_):PureP Tryz.prog 62 [vBlock b,.d (.rp 1 fun _=>.rp 5 (dView v))] (· = .d (.bool (!bodyOk v.blocks_ v.total_ b))):=by
  refine pure_of Tryz.func62 en_62 rfl rfl (W_run mixed ⟨[K_63],[K_63h],[],8,0,[0,1,2,3],[]⟩ (fun _=>[]) (by kernel_rfl) ?_)
  simp only [Tryz.f62,stripX,stripOps,pickOps]
  simp [K_63_f,K_63_e,K_63h_f,K_63h_e,K_63h_g,hb,hv]
noncomputable def K_blocks:Ent Tryz.prog:=Ent.p2 (α:=List Block) (β:=Clo1 62 (Ptr (Ptr View))) 61 (fun l c=>Enc.good l∧Enc.good c.c.v.v.blocks_) (fun l c=>.d (.bool (l.any fun x=>!bodyOk c.c.v.v.blocks_ c.c.v.v.total_ x))) (fun l c hc=>containsFuncBlock_c _ l hc.1 (fun i _=>viewOf1_c _ c.c.v.v (good_get hc.1 i) hc.2))
theorem K_blocks_f:K_blocks.f=61:=rfl
theorem K_blocks_e (l:List Block) (c:View):K_blocks.e [.d (dBlockS l),.d (.clo 62 1 (fun _=>.rp 1 (fun _=>.rp 5 (dView c))))]=some (Enc.good l∧Enc.good c.blocks_,.d (.bool (l.any fun x=>!bodyOk c.blocks_ c.total_ x)),[]):=by unfold K_blocks;exact Ent.p2_eq (α:=List Block) (β:=Clo1 62 (Ptr (Ptr View))) l (Clo1.mk (Ptr.mk (Ptr.mk c)))
noncomputable def K_blocksh:EntH Tryz.prog:=EntH.pk2 (α:=List Block) (β:=Clo1 62 (Ptr (Ptr View))) 61 (fun l c=>Enc.good l∧Enc.good c.c.v.v.blocks_) (fun l c=>.d (.bool (l.any fun x=>!bodyOk c.c.v.v.blocks_ c.c.v.v.total_ x))) (fun l c=>[]) (fun l c hc=>PureP.ans (containsFuncBlock_c _ l hc.1 (fun i _=>viewOf1_c _ c.c.v.v (good_get hc.1 i) hc.2)))
theorem K_blocksh_f:K_blocksh.f=61:=rfl
theorem K_blocksh_g:K_blocksh.gro=true:=rfl
theorem K_blocksh_e {x1 x2:V} {H:Heap}:K_blocksh.e [x1,x2] H=guardR ((decA (α:=List Block) H x1).1∧(decA (α:=Clo1 62 (Ptr (Ptr View))) H x2).1) (peekR (Enc.good (decA (α:=List Block) H x1).2∧Enc.good (decA (α:=Clo1 62 (Ptr (Ptr View))) H x2).2.c.v.v.blocks_) (.d (.bool ((decA (α:=List Block) H x1).2.any fun x=>!bodyOk (decA (α:=Clo1 62 (Ptr (Ptr View))) H x2).2.c.v.v.blocks_ (decA (α:=Clo1 62 (Ptr (Ptr View))) H x2).2.c.v.v.total_ x))) ([]) H):=rfl
end Go.Proofs.YthafdegfjadijaaGreat
end
