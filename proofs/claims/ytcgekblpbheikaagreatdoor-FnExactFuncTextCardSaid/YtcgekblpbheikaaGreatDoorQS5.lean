/- Contracts of what the program's view of a function says of values, instructions, jumps and blocks. No condition. -/
import Derived.Test.YtcgekblpbheikaaGreatDoorQS4
import Derived.Test.YtcgekblpbheikaaGreatDoorQS3
namespace Go.Proofs.YtcgekblpbheikaaGreatDoor
set_option maxRecDepth 100000
set_option linter.unusedSimpArgs false
set_option linter.unusedVariables false
structure View where
  params_:Int
  blocks_:List Block
  first_:List Int
  block_:List Int
  total_:Int
  deriving Inhabited
def dView (x:View):Nat→D
  | 0=>.int .i64 x.params_
  | 1=>dBlockS x.blocks_
  | 2=>dIntS x.first_
  | 3=>dIntS x.block_
  | 4=>.int .i64 x.total_
  | _=>.undef
@[simp] theorem dView_0 (x:View):dView x 0=.int .i64 x.params_:=rfl
@[simp] theorem dView_1 (x:View):dView x 1=dBlockS x.blocks_:=rfl
@[simp] theorem dView_2 (x:View):dView x 2=dIntS x.first_:=rfl
@[simp] theorem dView_3 (x:View):dView x 3=dIntS x.block_:=rfl
@[simp] theorem dView_4 (x:View):dView x 4=.int .i64 x.total_:=rfl
@[reducible] instance encView:Enc View where
  size:=5
  agg:=true
  cells:=dView
  good x:=Enc.good x.params_∧Enc.good x.blocks_∧Enc.good x.first_∧Enc.good x.block_∧Enc.good x.total_
  un f:=⟨Enc.un fun _=>f 0,Enc.un fun _=>f 1,Enc.un fun _=>f 2,Enc.un fun _=>f 3,Enc.un fun _=>f 4⟩
  un_of a f h:=by
    rw [h 0 (by omega),h 1 (by omega),h 2 (by omega),h 3 (by omega),h 4 (by omega)]
    have e0:(Enc.un fun _=>dView a 0)=a.params_:=Enc.un_of (α:=Int) _ _ fun j hj=>rfl
    have e1:(Enc.un fun _=>dView a 1)=a.blocks_:=Enc.un_of (α:=List Block) _ _ fun j hj=>rfl
    have e2:(Enc.un fun _=>dView a 2)=a.first_:=Enc.un_of (α:=List Int) _ _ fun j hj=>rfl
    have e3:(Enc.un fun _=>dView a 3)=a.block_:=Enc.un_of (α:=List Int) _ _ fun j hj=>rfl
    have e4:(Enc.un fun _=>dView a 4)=a.total_:=Enc.un_of (α:=Int) _ _ fun j hj=>rfl
    rw [e0,e1,e2,e3,e4]
instance:Shaped View:=⟨fun h=>by cases h⟩
@[simp] theorem View.eta (x:View):View.mk x.params_ x.blocks_ x.first_ x.block_ x.total_=x:=rfl
abbrev dViewS (l:List View):D:=.ro 5 l.length fun i j=>dView (l[i]?.getD default) j
@[reducible] instance decView:Dec View where
  dec H l:=match l with | [c0,c1,c2,c3,c4]=>((Dec.dec (α:=Int) H [c0]).1∧(Dec.dec (α:=List Block) H [c1]).1∧(Dec.dec (α:=List Int) H [c2]).1∧(Dec.dec (α:=List Int) H [c3]).1∧(Dec.dec (α:=Int) H [c4]).1,⟨(Dec.dec (α:=Int) H [c0]).2,(Dec.dec (α:=List Block) H [c1]).2,(Dec.dec (α:=List Int) H [c2]).2,(Dec.dec (α:=List Int) H [c3]).2,(Dec.dec (α:=Int) H [c4]).2⟩) | _=>(False,default)
  ok H l h X w φ xs hs hv:=by
    split at h
    · obtain ⟨h0,h1,h2,h3,h4⟩:=h
      obtain ⟨v0,_,rfl,g0,hv⟩:=hv
      obtain ⟨v1,_,rfl,g1,hv⟩:=hv
      obtain ⟨v2,_,rfl,g2,hv⟩:=hv
      obtain ⟨v3,_,rfl,g3,hv⟩:=hv
      obtain ⟨v4,_,rfl,g4,hv⟩:=hv
      have e:_=[]:=hv
      subst e
      have q0:=Dec.ok (α:=Int) H _ h0 X w φ [v0] hs ⟨v0,[],rfl,g0,rfl⟩
      have q1:=Dec.ok (α:=List Block) H _ h1 X w φ [v1] hs ⟨v1,[],rfl,g1,rfl⟩
      have q2:=Dec.ok (α:=List Int) H _ h2 X w φ [v2] hs ⟨v2,[],rfl,g2,rfl⟩
      have q3:=Dec.ok (α:=List Int) H _ h3 X w φ [v3] hs ⟨v3,[],rfl,g3,rfl⟩
      have q4:=Dec.ok (α:=Int) H _ h4 X w φ [v4] hs ⟨v4,[],rfl,g4,rfl⟩
      refine ⟨rfl,fun j u hu=>?_⟩
      match j,hu with
      | 0,hu=>simp at hu;subst hu;exact q0.2 0 _ rfl
      | 1,hu=>simp at hu;subst hu;exact q1.2 0 _ rfl
      | 2,hu=>simp at hu;subst hu;exact q2.2 0 _ rfl
      | 3,hu=>simp at hu;subst hu;exact q3.2 0 _ rfl
      | 4,hu=>simp at hu;subst hu;exact q4.2 0 _ rfl
    · exact h.elim
@[simp] theorem dec_View {H:Heap} {c0 c1 c2 c3 c4:V}:Dec.dec (α:=View) H [c0,c1,c2,c3,c4]=((Dec.dec (α:=Int) H [c0]).1∧(Dec.dec (α:=List Block) H [c1]).1∧(Dec.dec (α:=List Int) H [c2]).1∧(Dec.dec (α:=List Int) H [c3]).1∧(Dec.dec (α:=Int) H [c4]).1,⟨(Dec.dec (α:=Int) H [c0]).2,(Dec.dec (α:=List Block) H [c1]).2,(Dec.dec (α:=List Int) H [c2]).2,(Dec.dec (α:=List Int) H [c3]).2,(Dec.dec (α:=Int) H [c4]).2⟩):=rfl
@[simp] theorem dec_dViewS {H:Heap} {l:List View}:Dec.dec (α:=List View) H [.d (dViewS l)]=(True,l):=dec_ro (α:=View) (l:=l)
@[simp] theorem dec_rpView {H:Heap} {x:View}:Dec.dec (α:=Ptr View) H [.d (.rp 5 (dView x))]=(True,⟨x⟩):=dec_rp (α:=View) (p:=⟨x⟩)
@[simp] theorem agg_View:Enc.agg View=true:=rfl
@[simp] theorem size_View:Enc.size View=5:=rfl
theorem valOK1_c (k:Int) (v:View):PureP Tryz.prog 283 [.d (.int .i64 k),.d (.rp 1 fun _=>.rp 5 (dView v))] (· = .d (.bool (!inR k 0 (IntKind.i64.wrap (v.total_ - 1))))):=by
  refine pure_of Tryz.func283 en_283 rfl rfl (W_run mixed ⟨[K_83],[K_83h],[],12,0,[0,1,3],[]⟩ (fun _=>[]) (by kernel_rfl) ?_)
  simp only [Tryz.f283,stripX,stripOps,pickOps]
  simp [K_83_f,K_83_e,K_83h_f,K_83h_e,K_83h_g]
noncomputable def K_vals:Ent Tryz.prog:=Ent.p2 (α:=List Int) (β:=Clo1 283 (Ptr (Ptr View))) 158 (fun l c=>Enc.good l) (fun l c=>.d (.bool (l.any fun k=>!inR k 0 (IntKind.i64.wrap (c.c.v.v.total_ - 1))))) (fun l c hc=>containsFuncInt_c _ l hc (fun i _=>valOK1_c _ c.c.v.v))
theorem K_vals_f:K_vals.f=158:=rfl
theorem K_vals_e (l:List Int) (c:View):K_vals.e [.d (dIntS l),.d (.clo 283 1 (fun _=>.rp 1 (fun _=>.rp 5 (dView c))))]=some (Enc.good l,.d (.bool (l.any fun k=>!inR k 0 (IntKind.i64.wrap (c.total_ - 1)))),[]):=by unfold K_vals;exact Ent.p2_eq (α:=List Int) (β:=Clo1 283 (Ptr (Ptr View))) l (Clo1.mk (Ptr.mk (Ptr.mk c)))
noncomputable def K_valsh:EntH Tryz.prog:=EntH.pk2 (α:=List Int) (β:=Clo1 283 (Ptr (Ptr View))) 158 (fun l c=>Enc.good l) (fun l c=>.d (.bool (l.any fun k=>!inR k 0 (IntKind.i64.wrap (c.c.v.v.total_ - 1))))) (fun l c=>[]) (fun l c hc=>PureP.ans (containsFuncInt_c _ l hc (fun i _=>valOK1_c _ c.c.v.v)))
theorem K_valsh_f:K_valsh.f=158:=rfl
theorem K_valsh_g:K_valsh.gro=true:=rfl
theorem K_valsh_e {x1 x2:V} {H:Heap}:K_valsh.e [x1,x2] H=guardR ((decA (α:=List Int) H x1).1∧(decA (α:=Clo1 283 (Ptr (Ptr View))) H x2).1) (peekR (Enc.good (decA (α:=List Int) H x1).2) (.d (.bool ((decA (α:=List Int) H x1).2.any fun k=>!inR k 0 (IntKind.i64.wrap ((decA (α:=Clo1 283 (Ptr (Ptr View))) H x2).2.c.v.v.total_ - 1))))) ([]) H):=rfl
theorem valuesOK_c (v:View) (l:List Int) (hl:Enc.good l):PureP Tryz.prog 227 [.d (.rp 5 (dView v)),.d (dIntS l)] (· = .d (.bool (allIn l 0 (IntKind.i64.wrap (v.total_ - 1))))):=by
  refine pure_of Tryz.func227 en_227 rfl rfl (W_run mixed ⟨[K_vals],[K_valsh],[],9,0,[0,1,2,4],[]⟩ (fun _=>[]) (by kernel_rfl) ?_)
  simp only [Tryz.f227,stripX,stripOps,pickOps]
  simp [K_vals_f,K_vals_e,K_valsh_f,K_valsh_e,K_valsh_g,hl]
  exact List.not_all_eq_any_not.symm
noncomputable def K_227:Ent Tryz.prog:=Ent.p2 (α:=Ptr View) (β:=List Int) 227 (fun v l=>Enc.good l) (fun v l=>.d (.bool (allIn l 0 (IntKind.i64.wrap (v.v.total_ - 1))))) (fun v l hc=>valuesOK_c v.v l hc)
theorem K_227_f:K_227.f=227:=rfl
theorem K_227_e (v:View) (l:List Int):K_227.e [.d (.rp 5 (dView v)),.d (dIntS l)]=some (Enc.good l,.d (.bool (allIn l 0 (IntKind.i64.wrap (v.total_ - 1)))),[]):=by unfold K_227;exact Ent.p2_eq (α:=Ptr View) (β:=List Int) (Ptr.mk v) l
noncomputable def K_227h:EntH Tryz.prog:=EntH.pk2 (α:=Ptr View) (β:=List Int) 227 (fun v l=>Enc.good l) (fun v l=>.d (.bool (allIn l 0 (IntKind.i64.wrap (v.v.total_ - 1))))) (fun v l=>[]) (fun v l hc=>PureP.ans (valuesOK_c v.v l hc))
theorem K_227h_f:K_227h.f=227:=rfl
theorem K_227h_g:K_227h.gro=true:=rfl
theorem K_227h_e {x1 x2:V} {H:Heap}:K_227h.e [x1,x2] H=guardR ((decA (α:=Ptr View) H x1).1∧(decA (α:=List Int) H x2).1) (peekR (Enc.good (decA (α:=List Int) H x2).2) (.d (.bool (allIn (decA (α:=List Int) H x2).2 0 (IntKind.i64.wrap ((decA (α:=Ptr View) H x1).2.v.total_ - 1))))) ([]) H):=rfl
def instOkI (many:Int) (x:Inst):Bool :=
  decide ((x.args_.length:Int)=arity x.op_) && ((decide (x.op_=1) || decide (x.n_=0)) && allIn x.args_ 0 (IntKind.i64.wrap (many - 1)))
theorem instOkI_eq (many:Int) (x:Inst):instOkI many x=instOk many x:=by
  rw [Bool.eq_iff_iff]
  simp [instOkI,instOk]
  constructor
  · rintro ⟨h1,h2,h3⟩;exact ⟨by omega,h1,h3,h2⟩
  · rintro ⟨_,h1,h3,h2⟩;exact ⟨h1,h2,h3⟩
theorem instOK_c (v:View) (x:Inst) (hx:Enc.good x):PureP Tryz.prog 223 [.d (.rp 5 (dView v)),vInst x] (· = .d (.bool (instOk v.total_ x))):=by
  have ha:=hx.2.2
  rw [← instOkI_eq]
  refine pure_of Tryz.func223 en_223 rfl rfl (W_run mixed ⟨[K_273,K_227],[K_273h,K_227h],[],28,0,[0,1,3,4],[12,16,22]⟩ (fun | 1=>[0,3,1,2,4,5,6,7,8,9,10,11,12,13,14,15,16,17,18,19,20,21,22,23] | _=>[]) (by kernel_rfl) ?_)
  simp only [Tryz.f223,stripX,stripOps,pickOps]
  simp [K_273_f,K_273_e,K_227_f,K_227_e,K_273h_f,K_273h_e,K_227h_f,K_227h_e,K_273h_g,K_227h_g,ha]
  repeat' first | apply And.intro | intro _
  all_goals simp [instOkI, *]
noncomputable def K_223:Ent Tryz.prog:=Ent.p2 (α:=Ptr View) (β:=Inst) 223 (fun v x=>Enc.good x) (fun v x=>.d (.bool (instOk v.v.total_ x))) (fun v x hc=>instOK_c v.v x hc)
theorem K_223_f:K_223.f=223:=rfl
theorem K_223_e (v:View) (x0:Int) (x1:Int) (x2:List Int):K_223.e [.d (.rp 5 (dView v)),.agg [.d (.int .i64 x0),.d (.int .i64 x1),.d (dIntS x2)]]=some (Enc.good (Inst.mk x0 x1 x2),.d (.bool (instOk v.total_ (Inst.mk x0 x1 x2))),[]):=by unfold K_223;exact Ent.p2_eq (α:=Ptr View) (β:=Inst) (Ptr.mk v) (Inst.mk x0 x1 x2)
noncomputable def K_223h:EntH Tryz.prog:=EntH.pk2 (α:=Ptr View) (β:=Inst) 223 (fun v x=>Enc.good x) (fun v x=>.d (.bool (instOk v.v.total_ x))) (fun v x=>[]) (fun v x hc=>PureP.ans (instOK_c v.v x hc))
theorem K_223h_f:K_223h.f=223:=rfl
theorem K_223h_g:K_223h.gro=true:=rfl
theorem K_223h_e {x1 x2:V} {H:Heap}:K_223h.e [x1,x2] H=guardR ((decA (α:=Ptr View) H x1).1∧(decA (α:=Inst) H x2).1) (peekR (Enc.good (decA (α:=Inst) H x2).2) (.d (.bool (instOk (decA (α:=Ptr View) H x1).2.v.total_ (decA (α:=Inst) H x2).2))) ([]) H):=rfl
theorem jumpOK_c (v:View) (x:Jump) (hx:Enc.good x) (hb:Enc.good v.blocks_):PureP Tryz.prog 226 [.d (.rp 5 (dView v)),vJump x] (· = .d (.bool (jumpOk v.blocks_ v.total_ x))):=by
  have ha:=hx.2
  have hlb:=good_len hb
  refine pure_of Tryz.func226 en_226 rfl rfl (W_run mixed ⟨[K_83,K_227],[K_83h,K_227h],[],37,0,[0,1,3,4],[15,31]⟩ (fun | 1=>[0,2,3,4,5,1,6,7,8,9,10,11,14,15,16,17,19,12,13,18,20,21,22,23,24,25,26,27,28,29,30,31,32] | _=>[]) (by kernel_rfl) ?_)
  simp only [Tryz.f226,stripX,stripOps,pickOps]
  simp [K_83_f,K_83_e,K_227_f,K_227_e,K_83h_f,K_83h_e,K_227h_f,K_227h_e,K_83h_g,K_227h_g,ha]
  refine ⟨fun h=>?_,fun h=>?_⟩
  · have:=inR_index hlb h
    refine ⟨by omega,fun h2=>?_,fun h2=>?_⟩ <;> simp [jumpOk,h,h2]
  · simp [jumpOk,h]
noncomputable def K_226:Ent Tryz.prog:=Ent.p2 (α:=Ptr View) (β:=Jump) 226 (fun v x=>Enc.good x∧Enc.good v.v.blocks_) (fun v x=>.d (.bool (jumpOk v.v.blocks_ v.v.total_ x))) (fun v x hc=>jumpOK_c v.v x hc.1 hc.2)
theorem K_226_f:K_226.f=226:=rfl
theorem K_226_e (v:View) (x0:Int) (x1:List Int):K_226.e [.d (.rp 5 (dView v)),.agg [.d (.int .i64 x0),.d (dIntS x1)]]=some (Enc.good (Jump.mk x0 x1)∧Enc.good v.blocks_,.d (.bool (jumpOk v.blocks_ v.total_ (Jump.mk x0 x1))),[]):=by unfold K_226;exact Ent.p2_eq (α:=Ptr View) (β:=Jump) (Ptr.mk v) (Jump.mk x0 x1)
noncomputable def K_226h:EntH Tryz.prog:=EntH.pk2 (α:=Ptr View) (β:=Jump) 226 (fun v x=>Enc.good x∧Enc.good v.v.blocks_) (fun v x=>.d (.bool (jumpOk v.v.blocks_ v.v.total_ x))) (fun v x=>[]) (fun v x hc=>PureP.ans (jumpOK_c v.v x hc.1 hc.2))
theorem K_226h_f:K_226h.f=226:=rfl
theorem K_226h_g:K_226h.gro=true:=rfl
theorem K_226h_e {x1 x2:V} {H:Heap}:K_226h.e [x1,x2] H=guardR ((decA (α:=Ptr View) H x1).1∧(decA (α:=Jump) H x2).1) (peekR (Enc.good (decA (α:=Jump) H x2).2∧Enc.good (decA (α:=Ptr View) H x1).2.v.blocks_) (.d (.bool (jumpOk (decA (α:=Ptr View) H x1).2.v.blocks_ (decA (α:=Ptr View) H x1).2.v.total_ (decA (α:=Jump) H x2).2))) ([]) H):=rfl
theorem blockOK1_c (x:Inst) (v:View) (hx:Enc.good x):PureP Tryz.prog 222 [vInst x,.d (.rp 1 fun _=>.rp 5 (dView v))] (· = .d (.bool (!instOk v.total_ x))):=by
  refine pure_of Tryz.func222 en_222 rfl rfl (W_run mixed ⟨[K_223],[K_223h],[],8,0,[0,1,2,3],[]⟩ (fun _=>[]) (by kernel_rfl) ?_)
  simp only [Tryz.f222,stripX,stripOps,pickOps]
  simp [K_223_f,K_223_e,K_223h_f,K_223h_e,K_223h_g,hx]
theorem blockOK2_c (x:Jump) (v:View) (hx:Enc.good x) (hb:Enc.good v.blocks_):PureP Tryz.prog 225 [vJump x,.d (.rp 1 fun _=>.rp 5 (dView v))] (· = .d (.bool (!jumpOk v.blocks_ v.total_ x))):=by
  refine pure_of Tryz.func225 en_225 rfl rfl (W_run mixed ⟨[K_226],[K_226h],[],8,0,[0,1,2,3],[]⟩ (fun _=>[]) (by kernel_rfl) ?_)
  simp only [Tryz.f225,stripX,stripOps,pickOps]
  simp [K_226_f,K_226_e,K_226h_f,K_226h_e,K_226h_g,hx,hb]
noncomputable def K_insts:Ent Tryz.prog:=Ent.p2 (α:=List Inst) (β:=Clo1 222 (Ptr (Ptr View))) 221 (fun l c=>Enc.good l) (fun l c=>.d (.bool (l.any fun x=>!instOk c.c.v.v.total_ x))) (fun l c hc=>containsFuncInst_c _ l hc (fun i _=>blockOK1_c _ c.c.v.v (good_get hc i)))
theorem K_insts_f:K_insts.f=221:=rfl
theorem K_insts_e (l:List Inst) (c:View):K_insts.e [.d (dInstS l),.d (.clo 222 1 (fun _=>.rp 1 (fun _=>.rp 5 (dView c))))]=some (Enc.good l,.d (.bool (l.any fun x=>!instOk c.total_ x)),[]):=by unfold K_insts;exact Ent.p2_eq (α:=List Inst) (β:=Clo1 222 (Ptr (Ptr View))) l (Clo1.mk (Ptr.mk (Ptr.mk c)))
noncomputable def K_instsh:EntH Tryz.prog:=EntH.pk2 (α:=List Inst) (β:=Clo1 222 (Ptr (Ptr View))) 221 (fun l c=>Enc.good l) (fun l c=>.d (.bool (l.any fun x=>!instOk c.c.v.v.total_ x))) (fun l c=>[]) (fun l c hc=>PureP.ans (containsFuncInst_c _ l hc (fun i _=>blockOK1_c _ c.c.v.v (good_get hc i))))
theorem K_instsh_f:K_instsh.f=221:=rfl
theorem K_instsh_g:K_instsh.gro=true:=rfl
theorem K_instsh_e {x1 x2:V} {H:Heap}:K_instsh.e [x1,x2] H=guardR ((decA (α:=List Inst) H x1).1∧(decA (α:=Clo1 222 (Ptr (Ptr View))) H x2).1) (peekR (Enc.good (decA (α:=List Inst) H x1).2) (.d (.bool ((decA (α:=List Inst) H x1).2.any fun x=>!instOk (decA (α:=Clo1 222 (Ptr (Ptr View))) H x2).2.c.v.v.total_ x))) ([]) H):=rfl
noncomputable def K_jumps:Ent Tryz.prog:=Ent.p2 (α:=List Jump) (β:=Clo1 225 (Ptr (Ptr View))) 224 (fun l c=>Enc.good l∧Enc.good c.c.v.v.blocks_) (fun l c=>.d (.bool (l.any fun x=>!jumpOk c.c.v.v.blocks_ c.c.v.v.total_ x))) (fun l c hc=>containsFuncJump_c _ l hc.1 (fun i _=>blockOK2_c _ c.c.v.v (good_get hc.1 i) hc.2))
theorem K_jumps_f:K_jumps.f=224:=rfl
theorem K_jumps_e (l:List Jump) (c:View):K_jumps.e [.d (dJumpS l),.d (.clo 225 1 (fun _=>.rp 1 (fun _=>.rp 5 (dView c))))]=some (Enc.good l∧Enc.good c.blocks_,.d (.bool (l.any fun x=>!jumpOk c.blocks_ c.total_ x)),[]):=by unfold K_jumps;exact Ent.p2_eq (α:=List Jump) (β:=Clo1 225 (Ptr (Ptr View))) l (Clo1.mk (Ptr.mk (Ptr.mk c)))
noncomputable def K_jumpsh:EntH Tryz.prog:=EntH.pk2 (α:=List Jump) (β:=Clo1 225 (Ptr (Ptr View))) 224 (fun l c=>Enc.good l∧Enc.good c.c.v.v.blocks_) (fun l c=>.d (.bool (l.any fun x=>!jumpOk c.c.v.v.blocks_ c.c.v.v.total_ x))) (fun l c=>[]) (fun l c hc=>PureP.ans (containsFuncJump_c _ l hc.1 (fun i _=>blockOK2_c _ c.c.v.v (good_get hc.1 i) hc.2)))
theorem K_jumpsh_f:K_jumpsh.f=224:=rfl
theorem K_jumpsh_g:K_jumpsh.gro=true:=rfl
theorem K_jumpsh_e {x1 x2:V} {H:Heap}:K_jumpsh.e [x1,x2] H=guardR ((decA (α:=List Jump) H x1).1∧(decA (α:=Clo1 225 (Ptr (Ptr View))) H x2).1) (peekR (Enc.good (decA (α:=List Jump) H x1).2∧Enc.good (decA (α:=Clo1 225 (Ptr (Ptr View))) H x2).2.c.v.v.blocks_) (.d (.bool ((decA (α:=List Jump) H x1).2.any fun x=>!jumpOk (decA (α:=Clo1 225 (Ptr (Ptr View))) H x2).2.c.v.v.blocks_ (decA (α:=Clo1 225 (Ptr (Ptr View))) H x2).2.c.v.v.total_ x))) ([]) H):=rfl
@[simp] theorem jumpsOk_nil (bs:List Block) (m:Int):jumpsOk bs m []=true:=rfl
theorem blockOK_c (v:View) (b:Block) (hb:Enc.good b) (hv:Enc.good v.blocks_):PureP Tryz.prog 153 [.d (.rp 5 (dView v)),vBlock b] (· = .d (.bool (bodyOk v.blocks_ v.total_ b))):=by
  have h1:Enc.good b.insts_:=hb.2.1
  have h2:Enc.good b.jumps_:=hb.2.2.2.2
  have h3:Enc.good [b.value_]:=⟨by simp,fun a ha=>by simp at ha;subst ha;exact hb.2.2.2.1⟩
  refine pure_of Tryz.func153 en_153 rfl rfl (W_run mixed ⟨[K_insts,K_jumps,K_227],[K_instsh,K_jumpsh,K_227h],[],57,0,[0,1,2,3,4,14,16,17,30],[9,14,17,23,30,36,44,50]⟩ (fun _=>[]) (by kernel_rfl) ?_)
  simp only [Tryz.f153,stripX,stripOps,pickOps]
  simp [K_insts_f,K_insts_e,K_jumps_f,K_jumps_e,K_227_f,K_227_e,K_instsh_f,K_instsh_e,K_jumpsh_f,K_jumpsh_e,K_227h_f,K_227h_e,K_instsh_g,K_jumpsh_g,K_227h_g,h1,h2,h3,hv]
  refine ⟨fun x hx h=>?_,fun hi=>⟨fun x hx h=>?_,fun hj=>?_⟩⟩
  · have:b.insts_.all (instOk v.total_)=false:=List.all_eq_false.2 ⟨x,hx,by simp [h]⟩
    simp [bodyOk,this]
  · have:jumpsOk v.blocks_ v.total_ b.jumps_=false:=List.all_eq_false.2 ⟨x,hx,by simp [h]⟩
    simp [bodyOk,endsOk,this]
  have h4:b.insts_.all (instOk v.total_)=true:=List.all_eq_true.2 hi
  have h5:jumpsOk v.blocks_ v.total_ b.jumps_=true:=List.all_eq_true.2 hj
  have h6:allIn [b.value_] 0 (IntKind.i64.wrap (v.total_ - 1))=inR b.value_ 0 (IntKind.i64.wrap (v.total_ - 1)):=by simp [allIn]
  rw [h6]
  repeat' first | apply And.intro | intro _
  all_goals simp [bodyOk,endsOk, *]
noncomputable def K_153:Ent Tryz.prog:=Ent.p2 (α:=Ptr View) (β:=Block) 153 (fun v b=>Enc.good b∧Enc.good v.v.blocks_) (fun v b=>.d (.bool (bodyOk v.v.blocks_ v.v.total_ b))) (fun v b hc=>blockOK_c v.v b hc.1 hc.2)
theorem K_153_f:K_153.f=153:=rfl
theorem K_153_e (v:View) (b0:Int) (b1:List Inst) (b2:Int) (b3:Int) (b4:List Jump):K_153.e [.d (.rp 5 (dView v)),.agg [.d (.int .i64 b0),.d (dInstS b1),.d (.int .i64 b2),.d (.int .i64 b3),.d (dJumpS b4)]]=some (Enc.good (Block.mk b0 b1 b2 b3 b4)∧Enc.good v.blocks_,.d (.bool (bodyOk v.blocks_ v.total_ (Block.mk b0 b1 b2 b3 b4))),[]):=by unfold K_153;exact Ent.p2_eq (α:=Ptr View) (β:=Block) (Ptr.mk v) (Block.mk b0 b1 b2 b3 b4)
noncomputable def K_153h:EntH Tryz.prog:=EntH.pk2 (α:=Ptr View) (β:=Block) 153 (fun v b=>Enc.good b∧Enc.good v.v.blocks_) (fun v b=>.d (.bool (bodyOk v.v.blocks_ v.v.total_ b))) (fun v b=>[]) (fun v b hc=>PureP.ans (blockOK_c v.v b hc.1 hc.2))
theorem K_153h_f:K_153h.f=153:=rfl
theorem K_153h_g:K_153h.gro=true:=rfl
theorem K_153h_e {x1 x2:V} {H:Heap}:K_153h.e [x1,x2] H=guardR ((decA (α:=Ptr View) H x1).1∧(decA (α:=Block) H x2).1) (peekR (Enc.good (decA (α:=Block) H x2).2∧Enc.good (decA (α:=Ptr View) H x1).2.v.blocks_) (.d (.bool (bodyOk (decA (α:=Ptr View) H x1).2.v.blocks_ (decA (α:=Ptr View) H x1).2.v.total_ (decA (α:=Block) H x2).2))) ([]) H):=rfl
theorem viewOf1_c (b:Block) (v:View) (hb:Enc.good b) (hv:Enc.good v.blocks_):PureP Tryz.prog 152 [vBlock b,.d (.rp 1 fun _=>.rp 5 (dView v))] (· = .d (.bool (!bodyOk v.blocks_ v.total_ b))):=by
  refine pure_of Tryz.func152 en_152 rfl rfl (W_run mixed ⟨[K_153],[K_153h],[],8,0,[0,1,2,3],[]⟩ (fun _=>[]) (by kernel_rfl) ?_)
  simp only [Tryz.f152,stripX,stripOps,pickOps]
  simp [K_153_f,K_153_e,K_153h_f,K_153h_e,K_153h_g,hb,hv]
noncomputable def K_blocks:Ent Tryz.prog:=Ent.p2 (α:=List Block) (β:=Clo1 152 (Ptr (Ptr View))) 151 (fun l c=>Enc.good l∧Enc.good c.c.v.v.blocks_) (fun l c=>.d (.bool (l.any fun x=>!bodyOk c.c.v.v.blocks_ c.c.v.v.total_ x))) (fun l c hc=>containsFuncBlock_c _ l hc.1 (fun i _=>viewOf1_c _ c.c.v.v (good_get hc.1 i) hc.2))
theorem K_blocks_f:K_blocks.f=151:=rfl
theorem K_blocks_e (l:List Block) (c:View):K_blocks.e [.d (dBlockS l),.d (.clo 152 1 (fun _=>.rp 1 (fun _=>.rp 5 (dView c))))]=some (Enc.good l∧Enc.good c.blocks_,.d (.bool (l.any fun x=>!bodyOk c.blocks_ c.total_ x)),[]):=by unfold K_blocks;exact Ent.p2_eq (α:=List Block) (β:=Clo1 152 (Ptr (Ptr View))) l (Clo1.mk (Ptr.mk (Ptr.mk c)))
noncomputable def K_blocksh:EntH Tryz.prog:=EntH.pk2 (α:=List Block) (β:=Clo1 152 (Ptr (Ptr View))) 151 (fun l c=>Enc.good l∧Enc.good c.c.v.v.blocks_) (fun l c=>.d (.bool (l.any fun x=>!bodyOk c.c.v.v.blocks_ c.c.v.v.total_ x))) (fun l c=>[]) (fun l c hc=>PureP.ans (containsFuncBlock_c _ l hc.1 (fun i _=>viewOf1_c _ c.c.v.v (good_get hc.1 i) hc.2)))
theorem K_blocksh_f:K_blocksh.f=151:=rfl
theorem K_blocksh_g:K_blocksh.gro=true:=rfl
theorem K_blocksh_e {x1 x2:V} {H:Heap}:K_blocksh.e [x1,x2] H=guardR ((decA (α:=List Block) H x1).1∧(decA (α:=Clo1 152 (Ptr (Ptr View))) H x2).1) (peekR (Enc.good (decA (α:=List Block) H x1).2∧Enc.good (decA (α:=Clo1 152 (Ptr (Ptr View))) H x2).2.c.v.v.blocks_) (.d (.bool ((decA (α:=List Block) H x1).2.any fun x=>!bodyOk (decA (α:=Clo1 152 (Ptr (Ptr View))) H x2).2.c.v.v.blocks_ (decA (α:=Clo1 152 (Ptr (Ptr View))) H x2).2.c.v.v.total_ x))) ([]) H):=rfl
end Go.Proofs.YtcgekblpbheikaaGreatDoor
