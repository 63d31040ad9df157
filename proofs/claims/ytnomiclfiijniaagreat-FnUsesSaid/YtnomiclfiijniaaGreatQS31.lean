/- Functions whose slices own their memory. No condition. -/
import Derived.Test.YtnomiclfiijniaaGreatQE5
import Derived.Test.YtnomiclfiijniaaGreatQS21
section
namespace Go.Proofs.YtnomiclfiijniaaGreat
set_option maxRecDepth 100000
set_option linter.unusedSimpArgs false
set_option linter.unusedVariables false
noncomputable def soundF (F:Func):Bool:=goodF F && decide ((checkS F).1=0)
theorem asked_c (F:Func) (hF:Enc.good F):PureP Tryz.prog 65 [vFunc F] (· = .d (.bool (soundF F))):=by
  cases hg:goodF F with
  | false =>
    refine pure_of Tryz.func65 en_65 rfl rfl (W_run mixed ⟨[K_72,K_111],[K_72h,K_111h],[],15,0,[0,1,2,3,7],[7]⟩ (fun _=>[]) (by kernel_rfl) ?_)
    simp only [Tryz.f65,stripX,stripOps,pickOps]
    simp [K_72_f,K_72_e,K_111_f,K_111_e,K_72h_f,K_72h_e,K_111h_f,K_111h_e,K_72h_g,K_111h_g,hF,checkR,hg]
    simp [soundF,hg]
  | true =>
    refine pure_of Tryz.func65 en_65 rfl rfl (W_run mixed ⟨[K_72,K_111],[K_72h,K_111h],[],15,0,[0,1,2,3,7],[7]⟩ (fun _=>[]) (by kernel_rfl) ?_)
    simp only [Tryz.f65,stripX,stripOps,pickOps]
    simp [K_72_f,K_72_e,K_111_f,K_111_e,K_72h_f,K_72h_e,K_111h_f,K_111h_e,K_72h_g,K_111h_g,hF,hg,soundF]
    exact ⟨good_flow hg,good_end hg⟩
noncomputable def soundV (F:Func):D:=if soundF F=true then .rp 3 (dWays (waysV (viewD F))) else .nilp
theorem soundOf_c (F:Func) (hF:Enc.good F):PureP Tryz.prog 62 [vFunc F] (· = .d (soundV F)):=by
  cases hg:goodF F with
  | false =>
    refine pure_of Tryz.func62 en_62 rfl rfl (W_run mixed ⟨[K_48,K_108,K_109],[K_48h,K_108h,K_109h],[],16,0,[0,1,2,3,4,8,14],[8,14]⟩ (fun _=>[]) (by kernel_rfl) ?_)
    simp only [Tryz.f62,stripX,stripOps,pickOps]
    simp [K_48_f,K_48_e,K_108_f,K_108_e,K_109_f,K_109_e,K_48h_f,K_48h_e,K_108h_f,K_108h_e,K_109h_f,K_109h_e,K_48h_g,K_108h_g,K_109h_g,hF,viewV_f hg]
    simp [soundV,soundF,hg]
  | true =>
    have hf:=good_flow hg
    obtain ⟨hv1,hn1,hp1⟩:=hf
    have hp2:0 < (nextL F.blocks_).length:=by simp [nextL];omega
    have hok:=okF_good hg
    refine pure_of Tryz.func62 en_62 rfl rfl (W_run mixed ⟨[K_48,K_108,K_109],[K_48h,K_108h,K_109h],[],16,0,[0,1,2,3,4,8,14],[8,14]⟩ (fun _=>[]) (by kernel_rfl) ?_)
    simp only [Tryz.f62,stripX,stripOps,pickOps]
    simp [K_48_f,K_48_e,K_108_f,K_108_e,K_109_f,K_109_e,K_48h_f,K_48h_e,K_108h_f,K_108h_e,K_109h_f,K_109h_e,K_48h_g,K_108h_g,K_109h_g,hF,viewV_t hg,viewD_blocks,hv1,hn1,hp2,hok]
    rw [fault_same hg]
    refine ⟨fun q=>?_,fun q=>?_⟩ <;> simp [soundV,soundF,hg,q]
noncomputable def K_65:Ent Tryz.prog:=Ent.p1 (α:=Func) 65 (fun F=>Enc.good F) (fun F=>.d (.bool (soundF F))) (fun F hc=>asked_c F hc)
theorem K_65_f:K_65.f=65:=rfl
theorem K_65_e (F0:Int) (F1:List Block):K_65.e [.agg [.d (.int .i64 F0),.d (dBlockS F1)]]=some (Enc.good (Func.mk F0 F1),.d (.bool (soundF (Func.mk F0 F1))),[]):=by unfold K_65;exact Ent.p1_eq (α:=Func) (Func.mk F0 F1)
noncomputable def K_65h:EntH Tryz.prog:=EntH.pk1 (α:=Func) 65 (fun F=>Enc.good F) (fun F=>.d (.bool (soundF F))) (fun F=>[]) (fun F hc=>PureP.ans (asked_c F hc))
theorem K_65h_f:K_65h.f=65:=rfl
theorem K_65h_g:K_65h.gro=true:=rfl
theorem K_65h_e {x1:V} {H:Heap}:K_65h.e [x1] H=guardR ((decA (α:=Func) H x1).1) (peekR (Enc.good (decA (α:=Func) H x1).2) (.d (.bool (soundF (decA (α:=Func) H x1).2))) ([]) H):=rfl
noncomputable def K_62:Ent Tryz.prog:=Ent.p1 (α:=Func) 62 (fun F=>Enc.good F) (fun F=>.d (soundV F)) (fun F hc=>soundOf_c F hc)
theorem K_62_f:K_62.f=62:=rfl
theorem K_62_e (F0:Int) (F1:List Block):K_62.e [.agg [.d (.int .i64 F0),.d (dBlockS F1)]]=some (Enc.good (Func.mk F0 F1),.d (soundV (Func.mk F0 F1)),[]):=by unfold K_62;exact Ent.p1_eq (α:=Func) (Func.mk F0 F1)
noncomputable def K_62h:EntH Tryz.prog:=EntH.pk1 (α:=Func) 62 (fun F=>Enc.good F) (fun F=>.d (soundV F)) (fun F=>[]) (fun F hc=>PureP.ans (soundOf_c F hc))
theorem K_62h_f:K_62h.f=62:=rfl
theorem K_62h_g:K_62h.gro=true:=rfl
theorem K_62h_e {x1:V} {H:Heap}:K_62h.e [x1] H=guardR ((decA (α:=Func) H x1).1) (peekR (Enc.good (decA (α:=Func) H x1).2) (.d (soundV (decA (α:=Func) H x1).2)) ([]) H):=rfl
end Go.Proofs.YtnomiclfiijniaaGreat
end

section
namespace Go.Proofs.YtnomiclfiijniaaGreat
set_option maxRecDepth 100000
set_option linter.unusedSimpArgs false
set_option linter.unusedVariables false
@[simp] theorem cells_AS {α β:Type} [Enc β] [Dec β] [Inhabited β] [Tr α β] (s:AS α):Tr.cells s=[s.v]:=rfl
@[simp] theorem cells_Int (n:Int):Tr.cells n=[.d (.int .i64 n)]:=rfl
structure AInst where
  op_:Int
  n_:Int
  args_:AS Int
  deriving Inhabited
@[reducible] instance trAInst:Tr AInst Inst where
  cells x:=[.d (.int .i64 x.op_),.d (.int .i64 x.n_),x.args_.v]
  pls x:=(Tr.pls x.args_)
  ok x:=Tr.ok x.args_
  era x:=⟨x.op_,x.n_,Tr.era x.args_⟩
  len _ _:=rfl
  one x h:=by
    show (true && (true && (x.args_.v.one && true)))=true
    rw [(show okS x.args_ from h).1.scl.2]
    rfl
  dec H x h hp:=by
    have q0:(Dec.dec (α:=List Int) H [x.args_.v]).1∧(Dec.dec (α:=List Int) H [x.args_.v]).2=Tr.era x.args_:=Tr.dec H x.args_ h hp
    refine ⟨⟨trivial,trivial,q0.1⟩, ?_⟩
    show Inst.mk x.op_ x.n_ (Dec.dec (α:=List Int) H [x.args_.v]).2=_
    rw [q0.2]
instance trsAInst:TrS AInst where
  scl x h:=by
    refine ⟨?_,fun q hq=>?_⟩
    · show (true && (true && (x.args_.v.scl2 && true)))=true
      rw [(show okS x.args_ from h).1.scl.1]
      rfl
    · exact (TrS.scl x.args_ h).2 q hq
@[simp] theorem cells_AInst (x:AInst):Tr.cells x=[.d (.int .i64 x.op_),.d (.int .i64 x.n_),x.args_.v]:=rfl
theorem ids_AInst (x:AInst):ids x=ids x.args_:=rfl
theorem AInst.own_args_ {H:Heap} {x:AInst} (h:Own H x):Own H x.args_:=⟨h.ok,h.at_,h.nd⟩
theorem AInst.made_args_ {H H':Heap} {x:AInst} {s:AS Int} (hm:Made H H' x.args_ s):Made H H' x { x with args_:=s } :=
  ⟨⟨hm.own.ok,hm.own.at_,hm.own.nd⟩,hm.len,by have:s.v=x.args_.v:=List.head_eq_of_cons_eq hm.cells;simp only [cells_AInst,this],hm.ids,hm.only⟩
theorem AInst.own {H:Heap} {x:AInst} (h:Own H x.args_):Own H x:=⟨h.ok,h.at_,h.nd⟩
structure AJump where
  to_:Int
  args_:AS Int
  deriving Inhabited
@[reducible] instance trAJump:Tr AJump Jump where
  cells x:=[.d (.int .i64 x.to_),x.args_.v]
  pls x:=(Tr.pls x.args_)
  ok x:=Tr.ok x.args_
  era x:=⟨x.to_,Tr.era x.args_⟩
  len _ _:=rfl
  one x h:=by
    show (true && (x.args_.v.one && true))=true
    rw [(show okS x.args_ from h).1.scl.2]
    rfl
  dec H x h hp:=by
    have q0:(Dec.dec (α:=List Int) H [x.args_.v]).1∧(Dec.dec (α:=List Int) H [x.args_.v]).2=Tr.era x.args_:=Tr.dec H x.args_ h hp
    refine ⟨⟨trivial,q0.1⟩, ?_⟩
    show Jump.mk x.to_ (Dec.dec (α:=List Int) H [x.args_.v]).2=_
    rw [q0.2]
instance trsAJump:TrS AJump where
  scl x h:=by
    refine ⟨?_,fun q hq=>?_⟩
    · show (true && (x.args_.v.scl2 && true))=true
      rw [(show okS x.args_ from h).1.scl.1]
      rfl
    · exact (TrS.scl x.args_ h).2 q hq
@[simp] theorem cells_AJump (x:AJump):Tr.cells x=[.d (.int .i64 x.to_),x.args_.v]:=rfl
theorem ids_AJump (x:AJump):ids x=ids x.args_:=rfl
theorem AJump.own_args_ {H:Heap} {x:AJump} (h:Own H x):Own H x.args_:=⟨h.ok,h.at_,h.nd⟩
theorem AJump.made_args_ {H H':Heap} {x:AJump} {s:AS Int} (hm:Made H H' x.args_ s):Made H H' x { x with args_:=s } :=
  ⟨⟨hm.own.ok,hm.own.at_,hm.own.nd⟩,hm.len,by have:s.v=x.args_.v:=List.head_eq_of_cons_eq hm.cells;simp only [cells_AJump,this],hm.ids,hm.only⟩
theorem AJump.own {H:Heap} {x:AJump} (h:Own H x.args_):Own H x:=⟨h.ok,h.at_,h.nd⟩
structure ABlock where
  params_:Int
  insts_:AS AInst
  end_:Int
  value_:Int
  jumps_:AS AJump
  deriving Inhabited
@[reducible] instance trABlock:Tr ABlock Block where
  cells x:=[.d (.int .i64 x.params_),x.insts_.v,.d (.int .i64 x.end_),.d (.int .i64 x.value_),x.jumps_.v]
  pls x:=(Tr.pls x.insts_)++(Tr.pls x.jumps_)
  ok x:=Tr.ok x.insts_∧Tr.ok x.jumps_
  era x:=⟨x.params_,Tr.era x.insts_,x.end_,x.value_,Tr.era x.jumps_⟩
  len _ _:=rfl
  one x h:=by
    show (true && (x.insts_.v.one && (true && (true && (x.jumps_.v.one && true)))))=true
    rw [(show okS x.insts_ from h.1).1.scl.2]
    rw [(show okS x.jumps_ from h.2).1.scl.2]
    rfl
  dec H x h hp:=by
    have q0:(Dec.dec (α:=List Inst) H [x.insts_.v]).1∧(Dec.dec (α:=List Inst) H [x.insts_.v]).2=Tr.era x.insts_:=Tr.dec H x.insts_ h.1 (fun q hq=>hp q (List.mem_append_left _ hq))
    have q1:(Dec.dec (α:=List Jump) H [x.jumps_.v]).1∧(Dec.dec (α:=List Jump) H [x.jumps_.v]).2=Tr.era x.jumps_:=Tr.dec H x.jumps_ h.2 (fun q hq=>hp q (List.mem_append_right _ hq))
    refine ⟨⟨trivial,q0.1,trivial,trivial,q1.1⟩, ?_⟩
    show Block.mk x.params_ (Dec.dec (α:=List Inst) H [x.insts_.v]).2 x.end_ x.value_ (Dec.dec (α:=List Jump) H [x.jumps_.v]).2=_
    rw [q0.2]
    rw [q1.2]
instance trsABlock:TrS ABlock where
  scl x h:=by
    refine ⟨?_,fun q hq=>?_⟩
    · show (true && (x.insts_.v.scl2 && (true && (true && (x.jumps_.v.scl2 && true)))))=true
      rw [(show okS x.insts_ from h.1).1.scl.1]
      rw [(show okS x.jumps_ from h.2).1.scl.1]
      rfl
    · rcases List.mem_append.1 hq with hq | hq
      · exact (TrS.scl x.insts_ h.1).2 q hq
      · exact (TrS.scl x.jumps_ h.2).2 q hq
@[simp] theorem cells_ABlock (x:ABlock):Tr.cells x=[.d (.int .i64 x.params_),x.insts_.v,.d (.int .i64 x.end_),.d (.int .i64 x.value_),x.jumps_.v]:=rfl
theorem ids_ABlock (x:ABlock):ids x=ids x.insts_++ids x.jumps_:=List.map_append
theorem ABlock.own_insts_ {H:Heap} {x:ABlock} (h:Own H x):Own H x.insts_:=⟨h.ok.1,fun q hq=>h.at_ q (List.mem_append_left _ hq),by have:=h.nd;rw [ids_ABlock] at this;exact (List.nodup_append.1 this).1⟩
theorem ABlock.own_jumps_ {H:Heap} {x:ABlock} (h:Own H x):Own H x.jumps_:=⟨h.ok.2,fun q hq=>h.at_ q (List.mem_append_right _ hq),by have:=h.nd;rw [ids_ABlock] at this;exact (List.nodup_append.1 this).2.1⟩
theorem ABlock.apart {H:Heap} {x:ABlock} (h:Own H x):∀ j∈ids x.insts_,j ∉ ids x.jumps_:=fun j hj hk=>by have:=h.nd;rw [ids_ABlock] at this;exact (List.nodup_append.1 this).2.2 j hj j hk rfl
theorem ABlock.own {H:Heap} {x:ABlock} (h1:Own H x.insts_) (h2:Own H x.jumps_) (hd:∀ j∈ids x.insts_,j ∉ ids x.jumps_):Own H x :=
  ⟨⟨h1.ok,h2.ok⟩,fun q hq=>(List.mem_append.1 hq).elim (h1.at_ q) (h2.at_ q),by rw [ids_ABlock];exact List.nodup_append.2 ⟨h1.nd,h2.nd,fun a ha b hb e=>hd a ha (by rw [e];exact hb)⟩⟩
theorem ABlock.made_insts_ {H H':Heap} {x:ABlock} {s:AS AInst} (h:Own H x) (hm:Made H H' x.insts_ s):Made H H' x { x with insts_:=s }:=by
  have ap:=ABlock.apart h
  have hg:Own H' x.jumps_:=(ABlock.own_jumps_ h).frame hm.only fun j hj hk=>ap j hk hj
  refine ⟨ABlock.own (x:={ x with insts_:=s }) hm.own hg (fun j hj hk=>ap j (hm.ids ▸ hj) hk),hm.len, ?_, ?_,hm.only.mono fun j hj=>by rw [ids_ABlock];exact List.mem_append_left _ hj⟩
  · have:s.v=x.insts_.v:=List.head_eq_of_cons_eq hm.cells
    simp only [cells_ABlock,this]
  · rw [ids_ABlock,ids_ABlock];exact congrArg (fun q=>q++ids x.jumps_) hm.ids
theorem ABlock.made_jumps_ {H H':Heap} {x:ABlock} {s:AS AJump} (h:Own H x) (hm:Made H H' x.jumps_ s):Made H H' x { x with jumps_:=s }:=by
  have ap:=ABlock.apart h
  have hg:Own H' x.insts_:=(ABlock.own_insts_ h).frame hm.only fun j hj hk=>ap j hj hk
  refine ⟨ABlock.own (x:={ x with jumps_:=s }) hg hm.own (fun j hj hk=>ap j hj (hm.ids ▸ hk)),hm.len, ?_, ?_,hm.only.mono fun j hj=>by rw [ids_ABlock];exact List.mem_append_right _ hj⟩
  · have:s.v=x.jumps_.v:=List.head_eq_of_cons_eq hm.cells
    simp only [cells_ABlock,this]
  · rw [ids_ABlock,ids_ABlock];exact congrArg (fun q=>ids x.insts_++q) hm.ids
structure AFunc where
  params_:Int
  blocks_:AS ABlock
  deriving Inhabited
@[reducible] instance trAFunc:Tr AFunc Func where
  cells x:=[.d (.int .i64 x.params_),x.blocks_.v]
  pls x:=(Tr.pls x.blocks_)
  ok x:=Tr.ok x.blocks_
  era x:=⟨x.params_,Tr.era x.blocks_⟩
  len _ _:=rfl
  one x h:=by
    show (true && (x.blocks_.v.one && true))=true
    rw [(show okS x.blocks_ from h).1.scl.2]
    rfl
  dec H x h hp:=by
    have q0:(Dec.dec (α:=List Block) H [x.blocks_.v]).1∧(Dec.dec (α:=List Block) H [x.blocks_.v]).2=Tr.era x.blocks_:=Tr.dec H x.blocks_ h hp
    refine ⟨⟨trivial,q0.1⟩, ?_⟩
    show Func.mk x.params_ (Dec.dec (α:=List Block) H [x.blocks_.v]).2=_
    rw [q0.2]
instance trsAFunc:TrS AFunc where
  scl x h:=by
    refine ⟨?_,fun q hq=>?_⟩
    · show (true && (x.blocks_.v.scl2 && true))=true
      rw [(show okS x.blocks_ from h).1.scl.1]
      rfl
    · exact (TrS.scl x.blocks_ h).2 q hq
@[simp] theorem cells_AFunc (x:AFunc):Tr.cells x=[.d (.int .i64 x.params_),x.blocks_.v]:=rfl
theorem AFunc.own_blocks_ {H:Heap} {x:AFunc} (h:Own H x):Own H x.blocks_:=⟨h.ok,h.at_,h.nd⟩
theorem AFunc.own {H:Heap} {x:AFunc} (h:Own H x.blocks_):Own H x:=⟨h.ok,h.at_,h.nd⟩
end Go.Proofs.YtnomiclfiijniaaGreat
end
