/- A copy of a function in memory of its own: cloneFunc. No condition. -/
import Derived.Test.YtcgekblpbheikaaGreatDoorQE6
import Derived.Test.YtcgekblpbheikaaGreatDoorQS31
import Derived.Test.YtcgekblpbheikaaGreatDoorQS39
section
namespace Go.Proofs.YtcgekblpbheikaaGreatDoor
set_option maxRecDepth 100000
set_option linter.unusedSimpArgs false
set_option linter.unusedVariables false
structure OkE (w:Ways) (n:Int):Prop where
  n0:0≤n∧n < w.view_.v.total_
  tot:w.view_.v.total_≤80
  ok:∀ k,0≤k→k < w.view_.v.total_→okV w.view_.v k∧(pureV w.view_.v k=true→(instI w.view_.v k).args_.length≤1000)∧(pureV w.view_.v n=true→okW w k (bk w.view_.v n))
  all:pureV w.view_.v n=true→bk w.view_.v n < w.all_.length
end Go.Proofs.YtcgekblpbheikaaGreatDoor
end

section
namespace Go.Proofs.YtcgekblpbheikaaGreatDoor
set_option maxRecDepth 100000
set_option linter.unusedSimpArgs false
set_option linter.unusedVariables false
def memOk (l:List Inst):Prop:=∀ x∈l,(x.op_=12→1≤x.args_.length)∧(x.op_=13→2≤x.args_.length)
structure OkM (v:View) (n:Int):Prop where
  ok:okV v n
  b:0≤bk v n→0≤atV v n→bk v n < v.first_.length∧bk v n < v.blocks_.length∧atV v n < (blkAt v n).insts_.length∧(blkAt v n).insts_.length≤80∧memOk (blkAt v n).insts_
end Go.Proofs.YtcgekblpbheikaaGreatDoor
end

section
namespace Go.Proofs.YtcgekblpbheikaaGreatDoor
set_option maxRecDepth 100000
set_option linter.unusedSimpArgs false
set_option linter.unusedVariables false
end Go.Proofs.YtcgekblpbheikaaGreatDoor
end

section
namespace Go.Proofs.YtcgekblpbheikaaGreatDoor
set_option maxRecDepth 100000
set_option linter.unusedSimpArgs false
set_option linter.unusedVariables false
abbrev zInst:List V:=[.d (.int .i64 0),.d (.int .i64 0),.d .nilsl]
abbrev zJump:List V:=[.d (.int .i64 0),.d .nilsl]
def solB (b:ABlock):Prop:=b.insts_.v=.sl b.insts_.id 3 0 b.insts_.l.length∧b.jumps_.v=.sl b.jumps_.id 2 0 b.jumps_.l.length
def solF (A:AFunc):Prop:=A.blocks_.v=.sl A.blocks_.id 5 0 A.blocks_.l.length∧∀ b∈A.blocks_.l,solB b
structure CF (H:Heap) (F:Func) (c r:Nat) (m:List ABlock) (H1:Heap):Prop where
  box:H1[H.length]? = some (.row 2 [[.d (.int .i64 F.params_),.d (dBlockS F.blocks_)]])
  out:H1[H.length + 1]? = some (.row 2 [[.d (.int .i64 0),.d .nilsl]])
  cell:H1[c]? = some (.row 2 [[.d (.int .i64 F.params_),.sl r 5 0 F.blocks_.length]])
  fl:Fl r F.blocks_ zBlock id m H1
  old:Only [] H H1
  hc:H.length + 1 < c
  hr:H.length + 1 < r
  hcr:c ≠ r
  hm:c ∉ m.flatMap ids
  sol:∀ b∈m,solB b
structure CB (H1:Heap) (x:Block) (ri rj:Nat) (mi:List AInst) (mj:List AJump) (H2:Heap):Prop where
  cell:H2[H1.length]? = some (.row 5 [[.d (.int .i64 x.params_),.d (dInstS x.insts_),.d (.int .i64 x.end_),.d (.int .i64 x.value_),.d (dJumpS x.jumps_)]])
  fi:Fl ri x.insts_ zInst id mi H2
  fj:Fl rj x.jumps_ zJump id mj H2
  old:Only [] H1 H2
  hi:H1.length < ri
  hj:H1.length < rj
  hij:ri ≠ rj
  gi:∀ j∈mi.flatMap ids,rj < j
  gj:∀ j∈mj.flatMap ids,ri < j∧j ∉ mi.flatMap ids
theorem own_row {H:Heap} {l:List Int} {id:Nat} (h:H[id]? = some (.row 1 (rI l))):Own H (⟨.sl id 1 0 l.length,l⟩:AS Int):=Own.mkS (ownL_ints l) h (by rw [ids_ints];exact List.not_mem_nil)
theorem CB.aown {H1:Heap} {x:Block} {ri rj:Nat} {mi:List AInst} {mj:List AJump} {H2:Heap} (q:CB H1 x ri rj mi mj H2) (hi:x.insts_.length≤mi.length) (hj:x.jumps_.length≤mj.length) :
    Own H2 (⟨x.params_,⟨.sl ri 3 0 x.insts_.length,mi⟩,x.end_,x.value_,⟨.sl rj 2 0 x.jumps_.length,mj⟩⟩:ABlock)∧(∀ j∈ids (⟨x.params_,⟨.sl ri 3 0 x.insts_.length,mi⟩,x.end_,x.value_,⟨.sl rj 2 0 x.jumps_.length,mj⟩⟩:ABlock),H1.length < j)
      ∧ Tr.era (⟨x.params_,⟨.sl ri 3 0 x.insts_.length,mi⟩,x.end_,x.value_,⟨.sl rj 2 0 x.jumps_.length,mj⟩⟩:ABlock)=x:=by
  obtain ⟨oi,ei,idi⟩:=q.fi.done hi
  obtain ⟨oj,ej,idj⟩:=q.fj.done hj
  have h1:=q.hi
  have h2:=q.hj
  refine ⟨ABlock.own oi oj fun j hj hk=>?_,fun j hj=>?_, ?_⟩
  · replace hj:j∈ri :: mi.flatMap ids:=idi ▸ hj
    replace hk:j∈rj :: mj.flatMap ids:=idj ▸ hk
    rcases List.mem_cons.1 hj with rfl | hj <;> rcases List.mem_cons.1 hk with hk | hk
    · exact q.hij hk
    · exact Nat.lt_irrefl _ (q.gj _ hk).1
    · subst hk;exact Nat.lt_irrefl _ (q.gi _ hj)
    · exact (q.gj _ hk).2 hj
  · rw [ids_ABlock] at hj
    rcases List.mem_append.1 hj with hj | hj
    · replace hj:j∈ri :: mi.flatMap ids:=idi ▸ hj
      rcases List.mem_cons.1 hj with rfl | hj
      · exact h1
      · have:=q.gi _ hj;omega
    · replace hj:j∈rj :: mj.flatMap ids:=idj ▸ hj
      rcases List.mem_cons.1 hj with rfl | hj
      · exact h2
      · have:=(q.gj _ hj).1;omega
  · show Block.mk x.params_ (mi.map Tr.era) x.end_ x.value_ (mj.map Tr.era)=x
    rw [ei,ej,List.map_id,List.map_id]
theorem CF.step {H:Heap} {F:Func} {c r:Nat} {m:List ABlock} {H1:Heap} {x:Block} {ri rj:Nat} {mi:List AInst} {mj:List AJump} {H2:Heap} (k:CF H F c r m H1) (q:CB H1 x ri rj mi mj H2) (h:m.length < F.blocks_.length) (hx:F.blocks_[m.length]?.getD default=x) (hi:x.insts_.length≤mi.length) (hj:x.jumps_.length≤mj.length) {p:Place} :
    CF H F c r (m++[⟨x.params_,⟨.sl ri 3 0 x.insts_.length,mi⟩,x.end_,x.value_,⟨.sl rj 2 0 x.jumps_.length,mj⟩⟩]) ((H2.set H1.length p).set r (.row 5 ((partT m F.blocks_.length zBlock).set m.length [.d (.int .i64 x.params_),.sl ri 3 0 x.insts_.length,.d (.int .i64 x.end_),.d (.int .i64 x.value_),.sl rj 2 0 x.jumps_.length]))):=by
  obtain ⟨oa,ida,ea⟩:=q.aown hi hj
  generalize ha:(⟨x.params_,⟨.sl ri 3 0 x.insts_.length,mi⟩,x.end_,x.value_,⟨.sl rj 2 0 x.jumps_.length,mj⟩⟩:ABlock)=a at oa ida ea ⊢
  have hc:[.d (.int .i64 x.params_),.sl ri 3 0 x.insts_.length,.d (.int .i64 x.end_),.d (.int .i64 x.value_),.sl rj 2 0 x.jumps_.length]=Tr.cells a:=by subst ha;rfl
  rw [hc,partT_set a h]
  have o1:Only [H1.length] H2 (H2.set H1.length p):=Only.set
  have r0:=k.fl.lt
  have c0:=(List.getElem?_eq_some_iff.1 k.cell).1
  have b0:=(List.getElem?_eq_some_iff.1 k.out).1
  have hr:=k.hr
  have hcc:=k.hc
  have hcr:=k.hcr
  have hl:=q.old.len
  have idm:∀ j∈m.flatMap ids,j < H1.length:=fun j hj=>k.fl.own.lt hj
  have f1:Fl r F.blocks_ zBlock id m (H2.set H1.length p):=(k.fl.frame q.old (by simp) (by simp)).frame o1 (by simp;omega) (fun j hj=>by have:=idm j hj;simp;omega)
  have f2:=f1.step h (oa.frame o1 fun j hj=>by have:=ida j hj;simp;omega) (fun j hj=>⟨by have:=ida j hj;omega,fun hm=>by have:=ida j hj;have:=idm j hm;omega⟩) (by rw [ea,hx];rfl)
  have ho:Only [H1.length,r] H2 ((H2.set H1.length p).set r (.row 5 (partT (m++[a]) F.blocks_.length zBlock))):=o1.trans Only.set (fun j hj=>by simp at hj;simp [hj]) (fun j hj _=>by simp at hj;simp [hj])
  have at_:∀ j,j < H1.length→j ≠ r→((H2.set H1.length p).set r (.row 5 (partT (m++[a]) F.blocks_.length zBlock)))[j]? = H1[j]?:=fun j hj hn=>(ho.at_ j (by omega) (by simp;omega)).trans (q.old.at_ j hj List.not_mem_nil)
  refine ⟨(at_ _ (by omega) (by omega)).trans k.box,(at_ _ (by omega) (by omega)).trans k.out,(at_ _ c0 hcr).trans k.cell,f2,⟨by simp;have:=k.old.len;omega,fun j hj _=>(at_ j (by have:=k.old.len;omega) (by omega)).trans (k.old.at_ j hj List.not_mem_nil)⟩,hcc,hr,hcr,fun hm=>?_,fun b hb=>?_⟩
  · rw [List.flatMap_append] at hm
    rcases List.mem_append.1 hm with q | q
    · exact k.hm q
    · have:=ida c (by simpa using q);omega
  · rcases List.mem_append.1 hb with h | h
    · exact k.sol b h
    · rw [List.mem_singleton.1 h,← ha]
      have e1:mi.length=x.insts_.length:=Nat.le_antisymm q.fi.le hi
      have e2:mj.length=x.jumps_.length:=Nat.le_antisymm q.fj.le hj
      exact ⟨by rw [show (⟨x.params_,⟨.sl ri 3 0 x.insts_.length,mi⟩,x.end_,x.value_,⟨.sl rj 2 0 x.jumps_.length,mj⟩⟩:ABlock).insts_.l.length=mi.length from rfl,e1];rfl,by rw [show (⟨x.params_,⟨.sl ri 3 0 x.insts_.length,mi⟩,x.end_,x.value_,⟨.sl rj 2 0 x.jumps_.length,mj⟩⟩:ABlock).jumps_.l.length=mj.length from rfl,e2];rfl⟩
theorem CF.done {H:Heap} {F:Func} {c r:Nat} {m:List ABlock} {H1:Heap} (k:CF H F c r m H1) (h:F.blocks_.length≤m.length) {p:Place} {Q:V→Heap→Prop} (hq:∀ (a:AFunc) (H':Heap),Tr.era a=F→a.params_=F.params_→a.blocks_.v=.sl r 5 0 F.blocks_.length→solF a→New H H' a→Q (.agg [.d (.int .i64 F.params_),.sl r 5 0 F.blocks_.length]) H') :
    ∃ r' H',Fin H.length (H1.set (H.length + 1) p) (.agg [.d (.int .i64 F.params_),.sl r 5 0 F.blocks_.length]) H' r'∧Q r' H':=by
  have hr:=k.hr
  have f1:Fl r F.blocks_ zBlock id m (H1.set (H.length + 1) p):=k.fl.frame (S:=[H.length + 1]) Only.set (by simp;omega) (fun j hj=>by have:=k.fl.ge j hj;simp;omega)
  obtain ⟨o,e,i⟩:=f1.done h
  refine fin_new (a:=(⟨F.params_,⟨.sl r 5 0 F.blocks_.length,m⟩⟩:AFunc)) (AFunc.own o) ⟨by simp;exact k.old.len,fun j hj _=>by rw [List.getElem?_set_ne (by omega)];exact k.old.at_ j hj List.not_mem_nil⟩ (fun j hj=>?_) fun H' h'=>hq _ H' ?_ rfl rfl ⟨by rw [show (⟨F.params_,⟨.sl r 5 0 F.blocks_.length,m⟩⟩:AFunc).blocks_.l.length=m.length from rfl,Nat.le_antisymm k.fl.le h];rfl,k.sol⟩ h'
  · replace hj:j∈r :: m.flatMap ids:=i ▸ hj
    rcases List.mem_cons.1 hj with rfl | hj
    · omega
    · have:=k.fl.ge j hj;omega
  · show Func.mk F.params_ (m.map Tr.era)=F
    rw [e,List.map_id]
end Go.Proofs.YtcgekblpbheikaaGreatDoor
end
