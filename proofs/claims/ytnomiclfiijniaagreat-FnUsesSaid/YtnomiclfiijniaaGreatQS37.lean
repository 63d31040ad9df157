/- A copy of a function in memory of its own: cloneFunc. No condition. -/
import Derived.Test.YtnomiclfiijniaaGreatQE6
import Derived.Test.YtnomiclfiijniaaGreatQS34
namespace Go.Proofs.YtnomiclfiijniaaGreat
set_option maxRecDepth 100000
set_option linter.unusedSimpArgs false
set_option linter.unusedVariables false
theorem cloneN_c (l:List Int) (h0:l ≠ []) (hl:l.length≤1000):CallsD Tryz.prog 58 [.d (dIntS l)] [] fun r H=>r=.sl 0 1 0 l.length∧H=[.row 1 (rI l)]:=by
  have hp:0 < l.length:=List.length_pos_iff.2 h0
  have hu:=upto_all l
  refine calls_of Tryz.func58 en_58 rfl (of_decide_eq_true rfl) (W_run mixed ⟨[],[],[],8,0,[0,2,4],[4]⟩ (fun _=>[]) (by kernel_rfl) ?_)
  simp only [Tryz.f58,stripX,stripOps,pickOps]
  simp [retQ,hp,hu]
  exact ⟨by omega,Fin.ren [1] (by simp) (by simp) (by simp) (by simp) (by simp)⟩
theorem cloneE_c (l:List Int) (h0:l=[]):PureP Tryz.prog 58 [.d (dIntS l)] (· = .d (dIntS l)):=by
  subst h0
  refine PureP.le (pure_of Tryz.func58 en_58 rfl rfl (W_run mixed ⟨[],[],[],8,0,[0,2,4],[4]⟩ (fun _=>[]) (by kernel_rfl) ?_))
  simp only [Tryz.f58,stripX,stripOps,pickOps]
  simp []
  simp [VLe,DLe]
noncomputable def K_cloneN:Ent Tryz.prog:=Ent.o1 (α:=List Int) 58 (fun l=>l ≠ []∧l.length≤1000) (fun l=>.sl 0 1 0 l.length) (fun l=>[.row 1 (rI l)]) (fun l hc H=>(CallsD.good (cloneN_c l hc.1 hc.2) rfl H))
theorem K_cloneN_f:K_cloneN.f=58:=rfl
theorem K_cloneN_e (l:List Int):K_cloneN.e [.d (dIntS l)]=some (l ≠ []∧l.length≤1000,.sl 0 1 0 l.length,[.row 1 (rI l)]):=by unfold K_cloneN;exact Ent.o1_eq (α:=List Int) l
noncomputable def K_cloneNh:EntH Tryz.prog:=EntH.pk1 (α:=List Int) 58 (fun l=>l ≠ []∧l.length≤1000) (fun l=>.sl 0 1 0 l.length) (fun l=>[.row 1 (rI l)]) (fun l hc=>CallsD.ans ((CallsD.good (cloneN_c l hc.1 hc.2) rfl [])))
theorem K_cloneNh_f:K_cloneNh.f=58:=rfl
theorem K_cloneNh_g:K_cloneNh.gro=true:=rfl
theorem K_cloneNh_e {x1:V} {H:Heap}:K_cloneNh.e [x1] H=guardR ((decA (α:=List Int) H x1).1) (peekR ((decA (α:=List Int) H x1).2 ≠ []∧(decA (α:=List Int) H x1).2.length≤1000) (.sl 0 1 0 (decA (α:=List Int) H x1).2.length) ([.row 1 (rI (decA (α:=List Int) H x1).2)]) H):=rfl
noncomputable def K_cloneE:Ent Tryz.prog:=Ent.p1 (α:=List Int) 58 (fun l=>l=[]) (fun l=>.d (dIntS l)) (fun l hc=>cloneE_c l hc)
theorem K_cloneE_f:K_cloneE.f=58:=rfl
theorem K_cloneE_e (l:List Int):K_cloneE.e [.d (dIntS l)]=some (l=[],.d (dIntS l),[]):=by unfold K_cloneE;exact Ent.p1_eq (α:=List Int) l
noncomputable def K_cloneEh:EntH Tryz.prog:=EntH.pk1 (α:=List Int) 58 (fun l=>l=[]) (fun l=>.d (dIntS l)) (fun l=>[]) (fun l hc=>PureP.ans (cloneE_c l hc))
theorem K_cloneEh_f:K_cloneEh.f=58:=rfl
theorem K_cloneEh_g:K_cloneEh.gro=true:=rfl
theorem K_cloneEh_e {x1:V} {H:Heap}:K_cloneEh.e [x1] H=guardR ((decA (α:=List Int) H x1).1) (peekR ((decA (α:=List Int) H x1).2=[]) (.d (dIntS (decA (α:=List Int) H x1).2)) ([]) H):=rfl
def smallF (F:Func):Prop:=F.blocks_.length≤8∧∀ b∈F.blocks_,b.insts_.length≤80∧b.jumps_.length≤2∧(∀ x∈b.insts_,x.args_.length≤1000)∧∀ j∈b.jumps_,j.args_.length≤1000
abbrev zInst:List V:=[.d (.int .i64 0),.d (.int .i64 0),.d .nilsl]
abbrev zJump:List V:=[.d (.int .i64 0),.d .nilsl]
abbrev cfS:List Nat:=[5,6,7,8,9,10,11,20,21,22,23,36,37,38,39,56,57,58,59]
def solB (b:ABlock):Prop:=b.insts_.v=.sl b.insts_.id 3 0 b.insts_.l.length∧b.jumps_.v=.sl b.jumps_.id 2 0 b.jumps_.l.length
def solF (A:AFunc):Prop:=A.blocks_.v=.sl A.blocks_.id 5 0 A.blocks_.l.length∧∀ b∈A.blocks_.l,solB b
structure CF (H:Heap) (F:Func) (c r:Nat) (m:List ABlock) (H1:Heap):Prop where
  box:H1[H.length]? = some (.row 2 [[.d (.int .i64 F.params_),.d (dBlockS F.blocks_)]])
  out:H1[H.length + 1]? = some (.row 2 [[.d (.int .i64 0),.d .nilsl]])
  cell:H1[c]? = some (.row 2 [[.d (.int .i64 F.params_),.sl r 5 0 F.blocks_.length]])
  fl:Fl r F.blocks_ zBlock id m H1
  old:Only [] H H1
  hc:H.length + 1 < c
  hr:H.length + 1 < r
  hcr:c ≠ r
  hm:c ∉ m.flatMap ids
  sol:∀ b∈m,solB b
theorem cf1 {H:Heap} {F:Func}:CF H F (H.length + 3) (H.length + 2) [] (H++[.row 2 [[.d (.int .i64 F.params_),.d (dBlockS F.blocks_)]],.row 2 [[.d (.int .i64 0),.d .nilsl]],.row 5 (List.replicate F.blocks_.length zBlock),.row 2 [[.d (.int .i64 F.params_),.sl (H.length + 2) 5 0 F.blocks_.length]]]) :=
  ⟨by simp,by simp,by simp,Fl.nil (by simp),Only.app _ _ _,by omega,by omega,by omega,by simp,fun b hb=>absurd hb List.not_mem_nil⟩
theorem cf2 {H:Heap} {F:Func}:CF H F (H.length + 2) (H.length + 3) [] (H++[.row 2 [[.d (.int .i64 F.params_),.d (dBlockS F.blocks_)]],.row 2 [[.d (.int .i64 0),.d .nilsl]],.row 2 [[.d (.int .i64 F.params_),.sl (H.length + 3) 5 0 F.blocks_.length]],.row 5 (List.replicate F.blocks_.length zBlock)]) :=
  ⟨by simp,by simp,by simp,Fl.nil (by simp),Only.app _ _ _,by omega,by omega,by omega,by simp,fun b hb=>absurd hb List.not_mem_nil⟩
structure CB (H1:Heap) (x:Block) (ri rj:Nat) (mi:List AInst) (mj:List AJump) (H2:Heap):Prop where
  cell:H2[H1.length]? = some (.row 5 [[.d (.int .i64 x.params_),.d (dInstS x.insts_),.d (.int .i64 x.end_),.d (.int .i64 x.value_),.d (dJumpS x.jumps_)]])
  fi:Fl ri x.insts_ zInst id mi H2
  fj:Fl rj x.jumps_ zJump id mj H2
  old:Only [] H1 H2
  hi:H1.length < ri
  hj:H1.length < rj
  hij:ri ≠ rj
  gi:∀ j∈mi.flatMap ids,rj < j
  gj:∀ j∈mj.flatMap ids,ri < j∧j ∉ mi.flatMap ids
theorem cb1 {H1:Heap} {x:Block}:CB H1 x (H1.length + 1) (H1.length + 2) [] [] (H1++[.row 5 [[.d (.int .i64 x.params_),.d (dInstS x.insts_),.d (.int .i64 x.end_),.d (.int .i64 x.value_),.d (dJumpS x.jumps_)]],.row 3 (List.replicate x.insts_.length zInst),.row 2 (List.replicate x.jumps_.length zJump)]) :=
  ⟨by simp,Fl.nil (by simp),Fl.nil (by simp),Only.app _ _ _,by omega,by omega,by omega,by simp,by simp⟩
theorem cb2 {H1:Heap} {x:Block}:CB H1 x (H1.length + 2) (H1.length + 1) [] [] (H1++[.row 5 [[.d (.int .i64 x.params_),.d (dInstS x.insts_),.d (.int .i64 x.end_),.d (.int .i64 x.value_),.d (dJumpS x.jumps_)]],.row 2 (List.replicate x.jumps_.length zJump),.row 3 (List.replicate x.insts_.length zInst)]) :=
  ⟨by simp,Fl.nil (by simp),Fl.nil (by simp),Only.app _ _ _,by omega,by omega,by omega,by simp,by simp⟩
theorem CB.stepI {H1:Heap} {x:Block} {ri rj:Nat} {mi:List AInst} {mj:List AJump} {H2:Heap} (k:CB H1 x ri rj mi mj H2) (h:mi.length < x.insts_.length) {R:Heap} {a:AInst} (ha:Own (H2++R) a) (hf:∀ j∈ids a,H2.length≤j) (he:Tr.era a=x.insts_[mi.length]?.getD default) :
    CB H1 x ri rj (mi++[a]) mj ((H2++R).set ri (.row 3 (partT (mi++[a]) x.insts_.length zInst))):=by
  have r1:=k.fi.lt
  have r2:=k.fj.lt
  have oi:∀ j∈mi.flatMap ids,j < H2.length:=fun j hj=>k.fi.own.lt hj
  have oj:∀ j∈mj.flatMap ids,j < H2.length:=fun j hj=>k.fj.own.lt hj
  have f1:Fl ri x.insts_ zInst id mi (H2++R):=k.fi.frame (Only.app [] _ _) (by simp) (by simp)
  have f2:=f1.step h ha (fun j hj=>⟨by have:=hf j hj;omega,fun hx=>by have:=hf j hj;have:=oi j hx;omega⟩) he
  have ho:Only [ri] H2 ((H2++R).set ri (.row 3 (partT (mi++[a]) x.insts_.length zInst))):=(Only.app [] H2 R).trans Only.set (fun j hj=>absurd hj List.not_mem_nil) fun j hj _=>hj
  have c0:=(List.getElem?_eq_some_iff.1 k.cell).1
  refine ⟨(ho.at_ _ c0 (by simp;have:=k.hi;omega)).trans k.cell,f2,k.fj.frame ho (by simp;exact fun e=>k.hij e.symm) (fun j hj=>by simp;have:=(k.gj j hj).1;omega),⟨Nat.le_trans k.old.len ho.len,fun j hj _=>(ho.at_ j (Nat.lt_of_lt_of_le hj k.old.len) (by simp;have:=k.hi;omega)).trans (k.old.at_ j hj List.not_mem_nil)⟩,k.hi,k.hj,k.hij,fun j hj=>?_,fun j hj=>⟨(k.gj j hj).1,fun hx=>?_⟩⟩
  · rw [List.flatMap_append] at hj
    rcases List.mem_append.1 hj with q | q
    · exact k.gi j q
    · have:=hf j (by simpa using q);omega
  · rw [List.flatMap_append] at hx
    rcases List.mem_append.1 hx with q | q
    · exact (k.gj j hj).2 q
    · have:=hf j (by simpa using q);have:=oj j hj;omega
theorem CB.stepJ {H1:Heap} {x:Block} {ri rj:Nat} {mi:List AInst} {mj:List AJump} {H2:Heap} (k:CB H1 x ri rj mi mj H2) (h:mj.length < x.jumps_.length) {R:Heap} {a:AJump} (ha:Own (H2++R) a) (hf:∀ j∈ids a,H2.length≤j) (he:Tr.era a=x.jumps_[mj.length]?.getD default) :
    CB H1 x ri rj mi (mj++[a]) ((H2++R).set rj (.row 2 (partT (mj++[a]) x.jumps_.length zJump))):=by
  have r1:=k.fi.lt
  have r2:=k.fj.lt
  have oi:∀ j∈mi.flatMap ids,j < H2.length:=fun j hj=>k.fi.own.lt hj
  have oj:∀ j∈mj.flatMap ids,j < H2.length:=fun j hj=>k.fj.own.lt hj
  have f1:Fl rj x.jumps_ zJump id mj (H2++R):=k.fj.frame (Only.app [] _ _) (by simp) (by simp)
  have f2:=f1.step h ha (fun j hj=>⟨by have:=hf j hj;omega,fun hx=>by have:=hf j hj;have:=oj j hx;omega⟩) he
  have ho:Only [rj] H2 ((H2++R).set rj (.row 2 (partT (mj++[a]) x.jumps_.length zJump))):=(Only.app [] H2 R).trans Only.set (fun j hj=>absurd hj List.not_mem_nil) fun j hj _=>hj
  have c0:=(List.getElem?_eq_some_iff.1 k.cell).1
  refine ⟨(ho.at_ _ c0 (by simp;have:=k.hj;omega)).trans k.cell,k.fi.frame ho (by simp;exact k.hij) (fun j hj=>by simp;have:=k.gi j hj;omega),f2,⟨Nat.le_trans k.old.len ho.len,fun j hj _=>(ho.at_ j (Nat.lt_of_lt_of_le hj k.old.len) (by simp;have:=k.hj;omega)).trans (k.old.at_ j hj List.not_mem_nil)⟩,k.hi,k.hj,k.hij,k.gi,fun j hj=>?_⟩
  rw [List.flatMap_append] at hj
  rcases List.mem_append.1 hj with q | q
  · exact k.gj j q
  · have:=hf j (by simpa using q)
    exact ⟨by omega,fun hx=>by have:=oi j hx;omega⟩
theorem CB.putI {H1:Heap} {x:Block} {ri rj:Nat} {mi:List AInst} {mj:List AJump} {H2:Heap} (k:CB H1 x ri rj mi mj H2) (h:mi.length < x.insts_.length) {R:Heap} (a:AInst) (ha:Own (H2++R) a) (hf:∀ j∈ids a,H2.length≤j) (he:Tr.era a=x.insts_[mi.length]?.getD default) :
    CB H1 x ri rj (mi++[a]) mj (H2.set ri (.row 3 ((partT mi x.insts_.length zInst).set mi.length (Tr.cells a)))++R):=by
  rw [partT_set a h,← List.set_append_left _ _ k.fi.lt]
  exact k.stepI h ha hf he
theorem CB.putJ {H1:Heap} {x:Block} {ri rj:Nat} {mi:List AInst} {mj:List AJump} {H2:Heap} (k:CB H1 x ri rj mi mj H2) (h:mj.length < x.jumps_.length) {R:Heap} (a:AJump) (ha:Own (H2++R) a) (hf:∀ j∈ids a,H2.length≤j) (he:Tr.era a=x.jumps_[mj.length]?.getD default) :
    CB H1 x ri rj mi (mj++[a]) (H2.set rj (.row 2 ((partT mj x.jumps_.length zJump).set mj.length (Tr.cells a)))++R):=by
  rw [partT_set a h,← List.set_append_left _ _ k.fj.lt]
  exact k.stepJ h ha hf he
theorem own_ro {H:Heap} {f:Nat→Nat→D}:Own H (⟨.d (.ro 1 0 f),[]⟩:AS Int):=⟨⟨.inr ⟨rfl,.inr ⟨f,rfl⟩⟩,fun a ha=>absurd ha List.not_mem_nil⟩,fun q hq=>absurd hq List.not_mem_nil,List.nodup_nil⟩
theorem own_row {H:Heap} {l:List Int} {id:Nat} (h:H[id]? = some (.row 1 (rI l))):Own H (⟨.sl id 1 0 l.length,l⟩:AS Int):=Own.mkS (ownL_ints l) h (by rw [ids_ints];exact List.not_mem_nil)
theorem ids_row {l:List Int} {id:Nat}:ids (⟨.sl id 1 0 l.length,l⟩:AS Int)=[id]:=by
  rw [ids_sl (s:=(⟨.sl id 1 0 l.length,l⟩:AS Int)) rfl,ids_ints]
theorem CB.aown {H1:Heap} {x:Block} {ri rj:Nat} {mi:List AInst} {mj:List AJump} {H2:Heap} (q:CB H1 x ri rj mi mj H2) (hi:x.insts_.length≤mi.length) (hj:x.jumps_.length≤mj.length) :
    Own H2 (⟨x.params_,⟨.sl ri 3 0 x.insts_.length,mi⟩,x.end_,x.value_,⟨.sl rj 2 0 x.jumps_.length,mj⟩⟩:ABlock)∧(∀ j∈ids (⟨x.params_,⟨.sl ri 3 0 x.insts_.length,mi⟩,x.end_,x.value_,⟨.sl rj 2 0 x.jumps_.length,mj⟩⟩:ABlock),H1.length < j)
      ∧ Tr.era (⟨x.params_,⟨.sl ri 3 0 x.insts_.length,mi⟩,x.end_,x.value_,⟨.sl rj 2 0 x.jumps_.length,mj⟩⟩:ABlock)=x:=by
  obtain ⟨oi,ei,idi⟩:=q.fi.done hi
  obtain ⟨oj,ej,idj⟩:=q.fj.done hj
  have h1:=q.hi
  have h2:=q.hj
  refine ⟨ABlock.own oi oj fun j hj hk=>?_,fun j hj=>?_, ?_⟩
  · replace hj:j∈ri :: mi.flatMap ids:=idi ▸ hj
    replace hk:j∈rj :: mj.flatMap ids:=idj ▸ hk
    rcases List.mem_cons.1 hj with rfl | hj <;> rcases List.mem_cons.1 hk with hk | hk
    · exact q.hij hk
    · exact Nat.lt_irrefl _ (q.gj _ hk).1
    · subst hk;exact Nat.lt_irrefl _ (q.gi _ hj)
    · exact (q.gj _ hk).2 hj
  · rw [ids_ABlock] at hj
    rcases List.mem_append.1 hj with hj | hj
    · replace hj:j∈ri :: mi.flatMap ids:=idi ▸ hj
      rcases List.mem_cons.1 hj with rfl | hj
      · exact h1
      · have:=q.gi _ hj;omega
    · replace hj:j∈rj :: mj.flatMap ids:=idj ▸ hj
      rcases List.mem_cons.1 hj with rfl | hj
      · exact h2
      · have:=(q.gj _ hj).1;omega
  · show Block.mk x.params_ (mi.map Tr.era) x.end_ x.value_ (mj.map Tr.era)=x
    rw [ei,ej,List.map_id,List.map_id]
theorem CF.step {H:Heap} {F:Func} {c r:Nat} {m:List ABlock} {H1:Heap} {x:Block} {ri rj:Nat} {mi:List AInst} {mj:List AJump} {H2:Heap} (k:CF H F c r m H1) (q:CB H1 x ri rj mi mj H2) (h:m.length < F.blocks_.length) (hx:F.blocks_[m.length]?.getD default=x) (hi:x.insts_.length≤mi.length) (hj:x.jumps_.length≤mj.length) {p:Place} :
    CF H F c r (m++[⟨x.params_,⟨.sl ri 3 0 x.insts_.length,mi⟩,x.end_,x.value_,⟨.sl rj 2 0 x.jumps_.length,mj⟩⟩]) ((H2.set H1.length p).set r (.row 5 ((partT m F.blocks_.length zBlock).set m.length [.d (.int .i64 x.params_),.sl ri 3 0 x.insts_.length,.d (.int .i64 x.end_),.d (.int .i64 x.value_),.sl rj 2 0 x.jumps_.length]))):=by
  obtain ⟨oa,ida,ea⟩:=q.aown hi hj
  generalize ha:(⟨x.params_,⟨.sl ri 3 0 x.insts_.length,mi⟩,x.end_,x.value_,⟨.sl rj 2 0 x.jumps_.length,mj⟩⟩:ABlock)=a at oa ida ea ⊢
  have hc:[.d (.int .i64 x.params_),.sl ri 3 0 x.insts_.length,.d (.int .i64 x.end_),.d (.int .i64 x.value_),.sl rj 2 0 x.jumps_.length]=Tr.cells a:=by subst ha;rfl
  rw [hc,partT_set a h]
  have o1:Only [H1.length] H2 (H2.set H1.length p):=Only.set
  have r0:=k.fl.lt
  have c0:=(List.getElem?_eq_some_iff.1 k.cell).1
  have b0:=(List.getElem?_eq_some_iff.1 k.out).1
  have hr:=k.hr
  have hcc:=k.hc
  have hcr:=k.hcr
  have hl:=q.old.len
  have idm:∀ j∈m.flatMap ids,j < H1.length:=fun j hj=>k.fl.own.lt hj
  have f1:Fl r F.blocks_ zBlock id m (H2.set H1.length p):=(k.fl.frame q.old (by simp) (by simp)).frame o1 (by simp;omega) (fun j hj=>by have:=idm j hj;simp;omega)
  have f2:=f1.step h (oa.frame o1 fun j hj=>by have:=ida j hj;simp;omega) (fun j hj=>⟨by have:=ida j hj;omega,fun hm=>by have:=ida j hj;have:=idm j hm;omega⟩) (by rw [ea,hx];rfl)
  have ho:Only [H1.length,r] H2 ((H2.set H1.length p).set r (.row 5 (partT (m++[a]) F.blocks_.length zBlock))):=o1.trans Only.set (fun j hj=>by simp at hj;simp [hj]) (fun j hj _=>by simp at hj;simp [hj])
  have at_:∀ j,j < H1.length→j ≠ r→((H2.set H1.length p).set r (.row 5 (partT (m++[a]) F.blocks_.length zBlock)))[j]? = H1[j]?:=fun j hj hn=>(ho.at_ j (by omega) (by simp;omega)).trans (q.old.at_ j hj List.not_mem_nil)
  refine ⟨(at_ _ (by omega) (by omega)).trans k.box,(at_ _ (by omega) (by omega)).trans k.out,(at_ _ c0 hcr).trans k.cell,f2,⟨by simp;have:=k.old.len;omega,fun j hj _=>(at_ j (by have:=k.old.len;omega) (by omega)).trans (k.old.at_ j hj List.not_mem_nil)⟩,hcc,hr,hcr,fun hm=>?_,fun b hb=>?_⟩
  · rw [List.flatMap_append] at hm
    rcases List.mem_append.1 hm with q | q
    · exact k.hm q
    · have:=ida c (by simpa using q);omega
  · rcases List.mem_append.1 hb with h | h
    · exact k.sol b h
    · rw [List.mem_singleton.1 h,← ha]
      have e1:mi.length=x.insts_.length:=Nat.le_antisymm q.fi.le hi
      have e2:mj.length=x.jumps_.length:=Nat.le_antisymm q.fj.le hj
      exact ⟨by rw [show (⟨x.params_,⟨.sl ri 3 0 x.insts_.length,mi⟩,x.end_,x.value_,⟨.sl rj 2 0 x.jumps_.length,mj⟩⟩:ABlock).insts_.l.length=mi.length from rfl,e1];rfl,by rw [show (⟨x.params_,⟨.sl ri 3 0 x.insts_.length,mi⟩,x.end_,x.value_,⟨.sl rj 2 0 x.jumps_.length,mj⟩⟩:ABlock).jumps_.l.length=mj.length from rfl,e2];rfl⟩
theorem CF.done {H:Heap} {F:Func} {c r:Nat} {m:List ABlock} {H1:Heap} (k:CF H F c r m H1) (h:F.blocks_.length≤m.length) {p:Place} {Q:V→Heap→Prop} (hq:∀ (a:AFunc) (H':Heap),Tr.era a=F→a.params_=F.params_→a.blocks_.v=.sl r 5 0 F.blocks_.length→solF a→New H H' a→Q (.agg [.d (.int .i64 F.params_),.sl r 5 0 F.blocks_.length]) H') :
    ∃ r' H',Fin H.length (H1.set (H.length + 1) p) (.agg [.d (.int .i64 F.params_),.sl r 5 0 F.blocks_.length]) H' r'∧Q r' H':=by
  have hr:=k.hr
  have f1:Fl r F.blocks_ zBlock id m (H1.set (H.length + 1) p):=k.fl.frame (S:=[H.length + 1]) Only.set (by simp;omega) (fun j hj=>by have:=k.fl.ge j hj;simp;omega)
  obtain ⟨o,e,i⟩:=f1.done h
  refine fin_new (a:=(⟨F.params_,⟨.sl r 5 0 F.blocks_.length,m⟩⟩:AFunc)) (AFunc.own o) ⟨by simp;exact k.old.len,fun j hj _=>by rw [List.getElem?_set_ne (by omega)];exact k.old.at_ j hj List.not_mem_nil⟩ (fun j hj=>?_) fun H' h'=>hq _ H' ?_ rfl rfl ⟨by rw [show (⟨F.params_,⟨.sl r 5 0 F.blocks_.length,m⟩⟩:AFunc).blocks_.l.length=m.length from rfl,Nat.le_antisymm k.fl.le h];rfl,k.sol⟩ h'
  · replace hj:j∈r :: m.flatMap ids:=i ▸ hj
    rcases List.mem_cons.1 hj with rfl | hj
    · omega
    · have:=k.fl.ge j hj;omega
  · show Func.mk F.params_ (m.map Tr.era)=F
    rw [e,List.map_id]
theorem cloneFunc_sol (H : Heap) (F : Func) (hs : smallF F) : CallsD Tryz.prog 63 [vFunc F] H fun r H' => ∃ a : AFunc, r = .agg (Tr.cells a) ∧ (Tr.era a = F ∧ solF a) ∧ New H H' a := by
  obtain ⟨hb8,hbb⟩:=hs
  refine calls_of Tryz.func63 en_63 rfl (of_decide_eq_true rfl) (W_runS mixed [1,5] ⟨[K_cloneN],[K_cloneNh],[1000058],84,H.length,[0,1,2,3,4,5,6,7,8,9,10,11,20,21,22,23,36,37,38,39,56,57,58,59],[23,39,59]⟩ (fun | 1=>[0,2,1,3,4,5,6,7,8] | 5=>[0,4,1,2,5,6,3,8,7,9] | 9=>[0,1,2,4,6,3,5,7,8,9,10,11] | 14=>[0,1,2,4,3,5,6,7,8,9] | _=>[]) (by kernel_rfl) ?_)
  simp only [Tryz.f63,stripS,skip_cons,skip_nil,Nat.reduceBEq,Bool.or_false,Bool.or_self,Bool.or_true,Bool.true_or,cond_true,cond_false,stripX,stripOps,pickOps]
  simp [K_cloneN_f,K_cloneN_e,K_cloneNh_f,K_cloneNh_e,K_cloneNh_g,-V.flat,-V.one,one_int,one_bool,one_str,one_nilp,one_rp,one_nilsl,one_ro,one_cl,one_nilf,one_nili,one_ifc,one_ptr,one_sl,one_clo,flat_d,flat_ptr,flat_sl,flat_clo,flat_agg]
  refine W_mid (α:=Nat × Nat × Heap) (fun a=>[(0,vFunc F),(1,.ptr H.length 2 0 0),(2,.ptr (H.length + 1) 2 0 0),(3,.ptr a.1 2 0 0),(4,.d .undef)]++cfS.map fun t=>(t,.d .undef)) (fun a=>a.2.2) (fun a=>CF H F a.1 a.2.1 [] a.2.2) ?_ ?_
  · refine W_draw2 mixed ⟨[K_cloneN],[K_cloneNh],[1000058],84,H.length,[0,1,2,3,4,5,6,7,8,9,10,11,20,21,22,23,36,37,38,39,56,57,58,59],[23,39,59]⟩ [0,2,1,3,4] 5 7 [6,8] [0,1,2,3,4,5,6,7,8,9,10,11,20,21,22,23,36,37,38,39,56,57,58,59,12,13,14,15,16,17,18] (by kernel_rfl) (by kernel_rfl) ?_
    simp only [stripOps,pickOps]
    simp [K_cloneN_f,K_cloneN_e,K_cloneNh_f,K_cloneNh_e,K_cloneNh_g,-V.flat,-V.one,one_int,one_bool,one_str,one_nilp,one_rp,one_nilsl,one_ro,one_cl,one_nilf,one_nili,one_ifc,one_ptr,one_sl,one_clo,flat_d,flat_ptr,flat_sl,flat_clo,flat_agg,hb8]
    exact ⟨⟨by omega,_,⟨_,cf1⟩,rfl⟩,by omega,_,⟨_,cf2⟩,rfl⟩
  rintro ⟨c,r,H1⟩ k
  replace k:CF H F c r [] H1:=k
  have kb:=k.box
  simp [K_cloneN_f,K_cloneN_e,K_cloneNh_f,K_cloneNh_e,K_cloneNh_g,-V.flat,-V.one,one_int,one_bool,one_str,one_nilp,one_rp,one_nilsl,one_ro,one_cl,one_nilf,one_nili,one_ifc,one_ptr,one_sl,one_clo,flat_d,flat_ptr,flat_sl,flat_clo,flat_agg,kb]
  refine W_loopH (α:=List ABlock × Heap) (fun a=>[(2,.ptr (H.length + 1) 2 0 0),(3,.ptr c 2 0 0),(20,.d (dBlockS F.blocks_)),(21,.d (.int .i64 F.blocks_.length)),(22,.d (.int .i64 a.1.length))]) (fun a=>a.2)
    (fun a=>CF H F c r a.1 a.2) (fun a=>F.blocks_.length - a.1.length) ([],H1) ?_ k ?_
  · simp
  rintro ⟨m,H1⟩ k
  replace k:CF H F c r m H1:=k
  have kc:=k.cell
  have ko:=k.out
  have hset:∀ p,(H1.set (H.length + 1) p)[H.length + 1]? = some p:=fun p=>List.getElem?_set_self (List.getElem?_eq_some_iff.1 ko).1
  refine W_runS mixed [5] ⟨[K_cloneN],[K_cloneNh],[1000058],84,H.length,[0,1,2,3,4,5,6,7,8,9,10,11,20,21,22,23,36,37,38,39,56,57,58,59],[23,39,59]⟩ (fun | 1=>[0,2,1,3,4,5,6,7,8] | 5=>[0,4,1,2,5,6,3,8,7,9] | 9=>[0,1,2,4,6,3,5,7,8,9,10,11] | 14=>[0,1,2,4,3,5,6,7,8,9] | _=>[]) (by kernel_rfl) ?_
  simp only [stripS,skip_cons,skip_nil,Nat.reduceBEq,Bool.or_false,Bool.or_self,Bool.or_true,Bool.true_or,cond_true,cond_false,stripX,stripOps,pickOps]
  simp [K_cloneN_f,K_cloneN_e,K_cloneNh_f,K_cloneNh_e,K_cloneNh_g,-V.flat,-V.one,one_int,one_bool,one_str,one_nilp,one_rp,one_nilsl,one_ro,one_cl,one_nilf,one_nili,one_ifc,one_ptr,one_sl,one_clo,flat_d,flat_ptr,flat_sl,flat_clo,flat_agg,retQ,kc,ko,hset]
  refine ⟨fun hm=>⟨hm, ?_⟩,fun hm=>?_⟩
  · have hbx:(F.blocks_[m.length]?.getD default)∈F.blocks_:=by rw [List.getElem?_eq_getElem hm];exact List.getElem_mem hm
    obtain ⟨hi80,hj2,hia,hja⟩:=hbb _ hbx
    generalize hx:(F.blocks_[m.length]?.getD default)=x at hi80 hj2 hia hja ⊢
    refine W_mid (α:=Nat × Nat × Heap) (fun a=>[(0,.d .undef),(1,.d .undef),(2,.ptr (H.length + 1) 2 0 0),(3,.ptr c 2 0 0),(4,.d (.int .i64 m.length)),(5,.ptr H1.length 5 0 0),(6,.sl a.1 3 0 x.insts_.length),(7,.sl a.2.1 2 0 x.jumps_.length),(8,.d .undef),(9,.d .undef),(10,.d .undef),(11,.d .undef),(20,.d (dBlockS F.blocks_)),(21,.d (.int .i64 F.blocks_.length)),(22,.d (.int .i64 m.length)),(23,.d (.bool true)),(36,.d .undef),(37,.d .undef),(38,.d .undef),(39,.d .undef),(56,.d .undef),(57,.d .undef),(58,.d .undef),(59,.d .undef)])
      (fun a=>a.2.2) (fun a=>CB H1 x a.1 a.2.1 [] [] a.2.2) ?_ ?_
    · refine W_draw2 mixed ⟨[K_cloneN],[K_cloneNh],[1000058],84,H.length,[0,1,2,3,4,5,6,7,8,9,10,11,20,21,22,23,36,37,38,39,56,57,58,59],[23,39,59]⟩ [0,4,1,2,5,6] 3 7 [8,9] [0,1,2,3,4,5,6,7,8,9,10,11,20,21,22,23,36,37,38,39,56,57,58,59,27,28,29,30,31,32,33,34] (by kernel_rfl) (by kernel_rfl) ?_
      simp only [stripOps,pickOps]
      simp [K_cloneN_f,K_cloneN_e,K_cloneNh_f,K_cloneNh_e,K_cloneNh_g,-V.flat,-V.one,one_int,one_bool,one_str,one_nilp,one_rp,one_nilsl,one_ro,one_cl,one_nilf,one_nili,one_ifc,one_ptr,one_sl,one_clo,flat_d,flat_ptr,flat_sl,flat_clo,flat_agg,hi80,hj2]
      exact ⟨⟨by omega,by omega,_,_,cb1,rfl⟩,by omega,by omega,_,_,cb2,rfl⟩
    rintro ⟨ri,rj,H2⟩ q
    replace q:CB H1 x ri rj [] [] H2:=q
    have qc:=q.cell
    simp [K_cloneN_f,K_cloneN_e,K_cloneNh_f,K_cloneNh_e,K_cloneNh_g,-V.flat,-V.one,one_int,one_bool,one_str,one_nilp,one_rp,one_nilsl,one_ro,one_cl,one_nilf,one_nili,one_ifc,one_ptr,one_sl,one_clo,flat_d,flat_ptr,flat_sl,flat_clo,flat_agg,qc]
    refine W_loopH (α:=List AInst × Heap) (fun a=>[(2,.ptr (H.length + 1) 2 0 0),(3,.ptr c 2 0 0),(4,.d (.int .i64 m.length)),(5,.ptr H1.length 5 0 0),(6,.sl ri 3 0 x.insts_.length),(7,.sl rj 2 0 x.jumps_.length),(20,.d (dBlockS F.blocks_)),(21,.d (.int .i64 F.blocks_.length)),(22,.d (.int .i64 m.length)),(36,.d (dInstS x.insts_)),(37,.d (.int .i64 x.insts_.length)),(38,.d (.int .i64 a.1.length))])
      (fun a=>a.2) (fun a=>CB H1 x ri rj a.1 [] a.2) (fun a=>x.insts_.length - a.1.length) ([],H2) ?_ q ?_
    · simp
    clear q qc
    rintro ⟨mi,H2⟩ q
    replace q:CB H1 x ri rj mi [] H2:=q
    have qc:=q.cell
    have hpl:=partT_len (z:=zInst) q.fi.le
    by_cases hin:x.insts_.length≤mi.length
    · refine W_runS mixed [5] ⟨[K_cloneN],[K_cloneNh],[1000058],84,H.length,[0,1,2,3,4,5,6,7,8,9,10,11,20,21,22,23,36,37,38,39,56,57,58,59],[23,39,59]⟩ (fun | 1=>[0,2,1,3,4,5,6,7,8] | 5=>[0,4,1,2,5,6,3,8,7,9] | 9=>[0,1,2,4,6,3,5,7,8,9,10,11] | 14=>[0,1,2,4,3,5,6,7,8,9] | _=>[]) (by kernel_rfl) ?_
      simp only [stripS,skip_cons,skip_nil,Nat.reduceBEq,Bool.or_false,Bool.or_self,Bool.or_true,Bool.true_or,cond_true,cond_false,stripX,stripOps,pickOps]
      simp [K_cloneN_f,K_cloneN_e,K_cloneNh_f,K_cloneNh_e,K_cloneNh_g,-V.flat,-V.one,one_int,one_bool,one_str,one_nilp,one_rp,one_nilsl,one_ro,one_cl,one_nilf,one_nili,one_ifc,one_ptr,one_sl,one_clo,flat_d,flat_ptr,flat_sl,flat_clo,flat_agg,qc,hin]
      refine ⟨fun h=>absurd hin (by omega), ?_⟩
      refine W_loopH (α:=List AJump × Heap) (fun a=>[(2,.ptr (H.length + 1) 2 0 0),(3,.ptr c 2 0 0),(4,.d (.int .i64 m.length)),(5,.ptr H1.length 5 0 0),(6,.sl ri 3 0 x.insts_.length),(7,.sl rj 2 0 x.jumps_.length),(20,.d (dBlockS F.blocks_)),(21,.d (.int .i64 F.blocks_.length)),(22,.d (.int .i64 m.length)),(56,.d (dJumpS x.jumps_)),(57,.d (.int .i64 x.jumps_.length)),(58,.d (.int .i64 a.1.length))])
        (fun a=>a.2) (fun a=>CB H1 x ri rj mi a.1 a.2) (fun a=>x.jumps_.length - a.1.length) ([],H2) ?_ q ?_
      · simp
      clear q qc
      rintro ⟨mj,H2⟩ q
      replace q:CB H1 x ri rj mi mj H2:=q
      have qc:=q.cell
      by_cases hjn:x.jumps_.length≤mj.length
      · have hs1:∀ p,(H2.set H1.length p)[H1.length]? = some p:=fun p=>List.getElem?_set_self (List.getElem?_eq_some_iff.1 qc).1
        have hsc:∀ p,(H2.set H1.length p)[c]? = some (.row 2 [[.d (.int .i64 F.params_),.sl r 5 0 F.blocks_.length]]):=fun p=>by
          have:=(List.getElem?_eq_some_iff.1 k.cell).1
          rw [List.getElem?_set_ne (by omega)];exact (q.old.at_ c this List.not_mem_nil).trans k.cell
        have hsr:∀ p,(H2.set H1.length p)[r]? = some (.row 5 (partT m F.blocks_.length zBlock)):=fun p=>by
          have:=k.fl.lt
          rw [List.getElem?_set_ne (by omega)];exact (q.old.at_ r this List.not_mem_nil).trans k.fl.row
        have hpl:=partT_len (z:=zBlock) k.fl.le
        have hpb:=partT_get (z:=zBlock) hm
        refine W_runS mixed [5] ⟨[K_cloneN],[K_cloneNh],[1000058],84,H.length,[0,1,2,3,4,5,6,7,8,9,10,11,20,21,22,23,36,37,38,39,56,57,58,59],[23,39,59]⟩ (fun | 1=>[0,2,1,3,4,5,6,7,8] | 5=>[0,4,1,2,5,6,3,8,7,9] | 9=>[0,1,2,4,6,3,5,7,8,9,10,11] | 14=>[0,1,2,4,3,5,6,7,8,9] | _=>[]) (by kernel_rfl) ?_
        simp only [stripS,skip_cons,skip_nil,Nat.reduceBEq,Bool.or_false,Bool.or_self,Bool.or_true,Bool.true_or,cond_true,cond_false,stripX,stripOps,pickOps]
        simp [K_cloneN_f,K_cloneN_e,K_cloneNh_f,K_cloneNh_e,K_cloneNh_g,-V.flat,-V.one,one_int,one_bool,one_str,one_nilp,one_rp,one_nilsl,one_ro,one_cl,one_nilf,one_nili,one_ifc,one_ptr,one_sl,one_clo,flat_d,flat_ptr,flat_sl,flat_clo,flat_agg,qc,hjn,hs1,hsc,hsr,hpl,hpb]
        exact ⟨fun h=>absurd hjn (by omega),hm,_,_,k.step q hm hx hin hjn,by simp;omega,rfl,by rw [wrap_id] <;> (try simp) <;> omega⟩
      have hrl:=q.fj.lt
      have hrow:∀ R:Heap,(H2++R)[rj]? = some (.row 2 (partT mj x.jumps_.length zJump)):=fun R=>(List.getElem?_append_left hrl).trans q.fj.row
      have hpl:=partT_len (z:=zJump) q.fj.le
      have hal:(x.jumps_[mj.length]?.getD default).args_.length≤1000:=hja _ (by rw [List.getElem?_eq_getElem (by omega)];exact List.getElem_mem (by omega))
      by_cases h0:(x.jumps_[mj.length]?.getD default).args_=[]
      · refine W_runS mixed [5] ⟨[K_cloneE],[K_cloneEh],[],84,H.length,[0,1,2,3,4,5,6,7,8,9,10,11,20,21,22,23,36,37,38,39,56,57,58,59],[23,39,59]⟩ (fun | 1=>[0,2,1,3,4,5,6,7,8] | 5=>[0,4,1,2,5,6,3,8,7,9] | 9=>[0,1,2,4,6,3,5,7,8,9,10,11] | 14=>[0,1,2,4,3,5,6,7,8,9] | _=>[]) (by kernel_rfl) ?_
        simp only [stripS,skip_cons,skip_nil,Nat.reduceBEq,Bool.or_false,Bool.or_self,Bool.or_true,Bool.true_or,cond_true,cond_false,stripX,stripOps,pickOps]
        simp [K_cloneE_f,K_cloneE_e,K_cloneEh_f,K_cloneEh_e,K_cloneEh_g,-V.flat,-V.one,one_int,one_bool,one_str,one_nilp,one_rp,one_nilsl,one_ro,one_cl,one_nilf,one_nili,one_ifc,one_ptr,one_sl,one_clo,flat_d,flat_ptr,flat_sl,flat_clo,flat_agg,qc,hpl,hrow,hrl,h0]
        refine ⟨fun h=>⟨h,mj++[⟨(x.jumps_[mj.length]?.getD default).to_,⟨.d (dIntS []),[]⟩⟩],_, ?_,by simp;omega,rfl, ?_⟩,fun h=>absurd h hjn⟩
        · rw [partT_get h]
          exact q.putJ h (R:=[_]) ⟨(x.jumps_[mj.length]?.getD default).to_,⟨.d (dIntS []),[]⟩⟩ (AJump.own own_ro) (fun j hj=>absurd hj List.not_mem_nil) (by show Jump.mk _ []=_;rw [← h0])
        · rw [wrap_id] <;> (try simp) <;> omega
      · refine W_runS mixed [5] ⟨[K_cloneN],[K_cloneNh],[1000058],84,H.length,[0,1,2,3,4,5,6,7,8,9,10,11,20,21,22,23,36,37,38,39,56,57,58,59],[23,39,59]⟩ (fun | 1=>[0,2,1,3,4,5,6,7,8] | 5=>[0,4,1,2,5,6,3,8,7,9] | 9=>[0,1,2,4,6,3,5,7,8,9,10,11] | 14=>[0,1,2,4,3,5,6,7,8,9] | _=>[]) (by kernel_rfl) ?_
        simp only [stripS,skip_cons,skip_nil,Nat.reduceBEq,Bool.or_false,Bool.or_self,Bool.or_true,Bool.true_or,cond_true,cond_false,stripX,stripOps,pickOps]
        simp [K_cloneN_f,K_cloneN_e,K_cloneNh_f,K_cloneNh_e,K_cloneNh_g,-V.flat,-V.one,one_int,one_bool,one_str,one_nilp,one_rp,one_nilsl,one_ro,one_cl,one_nilf,one_nili,one_ifc,one_ptr,one_sl,one_clo,flat_d,flat_ptr,flat_sl,flat_clo,flat_agg,qc,hpl,hrow,hrl,h0,hal]
        refine ⟨fun h=>⟨h,mj++[⟨(x.jumps_[mj.length]?.getD default).to_,⟨.sl (H2.length + 1) 1 0 (x.jumps_[mj.length]?.getD default).args_.length,(x.jumps_[mj.length]?.getD default).args_⟩⟩],_, ?_,by simp;omega,rfl, ?_⟩,fun h=>absurd h hjn⟩
        · rw [partT_get h]
          refine q.putJ h (R:=[_,_]) ⟨_,⟨.sl (H2.length + 1) 1 0 _,(x.jumps_[mj.length]?.getD default).args_⟩⟩ (AJump.own (own_row ?_)) (fun j hj=>?_) ?_
          · rw [List.getElem?_append_right (by omega),Nat.add_sub_cancel_left];rfl
          · rw [ids_AJump,ids_row] at hj
            rw [List.mem_singleton.1 hj];omega
          · show Jump.mk _ (List.map _ _)=_
            rw [era_ints]
        · rw [wrap_id] <;> (try simp) <;> omega
    have hrl:=q.fi.lt
    have hrow:∀ R:Heap,(H2++R)[ri]? = some (.row 3 (partT mi x.insts_.length zInst)):=fun R=>(List.getElem?_append_left hrl).trans q.fi.row
    have hal:(x.insts_[mi.length]?.getD default).args_.length≤1000:=hia _ (by rw [List.getElem?_eq_getElem (by omega)];exact List.getElem_mem (by omega))
    by_cases h0:(x.insts_[mi.length]?.getD default).args_=[]
    · refine W_runS mixed [5] ⟨[K_cloneE],[K_cloneEh],[],84,H.length,[0,1,2,3,4,5,6,7,8,9,10,11,20,21,22,23,36,37,38,39,56,57,58,59],[23,39,59]⟩ (fun | 1=>[0,2,1,3,4,5,6,7,8] | 5=>[0,4,1,2,5,6,3,8,7,9] | 9=>[0,1,2,4,6,3,5,7,8,9,10,11] | 14=>[0,1,2,4,3,5,6,7,8,9] | _=>[]) (by kernel_rfl) ?_
      simp only [stripS,skip_cons,skip_nil,Nat.reduceBEq,Bool.or_false,Bool.or_self,Bool.or_true,Bool.true_or,cond_true,cond_false,stripX,stripOps,pickOps]
      simp [K_cloneE_f,K_cloneE_e,K_cloneEh_f,K_cloneEh_e,K_cloneEh_g,-V.flat,-V.one,one_int,one_bool,one_str,one_nilp,one_rp,one_nilsl,one_ro,one_cl,one_nilf,one_nili,one_ifc,one_ptr,one_sl,one_clo,flat_d,flat_ptr,flat_sl,flat_clo,flat_agg,qc,hpl,hrow,hrl,h0]
      refine ⟨fun h=>⟨h,mi++[⟨(x.insts_[mi.length]?.getD default).op_,(x.insts_[mi.length]?.getD default).n_,⟨.d (dIntS []),[]⟩⟩],_, ?_,by simp;omega,rfl, ?_⟩,fun h=>absurd h hin⟩
      · rw [partT_get h]
        exact q.putI h (R:=[_]) ⟨_,_,⟨.d (dIntS []),[]⟩⟩ (AInst.own own_ro) (fun j hj=>absurd hj List.not_mem_nil) (by show Inst.mk _ _ []=_;rw [← h0])
      · rw [wrap_id] <;> (try simp) <;> omega
    · refine W_runS mixed [5] ⟨[K_cloneN],[K_cloneNh],[1000058],84,H.length,[0,1,2,3,4,5,6,7,8,9,10,11,20,21,22,23,36,37,38,39,56,57,58,59],[23,39,59]⟩ (fun | 1=>[0,2,1,3,4,5,6,7,8] | 5=>[0,4,1,2,5,6,3,8,7,9] | 9=>[0,1,2,4,6,3,5,7,8,9,10,11] | 14=>[0,1,2,4,3,5,6,7,8,9] | _=>[]) (by kernel_rfl) ?_
      simp only [stripS,skip_cons,skip_nil,Nat.reduceBEq,Bool.or_false,Bool.or_self,Bool.or_true,Bool.true_or,cond_true,cond_false,stripX,stripOps,pickOps]
      simp [K_cloneN_f,K_cloneN_e,K_cloneNh_f,K_cloneNh_e,K_cloneNh_g,-V.flat,-V.one,one_int,one_bool,one_str,one_nilp,one_rp,one_nilsl,one_ro,one_cl,one_nilf,one_nili,one_ifc,one_ptr,one_sl,one_clo,flat_d,flat_ptr,flat_sl,flat_clo,flat_agg,qc,hpl,hrow,hrl,h0,hal]
      refine ⟨fun h=>⟨h,mi++[⟨(x.insts_[mi.length]?.getD default).op_,(x.insts_[mi.length]?.getD default).n_,⟨.sl (H2.length + 1) 1 0 (x.insts_[mi.length]?.getD default).args_.length,(x.insts_[mi.length]?.getD default).args_⟩⟩],_, ?_,by simp;omega,rfl, ?_⟩,fun h=>absurd h hin⟩
      · rw [partT_get h]
        refine q.putI h (R:=[_,_]) ⟨_,_,⟨.sl (H2.length + 1) 1 0 _,(x.insts_[mi.length]?.getD default).args_⟩⟩ (AInst.own (own_row ?_)) (fun j hj=>?_) ?_
        · rw [List.getElem?_append_right (by omega),Nat.add_sub_cancel_left];rfl
        · rw [ids_AInst,ids_row] at hj
          rw [List.mem_singleton.1 hj];omega
        · show Inst.mk _ _ (List.map _ _)=_
          rw [era_ints]
      · rw [wrap_id] <;> (try simp) <;> omega
  · exact k.done hm fun a H' e1 e2 e3 e5 e4=>⟨a,by rw [e2,e3],⟨e1,e5⟩,e4⟩
theorem cloneFunc_own (H:Heap) (F:Func) (hs:smallF F):CallsD Tryz.prog 63 [vFunc F] H fun r H'=>∃ a:AFunc,r=.agg (Tr.cells a)∧Tr.era a=F∧New H H' a :=
  (cloneFunc_sol H F hs).mono fun r H' ⟨a,h1,h2,h3⟩=>⟨a,h1,h2.1,h3⟩
end Go.Proofs.YtnomiclfiijniaaGreat
