/- The reference's count of uses. No condition. -/
import Derived.Test.YtnomiclfiijniaaQE9
import Derived.Test.YtnomiclfiijniaaQS23
import Derived.Test.YtnomiclfiijniaaQS42
section
namespace Go.Proofs.Ytnomiclfiijniaa
set_option maxRecDepth 100000
set_option linter.unusedSimpArgs false
set_option linter.unusedVariables false
end Go.Proofs.Ytnomiclfiijniaa
end

section
namespace Go.Proofs.Ytnomiclfiijniaa
set_option maxRecDepth 100000
set_option linter.unusedSimpArgs false
set_option linter.unusedVariables false
end Go.Proofs.Ytnomiclfiijniaa
end

section
namespace Go.Proofs.Ytnomiclfiijniaa
set_option maxRecDepth 100000
set_option linter.unusedSimpArgs false
set_option linter.unusedVariables false
structure VW (n0:Nat) (A:AFunc) (F:Func) (w f b:Nat) (G:Heap):Prop where
  view:G[w]? = some (.row 5 [[.d (.int .i64 A.params_),.sl A.blocks_.id 5 0 A.blocks_.l.length,.sl f 1 0 (viewD F).first_.length,.sl b 1 0 (viewD F).block_.length,.d (.int .i64 (many F))]])
  fr:G[f]? = some (.row 1 (rI (viewD F).first_))
  br:G[b]? = some (.row 1 (rI (viewD F).block_))
  ge:n0≤w∧n0≤f∧n0≤b
structure NV (H:Heap) (A:AFunc) (F:Func) (i:Nat) (fl bl:List Int) (tot:Int) (vf:V) (b:Nat) (H1:Heap):Prop where
  view:H1[H.length + 3]? = some (.row 5 [[.d (.int .i64 A.params_),.sl A.blocks_.id 5 0 A.blocks_.l.length,vf,.sl b 1 0 bl.length,.d (.int .i64 tot)]])
  gf:Gr (H.length + 4) fl vf H1
  gb:H1[b]? = some (.row 1 (rI bl))
  hb:H.length + 2≤b∧b ≠ H.length + 3
  ne:0 < fl.length→vf.slId ≠ b
  old:Only [] H H1
  le:i≤A.blocks_.l.length
  lf:fl.length=i
  lb:bl.length≤1000 * (i + 1)
  ef:fl++firsts (F.blocks_.drop i) tot=firsts F.blocks_ F.params_
  eb:bl++blkOf (F.blocks_.drop i) i=List.replicate F.params_.toNat (-1)++blkOf F.blocks_ 0
  ec:cntB (F.blocks_.drop i) tot=many F
end Go.Proofs.Ytnomiclfiijniaa
end

section
namespace Go.Proofs.Ytnomiclfiijniaa
set_option maxRecDepth 100000
set_option linter.unusedSimpArgs false
set_option linter.unusedVariables false
end Go.Proofs.Ytnomiclfiijniaa
end

section
namespace Go.Proofs.Ytnomiclfiijniaa
set_option maxRecDepth 100000
set_option linter.unusedSimpArgs false
set_option linter.unusedVariables false
def nuB (F:Func) (n:Int):Bool:=decide (0≤(instS F n F.blocks_ 0).1) && decide ((insAt F n).op_=1)
def nuN (F:Func) (n:Int):Int:=if nuB F n=true then (insAt F n).n_ else 0
end Go.Proofs.Ytnomiclfiijniaa
end

section
namespace Go.Proofs.Ytnomiclfiijniaa
set_option maxRecDepth 100000
set_option linter.unusedSimpArgs false
set_option linter.unusedVariables false
def foldB (F:Func) (b:Block):Block :=
  if b.end_=3∧nuB F b.value_=true then ⟨b.params_,b.insts_,2,0,[b.jumps_[if nuN F b.value_=0 then 1 else 0]?.getD default]⟩ else b
def foldK (F:Func) (b:Block):Int:=if b.end_=3∧nuB F b.value_=true then 1 else 0
theorem Rd1.tup {H:Heap} {l l':List V} (h:Rds H l l'):Rd1 H (.tup l) (.tup l'):=fun X w φ v hs hv=>by
  simp only [VS] at hv ⊢
  obtain ⟨cs,rfl,h2⟩:=hv
  exact ⟨cs,rfl,Rd1.list h X w φ _ hs h2⟩
end Go.Proofs.Ytnomiclfiijniaa
end

section
namespace Go.Proofs.Ytnomiclfiijniaa
set_option maxRecDepth 100000
set_option linter.unusedSimpArgs false
set_option linter.unusedVariables false
end Go.Proofs.Ytnomiclfiijniaa
end

section
namespace Go.Proofs.Ytnomiclfiijniaa
set_option maxRecDepth 100000
set_option linter.unusedSimpArgs false
set_option linter.unusedVariables false
theorem good_all {F:Func} (h:goodF F=true) {b:Block} (hb:b∈F.blocks_):∀ x∈allU b,0≤x∧x < many F:=by
  obtain ⟨_,h2,h3⟩:=good_vals h hb
  intro x hx
  rcases List.mem_append.1 hx with q | q
  · obtain ⟨y,hy,hn⟩:=List.mem_flatMap.1 q
    exact (h2 y hy).2 x hn
  · exact h3 x q
theorem good_small {F:Func} (h:goodF F=true):smallF F:=by
  obtain ⟨_,hl,_,_,_,_,_⟩:=goodF_spec h
  refine ⟨by omega,fun b hb=>?_⟩
  obtain ⟨h1,h2,_⟩:=good_vals h hb
  obtain ⟨h3,h4⟩:=good_end h b hb
  exact ⟨h1,h3,fun x hx=>(h2 x hx).1,fun j hj=>by have:=h4 j hj;omega⟩
end Go.Proofs.Ytnomiclfiijniaa
end

section
namespace Go.Proofs.Ytnomiclfiijniaa
set_option maxRecDepth 100000
set_option linter.unusedSimpArgs false
set_option linter.unusedVariables false
end Go.Proofs.Ytnomiclfiijniaa
end

section
namespace Go.Proofs.Ytnomiclfiijniaa
set_option maxRecDepth 100000
set_option linter.unusedSimpArgs false
set_option linter.unusedVariables false
structure At (H:Heap) (idf:Nat) (A:AFunc):Prop where
  row:H[idf]? = some (.row 2 [[.d (.int .i64 A.params_),A.blocks_.v]])
  own:Own H A
  sol:solF A
  nin:idf ∉ ids A
  good:goodF (Tr.era A)=true
  enc:Enc.good (Tr.era A)
structure PR (H:Heap) (idf:Nat) (A A':AFunc) (H':Heap):Prop where
  at_:At H' idf A'
  ids:∀ j∈ids A',j∈ids A∨H.length≤j
  only:Only (idf :: Go.Proofs.Ytnomiclfiijniaa.ids A) H H'
end Go.Proofs.Ytnomiclfiijniaa
end

section
namespace Go.Proofs.Ytnomiclfiijniaa
set_option maxRecDepth 100000
set_option linter.unusedSimpArgs false
set_option linter.unusedVariables false
theorem many_rng {F:Func} (h:goodF F=true):0≤many F∧many F≤80:=by
  obtain ⟨hp,hl,hh,hm,hc,hs,_⟩:=goodF_spec h
  omega
end Go.Proofs.Ytnomiclfiijniaa
end

section
namespace Go.Proofs.Ytnomiclfiijniaa
set_option maxRecDepth 100000
set_option linter.unusedSimpArgs false
set_option linter.unusedVariables false
structure FE (A:AFunc) (F:Func) (H0:Heap) (m l:List ABlock) (k:Int) (H:Heap):Prop where
  own:Own H (⟨A.blocks_.v,m++l⟩:AS ABlock)
  left:l=A.blocks_.l.drop m.length
  sol:∀ b∈m++l,solB b
  era:m.map Tr.era=(F.blocks_.take m.length).map (foldB F)
  cnt:k=((F.blocks_.take m.length).map (foldK F)).sum
  ids:∀ j∈ids (⟨A.blocks_.v,m++l⟩:AS ABlock),j∈ids A.blocks_∨H0.length≤j
  only:Only (Go.Proofs.Ytnomiclfiijniaa.ids A.blocks_) H0 H
  le:m.length≤A.blocks_.l.length
end Go.Proofs.Ytnomiclfiijniaa
end

section
namespace Go.Proofs.Ytnomiclfiijniaa
set_option maxRecDepth 100000
set_option linter.unusedSimpArgs false
set_option linter.unusedVariables false
end Go.Proofs.Ytnomiclfiijniaa
end

section
namespace Go.Proofs.Ytnomiclfiijniaa
set_option maxRecDepth 100000
set_option linter.unusedSimpArgs false
set_option linter.unusedVariables false
structure FS (A:CFunc) (F:Func) (H0:Heap) (m l:List CBlock) (k:Int) (H:Heap):Prop where
  own:Own H (⟨A.blocks_.v,m++l⟩:AS CBlock)
  left:l=A.blocks_.l.drop m.length
  era:m.map Tr.era=(F.blocks_.take m.length).map (foldB F)
  cnt:k=((F.blocks_.take m.length).map (foldK F)).sum
  only:Only (Go.Proofs.Ytnomiclfiijniaa.ids A.blocks_) H0 H
  idv:A.blocks_.id∈Go.Proofs.Ytnomiclfiijniaa.ids A.blocks_
  idl:∀ j∈Go.Proofs.Ytnomiclfiijniaa.ids (⟨A.blocks_.v,m++l⟩:AS CBlock),j∈Go.Proofs.Ytnomiclfiijniaa.ids A.blocks_∨H0.length≤j
  le:m.length≤A.blocks_.l.length
end Go.Proofs.Ytnomiclfiijniaa
end

section
namespace Go.Proofs.Ytnomiclfiijniaa
set_option maxRecDepth 100000
set_option linter.unusedSimpArgs false
set_option linter.unusedVariables false
end Go.Proofs.Ytnomiclfiijniaa
end

section
namespace Go.Proofs.Ytnomiclfiijniaa
set_option maxRecDepth 100000
set_option linter.unusedSimpArgs false
set_option linter.unusedVariables false
theorem Gr.len {n0:Nat} {l:List Int} {v:V} {H:Heap} (h:Gr n0 l v H) (R:Heap):Gr n0 l v (H++R):=by
  rcases h with h | ⟨id,h1,h2,h3,h4⟩
  · exact .inl h
  · exact .inr ⟨id,h1,h2,h3,(List.getElem?_append_left (List.getElem?_eq_some_iff.1 h4).1).trans h4⟩
theorem l14End_lp (H:Heap) (b:Block) (h:smallEnd b) {c:Code} (hcd:(loopsIn (Try.f103.body.getD .skip))[0]? = some c) {Q:Exit→St→Prop} {s:St} {v0:V} {H0:Heap}
    (hs:IntoH s [(3,v0),(15,.d (dJumpS b.jumps_)),(16,.d (.int .i64 b.jumps_.length)),(17,.d (.int .i64 0))] H0) (hg:Gr H.length (endP b 0) v0 H0) (ho:Only [] H H0)
    (hq:∀ v H1 l',Gr H.length (usedL b) v H1→Only [] H H1→mk l' 3=v→Q (.exit 0) ⟨mk l',H1⟩):W Try.prog 27 H.length c Q s:=by
  cases hcd
  refine W_loopH (α:=Nat × V × Heap) (fun a=>[(3,a.2.1),(15,.d (dJumpS b.jumps_)),(16,.d (.int .i64 b.jumps_.length)),(17,.d (.int .i64 a.1))]) (fun a=>a.2.2)
    (fun a=>a.1≤b.jumps_.length∧Gr H.length (endP b a.1) a.2.1 a.2.2∧Only [] H a.2.2) (fun a=>b.jumps_.length - a.1) (0,v0,H0) hs ⟨Nat.zero_le _,hg,ho⟩ ?_
  rintro ⟨i,v,H1⟩ ⟨hi,hg,ho⟩
  simp only [] at hi hg ho
  have hol:=ho.len
  have hl:=endP_len h i hi
  have hj2:=h.1
  have wi:i < b.jumps_.length→IntKind.i64.wrap ((i:Int) + 1)=((i + 1:Nat):Int):=fun h=>by rw [wrap_id] <;> omega
  have step:i < b.jumps_.length→endP b (i + 1)=endP b i++(b.jumps_[i]?.getD default).args_:=fun q=>endP_succ q
  have fin:b.jumps_.length≤i→usedL b=endP b i:=fun q=>by
    unfold endP usedL;rw [List.take_of_length_le q]
  have has:i < b.jumps_.length→(b.jumps_[i]?.getD default).args_.length≤100:=fun q=>h.2 _ (by rw [List.getElem?_eq_getElem q];exact List.getElem_mem _)
  have hu:=upto_all (b.jumps_[i]?.getD default).args_
  generalize hargs:(b.jumps_[i]?.getD default).args_=av at step has hu
  generalize hacc:endP b i=acc at hg step fin hl
  have hg0:=hg
  rcases hg with ⟨rfl,rfl⟩ | ⟨id,rfl,hp,hi0,hr⟩
  · refine W_run mixed ⟨[],[],[],27,H.length,[0,1,2,3,5,8,15,16,17,18],[8,18]⟩ (fun _=>[]) (by kernel_rfl) ?_
    simp only [stripX,stripOps,pickOps]
    simp [-V.flat,-V.one,one_int,one_bool,one_str,one_nilp,one_rp,one_nilsl,one_ro,one_cl,one_nilf,one_nili,one_ifc,one_ptr,one_sl,one_clo,flat_d,flat_ptr,flat_sl,flat_clo,flat_agg,hargs,hu]
    refine ⟨fun q=>⟨q,by have:=has q;omega,fun e=>?_,fun e=>?_⟩,fun q=>?_⟩
    · exact ⟨i + 1,_,_,⟨by omega,by rw [step q,e];exact hg0.len _,only_more ho⟩,by omega,rfl,rfl,wi q⟩
    · exact ⟨i + 1,_,_,⟨by omega,by rw [step q,List.nil_append];exact Gr.new hol (by cases av;exact absurd rfl e;simp) rfl rfl,only_more ho⟩,by omega,rfl,rfl,wi q⟩
    · exact hq _ _ _ (by rw [fin q];exact hg0) ho rfl
  · have hid:=(List.getElem?_eq_some_iff.1 hr).1
    have hr':∀ R:Heap,(H1++R)[id]? = some (.row 1 (rI acc)):=fun R=>(List.getElem?_append_left hid).trans hr
    have hset:∀ (R:Heap) p,(H1++R).set id p=H1.set id p++R:=fun R p=>List.set_append_left _ _ hid
    refine W_run mixed ⟨[],[],[],27,H.length,[0,1,2,3,5,8,15,16,17,18],[8,18]⟩ (fun _=>[]) (by kernel_rfl) ?_
    simp only [stripX,stripOps,pickOps]
    simp [-V.flat,-V.one,one_int,one_bool,one_str,one_nilp,one_rp,one_nilsl,one_ro,one_cl,one_nilf,one_nili,one_ifc,one_ptr,one_sl,one_clo,flat_d,flat_ptr,flat_sl,flat_clo,flat_agg,hargs,hu,hr',hset]
    refine ⟨fun q=>⟨q,by have:=has q;omega, ?_⟩,fun q=>?_⟩
    · exact ⟨i + 1,_,_,⟨by omega,by rw [step q];exact Gr.new2 hol (by simp;omega) (by simp) (by simp),only_dead ho hi0⟩,by omega,rfl,rfl,wi q⟩
    · exact hq _ _ _ (by rw [fin q];exact hg0) ho rfl
theorem l14End_gr (H:Heap) (b:Block) (h:smallEnd b):CallsD Try.prog 103 [vBlock b] H fun r H'=>Gr H.length (usedL b) r H'∧Only [] H H':=by
  by_cases e:b.end_=2
  · have e0:endP b 0=[]:=by simp [endP,e]
    refine calls_of Try.func103 en_103 rfl (of_decide_eq_true rfl) (W_run mixed ⟨[],[],[],27,H.length,[0,1,2,3,5,8,15,16,17,18],[8,18]⟩ (fun _=>[]) (by kernel_rfl) ?_)
    simp only [Try.f103,stripX,stripOps,pickOps]
    simp [-V.flat,-V.one,one_int,one_bool,one_str,one_nilp,one_rp,one_nilsl,one_ro,one_cl,one_nilf,one_nili,one_ifc,one_ptr,one_sl,one_clo,flat_d,flat_ptr,flat_sl,flat_clo,flat_agg,e,retQ]
    refine l14End_lp H b h rfl (v0:=.d .nilsl) (H0:=H++[.row 5 [[.d (.int .i64 b.params_),.d (dInstS b.insts_),.d (.int .i64 b.end_),.d (.int .i64 b.value_),.d (dJumpS b.jumps_)]]]) ?_ ?_ ?_ fun v H1 l' hg ho hl'=>?_
    · simp [e]
    · rw [e0];exact .inl ⟨rfl,rfl⟩
    · exact Only.app _ _ _
    · simp [-V.flat,-V.one,one_int,one_bool,one_str,one_nilp,one_rp,one_nilsl,one_ro,one_cl,one_nilf,one_nili,one_ifc,one_ptr,one_sl,one_clo,flat_d,flat_ptr,flat_sl,flat_clo,flat_agg,hl']
      exact ⟨_,_,Fin.same ho.len,hg,ho⟩
  · have e0:endP b 0=[b.value_]:=by simp [endP,e]
    refine calls_of Try.func103 en_103 rfl (of_decide_eq_true rfl) (W_run mixed ⟨[],[],[],27,H.length,[0,1,2,3,5,8,15,16,17,18],[8,18]⟩ (fun _=>[]) (by kernel_rfl) ?_)
    simp only [Try.f103,stripX,stripOps,pickOps]
    simp [-V.flat,-V.one,one_int,one_bool,one_str,one_nilp,one_rp,one_nilsl,one_ro,one_cl,one_nilf,one_nili,one_ifc,one_ptr,one_sl,one_clo,flat_d,flat_ptr,flat_sl,flat_clo,flat_agg,e,retQ]
    refine l14End_lp H b h rfl (v0:=.sl (H.length + 2) 1 0 1) (H0:=H++[.row 5 [[.d (.int .i64 b.params_),.d (dInstS b.insts_),.d (.int .i64 b.end_),.d (.int .i64 b.value_),.d (dJumpS b.jumps_)]],.row 1 [[.d (.int .i64 b.value_)]],.row 1 [[.d (.int .i64 b.value_)]]]) ?_ ?_ ?_ fun v H1 l' hg ho hl'=>?_
    · simp
    · rw [e0];exact .inr ⟨H.length + 2,rfl,by simp,by omega,by simp⟩
    · exact Only.app _ _ _
    · simp [-V.flat,-V.one,one_int,one_bool,one_str,one_nilp,one_rp,one_nilsl,one_ro,one_cl,one_nilf,one_nili,one_ifc,one_ptr,one_sl,one_clo,flat_d,flat_ptr,flat_sl,flat_clo,flat_agg,hl']
      exact ⟨_,_,Fin.same ho.len,hg,ho⟩
def bseq (b:Block):List Int:=usedL b++b.insts_.flatMap (·.args_)
def accU (b:Block) (i:Nat):List Int:=usedL b++(b.insts_.take i).flatMap (·.args_)
theorem accU_succ {b:Block} {i:Nat} (h:i < b.insts_.length):accU b (i + 1)=accU b i++(b.insts_[i]?.getD default).args_:=by
  unfold accU
  rw [List.take_succ_eq_append_getElem h,List.flatMap_append,List.append_assoc,List.getElem?_eq_getElem h];simp
end Go.Proofs.Ytnomiclfiijniaa
end
