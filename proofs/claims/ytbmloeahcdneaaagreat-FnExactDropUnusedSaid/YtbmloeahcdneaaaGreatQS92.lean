/- The reference's count of uses. No condition. -/
import Derived.Test.YtbmloeahcdneaaaGreatQS37
import Derived.Test.YtbmloeahcdneaaaGreatQS49
import Derived.Test.YtbmloeahcdneaaaGreatQS61
import Derived.Test.YtbmloeahcdneaaaGreatQS79
import Derived.Test.YtbmloeahcdneaaaGreatQS91
section
namespace Go.Proofs.YtbmloeahcdneaaaGreat
set_option maxRecDepth 100000
set_option linter.unusedSimpArgs false
set_option linter.unusedVariables false
end Go.Proofs.YtbmloeahcdneaaaGreat
end

section
namespace Go.Proofs.YtbmloeahcdneaaaGreat
set_option maxRecDepth 100000
set_option linter.unusedSimpArgs false
set_option linter.unusedVariables false
end Go.Proofs.YtbmloeahcdneaaaGreat
end

section
namespace Go.Proofs.YtbmloeahcdneaaaGreat
set_option maxRecDepth 100000
set_option linter.unusedSimpArgs false
set_option linter.unusedVariables false
structure FE (A:AFunc) (F:Func) (H0:Heap) (m l:List ABlock) (k:Int) (H:Heap):Prop where
  own:Own H (⟨A.blocks_.v,m++l⟩:AS ABlock)
  left:l=A.blocks_.l.drop m.length
  sol:∀ b∈m++l,solB b
  era:m.map Tr.era=(F.blocks_.take m.length).map (foldB F)
  cnt:k=((F.blocks_.take m.length).map (foldK F)).sum
  ids:∀ j∈ids (⟨A.blocks_.v,m++l⟩:AS ABlock),j∈ids A.blocks_∨H0.length≤j
  only:Only (Go.Proofs.YtbmloeahcdneaaaGreat.ids A.blocks_) H0 H
  le:m.length≤A.blocks_.l.length
end Go.Proofs.YtbmloeahcdneaaaGreat
end

section
namespace Go.Proofs.YtbmloeahcdneaaaGreat
set_option maxRecDepth 100000
set_option linter.unusedSimpArgs false
set_option linter.unusedVariables false
end Go.Proofs.YtbmloeahcdneaaaGreat
end

section
namespace Go.Proofs.YtbmloeahcdneaaaGreat
set_option maxRecDepth 100000
set_option linter.unusedSimpArgs false
set_option linter.unusedVariables false
theorem l11Single_c (n:Int) (h0:0≤n) (h1:n≤1000):PureP Tryz.prog 81 [.d (.int .i64 n)] (· = .d (dIntS (sgl n.toNat))) :=
  PureP.of_own ((l11Single_own [] n h0 h1).mono fun r H' ⟨s,e,hs,hn⟩=>by
    have:=Rd1.slice hn.own
    rw [era_AS_ints,hs] at this
    rw [e];exact this)
noncomputable def K_81:Ent Tryz.prog:=Ent.p1 (α:=Int) 81 (fun n=>0≤n∧n≤1000) (fun n=>.d (dIntS (sgl n.toNat))) (fun n hc=>l11Single_c n hc.1 hc.2)
theorem K_81_f:K_81.f=81:=rfl
theorem K_81_e (n:Int):K_81.e [.d (.int .i64 n)]=some (0≤n∧n≤1000,.d (dIntS (sgl n.toNat)),[]):=by unfold K_81;exact Ent.p1_eq (α:=Int) n
noncomputable def K_81h:EntH Tryz.prog:=EntH.pk1 (α:=Int) 81 (fun n=>0≤n∧n≤1000) (fun n=>.d (dIntS (sgl n.toNat))) (fun n=>[]) (fun n hc=>PureP.ans (l11Single_c n hc.1 hc.2))
theorem K_81h_f:K_81h.f=81:=rfl
theorem K_81h_g:K_81h.gro=true:=rfl
theorem K_81h_e {x1:V} {H:Heap}:K_81h.e [x1] H=guardR ((decA (α:=Int) H x1).1) (peekR (0≤(decA (α:=Int) H x1).2∧(decA (α:=Int) H x1).2≤1000) (.d (dIntS (sgl (decA (α:=Int) H x1).2.toNat))) ([]) H):=rfl
theorem mpF_id {g:Int→Int} {F:Func} (h:∀ b∈F.blocks_,∀ x∈allU b,g x=x):mpF g F=F:=by
  rw [mpF_congr (h:=fun x=>x) h]
  have e1:∀ l:List Int,l.map (fun x=>x)=l:=fun l=>List.map_id' l
  have hI:∀ x:Inst,mpI (fun x=>x) x=x:=fun x=>by unfold mpI;rw [e1]
  have hJ:∀ x:Jump,mpJ (fun x=>x) x=x:=fun x=>by unfold mpJ;rw [e1]
  have hIl:∀ l:List Inst,l.map (mpI fun x=>x)=l:=fun l=>by rw [List.map_congr_left (g:=fun x=>x) fun x _=>hI x];exact List.map_id' l
  have hJl:∀ l:List Jump,l.map (mpJ fun x=>x)=l:=fun l=>by rw [List.map_congr_left (g:=fun x=>x) fun x _=>hJ x];exact List.map_id' l
  have hB:∀ b:Block,mpB (fun x=>x) b=b:=fun b=>by unfold mpB;rw [hIl,hJl];simp
  unfold mpF
  rw [List.map_congr_left (g:=fun x=>x) fun b _=>hB b,List.map_id']
theorem l15Own_own (H:Heap) (F:Func) (hF:Enc.good F) (hg:goodF F=true):CallsD Tryz.prog 98 [vFunc F] H fun r H'=>∃ A:CFunc,r=.agg (Tr.cells A)∧Own H' A∧Tr.era A=F∧Only [] H H'∧∀ j∈ids A,H.length≤j:=by
  obtain ⟨hp,hl,hh,hm,hc,hsu,_⟩:=goodF_spec hg
  have hmany:cntB F.blocks_ F.params_=many F:=rfl
  have h0:0≤many F∧many F≤1000:=by omega
  refine calls_of Tryz.func98 en_98 rfl (of_decide_eq_true rfl) (W_run mixed ⟨[K_80,K_81],[K_80h,K_81h],[82],8,H.length,[0,1,2],[]⟩ (fun | 1=>[0,1,2,3,4,5] | _=>[]) (by kernel_rfl) ?_)
  simp only [Tryz.f98,stripX,stripOps,pickOps]
  simp [K_80_f,K_80_e,K_81_f,K_81_e,K_80h_f,K_80h_e,K_81h_f,K_81h_e,K_80h_g,K_81h_g,-V.flat,-V.one,one_int,one_bool,one_str,one_nilp,one_rp,one_nilsl,one_ro,one_cl,one_nilf,one_nili,one_ifc,one_ptr,one_sl,one_clo,flat_d,flat_ptr,flat_sl,flat_clo,flat_agg,hF,hmany,h0]
  refine (l15Map_own _ F (sgl (many F).toNat) (by omega) (good_map hg (sgl_len _))).mono ?_
  rintro r H1 ⟨A,rfl,oA,eA,ho,iA⟩
  have hl1:=ho.len
  simp only [List.length_append,List.length_cons,List.length_nil] at hl1
  have iA':∀ j∈ids A,H.length + 2≤j:=fun j hj=>by have:=iA j hj;simp at this;omega
  have hfl:=oA.ok.1.flat
  have hone:=oA.ok.1.scl.2
  have k6:H1[H.length + 1]? = some (.row 2 [[.d (.int .i64 0),.d .nilsl]]):=(ho.at_ _ (by simp) List.not_mem_nil).trans (by simp)
  have s6:∀ p,(H1.set (H.length + 1) p)[H.length + 1]? = some p:=fun p=>List.getElem?_set_self (by omega)
  simp [K_80_f,K_80_e,K_81_f,K_81_e,K_82_f,K_82_e,K_80h_f,K_80h_e,K_81h_f,K_81h_e,K_82h_f,K_82h_e,K_80h_g,K_81h_g,K_82h_g,-V.flat,-V.one,one_int,one_bool,one_str,one_nilp,one_rp,one_nilsl,one_ro,one_cl,one_nilf,one_nili,one_ifc,one_ptr,one_sl,one_clo,flat_d,flat_ptr,flat_sl,flat_clo,flat_agg,hfl,hone,k6,s6,retQ]
  refine ⟨_,_,Fin.same (by simp;omega),A,rfl,oA.frame (S:=[H.length + 1]) Only.set fun j hj q=>by have:=iA' j hj;simp at q;omega, ?_,⟨by simp;omega,fun j hj _=>?_⟩,fun j hj=>by have:=iA' j hj;omega⟩
  · rw [eA]
    refine mpF_id fun b hb x hx=>?_
    have:=good_all hg hb x hx
    unfold mapL
    rw [sgl_get (by omega)]
    show ((x.toNat:Nat):Int)=x
    omega
  · rw [List.getElem?_set_ne (by omega)]
    exact (ho.at_ j (by simp;omega) List.not_mem_nil).trans (List.getElem?_append_left hj)
structure FS (A:CFunc) (F:Func) (H0:Heap) (m l:List CBlock) (k:Int) (H:Heap):Prop where
  own:Own H (⟨A.blocks_.v,m++l⟩:AS CBlock)
  left:l=A.blocks_.l.drop m.length
  era:m.map Tr.era=(F.blocks_.take m.length).map (foldB F)
  cnt:k=((F.blocks_.take m.length).map (foldK F)).sum
  only:Only (Go.Proofs.YtbmloeahcdneaaaGreat.ids A.blocks_) H0 H
  idv:A.blocks_.id∈Go.Proofs.YtbmloeahcdneaaaGreat.ids A.blocks_
  idl:∀ j∈Go.Proofs.YtbmloeahcdneaaaGreat.ids (⟨A.blocks_.v,m++l⟩:AS CBlock),j∈Go.Proofs.YtbmloeahcdneaaaGreat.ids A.blocks_∨H0.length≤j
  le:m.length≤A.blocks_.l.length
end Go.Proofs.YtbmloeahcdneaaaGreat
end

section
namespace Go.Proofs.YtbmloeahcdneaaaGreat
set_option maxRecDepth 100000
set_option linter.unusedSimpArgs false
set_option linter.unusedVariables false
theorem l15Own_c (F:Func) (hF:Enc.good F) (hg:goodF F=true):PureP Tryz.prog 98 [vFunc F] (· = vFunc F) :=
  PureP.of_own ((l15Own_own [] F hF hg).mono fun r H' ⟨A,e,oA,eA,_,_⟩=>by
    have:=Rd1.aggs oA rfl
    rw [eA] at this
    rw [e]
    exact this)
noncomputable def K_98:Ent Tryz.prog:=Ent.p1 (α:=Func) 98 (fun F=>Enc.good F∧goodF F=true) (fun F=>vFunc F) (fun F hc=>l15Own_c F hc.1 hc.2)
theorem K_98_f:K_98.f=98:=rfl
theorem K_98_e (F0:Int) (F1:List Block):K_98.e [.agg [.d (.int .i64 F0),.d (dBlockS F1)]]=some (Enc.good (Func.mk F0 F1)∧goodF (Func.mk F0 F1)=true,vFunc (Func.mk F0 F1),[]):=by unfold K_98;exact Ent.p1_eq (α:=Func) (Func.mk F0 F1)
noncomputable def K_98h:EntH Tryz.prog:=EntH.pk1 (α:=Func) 98 (fun F=>Enc.good F∧goodF F=true) (fun F=>vFunc F) (fun F=>[]) (fun F hc=>PureP.ans (l15Own_c F hc.1 hc.2))
theorem K_98h_f:K_98h.f=98:=rfl
theorem K_98h_g:K_98h.gro=true:=rfl
theorem K_98h_e {x1:V} {H:Heap}:K_98h.e [x1] H=guardR ((decA (α:=Func) H x1).1) (peekR (Enc.good (decA (α:=Func) H x1).2∧goodF (decA (α:=Func) H x1).2=true) (vFunc (decA (α:=Func) H x1).2) ([]) H):=rfl
end Go.Proofs.YtbmloeahcdneaaaGreat
end

section
namespace Go.Proofs.YtbmloeahcdneaaaGreat
set_option maxRecDepth 100000
set_option linter.unusedSimpArgs false
set_option linter.unusedVariables false
theorem Gr.len {n0:Nat} {l:List Int} {v:V} {H:Heap} (h:Gr n0 l v H) (R:Heap):Gr n0 l v (H++R):=by
  rcases h with h | ⟨id,h1,h2,h3,h4⟩
  · exact .inl h
  · exact .inr ⟨id,h1,h2,h3,(List.getElem?_append_left (List.getElem?_eq_some_iff.1 h4).1).trans h4⟩
theorem l14End_lp (H:Heap) (b:Block) (h:smallEnd b) {c:Code} (hcd:(loopsIn (Tryz.f134.body.getD .skip))[0]? = some c) {Q:Exit→St→Prop} {s:St} {v0:V} {H0:Heap}
    (hs:IntoH s [(3,v0),(15,.d (dJumpS b.jumps_)),(16,.d (.int .i64 b.jumps_.length)),(17,.d (.int .i64 0))] H0) (hg:Gr H.length (endP b 0) v0 H0) (ho:Only [] H H0)
    (hq:∀ v H1 l',Gr H.length (usedL b) v H1→Only [] H H1→mk l' 3=v→Q (.exit 0) ⟨mk l',H1⟩):W Tryz.prog 27 H.length c Q s:=by
  cases hcd
  refine W_loopH (α:=Nat × V × Heap) (fun a=>[(3,a.2.1),(15,.d (dJumpS b.jumps_)),(16,.d (.int .i64 b.jumps_.length)),(17,.d (.int .i64 a.1))]) (fun a=>a.2.2)
    (fun a=>a.1≤b.jumps_.length∧Gr H.length (endP b a.1) a.2.1 a.2.2∧Only [] H a.2.2) (fun a=>b.jumps_.length - a.1) (0,v0,H0) hs ⟨Nat.zero_le _,hg,ho⟩ ?_
  rintro ⟨i,v,H1⟩ ⟨hi,hg,ho⟩
  simp only [] at hi hg ho
  have hol:=ho.len
  have hl:=endP_len h i hi
  have hj2:=h.1
  have wi:i < b.jumps_.length→IntKind.i64.wrap ((i:Int) + 1)=((i + 1:Nat):Int):=fun h=>by rw [wrap_id] <;> omega
  have step:i < b.jumps_.length→endP b (i + 1)=endP b i++(b.jumps_[i]?.getD default).args_:=fun q=>endP_succ q
  have fin:b.jumps_.length≤i→usedL b=endP b i:=fun q=>by
    unfold endP usedL;rw [List.take_of_length_le q]
  have has:i < b.jumps_.length→(b.jumps_[i]?.getD default).args_.length≤100:=fun q=>h.2 _ (by rw [List.getElem?_eq_getElem q];exact List.getElem_mem _)
  have hu:=upto_all (b.jumps_[i]?.getD default).args_
  generalize hargs:(b.jumps_[i]?.getD default).args_=av at step has hu
  generalize hacc:endP b i=acc at hg step fin hl
  have hg0:=hg
  rcases hg with ⟨rfl,rfl⟩ | ⟨id,rfl,hp,hi0,hr⟩
  · refine W_run mixed ⟨[],[],[],27,H.length,[0,1,2,3,5,8,15,16,17,18],[8,18]⟩ (fun _=>[]) (by kernel_rfl) ?_
    simp only [stripX,stripOps,pickOps]
    simp [-V.flat,-V.one,one_int,one_bool,one_str,one_nilp,one_rp,one_nilsl,one_ro,one_cl,one_nilf,one_nili,one_ifc,one_ptr,one_sl,one_clo,flat_d,flat_ptr,flat_sl,flat_clo,flat_agg,hargs,hu]
    refine ⟨fun q=>⟨q,by have:=has q;omega,fun e=>?_,fun e=>?_⟩,fun q=>?_⟩
    · exact ⟨i + 1,_,_,⟨by omega,by rw [step q,e];exact hg0.len _,only_more ho⟩,by omega,rfl,rfl,wi q⟩
    · exact ⟨i + 1,_,_,⟨by omega,by rw [step q,List.nil_append];exact Gr.new hol (by cases av;exact absurd rfl e;simp) rfl rfl,only_more ho⟩,by omega,rfl,rfl,wi q⟩
    · exact hq _ _ _ (by rw [fin q];exact hg0) ho rfl
  · have hid:=(List.getElem?_eq_some_iff.1 hr).1
    have hr':∀ R:Heap,(H1++R)[id]? = some (.row 1 (rI acc)):=fun R=>(List.getElem?_append_left hid).trans hr
    have hset:∀ (R:Heap) p,(H1++R).set id p=H1.set id p++R:=fun R p=>List.set_append_left _ _ hid
    refine W_run mixed ⟨[],[],[],27,H.length,[0,1,2,3,5,8,15,16,17,18],[8,18]⟩ (fun _=>[]) (by kernel_rfl) ?_
    simp only [stripX,stripOps,pickOps]
    simp [-V.flat,-V.one,one_int,one_bool,one_str,one_nilp,one_rp,one_nilsl,one_ro,one_cl,one_nilf,one_nili,one_ifc,one_ptr,one_sl,one_clo,flat_d,flat_ptr,flat_sl,flat_clo,flat_agg,hargs,hu,hr',hset]
    refine ⟨fun q=>⟨q,by have:=has q;omega, ?_⟩,fun q=>?_⟩
    · exact ⟨i + 1,_,_,⟨by omega,by rw [step q];exact Gr.new2 hol (by simp;omega) (by simp) (by simp),only_dead ho hi0⟩,by omega,rfl,rfl,wi q⟩
    · exact hq _ _ _ (by rw [fin q];exact hg0) ho rfl
theorem l14End_gr (H:Heap) (b:Block) (h:smallEnd b):CallsD Tryz.prog 134 [vBlock b] H fun r H'=>Gr H.length (usedL b) r H'∧Only [] H H':=by
  by_cases e:b.end_=2
  · have e0:endP b 0=[]:=by simp [endP,e]
    refine calls_of Tryz.func134 en_134 rfl (of_decide_eq_true rfl) (W_run mixed ⟨[],[],[],27,H.length,[0,1,2,3,5,8,15,16,17,18],[8,18]⟩ (fun _=>[]) (by kernel_rfl) ?_)
    simp only [Tryz.f134,stripX,stripOps,pickOps]
    simp [-V.flat,-V.one,one_int,one_bool,one_str,one_nilp,one_rp,one_nilsl,one_ro,one_cl,one_nilf,one_nili,one_ifc,one_ptr,one_sl,one_clo,flat_d,flat_ptr,flat_sl,flat_clo,flat_agg,e,retQ]
    refine l14End_lp H b h rfl (v0:=.d .nilsl) (H0:=H++[.row 5 [[.d (.int .i64 b.params_),.d (dInstS b.insts_),.d (.int .i64 b.end_),.d (.int .i64 b.value_),.d (dJumpS b.jumps_)]]]) ?_ ?_ ?_ fun v H1 l' hg ho hl'=>?_
    · simp [e]
    · rw [e0];exact .inl ⟨rfl,rfl⟩
    · exact Only.app _ _ _
    · simp [-V.flat,-V.one,one_int,one_bool,one_str,one_nilp,one_rp,one_nilsl,one_ro,one_cl,one_nilf,one_nili,one_ifc,one_ptr,one_sl,one_clo,flat_d,flat_ptr,flat_sl,flat_clo,flat_agg,hl']
      exact ⟨_,_,Fin.same ho.len,hg,ho⟩
  · have e0:endP b 0=[b.value_]:=by simp [endP,e]
    refine calls_of Tryz.func134 en_134 rfl (of_decide_eq_true rfl) (W_run mixed ⟨[],[],[],27,H.length,[0,1,2,3,5,8,15,16,17,18],[8,18]⟩ (fun _=>[]) (by kernel_rfl) ?_)
    simp only [Tryz.f134,stripX,stripOps,pickOps]
    simp [-V.flat,-V.one,one_int,one_bool,one_str,one_nilp,one_rp,one_nilsl,one_ro,one_cl,one_nilf,one_nili,one_ifc,one_ptr,one_sl,one_clo,flat_d,flat_ptr,flat_sl,flat_clo,flat_agg,e,retQ]
    refine l14End_lp H b h rfl (v0:=.sl (H.length + 2) 1 0 1) (H0:=H++[.row 5 [[.d (.int .i64 b.params_),.d (dInstS b.insts_),.d (.int .i64 b.end_),.d (.int .i64 b.value_),.d (dJumpS b.jumps_)]],.row 1 [[.d (.int .i64 b.value_)]],.row 1 [[.d (.int .i64 b.value_)]]]) ?_ ?_ ?_ fun v H1 l' hg ho hl'=>?_
    · simp
    · rw [e0];exact .inr ⟨H.length + 2,rfl,by simp,by omega,by simp⟩
    · exact Only.app _ _ _
    · simp [-V.flat,-V.one,one_int,one_bool,one_str,one_nilp,one_rp,one_nilsl,one_ro,one_cl,one_nilf,one_nili,one_ifc,one_ptr,one_sl,one_clo,flat_d,flat_ptr,flat_sl,flat_clo,flat_agg,hl']
      exact ⟨_,_,Fin.same ho.len,hg,ho⟩
def cntI (v:Int) (l:List Int):Nat:=(l.filter fun x=>decide (x=v)).length
theorem cntI_app (v:Int) (l m:List Int):cntI v (l++m)=cntI v l + cntI v m:=by unfold cntI;rw [List.filter_append,List.length_append]
theorem cntI_le (v:Int) (l:List Int):cntI v l≤l.length:=List.length_filter_le _ _
theorem cntI_take (v:Int) (l:List Int) {i:Nat} (h:i < l.length):cntI v (l.take (i + 1))=cntI v (l.take i) + if l[i]?.getD 0=v then 1 else 0:=by
  rw [List.take_succ_eq_append_getElem h,cntI_app,List.getElem?_eq_getElem h]
  congr 1
  show (List.filter _ [l[i]]).length=_
  by_cases e:l[i]=v
  · rw [Option.getD_some,if_pos e,List.filter_cons_of_pos (by simpa using e)];rfl
  · rw [Option.getD_some,if_neg e,List.filter_cons_of_neg (by simpa using e)];rfl
def bseq (b:Block):List Int:=usedL b++b.insts_.flatMap (·.args_)
def cntP (bs:List Block) (v:Int) (k:Nat):Nat:=((bs.take k).map fun b=>cntI v (bseq b)).sum
theorem cntP_succ {bs:List Block} {v:Int} {k:Nat} (h:k < bs.length):cntP bs v (k + 1)=cntP bs v k + cntI v (bseq (bs[k]?.getD default)):=by
  unfold cntP
  rw [List.take_succ_eq_append_getElem h,List.map_append,List.sum_append,List.getElem?_eq_getElem h];simp
theorem cntP_uses {bs:List Block} {v:Nat} (h:∀ b∈bs,∀ x∈allU b,0≤x):(cntP bs v bs.length:Int)=usesN bs v:=by
  unfold cntP usesN
  rw [List.take_length]
  congr 1
  induction bs with
  | nil=>rfl
  | cons b bs ih =>
    rw [List.map_cons,List.sum_cons,List.flatMap_cons,List.filter_append,List.length_append,ih fun b hb=>h b (List.mem_cons_of_mem _ hb)]
    congr 1
    have e:cntI v (bseq b)=cntI v (allU b):=by unfold bseq allU;rw [cntI_app,cntI_app,Nat.add_comm]
    rw [e]
    unfold cntI
    congr 1
    refine List.filter_congr fun x hx=>?_
    have:=h b List.mem_cons_self x hx
    rw [Bool.eq_iff_iff];simp;omega
def accU (b:Block) (i:Nat):List Int:=usedL b++(b.insts_.take i).flatMap (·.args_)
theorem accU_succ {b:Block} {i:Nat} (h:i < b.insts_.length):accU b (i + 1)=accU b i++(b.insts_[i]?.getD default).args_:=by
  unfold accU
  rw [List.take_succ_eq_append_getElem h,List.flatMap_append,List.append_assoc,List.getElem?_eq_getElem h];simp
theorem cntP_le {bs:List Block} {v:Int} (c:Nat) (h:∀ b∈bs,(bseq b).length≤c):∀ k,k≤bs.length→cntP bs v k≤c * k
  | 0,_=>by simp [cntP]
  | k + 1,hk=>by
    rw [cntP_succ (by omega)]
    have:=cntP_le (v:=v) c h k (by omega)
    have h1:=cntI_le v (bseq (bs[k]?.getD default))
    have h2:=h (bs[k]?.getD default) (by rw [List.getElem?_eq_getElem (by omega)];exact List.getElem_mem _)
    rw [Nat.mul_succ];omega
set_option maxHeartbeats 4000000 in
theorem l14Uses_c (F : Func) (v : Int) (hF : Enc.good F) (hg : goodF F = true) (hv : 0 ≤ v) : PureP Tryz.prog 113 [vFunc F, .d (.int .i64 v)] (· = .d (.int .i64 (usesN F.blocks_ v.toNat))) := by
  obtain ⟨v,rfl⟩:=Int.eq_ofNat_of_zero_le hv
  rw [Int.toNat_natCast]
  obtain ⟨h8,hsm⟩:=good_small hg
  have hcu:=cntP_uses (v:=v) fun b hb x hx=>(good_all hg hb x hx).1
  rw [← hcu]
  have hend:∀ k,smallEnd (F.blocks_[k]?.getD default):=fun k=>by
    by_cases h:k < F.blocks_.length
    · exact good_end hg _ (by rw [List.getElem?_eq_getElem h];exact List.getElem_mem h)
    · rw [List.getElem?_eq_none (by omega)];exact ⟨by decide,fun j hj=>absurd hj List.not_mem_nil⟩
  have hbs:∀ b∈F.blocks_,(bseq b).length≤1080000:=fun b hb=>by
    obtain ⟨q1,q2,q3,q4⟩:=hsm b hb
    have hse:=good_end hg b hb
    have e1:=endP_len hse b.jumps_.length (Nat.le_refl _)
    have e:endP b b.jumps_.length=usedL b:=by unfold endP usedL;rw [List.take_length]
    rw [e] at e1
    have e2:=sum_le (fun x:Inst=>x.args_.length) 1000 b.insts_ q3
    have:=hse.1
    unfold bseq
    rw [List.length_append,List.length_flatMap]
    omega
  refine PureP.of_own ?_
  refine calls_of Tryz.func113 en_113 rfl (of_decide_eq_true rfl) (W_run mixed ⟨[],[],[134],48,0,[0,1,2,4,5,7,8,10,12,14,15,16,17,23,24,25,26,34,35,36,37,42],[17,26,37,42]⟩ (fun _=>[]) (by kernel_rfl) ?_)
  simp only [Tryz.f113,stripX,stripOps,pickOps]
  simp [-V.flat,-V.one,one_int,one_bool,one_str,one_nilp,one_rp,one_nilsl,one_ro,one_cl,one_nilf,one_nili,one_ifc,one_ptr,one_sl,one_clo,flat_d,flat_ptr,flat_sl,flat_clo,flat_agg,hF,retQ]
  refine W_loopH (α:=Nat × Heap) (fun a=>[(1,.d (.int .i64 v)),(5,.d (.int .i64 (cntP F.blocks_ v a.1))),(14,.d (dBlockS F.blocks_)),(15,.d (.int .i64 F.blocks_.length)),(16,.d (.int .i64 a.1))]) (fun a=>a.2)
    (fun a=>a.1≤F.blocks_.length) (fun a=>F.blocks_.length - a.1) (0,[.row 2 [[.d (.int .i64 F.params_),.d (dBlockS F.blocks_)]]]) ?_ (Nat.zero_le _) ?_
  · simp [cntP]
  rintro ⟨k,G⟩ hk
  replace hk:k≤F.blocks_.length:=hk
  by_cases hkl:k < F.blocks_.length
  · obtain ⟨b,hgb⟩:∃ b:Block,F.blocks_[k]? = some b:=⟨_,List.getElem?_eq_getElem hkl⟩
    have hbm:=List.mem_of_getElem? hgb
    have hbk:F.blocks_[k]?.getD default=b:=by rw [hgb];rfl
    have hbk2:∀ h:k < F.blocks_.length,F.blocks_[k]=b:=fun h=>Option.some.inj ((List.getElem?_eq_getElem h).symm.trans hgb)
    refine W_run mixed ⟨[],[],[134],48,0,[0,1,2,4,5,7,8,10,12,14,15,16,17,23,24,25,26,34,35,36,37,42],[17,26,37,42]⟩ (fun _=>[]) (by kernel_rfl) ?_
    simp only [stripX,stripOps,pickOps]
    simp [-V.flat,-V.one,one_int,one_bool,one_str,one_nilp,one_rp,one_nilsl,one_ro,one_cl,one_nilf,one_nili,one_ifc,one_ptr,one_sl,one_clo,flat_d,flat_ptr,flat_sl,flat_clo,flat_agg,hkl,hbk,hbk2]
    rw [aft_call]
    refine (l14End_gr _ b (hbk ▸ hend k)).mono ?_
    rintro r H1 ⟨hgr,ho⟩
    have hl1:=ho.len
    have hc7:H1[G.length]? = some (.row 5 [[.d (.int .i64 b.params_),.d (dInstS b.insts_),.d (.int .i64 b.end_),.d (.int .i64 b.value_),.d (dJumpS b.jumps_)]]):=(ho.at_ G.length (by simp) List.not_mem_nil).trans (by simp)
    have hr1:r.one=true∧r.flat=[r]:=by rcases hgr with ⟨_,rfl⟩ | ⟨id,rfl,_⟩ <;> exact ⟨rfl,rfl⟩
    obtain ⟨hr1,hr2⟩:=hr1
    simp [-V.flat,-V.one,one_int,one_bool,one_str,one_nilp,one_rp,one_nilsl,one_ro,one_cl,one_nilf,one_nili,one_ifc,one_ptr,one_sl,one_clo,flat_d,flat_ptr,flat_sl,flat_clo,flat_agg,hc7,hr1,hr2]
    obtain ⟨n0,hn0⟩:∃ n0,(G++[Place.row 5 [[V.d (.int .i64 b.params_),V.d (dInstS b.insts_),V.d (.int .i64 b.end_),V.d (.int .i64 b.value_),V.d (dJumpS b.jumps_)]]]).length=n0:=⟨_,rfl⟩
    rw [hn0] at hgr hl1
    obtain ⟨q1,q2,q3,q4⟩:=hsm b hbm
    have hse:=hend k
    rw [hbk] at hse
    have hul:(usedL b).length≤1000000:=by
      have:=endP_len hse b.jumps_.length (Nat.le_refl _)
      have e:endP b b.jumps_.length=usedL b:=by unfold endP usedL;rw [List.take_length]
      rw [e] at this;omega
    have hfl:∀ i,i≤b.insts_.length→(accU b i).length≤1000000 + 1000 * i:=fun i=>by
      induction i with
      | zero=>intro _;unfold accU;simpa using hul
      | succ i ih=>intro hi;rw [accU_succ (by omega),List.length_append];have:=ih (by omega);have:=q3 (b.insts_[i]?.getD default) (by rw [List.getElem?_eq_getElem (by omega)];exact List.getElem_mem _);omega
    refine W_loopH (α:=Nat × V × Heap) (fun a=>[(1,.d (.int .i64 v)),(5,.d (.int .i64 (cntP F.blocks_ v k))),(8,a.2.1),(14,.d (dBlockS F.blocks_)),(15,.d (.int .i64 F.blocks_.length)),(16,.d (.int .i64 k)),(23,.d (dInstS b.insts_)),(24,.d (.int .i64 b.insts_.length)),(25,.d (.int .i64 a.1))]) (fun a=>a.2.2)
      (fun a=>a.1≤b.insts_.length∧Gr n0 (accU b a.1) a.2.1 a.2.2∧n0≤a.2.2.length) (fun a=>b.insts_.length - a.1) (0,r,H1) ?_ ⟨Nat.zero_le _,by unfold accU;simpa using hgr,hl1⟩ ?_
    · simp
    clear hgr hc7 ho hl1 hr1 hr2 r H1
    rintro ⟨j,r,H1⟩ ⟨hj,hgr,hl1⟩
    simp only [] at hj hgr hl1
    have haj:=hfl j hj
    have wj:j < b.insts_.length→IntKind.i64.wrap ((j:Int) + 1)=((j + 1:Nat):Int):=fun h=>by rw [wrap_id] <;> omega
    have wk:IntKind.i64.wrap ((k:Int) + 1)=((k + 1:Nat):Int):=by rw [wrap_id] <;> omega
    have hin:b.insts_.length≤j→accU b j=bseq b:=fun h=>by unfold accU bseq;rw [List.take_of_length_le h]
    have step:j < b.insts_.length→accU b (j + 1)=accU b j++(b.insts_[j]?.getD default).args_:=fun q=>accU_succ q
    have has:j < b.insts_.length→(b.insts_[j]?.getD default).args_.length≤1000:=fun q=>q3 _ (by rw [List.getElem?_eq_getElem q];exact List.getElem_mem _)
    have hu:=upto_all (b.insts_[j]?.getD default).args_
    have hcs:=cntP_succ (v:=v) hkl
    rw [hbk] at hcs
    generalize hargs:(b.insts_[j]?.getD default).args_=av at step has hu
    generalize hacc:accU b j=acc at hgr step hin haj
    have hg0:=hgr
    by_cases hjl:j < b.insts_.length
    · obtain ⟨x,hgx⟩:∃ x:Inst,b.insts_[j]? = some x:=⟨_,List.getElem?_eq_getElem hjl⟩
      have hx1:b.insts_[j]?.getD default=x:=by rw [hgx];rfl
      have hx2:∀ h:j < b.insts_.length,b.insts_[j]=x:=fun h=>Option.some.inj ((List.getElem?_eq_getElem h).symm.trans hgx)
      rw [hx1] at hargs
      rcases hgr with ⟨rfl,rfl⟩ | ⟨id,rfl,hp,hi0,hr⟩
      · refine W_run mixed ⟨[],[],[134],48,0,[0,1,2,4,5,7,8,10,12,14,15,16,17,23,24,25,26,34,35,36,37,42],[17,26,37,42]⟩ (fun _=>[]) (by kernel_rfl) ?_
        simp only [stripX,stripOps,pickOps]
        simp [-V.flat,-V.one,one_int,one_bool,one_str,one_nilp,one_rp,one_nilsl,one_ro,one_cl,one_nilf,one_nili,one_ifc,one_ptr,one_sl,one_clo,flat_d,flat_ptr,flat_sl,flat_clo,flat_agg,hargs,hu,hx1,hx2,hjl]
        refine ⟨by have:=has hjl;omega,fun e=>?_,fun e=>?_⟩
        · exact ⟨j + 1,_,_,⟨by omega,by rw [step hjl,e];exact hg0.len _,by simp;omega⟩,by omega,rfl,rfl,wj hjl⟩
        · exact ⟨j + 1,_,_,⟨by omega,by rw [step hjl,List.nil_append];exact Gr.new hl1 (by cases av;exact absurd rfl e;simp) rfl rfl,by simp;omega⟩,by omega,rfl,rfl,wj hjl⟩
      · have hid:=(List.getElem?_eq_some_iff.1 hr).1
        have hr':∀ R:Heap,(H1++R)[id]? = some (.row 1 (rI acc)):=fun R=>(List.getElem?_append_left hid).trans hr
        have hset:∀ (R:Heap) p,(H1++R).set id p=H1.set id p++R:=fun R p=>List.set_append_left _ _ hid
        refine W_run mixed ⟨[],[],[134],48,0,[0,1,2,4,5,7,8,10,12,14,15,16,17,23,24,25,26,34,35,36,37,42],[17,26,37,42]⟩ (fun _=>[]) (by kernel_rfl) ?_
        simp only [stripX,stripOps,pickOps]
        simp [-V.flat,-V.one,one_int,one_bool,one_str,one_nilp,one_rp,one_nilsl,one_ro,one_cl,one_nilf,one_nili,one_ifc,one_ptr,one_sl,one_clo,flat_d,flat_ptr,flat_sl,flat_clo,flat_agg,hargs,hu,hx1,hx2,hjl,hr',hset]
        refine ⟨by have:=has hjl;omega, ?_⟩
        exact ⟨j + 1,_,_,⟨by omega,by rw [step hjl];exact Gr.new2 hl1 (by simp;omega) (by simp) (by simp),by simp;omega⟩,by omega,rfl,rfl,wj hjl⟩
    · have hje:accU b j=bseq b:=by rw [hacc];exact hin (by omega)
      rw [hacc] at hje
      rw [← hje] at hcs
      rcases hgr with ⟨rfl,rfl⟩ | ⟨id,rfl,hp,hi0,hr⟩
      · refine W_run mixed ⟨[],[],[134],48,0,[0,1,2,4,5,7,8,10,12,14,15,16,17,23,24,25,26,34,35,36,37,42],[17,26,37,42]⟩ (fun _=>[]) (by kernel_rfl) ?_
        simp only [stripX,stripOps,pickOps]
        simp [-V.flat,-V.one,one_int,one_bool,one_str,one_nilp,one_rp,one_nilsl,one_ro,one_cl,one_nilf,one_nili,one_ifc,one_ptr,one_sl,one_clo,flat_d,flat_ptr,flat_sl,flat_clo,flat_agg,hjl]
        refine W_loopH (α:=Unit) (fun a=>[(1,.d (.int .i64 v)),(5,.d (.int .i64 (cntP F.blocks_ v k))),(14,.d (dBlockS F.blocks_)),(15,.d (.int .i64 F.blocks_.length)),(16,.d (.int .i64 k)),(34,.d .nilsl),(35,.d (.int .i64 0)),(36,.d (.int .i64 0))]) (fun a=>H1)
          (fun a=>True) (fun a=>0) () ?_ trivial ?_
        · simp
        rintro _ _
        refine W_run mixed ⟨[],[],[134],48,0,[0,1,2,4,5,7,8,10,12,14,15,16,17,23,24,25,26,34,35,36,37,42],[17,26,37,42]⟩ (fun _=>[]) (by kernel_rfl) ?_
        simp only [stripX,stripOps,pickOps]
        simp [-V.flat,-V.one,one_int,one_bool,one_str,one_nilp,one_rp,one_nilsl,one_ro,one_cl,one_nilf,one_nili,one_ifc,one_ptr,one_sl,one_clo,flat_d,flat_ptr,flat_sl,flat_clo,flat_agg]
        exact ⟨k + 1,by omega,by omega,by rw [hcs];rfl,wk⟩
      · refine W_run mixed ⟨[],[],[134],48,0,[0,1,2,4,5,7,8,10,12,14,15,16,17,23,24,25,26,34,35,36,37,42],[17,26,37,42]⟩ (fun _=>[]) (by kernel_rfl) ?_
        simp only [stripX,stripOps,pickOps]
        simp [-V.flat,-V.one,one_int,one_bool,one_str,one_nilp,one_rp,one_nilsl,one_ro,one_cl,one_nilf,one_nili,one_ifc,one_ptr,one_sl,one_clo,flat_d,flat_ptr,flat_sl,flat_clo,flat_agg,hjl,hr]
        refine W_loopH (α:=Nat) (fun a=>[(1,.d (.int .i64 v)),(5,.d (.int .i64 (cntP F.blocks_ v k + cntI v (acc.take a):Nat))),(14,.d (dBlockS F.blocks_)),(15,.d (.int .i64 F.blocks_.length)),(16,.d (.int .i64 k)),(34,.sl id 1 0 acc.length),(35,.d (.int .i64 acc.length)),(36,.d (.int .i64 a))]) (fun a=>H1)
          (fun a=>a≤acc.length) (fun a=>acc.length - a) 0 ?_ (Nat.zero_le _) ?_
        · simp [cntI]
        rintro m hm
        have hmj:(cntP F.blocks_ v k:Nat)≤1080000 * k:=cntP_le 1080000 hbs k hk
        have hcl:=cntI_le v (acc.take m)
        rw [List.length_take,Nat.min_eq_left hm] at hcl
        have wm:m < acc.length→IntKind.i64.wrap ((m:Int) + 1)=((m + 1:Nat):Int):=fun h=>by rw [wrap_id] <;> omega
        by_cases hml:m < acc.length
        · have hct:=cntI_take v acc hml
          have hg2:acc[m]? = some (acc[m]?.getD 0):=by rw [List.getElem?_eq_getElem hml];rfl
          generalize acc[m]?.getD 0=x at hg2 hct
          have hg3:∀ h:m < acc.length,acc[m]=x:=fun h=>Option.some.inj ((List.getElem?_eq_getElem h).symm.trans hg2)
          by_cases hx:x=(v:Int)
          · rw [if_pos hx] at hct
            have wc:IntKind.i64.wrap (((cntP F.blocks_ v k + cntI v (acc.take m):Nat):Int) + 1)=((cntP F.blocks_ v k + cntI v (acc.take (m + 1)):Nat):Int):=by rw [hct,wrap_id] <;> omega
            refine W_run mixed ⟨[],[],[134],48,0,[0,1,2,4,5,7,8,10,12,14,15,16,17,23,24,25,26,34,35,36,37,42],[17,26,37,42]⟩ (fun _=>[]) (by kernel_rfl) ?_
            simp only [stripX,stripOps,pickOps]
            simp [-V.flat,-V.one,one_int,one_bool,one_str,one_nilp,one_rp,one_nilsl,one_ro,one_cl,one_nilf,one_nili,one_ifc,one_ptr,one_sl,one_clo,flat_d,flat_ptr,flat_sl,flat_clo,flat_agg,hr,hml,hg2,hg3,hx]
            exact ⟨m + 1,hml,by omega,wc,wm hml⟩
          · rw [if_neg hx] at hct
            refine W_run mixed ⟨[],[],[134],48,0,[0,1,2,4,5,7,8,10,12,14,15,16,17,23,24,25,26,34,35,36,37,42],[17,26,37,42]⟩ (fun _=>[]) (by kernel_rfl) ?_
            simp only [stripX,stripOps,pickOps]
            simp [-V.flat,-V.one,one_int,one_bool,one_str,one_nilp,one_rp,one_nilsl,one_ro,one_cl,one_nilf,one_nili,one_ifc,one_ptr,one_sl,one_clo,flat_d,flat_ptr,flat_sl,flat_clo,flat_agg,hr,hml,hg2,hg3,hx]
            exact ⟨m + 1,hml,by omega,by rw [hct];rfl,wm hml⟩
        · have hme:m=acc.length:=by omega
          refine W_run mixed ⟨[],[],[134],48,0,[0,1,2,4,5,7,8,10,12,14,15,16,17,23,24,25,26,34,35,36,37,42],[17,26,37,42]⟩ (fun _=>[]) (by kernel_rfl) ?_
          simp only [stripX,stripOps,pickOps]
          simp [-V.flat,-V.one,one_int,one_bool,one_str,one_nilp,one_rp,one_nilsl,one_ro,one_cl,one_nilf,one_nili,one_ifc,one_ptr,one_sl,one_clo,flat_d,flat_ptr,flat_sl,flat_clo,flat_agg,hr,hml]
          exact ⟨k + 1,by omega,by omega,by rw [hcs,hme,List.take_length];exact (Int.natCast_add _ _).symm,wk⟩
  · have hke:k=F.blocks_.length:=by omega
    refine W_run mixed ⟨[],[],[134],48,0,[0,1,2,4,5,7,8,10,12,14,15,16,17,23,24,25,26,34,35,36,37,42],[17,26,37,42]⟩ (fun _=>[]) (by kernel_rfl) ?_
    simp only [stripX,stripOps,pickOps]
    simp [-V.flat,-V.one,one_int,one_bool,one_str,one_nilp,one_rp,one_nilsl,one_ro,one_cl,one_nilf,one_nili,one_ifc,one_ptr,one_sl,one_clo,flat_d,flat_ptr,flat_sl,flat_clo,flat_agg,hkl]
    simp [retQ]
    exact ⟨_,_,Fin.same (Nat.zero_le _),by rw [hke];exact Rd1.d⟩
noncomputable def K_113:Ent Tryz.prog:=Ent.p2 (α:=Func) (β:=Int) 113 (fun F v=>Enc.good F∧goodF F=true∧0≤v) (fun F v=>.d (.int .i64 (usesN F.blocks_ v.toNat))) (fun F v hc=>l14Uses_c F v hc.1 hc.2.1 hc.2.2)
theorem K_113_f:K_113.f=113:=rfl
theorem K_113_e (F0:Int) (F1:List Block) (v:Int):K_113.e [.agg [.d (.int .i64 F0),.d (dBlockS F1)],.d (.int .i64 v)]=some (Enc.good (Func.mk F0 F1)∧goodF (Func.mk F0 F1)=true∧0≤v,.d (.int .i64 (usesN (Func.mk F0 F1).blocks_ v.toNat)),[]):=by unfold K_113;exact Ent.p2_eq (α:=Func) (β:=Int) (Func.mk F0 F1) v
noncomputable def K_113h:EntH Tryz.prog:=EntH.pk2 (α:=Func) (β:=Int) 113 (fun F v=>Enc.good F∧goodF F=true∧0≤v) (fun F v=>.d (.int .i64 (usesN F.blocks_ v.toNat))) (fun F v=>[]) (fun F v hc=>PureP.ans (l14Uses_c F v hc.1 hc.2.1 hc.2.2))
theorem K_113h_f:K_113h.f=113:=rfl
theorem K_113h_g:K_113h.gro=true:=rfl
theorem K_113h_e {x1 x2:V} {H:Heap}:K_113h.e [x1,x2] H=guardR ((decA (α:=Func) H x1).1∧(decA (α:=Int) H x2).1) (peekR (Enc.good (decA (α:=Func) H x1).2∧goodF (decA (α:=Func) H x1).2=true∧0≤(decA (α:=Int) H x2).2) (.d (.int .i64 (usesN (decA (α:=Func) H x1).2.blocks_ (decA (α:=Int) H x2).2.toNat))) ([]) H):=rfl
end Go.Proofs.YtbmloeahcdneaaaGreat
end
