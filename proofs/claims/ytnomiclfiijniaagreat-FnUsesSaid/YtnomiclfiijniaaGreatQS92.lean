/- The reference's count of uses. No condition. -/
import Derived.Test.YtnomiclfiijniaaGreatQS34
import Derived.Test.YtnomiclfiijniaaGreatQS89
import Derived.Test.YtnomiclfiijniaaGreatQS61
section
namespace Go.Proofs.YtnomiclfiijniaaGreat
set_option maxRecDepth 100000
set_option linter.unusedSimpArgs false
set_option linter.unusedVariables false
end Go.Proofs.YtnomiclfiijniaaGreat
end

section
namespace Go.Proofs.YtnomiclfiijniaaGreat
set_option maxRecDepth 100000
set_option linter.unusedSimpArgs false
set_option linter.unusedVariables false
end Go.Proofs.YtnomiclfiijniaaGreat
end

section
namespace Go.Proofs.YtnomiclfiijniaaGreat
set_option maxRecDepth 100000
set_option linter.unusedSimpArgs false
set_option linter.unusedVariables false
structure FE (A:AFunc) (F:Func) (H0:Heap) (m l:List ABlock) (k:Int) (H:Heap):Prop where
  own:Own H (⟨A.blocks_.v,m++l⟩:AS ABlock)
  left:l=A.blocks_.l.drop m.length
  sol:∀ b∈m++l,solB b
  era:m.map Tr.era=(F.blocks_.take m.length).map (foldB F)
  cnt:k=((F.blocks_.take m.length).map (foldK F)).sum
  ids:∀ j∈ids (⟨A.blocks_.v,m++l⟩:AS ABlock),j∈ids A.blocks_∨H0.length≤j
  only:Only (Go.Proofs.YtnomiclfiijniaaGreat.ids A.blocks_) H0 H
  le:m.length≤A.blocks_.l.length
end Go.Proofs.YtnomiclfiijniaaGreat
end

section
namespace Go.Proofs.YtnomiclfiijniaaGreat
set_option maxRecDepth 100000
set_option linter.unusedSimpArgs false
set_option linter.unusedVariables false
end Go.Proofs.YtnomiclfiijniaaGreat
end

section
namespace Go.Proofs.YtnomiclfiijniaaGreat
set_option maxRecDepth 100000
set_option linter.unusedSimpArgs false
set_option linter.unusedVariables false
structure FS (A:CFunc) (F:Func) (H0:Heap) (m l:List CBlock) (k:Int) (H:Heap):Prop where
  own:Own H (⟨A.blocks_.v,m++l⟩:AS CBlock)
  left:l=A.blocks_.l.drop m.length
  era:m.map Tr.era=(F.blocks_.take m.length).map (foldB F)
  cnt:k=((F.blocks_.take m.length).map (foldK F)).sum
  only:Only (Go.Proofs.YtnomiclfiijniaaGreat.ids A.blocks_) H0 H
  idv:A.blocks_.id∈Go.Proofs.YtnomiclfiijniaaGreat.ids A.blocks_
  idl:∀ j∈Go.Proofs.YtnomiclfiijniaaGreat.ids (⟨A.blocks_.v,m++l⟩:AS CBlock),j∈Go.Proofs.YtnomiclfiijniaaGreat.ids A.blocks_∨H0.length≤j
  le:m.length≤A.blocks_.l.length
end Go.Proofs.YtnomiclfiijniaaGreat
end

section
namespace Go.Proofs.YtnomiclfiijniaaGreat
set_option maxRecDepth 100000
set_option linter.unusedSimpArgs false
set_option linter.unusedVariables false
theorem inR_many {n m:Int} (h0:0≤m) (h1:m≤80):inR n 0 (IntKind.i64.wrap (m - 1))=true ↔ 0≤n∧n < m:=by
  rw [wrap_id (by omega) (by omega),inR_t];omega
theorem allIn_map {g:Int→Int} {m:Int} (h0:0≤m) (h1:m≤80) (hg:∀ x,0≤x→x < m→0≤g x∧g x < m) {l:List Int} (h:allIn l 0 (IntKind.i64.wrap (m - 1))=true):allIn (l.map g) 0 (IntKind.i64.wrap (m - 1))=true:=by
  refine List.all_eq_true.2 fun y hy=>?_
  obtain ⟨x,hx,rfl⟩:=List.mem_map.1 hy
  have:=(inR_many h0 h1).1 (List.all_eq_true.1 h x hx)
  exact (inR_many h0 h1).2 (hg x this.1 this.2)
theorem mpF_shp (g:Int→Int) (F:Func):shp (mpF g F).blocks_=shp F.blocks_:=by
  show (List.map (mpB g) F.blocks_).map _=_
  rw [List.map_map]
  exact List.map_congr_left fun b _=>by simp [mpB]
theorem many_rng {F:Func} (h:goodF F=true):0≤many F∧many F≤80:=by
  obtain ⟨hp,hl,hh,hm,hc,hs,_⟩:=goodF_spec h
  omega
theorem mpF_good {F : Func} (h : goodF F = true) {g : Int → Int} (hg : ∀ x, 0 ≤ x → x < many F → 0 ≤ g x ∧ g x < many F) : goodF (mpF g F) = true := by
  obtain ⟨m0,m1⟩:=many_rng h
  refine goodF_shp h rfl (mpF_shp g F) fun b' hb'=>?_
  obtain ⟨b,hb,rfl⟩:=List.mem_map.1 hb'
  obtain ⟨h1,h2⟩:=goodF_body h hb
  have hj:jumpsOk F.blocks_ (many F) b.jumps_=true→jumpsOk F.blocks_ (many F) (b.jumps_.map (mpJ g))=true:=fun q=>by
    refine List.all_eq_true.2 fun y hy=>?_
    obtain ⟨j,hj,rfl⟩:=List.mem_map.1 hy
    have:=List.all_eq_true.1 q j hj
    simp only [jumpOk,Bool.and_eq_true] at this ⊢
    refine ⟨this.1, ?_,allIn_map m0 m1 hg this.2.2⟩
    show decide (((j.args_.map g).length:Int)=_)=true
    rw [List.length_map];exact this.2.1
  have hv:inR b.value_ 0 (IntKind.i64.wrap (many F - 1))=true→inR (g b.value_) 0 (IntKind.i64.wrap (many F - 1))=true:=fun q=>by
    have:=(inR_many m0 m1).1 q
    exact (inR_many m0 m1).2 (hg _ this.1 this.2)
  refine ⟨List.all_eq_true.2 fun y hy=>?_, ?_⟩
  · obtain ⟨x,hx,rfl⟩:=List.mem_map.1 hy
    have:=List.all_eq_true.1 h1 x hx
    simp only [instOk,Bool.and_eq_true] at this ⊢
    refine ⟨this.1, ?_,allIn_map m0 m1 hg this.2.2.1,this.2.2.2⟩
    show decide (((x.args_.map g).length:Int)=_)=true
    rw [List.length_map];exact this.2.1
  · have hl:(b.jumps_.map (mpJ g)).length=b.jumps_.length:=List.length_map _
    unfold endsOk at h2 ⊢
    show (if b.end_=1 then decide (((b.jumps_.map (mpJ g)).length:Int)=0) && (inR (if b.end_=2 then b.value_ else g b.value_) 0 _ && jumpsOk F.blocks_ (many F) (b.jumps_.map (mpJ g)))
      else if b.end_=2 then decide ((if b.end_=2 then b.value_ else g b.value_)=0) && (decide (((b.jumps_.map (mpJ g)).length:Int)=1) && jumpsOk F.blocks_ (many F) (b.jumps_.map (mpJ g)))
      else if b.end_=3 then decide (((b.jumps_.map (mpJ g)).length:Int)=2) && (inR (if b.end_=2 then b.value_ else g b.value_) 0 _ && jumpsOk F.blocks_ (many F) (b.jumps_.map (mpJ g))) else false)=true
    rw [hl]
    by_cases e1:b.end_=1
    · rw [if_pos e1,Bool.and_eq_true,Bool.and_eq_true] at h2 ⊢
      rw [if_neg (by omega)]
      exact ⟨h2.1,hv h2.2.1,hj h2.2.2⟩
    · rw [if_neg e1] at h2 ⊢
      by_cases e2:b.end_=2
      · rw [if_pos e2,Bool.and_eq_true,Bool.and_eq_true] at h2 ⊢
        rw [if_pos e2]
        exact ⟨h2.1,h2.2.1,hj h2.2.2⟩
      · rw [if_neg e2] at h2 ⊢
        by_cases e3:b.end_=3
        · rw [if_pos e3,Bool.and_eq_true,Bool.and_eq_true] at h2 ⊢
          rw [if_neg e2]
          exact ⟨h2.1,hv h2.2.1,hj h2.2.2⟩
        · rw [if_neg e3] at h2;cases h2
theorem mpF_enc {F:Func} (h:Enc.good F) {g:Int→Int} (hg:∀ x:Int,Enc.good x→Enc.good (g x)):Enc.good (mpF g F):=by
  have ha:∀ l:List Int,Enc.good l→Enc.good (l.map g):=fun l hl=>⟨by rw [List.length_map];exact hl.1,fun y hy=>by
    obtain ⟨x,hx,rfl⟩:=List.mem_map.1 hy
    exact hg x (hl.2 x hx)⟩
  refine ⟨h.1,by show (F.blocks_.map _).length≤_;rw [List.length_map];exact h.2.1,fun b' hb'=>?_⟩
  obtain ⟨b,hb,rfl⟩:=List.mem_map.1 hb'
  obtain ⟨q1,q2,q3,q4,q5⟩:=h.2.2 b hb
  refine ⟨q1,⟨by show (b.insts_.map _).length≤_;rw [List.length_map];exact q2.1,fun y hy=>?_⟩,q3, ?_,⟨by show (b.jumps_.map _).length≤_;rw [List.length_map];exact q5.1,fun y hy=>?_⟩⟩
  · obtain ⟨x,hx,rfl⟩:=List.mem_map.1 hy
    obtain ⟨p1,p2,p3⟩:=q2.2 x hx
    exact ⟨p1,p2,ha _ p3⟩
  · show Enc.good (if b.end_=2 then b.value_ else g b.value_)
    split
    · exact q4
    · exact hg _ q4
  · obtain ⟨x,hx,rfl⟩:=List.mem_map.1 hy
    obtain ⟨p1,p2⟩:=q5.2 x hx
    exact ⟨p1,ha _ p2⟩
end Go.Proofs.YtnomiclfiijniaaGreat
end

section
namespace Go.Proofs.YtnomiclfiijniaaGreat
set_option maxRecDepth 100000
set_option linter.unusedSimpArgs false
set_option linter.unusedVariables false
end Go.Proofs.YtnomiclfiijniaaGreat
end

section
namespace Go.Proofs.YtnomiclfiijniaaGreat
set_option maxRecDepth 100000
set_option linter.unusedSimpArgs false
set_option linter.unusedVariables false
theorem Gr.len {n0:Nat} {l:List Int} {v:V} {H:Heap} (h:Gr n0 l v H) (R:Heap):Gr n0 l v (H++R):=by
  rcases h with h | ⟨id,h1,h2,h3,h4⟩
  · exact .inl h
  · exact .inr ⟨id,h1,h2,h3,(List.getElem?_append_left (List.getElem?_eq_some_iff.1 h4).1).trans h4⟩
theorem l14End_lp (H:Heap) (b:Block) (h:smallEnd b) {c:Code} (hcd:(loopsIn (Tryz.f104.body.getD .skip))[0]? = some c) {Q:Exit→St→Prop} {s:St} {v0:V} {H0:Heap}
    (hs:IntoH s [(3,v0),(15,.d (dJumpS b.jumps_)),(16,.d (.int .i64 b.jumps_.length)),(17,.d (.int .i64 0))] H0) (hg:Gr H.length (endP b 0) v0 H0) (ho:Only [] H H0)
    (hq:∀ v H1 l',Gr H.length (usedL b) v H1→Only [] H H1→mk l' 3=v→Q (.exit 0) ⟨mk l',H1⟩):W Tryz.prog 27 H.length c Q s:=by
  cases hcd
  refine W_loopH (α:=Nat × V × Heap) (fun a=>[(3,a.2.1),(15,.d (dJumpS b.jumps_)),(16,.d (.int .i64 b.jumps_.length)),(17,.d (.int .i64 a.1))]) (fun a=>a.2.2)
    (fun a=>a.1≤b.jumps_.length∧Gr H.length (endP b a.1) a.2.1 a.2.2∧Only [] H a.2.2) (fun a=>b.jumps_.length - a.1) (0,v0,H0) hs ⟨Nat.zero_le _,hg,ho⟩ ?_
  rintro ⟨i,v,H1⟩ ⟨hi,hg,ho⟩
  simp only [] at hi hg ho
  have hol:=ho.len
  have hl:=endP_len h i hi
  have hj2:=h.1
  have wi:i < b.jumps_.length→IntKind.i64.wrap ((i:Int) + 1)=((i + 1:Nat):Int):=fun h=>by rw [wrap_id] <;> omega
  have step:i < b.jumps_.length→endP b (i + 1)=endP b i++(b.jumps_[i]?.getD default).args_:=fun q=>endP_succ q
  have fin:b.jumps_.length≤i→usedL b=endP b i:=fun q=>by
    unfold endP usedL;rw [List.take_of_length_le q]
  have has:i < b.jumps_.length→(b.jumps_[i]?.getD default).args_.length≤100:=fun q=>h.2 _ (by rw [List.getElem?_eq_getElem q];exact List.getElem_mem _)
  have hu:=upto_all (b.jumps_[i]?.getD default).args_
  generalize hargs:(b.jumps_[i]?.getD default).args_=av at step has hu
  generalize hacc:endP b i=acc at hg step fin hl
  have hg0:=hg
  rcases hg with ⟨rfl,rfl⟩ | ⟨id,rfl,hp,hi0,hr⟩
  · refine W_run mixed ⟨[],[],[],27,H.length,[0,1,2,3,5,8,15,16,17,18],[8,18]⟩ (fun _=>[]) (by kernel_rfl) ?_
    simp only [stripX,stripOps,pickOps]
    simp [-V.flat,-V.one,one_int,one_bool,one_str,one_nilp,one_rp,one_nilsl,one_ro,one_cl,one_nilf,one_nili,one_ifc,one_ptr,one_sl,one_clo,flat_d,flat_ptr,flat_sl,flat_clo,flat_agg,hargs,hu]
    refine ⟨fun q=>⟨q,by have:=has q;omega,fun e=>?_,fun e=>?_⟩,fun q=>?_⟩
    · exact ⟨i + 1,_,_,⟨by omega,by rw [step q,e];exact hg0.len _,only_more ho⟩,by omega,rfl,rfl,wi q⟩
    · exact ⟨i + 1,_,_,⟨by omega,by rw [step q,List.nil_append];exact Gr.new hol (by cases av;exact absurd rfl e;simp) rfl rfl,only_more ho⟩,by omega,rfl,rfl,wi q⟩
    · exact hq _ _ _ (by rw [fin q];exact hg0) ho rfl
  · have hid:=(List.getElem?_eq_some_iff.1 hr).1
    have hr':∀ R:Heap,(H1++R)[id]? = some (.row 1 (rI acc)):=fun R=>(List.getElem?_append_left hid).trans hr
    have hset:∀ (R:Heap) p,(H1++R).set id p=H1.set id p++R:=fun R p=>List.set_append_left _ _ hid
    refine W_run mixed ⟨[],[],[],27,H.length,[0,1,2,3,5,8,15,16,17,18],[8,18]⟩ (fun _=>[]) (by kernel_rfl) ?_
    simp only [stripX,stripOps,pickOps]
    simp [-V.flat,-V.one,one_int,one_bool,one_str,one_nilp,one_rp,one_nilsl,one_ro,one_cl,one_nilf,one_nili,one_ifc,one_ptr,one_sl,one_clo,flat_d,flat_ptr,flat_sl,flat_clo,flat_agg,hargs,hu,hr',hset]
    refine ⟨fun q=>⟨q,by have:=has q;omega, ?_⟩,fun q=>?_⟩
    · exact ⟨i + 1,_,_,⟨by omega,by rw [step q];exact Gr.new2 hol (by simp;omega) (by simp) (by simp),only_dead ho hi0⟩,by omega,rfl,rfl,wi q⟩
    · exact hq _ _ _ (by rw [fin q];exact hg0) ho rfl
theorem l14End_gr (H:Heap) (b:Block) (h:smallEnd b):CallsD Tryz.prog 104 [vBlock b] H fun r H'=>Gr H.length (usedL b) r H'∧Only [] H H':=by
  by_cases e:b.end_=2
  · have e0:endP b 0=[]:=by simp [endP,e]
    refine calls_of Tryz.func104 en_104 rfl (of_decide_eq_true rfl) (W_run mixed ⟨[],[],[],27,H.length,[0,1,2,3,5,8,15,16,17,18],[8,18]⟩ (fun _=>[]) (by kernel_rfl) ?_)
    simp only [Tryz.f104,stripX,stripOps,pickOps]
    simp [-V.flat,-V.one,one_int,one_bool,one_str,one_nilp,one_rp,one_nilsl,one_ro,one_cl,one_nilf,one_nili,one_ifc,one_ptr,one_sl,one_clo,flat_d,flat_ptr,flat_sl,flat_clo,flat_agg,e,retQ]
    refine l14End_lp H b h rfl (v0:=.d .nilsl) (H0:=H++[.row 5 [[.d (.int .i64 b.params_),.d (dInstS b.insts_),.d (.int .i64 b.end_),.d (.int .i64 b.value_),.d (dJumpS b.jumps_)]]]) ?_ ?_ ?_ fun v H1 l' hg ho hl'=>?_
    · simp [e]
    · rw [e0];exact .inl ⟨rfl,rfl⟩
    · exact Only.app _ _ _
    · simp [-V.flat,-V.one,one_int,one_bool,one_str,one_nilp,one_rp,one_nilsl,one_ro,one_cl,one_nilf,one_nili,one_ifc,one_ptr,one_sl,one_clo,flat_d,flat_ptr,flat_sl,flat_clo,flat_agg,hl']
      exact ⟨_,_,Fin.same ho.len,hg,ho⟩
  · have e0:endP b 0=[b.value_]:=by simp [endP,e]
    refine calls_of Tryz.func104 en_104 rfl (of_decide_eq_true rfl) (W_run mixed ⟨[],[],[],27,H.length,[0,1,2,3,5,8,15,16,17,18],[8,18]⟩ (fun _=>[]) (by kernel_rfl) ?_)
    simp only [Tryz.f104,stripX,stripOps,pickOps]
    simp [-V.flat,-V.one,one_int,one_bool,one_str,one_nilp,one_rp,one_nilsl,one_ro,one_cl,one_nilf,one_nili,one_ifc,one_ptr,one_sl,one_clo,flat_d,flat_ptr,flat_sl,flat_clo,flat_agg,e,retQ]
    refine l14End_lp H b h rfl (v0:=.sl (H.length + 2) 1 0 1) (H0:=H++[.row 5 [[.d (.int .i64 b.params_),.d (dInstS b.insts_),.d (.int .i64 b.end_),.d (.int .i64 b.value_),.d (dJumpS b.jumps_)]],.row 1 [[.d (.int .i64 b.value_)]],.row 1 [[.d (.int .i64 b.value_)]]]) ?_ ?_ ?_ fun v H1 l' hg ho hl'=>?_
    · simp
    · rw [e0];exact .inr ⟨H.length + 2,rfl,by simp,by omega,by simp⟩
    · exact Only.app _ _ _
    · simp [-V.flat,-V.one,one_int,one_bool,one_str,one_nilp,one_rp,one_nilsl,one_ro,one_cl,one_nilf,one_nili,one_ifc,one_ptr,one_sl,one_clo,flat_d,flat_ptr,flat_sl,flat_clo,flat_agg,hl']
      exact ⟨_,_,Fin.same ho.len,hg,ho⟩
def cntI (v:Int) (l:List Int):Nat:=(l.filter fun x=>decide (x=v)).length
theorem cntI_app (v:Int) (l m:List Int):cntI v (l++m)=cntI v l + cntI v m:=by unfold cntI;rw [List.filter_append,List.length_append]
theorem cntI_le (v:Int) (l:List Int):cntI v l≤l.length:=List.length_filter_le _ _
theorem cntI_take (v:Int) (l:List Int) {i:Nat} (h:i < l.length):cntI v (l.take (i + 1))=cntI v (l.take i) + if l[i]?.getD 0=v then 1 else 0:=by
  rw [List.take_succ_eq_append_getElem h,cntI_app,List.getElem?_eq_getElem h]
  congr 1
  show (List.filter _ [l[i]]).length=_
  by_cases e:l[i]=v
  · rw [Option.getD_some,if_pos e,List.filter_cons_of_pos (by simpa using e)];rfl
  · rw [Option.getD_some,if_neg e,List.filter_cons_of_neg (by simpa using e)];rfl
def bseq (b:Block):List Int:=usedL b++b.insts_.flatMap (·.args_)
def cntP (bs:List Block) (v:Int) (k:Nat):Nat:=((bs.take k).map fun b=>cntI v (bseq b)).sum
theorem cntP_succ {bs:List Block} {v:Int} {k:Nat} (h:k < bs.length):cntP bs v (k + 1)=cntP bs v k + cntI v (bseq (bs[k]?.getD default)):=by
  unfold cntP
  rw [List.take_succ_eq_append_getElem h,List.map_append,List.sum_append,List.getElem?_eq_getElem h];simp
theorem cntP_uses {bs:List Block} {v:Nat} (h:∀ b∈bs,∀ x∈allU b,0≤x):(cntP bs v bs.length:Int)=usesN bs v:=by
  unfold cntP usesN
  rw [List.take_length]
  congr 1
  induction bs with
  | nil=>rfl
  | cons b bs ih =>
    rw [List.map_cons,List.sum_cons,List.flatMap_cons,List.filter_append,List.length_append,ih fun b hb=>h b (List.mem_cons_of_mem _ hb)]
    congr 1
    have e:cntI v (bseq b)=cntI v (allU b):=by unfold bseq allU;rw [cntI_app,cntI_app,Nat.add_comm]
    rw [e]
    unfold cntI
    congr 1
    refine List.filter_congr fun x hx=>?_
    have:=h b List.mem_cons_self x hx
    rw [Bool.eq_iff_iff];simp;omega
def accU (b:Block) (i:Nat):List Int:=usedL b++(b.insts_.take i).flatMap (·.args_)
theorem accU_succ {b:Block} {i:Nat} (h:i < b.insts_.length):accU b (i + 1)=accU b i++(b.insts_[i]?.getD default).args_:=by
  unfold accU
  rw [List.take_succ_eq_append_getElem h,List.flatMap_append,List.append_assoc,List.getElem?_eq_getElem h];simp
theorem cntP_le {bs:List Block} {v:Int} (c:Nat) (h:∀ b∈bs,(bseq b).length≤c):∀ k,k≤bs.length→cntP bs v k≤c * k
  | 0,_=>by simp [cntP]
  | k + 1,hk=>by
    rw [cntP_succ (by omega)]
    have:=cntP_le (v:=v) c h k (by omega)
    have h1:=cntI_le v (bseq (bs[k]?.getD default))
    have h2:=h (bs[k]?.getD default) (by rw [List.getElem?_eq_getElem (by omega)];exact List.getElem_mem _)
    rw [Nat.mul_succ];omega
set_option maxHeartbeats 4000000 in
theorem l14Uses_c (F : Func) (v : Int) (hF : Enc.good F) (hg : goodF F = true) (hv : 0 ≤ v) : PureP Tryz.prog 52 [vFunc F, .d (.int .i64 v)] (· = .d (.int .i64 (usesN F.blocks_ v.toNat))) := by
  obtain ⟨v,rfl⟩:=Int.eq_ofNat_of_zero_le hv
  rw [Int.toNat_natCast]
  obtain ⟨h8,hsm⟩:=good_small hg
  have hcu:=cntP_uses (v:=v) fun b hb x hx=>(good_all hg hb x hx).1
  rw [← hcu]
  have hend:∀ k,smallEnd (F.blocks_[k]?.getD default):=fun k=>by
    by_cases h:k < F.blocks_.length
    · exact good_end hg _ (by rw [List.getElem?_eq_getElem h];exact List.getElem_mem h)
    · rw [List.getElem?_eq_none (by omega)];exact ⟨by decide,fun j hj=>absurd hj List.not_mem_nil⟩
  have hbs:∀ b∈F.blocks_,(bseq b).length≤1080000:=fun b hb=>by
    obtain ⟨q1,q2,q3,q4⟩:=hsm b hb
    have hse:=good_end hg b hb
    have e1:=endP_len hse b.jumps_.length (Nat.le_refl _)
    have e:endP b b.jumps_.length=usedL b:=by unfold endP usedL;rw [List.take_length]
    rw [e] at e1
    have e2:=sum_le (fun x:Inst=>x.args_.length) 1000 b.insts_ q3
    have:=hse.1
    unfold bseq
    rw [List.length_append,List.length_flatMap]
    omega
  refine PureP.of_own ?_
  refine calls_of Tryz.func52 en_52 rfl (of_decide_eq_true rfl) (W_run mixed ⟨[],[],[104],48,0,[0,1,2,4,5,7,8,10,12,14,15,16,17,23,24,25,26,34,35,36,37,42],[17,26,37,42]⟩ (fun _=>[]) (by kernel_rfl) ?_)
  simp only [Tryz.f52,stripX,stripOps,pickOps]
  simp [-V.flat,-V.one,one_int,one_bool,one_str,one_nilp,one_rp,one_nilsl,one_ro,one_cl,one_nilf,one_nili,one_ifc,one_ptr,one_sl,one_clo,flat_d,flat_ptr,flat_sl,flat_clo,flat_agg,hF,retQ]
  refine W_loopH (α:=Nat × Heap) (fun a=>[(1,.d (.int .i64 v)),(5,.d (.int .i64 (cntP F.blocks_ v a.1))),(14,.d (dBlockS F.blocks_)),(15,.d (.int .i64 F.blocks_.length)),(16,.d (.int .i64 a.1))]) (fun a=>a.2)
    (fun a=>a.1≤F.blocks_.length) (fun a=>F.blocks_.length - a.1) (0,[.row 2 [[.d (.int .i64 F.params_),.d (dBlockS F.blocks_)]]]) ?_ (Nat.zero_le _) ?_
  · simp [cntP]
  rintro ⟨k,G⟩ hk
  replace hk:k≤F.blocks_.length:=hk
  by_cases hkl:k < F.blocks_.length
  · obtain ⟨b,hgb⟩:∃ b:Block,F.blocks_[k]? = some b:=⟨_,List.getElem?_eq_getElem hkl⟩
    have hbm:=List.mem_of_getElem? hgb
    have hbk:F.blocks_[k]?.getD default=b:=by rw [hgb];rfl
    have hbk2:∀ h:k < F.blocks_.length,F.blocks_[k]=b:=fun h=>Option.some.inj ((List.getElem?_eq_getElem h).symm.trans hgb)
    refine W_run mixed ⟨[],[],[104],48,0,[0,1,2,4,5,7,8,10,12,14,15,16,17,23,24,25,26,34,35,36,37,42],[17,26,37,42]⟩ (fun _=>[]) (by kernel_rfl) ?_
    simp only [stripX,stripOps,pickOps]
    simp [-V.flat,-V.one,one_int,one_bool,one_str,one_nilp,one_rp,one_nilsl,one_ro,one_cl,one_nilf,one_nili,one_ifc,one_ptr,one_sl,one_clo,flat_d,flat_ptr,flat_sl,flat_clo,flat_agg,hkl,hbk,hbk2]
    rw [aft_call]
    refine (l14End_gr _ b (hbk ▸ hend k)).mono ?_
    rintro r H1 ⟨hgr,ho⟩
    have hl1:=ho.len
    have hc7:H1[G.length]? = some (.row 5 [[.d (.int .i64 b.params_),.d (dInstS b.insts_),.d (.int .i64 b.end_),.d (.int .i64 b.value_),.d (dJumpS b.jumps_)]]):=(ho.at_ G.length (by simp) List.not_mem_nil).trans (by simp)
    have hr1:r.one=true∧r.flat=[r]:=by rcases hgr with ⟨_,rfl⟩ | ⟨id,rfl,_⟩ <;> exact ⟨rfl,rfl⟩
    obtain ⟨hr1,hr2⟩:=hr1
    simp [-V.flat,-V.one,one_int,one_bool,one_str,one_nilp,one_rp,one_nilsl,one_ro,one_cl,one_nilf,one_nili,one_ifc,one_ptr,one_sl,one_clo,flat_d,flat_ptr,flat_sl,flat_clo,flat_agg,hc7,hr1,hr2]
    obtain ⟨n0,hn0⟩:∃ n0,(G++[Place.row 5 [[V.d (.int .i64 b.params_),V.d (dInstS b.insts_),V.d (.int .i64 b.end_),V.d (.int .i64 b.value_),V.d (dJumpS b.jumps_)]]]).length=n0:=⟨_,rfl⟩
    rw [hn0] at hgr hl1
    obtain ⟨q1,q2,q3,q4⟩:=hsm b hbm
    have hse:=hend k
    rw [hbk] at hse
    have hul:(usedL b).length≤1000000:=by
      have:=endP_len hse b.jumps_.length (Nat.le_refl _)
      have e:endP b b.jumps_.length=usedL b:=by unfold endP usedL;rw [List.take_length]
      rw [e] at this;omega
    have hfl:∀ i,i≤b.insts_.length→(accU b i).length≤1000000 + 1000 * i:=fun i=>by
      induction i with
      | zero=>intro _;unfold accU;simpa using hul
      | succ i ih=>intro hi;rw [accU_succ (by omega),List.length_append];have:=ih (by omega);have:=q3 (b.insts_[i]?.getD default) (by rw [List.getElem?_eq_getElem (by omega)];exact List.getElem_mem _);omega
    refine W_loopH (α:=Nat × V × Heap) (fun a=>[(1,.d (.int .i64 v)),(5,.d (.int .i64 (cntP F.blocks_ v k))),(8,a.2.1),(14,.d (dBlockS F.blocks_)),(15,.d (.int .i64 F.blocks_.length)),(16,.d (.int .i64 k)),(23,.d (dInstS b.insts_)),(24,.d (.int .i64 b.insts_.length)),(25,.d (.int .i64 a.1))]) (fun a=>a.2.2)
      (fun a=>a.1≤b.insts_.length∧Gr n0 (accU b a.1) a.2.1 a.2.2∧n0≤a.2.2.length) (fun a=>b.insts_.length - a.1) (0,r,H1) ?_ ⟨Nat.zero_le _,by unfold accU;simpa using hgr,hl1⟩ ?_
    · simp
    clear hgr hc7 ho hl1 hr1 hr2 r H1
    rintro ⟨j,r,H1⟩ ⟨hj,hgr,hl1⟩
    simp only [] at hj hgr hl1
    have haj:=hfl j hj
    have wj:j < b.insts_.length→IntKind.i64.wrap ((j:Int) + 1)=((j + 1:Nat):Int):=fun h=>by rw [wrap_id] <;> omega
    have wk:IntKind.i64.wrap ((k:Int) + 1)=((k + 1:Nat):Int):=by rw [wrap_id] <;> omega
    have hin:b.insts_.length≤j→accU b j=bseq b:=fun h=>by unfold accU bseq;rw [List.take_of_length_le h]
    have step:j < b.insts_.length→accU b (j + 1)=accU b j++(b.insts_[j]?.getD default).args_:=fun q=>accU_succ q
    have has:j < b.insts_.length→(b.insts_[j]?.getD default).args_.length≤1000:=fun q=>q3 _ (by rw [List.getElem?_eq_getElem q];exact List.getElem_mem _)
    have hu:=upto_all (b.insts_[j]?.getD default).args_
    have hcs:=cntP_succ (v:=v) hkl
    rw [hbk] at hcs
    generalize hargs:(b.insts_[j]?.getD default).args_=av at step has hu
    generalize hacc:accU b j=acc at hgr step hin haj
    have hg0:=hgr
    by_cases hjl:j < b.insts_.length
    · obtain ⟨x,hgx⟩:∃ x:Inst,b.insts_[j]? = some x:=⟨_,List.getElem?_eq_getElem hjl⟩
      have hx1:b.insts_[j]?.getD default=x:=by rw [hgx];rfl
      have hx2:∀ h:j < b.insts_.length,b.insts_[j]=x:=fun h=>Option.some.inj ((List.getElem?_eq_getElem h).symm.trans hgx)
      rw [hx1] at hargs
      rcases hgr with ⟨rfl,rfl⟩ | ⟨id,rfl,hp,hi0,hr⟩
      · refine W_run mixed ⟨[],[],[104],48,0,[0,1,2,4,5,7,8,10,12,14,15,16,17,23,24,25,26,34,35,36,37,42],[17,26,37,42]⟩ (fun _=>[]) (by kernel_rfl) ?_
        simp only [stripX,stripOps,pickOps]
        simp [-V.flat,-V.one,one_int,one_bool,one_str,one_nilp,one_rp,one_nilsl,one_ro,one_cl,one_nilf,one_nili,one_ifc,one_ptr,one_sl,one_clo,flat_d,flat_ptr,flat_sl,flat_clo,flat_agg,hargs,hu,hx1,hx2,hjl]
        refine ⟨by have:=has hjl;omega,fun e=>?_,fun e=>?_⟩
        · exact ⟨j + 1,_,_,⟨by omega,by rw [step hjl,e];exact hg0.len _,by simp;omega⟩,by omega,rfl,rfl,wj hjl⟩
        · exact ⟨j + 1,_,_,⟨by omega,by rw [step hjl,List.nil_append];exact Gr.new hl1 (by cases av;exact absurd rfl e;simp) rfl rfl,by simp;omega⟩,by omega,rfl,rfl,wj hjl⟩
      · have hid:=(List.getElem?_eq_some_iff.1 hr).1
        have hr':∀ R:Heap,(H1++R)[id]? = some (.row 1 (rI acc)):=fun R=>(List.getElem?_append_left hid).trans hr
        have hset:∀ (R:Heap) p,(H1++R).set id p=H1.set id p++R:=fun R p=>List.set_append_left _ _ hid
        refine W_run mixed ⟨[],[],[104],48,0,[0,1,2,4,5,7,8,10,12,14,15,16,17,23,24,25,26,34,35,36,37,42],[17,26,37,42]⟩ (fun _=>[]) (by kernel_rfl) ?_
        simp only [stripX,stripOps,pickOps]
        simp [-V.flat,-V.one,one_int,one_bool,one_str,one_nilp,one_rp,one_nilsl,one_ro,one_cl,one_nilf,one_nili,one_ifc,one_ptr,one_sl,one_clo,flat_d,flat_ptr,flat_sl,flat_clo,flat_agg,hargs,hu,hx1,hx2,hjl,hr',hset]
        refine ⟨by have:=has hjl;omega, ?_⟩
        exact ⟨j + 1,_,_,⟨by omega,by rw [step hjl];exact Gr.new2 hl1 (by simp;omega) (by simp) (by simp),by simp;omega⟩,by omega,rfl,rfl,wj hjl⟩
    · have hje:accU b j=bseq b:=by rw [hacc];exact hin (by omega)
      rw [hacc] at hje
      rw [← hje] at hcs
      rcases hgr with ⟨rfl,rfl⟩ | ⟨id,rfl,hp,hi0,hr⟩
      · refine W_run mixed ⟨[],[],[104],48,0,[0,1,2,4,5,7,8,10,12,14,15,16,17,23,24,25,26,34,35,36,37,42],[17,26,37,42]⟩ (fun _=>[]) (by kernel_rfl) ?_
        simp only [stripX,stripOps,pickOps]
        simp [-V.flat,-V.one,one_int,one_bool,one_str,one_nilp,one_rp,one_nilsl,one_ro,one_cl,one_nilf,one_nili,one_ifc,one_ptr,one_sl,one_clo,flat_d,flat_ptr,flat_sl,flat_clo,flat_agg,hjl]
        refine W_loopH (α:=Unit) (fun a=>[(1,.d (.int .i64 v)),(5,.d (.int .i64 (cntP F.blocks_ v k))),(14,.d (dBlockS F.blocks_)),(15,.d (.int .i64 F.blocks_.length)),(16,.d (.int .i64 k)),(34,.d .nilsl),(35,.d (.int .i64 0)),(36,.d (.int .i64 0))]) (fun a=>H1)
          (fun a=>True) (fun a=>0) () ?_ trivial ?_
        · simp
        rintro _ _
        refine W_run mixed ⟨[],[],[104],48,0,[0,1,2,4,5,7,8,10,12,14,15,16,17,23,24,25,26,34,35,36,37,42],[17,26,37,42]⟩ (fun _=>[]) (by kernel_rfl) ?_
        simp only [stripX,stripOps,pickOps]
        simp [-V.flat,-V.one,one_int,one_bool,one_str,one_nilp,one_rp,one_nilsl,one_ro,one_cl,one_nilf,one_nili,one_ifc,one_ptr,one_sl,one_clo,flat_d,flat_ptr,flat_sl,flat_clo,flat_agg]
        exact ⟨k + 1,by omega,by omega,by rw [hcs];rfl,wk⟩
      · refine W_run mixed ⟨[],[],[104],48,0,[0,1,2,4,5,7,8,10,12,14,15,16,17,23,24,25,26,34,35,36,37,42],[17,26,37,42]⟩ (fun _=>[]) (by kernel_rfl) ?_
        simp only [stripX,stripOps,pickOps]
        simp [-V.flat,-V.one,one_int,one_bool,one_str,one_nilp,one_rp,one_nilsl,one_ro,one_cl,one_nilf,one_nili,one_ifc,one_ptr,one_sl,one_clo,flat_d,flat_ptr,flat_sl,flat_clo,flat_agg,hjl,hr]
        refine W_loopH (α:=Nat) (fun a=>[(1,.d (.int .i64 v)),(5,.d (.int .i64 (cntP F.blocks_ v k + cntI v (acc.take a):Nat))),(14,.d (dBlockS F.blocks_)),(15,.d (.int .i64 F.blocks_.length)),(16,.d (.int .i64 k)),(34,.sl id 1 0 acc.length),(35,.d (.int .i64 acc.length)),(36,.d (.int .i64 a))]) (fun a=>H1)
          (fun a=>a≤acc.length) (fun a=>acc.length - a) 0 ?_ (Nat.zero_le _) ?_
        · simp [cntI]
        rintro m hm
        have hmj:(cntP F.blocks_ v k:Nat)≤1080000 * k:=cntP_le 1080000 hbs k hk
        have hcl:=cntI_le v (acc.take m)
        rw [List.length_take,Nat.min_eq_left hm] at hcl
        have wm:m < acc.length→IntKind.i64.wrap ((m:Int) + 1)=((m + 1:Nat):Int):=fun h=>by rw [wrap_id] <;> omega
        by_cases hml:m < acc.length
        · have hct:=cntI_take v acc hml
          have hg2:acc[m]? = some (acc[m]?.getD 0):=by rw [List.getElem?_eq_getElem hml];rfl
          generalize acc[m]?.getD 0=x at hg2 hct
          have hg3:∀ h:m < acc.length,acc[m]=x:=fun h=>Option.some.inj ((List.getElem?_eq_getElem h).symm.trans hg2)
          by_cases hx:x=(v:Int)
          · rw [if_pos hx] at hct
            have wc:IntKind.i64.wrap (((cntP F.blocks_ v k + cntI v (acc.take m):Nat):Int) + 1)=((cntP F.blocks_ v k + cntI v (acc.take (m + 1)):Nat):Int):=by rw [hct,wrap_id] <;> omega
            refine W_run mixed ⟨[],[],[104],48,0,[0,1,2,4,5,7,8,10,12,14,15,16,17,23,24,25,26,34,35,36,37,42],[17,26,37,42]⟩ (fun _=>[]) (by kernel_rfl) ?_
            simp only [stripX,stripOps,pickOps]
            simp [-V.flat,-V.one,one_int,one_bool,one_str,one_nilp,one_rp,one_nilsl,one_ro,one_cl,one_nilf,one_nili,one_ifc,one_ptr,one_sl,one_clo,flat_d,flat_ptr,flat_sl,flat_clo,flat_agg,hr,hml,hg2,hg3,hx]
            exact ⟨m + 1,hml,by omega,wc,wm hml⟩
          · rw [if_neg hx] at hct
            refine W_run mixed ⟨[],[],[104],48,0,[0,1,2,4,5,7,8,10,12,14,15,16,17,23,24,25,26,34,35,36,37,42],[17,26,37,42]⟩ (fun _=>[]) (by kernel_rfl) ?_
            simp only [stripX,stripOps,pickOps]
            simp [-V.flat,-V.one,one_int,one_bool,one_str,one_nilp,one_rp,one_nilsl,one_ro,one_cl,one_nilf,one_nili,one_ifc,one_ptr,one_sl,one_clo,flat_d,flat_ptr,flat_sl,flat_clo,flat_agg,hr,hml,hg2,hg3,hx]
            exact ⟨m + 1,hml,by omega,by rw [hct];rfl,wm hml⟩
        · have hme:m=acc.length:=by omega
          refine W_run mixed ⟨[],[],[104],48,0,[0,1,2,4,5,7,8,10,12,14,15,16,17,23,24,25,26,34,35,36,37,42],[17,26,37,42]⟩ (fun _=>[]) (by kernel_rfl) ?_
          simp only [stripX,stripOps,pickOps]
          simp [-V.flat,-V.one,one_int,one_bool,one_str,one_nilp,one_rp,one_nilsl,one_ro,one_cl,one_nilf,one_nili,one_ifc,one_ptr,one_sl,one_clo,flat_d,flat_ptr,flat_sl,flat_clo,flat_agg,hr,hml]
          exact ⟨k + 1,by omega,by omega,by rw [hcs,hme,List.take_length];exact (Int.natCast_add _ _).symm,wk⟩
  · have hke:k=F.blocks_.length:=by omega
    refine W_run mixed ⟨[],[],[104],48,0,[0,1,2,4,5,7,8,10,12,14,15,16,17,23,24,25,26,34,35,36,37,42],[17,26,37,42]⟩ (fun _=>[]) (by kernel_rfl) ?_
    simp only [stripX,stripOps,pickOps]
    simp [-V.flat,-V.one,one_int,one_bool,one_str,one_nilp,one_rp,one_nilsl,one_ro,one_cl,one_nilf,one_nili,one_ifc,one_ptr,one_sl,one_clo,flat_d,flat_ptr,flat_sl,flat_clo,flat_agg,hkl]
    simp [retQ]
    exact ⟨_,_,Fin.same (Nat.zero_le _),by rw [hke];exact Rd1.d⟩
end Go.Proofs.YtnomiclfiijniaaGreat
end
