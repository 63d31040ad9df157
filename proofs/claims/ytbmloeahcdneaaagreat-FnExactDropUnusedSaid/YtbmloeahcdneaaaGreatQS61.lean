/- Passes: what a function of the program does to a function of its own, and what passed makes of that. No condition. -/
import Derived.Test.YtbmloeahcdneaaaGreatQS42
import Derived.Test.YtbmloeahcdneaaaGreatQS49
section
namespace Go.Proofs.YtbmloeahcdneaaaGreat
set_option maxRecDepth 100000
set_option linter.unusedSimpArgs false
set_option linter.unusedVariables false
theorem goodF_body {F:Func} (h:goodF F=true) {b:Block} (hb:b∈F.blocks_):b.insts_.all (instOk (many F))=true∧endsOk F.blocks_ b (many F)=true:=by
  obtain ⟨_,_,_,_,_,_,hbo⟩:=goodF_spec h
  have h1:=List.all_eq_true.1 hbo _ hb
  simp only [bodyOk,Bool.and_eq_true] at h1
  exact h1
def setB (b:Block) (i:Nat) (x:Inst):Block:=⟨b.params_,b.insts_.set i x,b.end_,b.value_,b.jumps_⟩
def setI (F:Func) (k i:Nat) (x:Inst):Func:=⟨F.params_,F.blocks_.set k (setB (F.blocks_[k]?.getD default) i x)⟩
def opTr (op:Int) (x:List Int):Bool:=decide (op=8) && decide (x[1]?.getD 0=0)
def opNr (op:Int) (x:List Int):Int :=
  let a:=x[0]?.getD 0
  let b:=x[1]?.getD 0
  if op=3 then IntKind.i64.wrap (-a) else if op=4 then IntKind.i64.wrap (a + b) else if op=5 then IntKind.i64.wrap (a - b) else if op=6 then IntKind.i64.wrap (a * b)
  else if op=7 then IntKind.i64.wrap (a * 2 ^ (b % 64).toNat) else if op=8 then (if b=0 then 0 else IntKind.i64.wrap (a.tdiv b)) else if op=9 then (if a=b then 1 else 0)
  else if op=10 then (if a < b then 1 else 0) else if a=0 then x[2]?.getD 0 else b
def canI (F:Func) (x:Inst):Bool:=decide (3≤x.op_) && (decide (x.op_≤11) && (x.args_.all (nuB F) && !opTr x.op_ (x.args_.map (nuN F))))
def insOf (F:Func) (k i:Nat):Inst:=(F.blocks_[k]?.getD default).insts_[i]?.getD default
def numI (F:Func) (x:Inst):Inst:=⟨1,opNr x.op_ (x.args_.map (nuN F)),[]⟩
def stepI (k:Nat) (p:Func × Int) (i:Nat):Func × Int:=if canI p.1 (insOf p.1 k i)=true then (setI p.1 k i (numI p.1 (insOf p.1 k i)),p.2 + 1) else p
end Go.Proofs.YtbmloeahcdneaaaGreat
end

section
namespace Go.Proofs.YtbmloeahcdneaaaGreat
set_option maxRecDepth 100000
set_option linter.unusedSimpArgs false
set_option linter.unusedVariables false
theorem mpF_congr {g h:Int→Int} {F:Func} (he:∀ b∈F.blocks_,∀ x∈allU b,g x=h x):mpF g F=mpF h F:=by
  unfold mpF
  congr 1
  refine List.map_congr_left fun b hb=>?_
  have hu:=he b hb
  have e1:b.insts_.map (mpI g)=b.insts_.map (mpI h):=List.map_congr_left fun x hx=>by
    unfold mpI
    congr 1
    exact List.map_congr_left fun n hn=>hu n (List.mem_append_left _ (List.mem_flatMap.2 ⟨x,hx,hn⟩))
  have e2:b.jumps_.map (mpJ g)=b.jumps_.map (mpJ h):=List.map_congr_left fun x hx=>by
    unfold mpJ
    congr 1
    exact List.map_congr_left fun n hn=>hu n (List.mem_append_right _ (List.mem_append_right _ (List.mem_flatMap.2 ⟨x,hx,hn⟩)))
  unfold mpB
  rw [e1,e2]
  by_cases h2:b.end_=2
  · rw [if_pos h2,if_pos h2]
  · rw [if_neg h2,if_neg h2,hu b.value_ (List.mem_append_right _ (List.mem_append_left _ (by rw [if_neg h2];exact List.mem_singleton.2 rfl)))]
theorem good_value {F:Func} (h:goodF F=true) {b:Block} (hb:b∈F.blocks_) (h2:b.end_=2):b.value_=0:=by
  obtain ⟨_,_,_,_,_,_,hbo⟩:=goodF_spec h
  have h1:=List.all_eq_true.1 hbo b hb
  simp only [bodyOk,Bool.and_eq_true,endsOk,h2] at h1
  simp at h1
  exact h1.2.1
theorem good_all {F:Func} (h:goodF F=true) {b:Block} (hb:b∈F.blocks_):∀ x∈allU b,0≤x∧x < many F:=by
  obtain ⟨_,h2,h3⟩:=good_vals h hb
  intro x hx
  rcases List.mem_append.1 hx with q | q
  · obtain ⟨y,hy,hn⟩:=List.mem_flatMap.1 q
    exact (h2 y hy).2 x hn
  · exact h3 x q
theorem good_small {F:Func} (h:goodF F=true):smallF F:=by
  obtain ⟨_,hl,_,_,_,_,_⟩:=goodF_spec h
  refine ⟨by omega,fun b hb=>?_⟩
  obtain ⟨h1,h2,_⟩:=good_vals h hb
  obtain ⟨h3,h4⟩:=good_end h b hb
  exact ⟨h1,h3,fun x hx=>(h2 x hx).1,fun j hj=>by have:=h4 j hj;omega⟩
theorem good_map {F:Func} (h:goodF F=true) {T:List Int} (hT:T.length=(many F).toNat):∀ b∈F.blocks_,okMap T b:=fun b hb=>by
  obtain ⟨_,s2⟩:=good_small h
  obtain ⟨q1,q2,q3,q4⟩:=s2 b hb
  exact ⟨by omega,by omega,q3,q4,fun v hv=>by have:=good_all h hb v hv;omega,good_value h hb⟩
theorem dle_closeK {K:List Nat} {H:Heap} {id:Nat} {l:List Int} (hid:id ∉ K) (hr:H[id]? = some (.row 1 (rI l))):DLe (closeK K H 4 (.sl id 1 0 l.length)) (dIntS l):=by
  have hl:(rI l).length=l.length:=by simp
  simp only [closeK]
  rw [if_neg hid,hr]
  simp only [Nat.zero_add,hl]
  rw [if_pos ⟨trivial,Nat.le_refl _⟩]
  refine ⟨rfl,rfl,fun k hk j hj=>?_⟩
  have:j=0:=by omega
  subst this
  dsimp only
  rw [List.getElem?_map,List.getElem?_eq_getElem hk]
  simp [closeK]
end Go.Proofs.YtbmloeahcdneaaaGreat
end

section
namespace Go.Proofs.YtbmloeahcdneaaaGreat
set_option maxRecDepth 100000
set_option linter.unusedSimpArgs false
set_option linter.unusedVariables false
theorem fin_nilF {H R:Heap} {r:V} {Q:V→Heap→Prop} (hq:∀ (A:AFunc) H',Tr.cells A=[.d (.int .i64 0),.d .nilsl]→Tr.era A=⟨0,[]⟩→New H H' A→Q r H'):∃ r' H',Fin H.length (H++R) r H' r'∧Q r' H' :=
  fin_new (a:=(⟨0,⟨.d .nilsl,[]⟩⟩:AFunc)) (AFunc.own ⟨⟨.inr ⟨rfl,.inl rfl⟩,fun a ha=>absurd ha List.not_mem_nil⟩,fun q hq=>absurd hq List.not_mem_nil,List.nodup_nil⟩) (Only.app _ _ _) (fun j hj=>absurd hj List.not_mem_nil) fun H' h'=>hq _ H' rfl rfl h'
theorem smallA_of {A:AFunc} {F:Func} (h:smallF F) (e:Tr.era A=F):smallA A:=by
  have eb:(Tr.era A).blocks_=A.blocks_.l.map Tr.era:=rfl
  have hl:A.blocks_.l.length=F.blocks_.length:=by rw [← e,eb,List.length_map]
  refine ⟨by rw [hl];have:=h.1;omega,fun b hb=>?_⟩
  have hm:Tr.era b∈F.blocks_:=by rw [← e,eb];exact List.mem_map.2 ⟨b,hb,rfl⟩
  obtain ⟨h1,h2,h3,h4⟩:=h.2 _ hm
  have i1:(Tr.era b).insts_=b.insts_.l.map Tr.era:=rfl
  have j1:(Tr.era b).jumps_=b.jumps_.l.map Tr.era:=rfl
  rw [i1] at h1 h3
  rw [j1] at h2 h4
  rw [List.length_map] at h1 h2
  refine ⟨by omega,by omega,fun x hx=>?_,fun x hx=>?_⟩
  · have:=h3 _ (List.mem_map.2 ⟨x,hx,rfl⟩)
    have e2:(Tr.era x).args_=x.args_.l.map Tr.era:=rfl
    rw [e2,List.length_map] at this;exact this
  · have:=h4 _ (List.mem_map.2 ⟨x,hx,rfl⟩)
    have e2:(Tr.era x).args_=x.args_.l.map Tr.era:=rfl
    rw [e2,List.length_map] at this;exact this
end Go.Proofs.YtbmloeahcdneaaaGreat
end

section
namespace Go.Proofs.YtbmloeahcdneaaaGreat
set_option maxRecDepth 100000
set_option linter.unusedSimpArgs false
set_option linter.unusedVariables false
structure At (H:Heap) (idf:Nat) (A:AFunc):Prop where
  row:H[idf]? = some (.row 2 [[.d (.int .i64 A.params_),A.blocks_.v]])
  own:Own H A
  sol:solF A
  nin:idf ∉ ids A
  good:goodF (Tr.era A)=true
  enc:Enc.good (Tr.era A)
structure PR (H:Heap) (idf:Nat) (A A':AFunc) (H':Heap):Prop where
  at_:At H' idf A'
  ids:∀ j∈ids A',j∈ids A∨H.length≤j
  only:Only (idf :: Go.Proofs.YtbmloeahcdneaaaGreat.ids A) H H'
theorem At.more {H:Heap} {idf:Nat} {A:AFunc} (q:At H idf A) (R:Heap):At (H++R) idf A :=
  ⟨(List.getElem?_append_left (List.getElem?_eq_some_iff.1 q.row).1).trans q.row,q.own.frame (Only.app [] _ _) fun j _ hj=>absurd hj List.not_mem_nil,q.sol,q.nin,q.good,q.enc⟩
theorem At.frame {H H':Heap} {idf:Nat} {A:AFunc} {S:List Nat} (q:At H idf A) (ho:Only S H H') (h1:idf ∉ S) (h2:∀ j∈ids A,j ∉ S):At H' idf A :=
  ⟨(ho.at_ _ (List.getElem?_eq_some_iff.1 q.row).1 h1).trans q.row,q.own.frame ho h2,q.sol,q.nin,q.good,q.enc⟩
theorem At.lt {H:Heap} {idf:Nat} {A:AFunc} (q:At H idf A):∀ j∈idf :: ids A,j < H.length:=fun j hj=>by
  rcases List.mem_cons.1 hj with rfl | hj
  · exact (List.getElem?_eq_some_iff.1 q.row).1
  · exact q.own.lt hj
theorem PR.refl {H:Heap} {idf:Nat} {A:AFunc} (q:At H idf A):PR H idf A A H:=⟨q,fun j hj=>.inl hj,Only.refl _ _⟩
theorem PR.trans {H H1 H2:Heap} {idf:Nat} {A A1 A2:AFunc} (p:PR H idf A A1 H1) (q:PR H1 idf A1 A2 H2):PR H idf A A2 H2:=by
  refine ⟨q.at_,fun j hj=>?_,p.only.trans q.only (fun j hj=>hj) fun j hj hl=>?_⟩
  · rcases q.ids j hj with h | h
    · exact p.ids j h
    · exact .inr (Nat.le_trans p.only.len h)
  · rcases List.mem_cons.1 hj with rfl | hj
    · exact List.mem_cons_self
    · rcases p.ids j hj with h | h
      · exact List.mem_cons_of_mem _ h
      · omega
theorem PR.postO {H H1 H2:Heap} {idf:Nat} {A A1:AFunc} (p:PR H idf A A1 H1) (ho:Only [] H1 H2):PR H idf A A1 H2 :=
  ⟨p.at_.frame ho List.not_mem_nil fun j _ h=>absurd h List.not_mem_nil,p.ids,p.only.trans ho (fun j hj=>hj) fun j hj _=>absurd hj List.not_mem_nil⟩
def PassOwn (fn:Nat) (G:Func→Func) (K:Func→Int):Prop:=∀ (H:Heap) (A:AFunc) (idf:Nat),At H idf A →
  CallsD Tryz.prog fn [.ptr idf 2 0 0] H fun r H'=>∃ A',r=.d (.int .i64 (K (Tr.era A)))∧Tr.era A'=G (Tr.era A)∧PR H idf A A' H'
noncomputable def paF (G:Func→Func) (F:Func):Func:=if soundF F=true then G F else ⟨0,[]⟩
noncomputable def paK (K:Func→Int) (F:Func):Int:=if soundF F=true then K F else 0
theorem passed_own {fn:Nat} {G:Func→Func} {K:Func→Int} (hp:PassOwn fn G K) (hne:¬ 46=fn) (H:Heap) (F:Func) (hF:Enc.good F):CallsD Tryz.prog 54 [vFunc F,.d (.clo fn 0 fun _=>.undef)] H fun r H'=>∃ A:AFunc,r=.tup [.agg (Tr.cells A),.d (.int .i64 (paK K F)),.d (.bool (soundF F))]∧Tr.era A=paF G F∧New H H' A:=by
  cases hs:soundF F with
  | false =>
    have e1:paK K F=0:=by simp [paK,hs]
    have e2:paF G F=⟨0,[]⟩:=by simp [paF,hs]
    refine calls_of Tryz.func54 en_54 rfl (of_decide_eq_true rfl) (W_run mixed ⟨[K_46],[K_46h],[48],19,H.length,[0,1,2,4,5,6,7,8,11],[11]⟩ (fun _=>[]) (by kernel_rfl) ?_)
    simp only [Tryz.f54,stripX,stripOps,pickOps]
    simp [K_46_f,K_46_e,K_46h_f,K_46h_e,K_46h_g,-V.flat,-V.one,one_int,one_bool,one_str,one_nilp,one_rp,one_nilsl,one_ro,one_cl,one_nilf,one_nili,one_ifc,one_ptr,one_sl,one_clo,flat_d,flat_ptr,flat_sl,flat_clo,flat_agg,hF,sound_N hs,retQ]
    exact fin_nilF fun A H' q1 q2 q3=>⟨A,by rw [e1];exact congrArg (fun c=>V.tup [.agg c,.d (.int .i64 0),.d (.bool false)]) q1.symm,by rw [e2,q2],q3⟩
  | true =>
    have hg:=sound_good hs
    have e1:paK K F=K F:=by simp [paK,hs]
    have e2:paF G F=G F:=by simp [paF,hs]
    refine calls_of Tryz.func54 en_54 rfl (of_decide_eq_true rfl) (W_run mixed ⟨[K_46],[K_46h],[48],19,H.length,[0,1,2,4,5,6,7,8,11],[11]⟩ (fun _=>[]) (by kernel_rfl) ?_)
    simp only [Tryz.f54,stripX,stripOps,pickOps]
    simp [K_46_f,K_46_e,K_46h_f,K_46h_e,K_46h_g,-V.flat,-V.one,one_int,one_bool,one_str,one_nilp,one_rp,one_nilsl,one_ro,one_cl,one_nilf,one_nili,one_ifc,one_ptr,one_sl,one_clo,flat_d,flat_ptr,flat_sl,flat_clo,flat_agg,hF,sound_V hs,retQ]
    refine (cloneFunc_sol _ F (good_small hg)).mono ?_
    rintro r H1 ⟨A,rfl,⟨hA,hsol⟩,hn⟩
    have hfl:=hn.own.ok.1.flat
    have hone:=hn.own.ok.1.scl.2
    have hlt:∀ j∈ids A,j < H1.length:=fun j hj=>hn.own.lt hj
    simp [K_46_f,K_46_e,K_46h_f,K_46h_e,K_46h_g,-V.flat,-V.one,one_int,one_bool,one_str,one_nilp,one_rp,one_nilsl,one_ro,one_cl,one_nilf,one_nili,one_ifc,one_ptr,one_sl,one_clo,flat_d,flat_ptr,flat_sl,flat_clo,flat_agg,hfl,hone,hne,retQ]
    have hge:∀ j∈ids A,H.length + 2≤j:=fun j hj=>by have:=hn.fresh j hj;simp at this;omega
    have h1l:H.length + 2≤H1.length:=by have:=hn.only.len;simp at this;omega
    refine (hp _ A H1.length ⟨List.getElem?_concat_length,hn.own.frame (Only.app [] _ _) fun j _ hj=>absurd hj List.not_mem_nil,hsol,fun q=>Nat.lt_irrefl _ (hlt _ q),by rw [hA];exact hg,by rw [hA];exact hF⟩).mono ?_
    rintro r H2 ⟨A',rfl,hA',hr⟩
    rw [hA] at hA' ⊢
    have fl2:=hr.at_.own.ok.1.flat
    have one2:=hr.at_.own.ok.1.scl.2
    have oo:=hr.only
    have h2l:H1.length + 1≤H2.length:=by have:=oo.len;simp at this;omega
    have k9:=hr.at_.row
    have old:∀ j,j < H.length + 2→H2[j]? = H1[j]?:=fun j hj=>(oo.at_ j (by simp;omega) fun q=>by
      rcases List.mem_cons.1 q with q | q
      · omega
      · have:=hge j q;omega).trans (List.getElem?_append_left (by omega))
    have k6:H2[H.length + 1]? = some (.row 2 [[.d (.int .i64 0),.d .nilsl]]):=(old _ (by omega)).trans ((hn.only.at_ _ (by simp) List.not_mem_nil).trans (by simp))
    have s6:∀ p,(H2.set (H.length + 1) p)[H.length + 1]? = some p:=fun p=>List.getElem?_set_self (by omega)
    have hib:∀ j∈ids A',H.length + 2≤j:=fun j hj=>(hr.ids j hj).elim (fun h=>hge j h) fun h=>by simp at h;omega
    simp [K_46_f,K_46_e,K_46h_f,K_46h_e,K_46h_g,-V.flat,-V.one,one_int,one_bool,one_str,one_nilp,one_rp,one_nilsl,one_ro,one_cl,one_nilf,one_nili,one_ifc,one_ptr,one_sl,one_clo,flat_d,flat_ptr,flat_sl,flat_clo,flat_agg,fl2,one2,k9,k6,s6,retQ]
    refine fin_new (a:=A') (hr.at_.own.frame (S:=[H.length + 1]) Only.set fun j hj q=>by have:=hib j hj;simp at q;omega) ⟨by simp;omega,fun j hj _=>?_⟩ (fun j hj=>by have:=hib j hj;omega) fun H' h'=>⟨_,by rw [e1],hA'.trans e2.symm,h'⟩
    rw [List.getElem?_set_ne (by omega)]
    exact (old j (by omega)).trans ((hn.only.at_ j (by simp;omega) List.not_mem_nil).trans (List.getElem?_append_left hj))
theorem sm_paF {G:Func→Func} (h:∀ F,goodF F=true→Sm.sm F→Sm.sm (G F)) {F:Func} (hs:Sm.sm F):Sm.sm (paF G F):=by
  unfold paF
  split
  · exact h F (sound_good ‹_›) hs
  · exact ⟨trivial,Nat.zero_le _,fun a h=>absurd h List.not_mem_nil⟩
end Go.Proofs.YtbmloeahcdneaaaGreat
end
