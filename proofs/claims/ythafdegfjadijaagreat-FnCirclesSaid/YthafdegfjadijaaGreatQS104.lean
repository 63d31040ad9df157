/- An instruction more for the function that is built. No condition. -/
import Derived.Test.YthafdegfjadijaaGreatQS103
import Derived.Test.YthafdegfjadijaaGreatQE11
import Derived.Test.YthafdegfjadijaaGreatQS101
namespace Go.Proofs.YthafdegfjadijaaGreat
set_option maxRecDepth 100000
set_option linter.unusedSimpArgs false
set_option linter.unusedVariables false
def withI (b:ABlock) (iv:V) (x:AInst):ABlock:=⟨b.params_,⟨iv,b.insts_.l++[x]⟩,b.end_,b.value_,b.jumps_⟩
set_option maxHeartbeats 4000000 in
theorem inst_own (H : Heap) (B : Nat) (p m op n : Int) (bs : AS ABlock) (q : Bd H B p bs m) {k : Nat} (hl : bs.l.length = k + 1) (hk : k ≤ 100) {b : ABlock} (hb : bs.l[k]? = some b) (args : AS Int) (ha : Own H args) (hav : args.v.one = true ∧ args.v.flat = [args.v]) (hd : ∀ j ∈ ids args, j ∉ ids bs ∧ j ≠ B) (hm : 0 ≤ m ∧ m ≤ 1000) (hbl : b.insts_.l.length ≤ 1000) (hsol : b.insts_.l = [] → b.insts_.v = .d .nilsl) :
    CallsD Tryz.prog 107 [.ptr B 3 0 0,.d (.int .i64 op),.d (.int .i64 n),args.v] H fun r H'=>r=.d (.int .i64 m)∧∃ iv,Bd H' B p ⟨bs.v,bs.l.set k (withI b iv ⟨op,n,args⟩)⟩ (m + 1) ∧
      (∀ j∈ids (⟨bs.v,bs.l.set k (withI b iv ⟨op,n,args⟩)⟩:AS ABlock),j∈ids bs∨j∈ids args∨H.length≤j)∧Only (B :: ids bs) H H':=by
  obtain ⟨rv,rr,rn,ri⟩:=q.own.row (by omega)
  rw [hl] at rv
  have hKl:=(List.getElem?_eq_some_iff.1 rr).1
  have hBl:=q.lt
  have hne:B ≠ bs.id:=fun e=>q.nin (by rw [ri,e];exact List.mem_cons_self)
  have hkl:k < bs.l.length:=by omega
  have hb2:∀ h:k < bs.l.length,bs.l[k]=b:=fun h=>Option.some.inj ((List.getElem?_eq_getElem h).symm.trans hb)
  have hb3:bs.l[k]?.getD default=b:=by rw [hb];rfl
  have hc:=q.cell
  rw [rv] at hc
  have hcR:∀ R:Heap,(H++R)[B]? = some (.row 3 [[.d (.int .i64 p),.sl bs.id 5 0 (k + 1),.d (.int .i64 m)]]):=fun R=>(List.getElem?_append_left hBl).trans hc
  have hrR:∀ R:Heap,(H++R)[bs.id]? = some (.row 5 (bs.l.map Tr.cells)):=fun R=>(List.getElem?_append_left hKl).trans rr
  have oB:Own H b:=q.own.elems.get (List.mem_of_getElem? hb)
  have oI:=ABlock.own_insts_ oB
  have w1:IntKind.i64.wrap (((k + 1:Nat):Int) - 1)=k:=by rw [wrap_id] <;> omega
  have w2:IntKind.i64.wrap ((k:Int) + 1 - 1)=k:=by rw [wrap_id] <;> omega
  have w3:IntKind.i64.wrap (m + 1)=m + 1:=wrap_id (by omega) (by omega)
  have w4:IntKind.i64.wrap (m + 1 - 1)=m:=by rw [wrap_id] <;> omega
  have w5:IntKind.i64.wrap (k:Int)=k:=wrap_id (by omega) (by omega)
  obtain ⟨av1,av2⟩:=hav
  have mb:∀ j∈ids b.insts_,j∈bs.l.flatMap ids:=fun j hj=>List.mem_flatMap.2 ⟨b,List.mem_of_getElem? hb,by rw [ids_ABlock];exact List.mem_append_left _ hj⟩
  have hsetK:∀ (R:Heap) P,(H++R).set bs.id P=H.set bs.id P++R:=fun R P=>List.set_append_left _ _ hKl
  have mI:∀ j∈ids b.insts_,j∈ids bs:=fun j hj=>by rw [ri];exact List.mem_cons_of_mem _ (mb j hj)
  have fin:∀ (G:Heap) (iv:V),H.length≤G.length→(∀ j,j < H.length→j ≠ bs.id→j ≠ B→(0 < b.insts_.l.length→j ≠ b.insts_.id)→G[j]? = H[j]?) →
      G[bs.id]? = some (.row 5 ((bs.l.map Tr.cells).set k [.d (.int .i64 b.params_),iv,.d (.int .i64 b.end_),.d (.int .i64 b.value_),b.jumps_.v]))→G[B]? = some (.row 3 [[.d (.int .i64 p),bs.v,.d (.int .i64 (m + 1))]]) →
      (∃ id,iv=.sl id 3 0 (b.insts_.l.length + 1)∧H.length≤id∧G[id]? = some (.row 3 ((b.insts_.l++[(⟨op,n,args⟩:AInst)]).map Tr.cells))) →
      ∃ r' H',Fin H.length G (.d (.int .i64 m)) H' r'∧r'=.d (.int .i64 m)∧∃ iv,Bd H' B p ⟨bs.v,bs.l.set k (withI b iv ⟨op,n,args⟩)⟩ (m + 1) ∧
      (∀ j∈ids (⟨bs.v,bs.l.set k (withI b iv ⟨op,n,args⟩)⟩:AS ABlock),j∈ids bs∨j∈ids args∨H.length≤j)∧Only (B :: ids bs) H H':=by
    intro G iv hGl hG hGK hGB hiv
    obtain ⟨id,rfl,hid,hrow⟩:=hiv
    have rowI:∀ j,j∈b.insts_.l.flatMap ids→0 < b.insts_.l.length∧j∈ids b.insts_∧j ≠ b.insts_.id:=fun j hj=>by
      have h0:0 < b.insts_.l.length:=by
        cases hbl:b.insts_.l with
        | nil=>rw [hbl] at hj;exact absurd hj List.not_mem_nil
        | cons=>simp
      obtain ⟨_,_,x3,x4⟩:=oI.row h0
      exact ⟨h0,by rw [x4];exact List.mem_cons_of_mem _ hj,fun e=>x3 (e ▸ hj)⟩
    have idI:0 < b.insts_.l.length→b.insts_.id∈ids b.insts_:=fun h0=>by rw [(oI.row h0).2.2.2];exact List.mem_cons_self
    have neK:∀ j∈ids b.insts_,j ≠ bs.id:=fun j hj e=>rn (e ▸ mb j hj)
    have neB:∀ j∈ids bs,j ≠ B:=fun j hj e=>q.nin (e ▸ hj)
    have oE:OwnL G b.insts_.l:=oI.elems.same fun j hj hl=>by
      obtain ⟨_,h2,h3⟩:=rowI j hj
      exact hG j hl (neK j h2) (neB j (mI j h2)) fun _=>h3
    have oA:Own G args:=ha.same fun j hj hl=>hG j hl (fun e=>(hd j hj).1 (by rw [e,ri];exact List.mem_cons_self)) (hd j hj).2 fun h0 e=>(hd j hj).1 (by rw [e];exact mI _ (idI h0))
    have ox:Own G (⟨op,n,args⟩:AInst):=AInst.own oA
    have ixa:ids (⟨op,n,args⟩:AInst)=ids args:=rfl
    have oS:=oE.snoc ox fun j hj hk=>(hd j hj).1 (mI j (rowI j hk).2.1)
    have hfl:(b.insts_.l++[(⟨op,n,args⟩:AInst)]).flatMap ids=b.insts_.l.flatMap ids++ids args:=by rw [List.flatMap_append,List.flatMap_cons,ixa];simp
    have hidn:id ∉ (b.insts_.l++[(⟨op,n,args⟩:AInst)]).flatMap ids:=by
      rw [hfl]
      intro h
      rcases List.mem_append.1 h with h | h
      · have:=q.own.lt (mI id (rowI id h).2.1);omega
      · have:=ha.lt h;omega
    have oN:=Own.mkS (id:=id) oS hrow hidn
    have hlen:(b.insts_.l++[(⟨op,n,args⟩:AInst)]).length=b.insts_.l.length + 1:=by simp
    rw [hlen] at oN
    have idN:∀ j∈ids (⟨.sl id (Enc.size Inst) 0 (b.insts_.l.length + 1),b.insts_.l++[(⟨op,n,args⟩:AInst)]⟩:AS AInst),j=id∨j∈b.insts_.l.flatMap ids∨j∈ids args:=fun j hj=>by
      rw [ids_sl (s:=(⟨.sl id (Enc.size Inst) 0 (b.insts_.l.length + 1),b.insts_.l++[(⟨op,n,args⟩:AInst)]⟩:AS AInst)) (show _=V.sl id (Enc.size Inst) 0 (b.insts_.l++[(⟨op,n,args⟩:AInst)]).length by rw [hlen]),hfl] at hj
      rcases List.mem_cons.1 hj with h | h
      · exact .inl h
      · exact .inr (List.mem_append.1 h)
    obtain ⟨h1,h2⟩:=q.ins (G:=G) (m':=m + 1) hb oN (fun j hj=>by
      rcases idN j hj with rfl | h | h
      · exact .inr ⟨fun h=>by have:=q.own.lt h;omega,fun e=>by omega⟩
      · exact .inl (rowI j h).2.1
      · exact .inr (hd j h)) (fun j hj h1 h2=>hG j (q.own.lt hj) h1 (neB j hj) fun h0 e=>h2 (e ▸ idI h0)) hGK hGB
    refine ⟨_,_,Fin.same hGl,rfl,_,h1,fun j hj=>?_,hGl,fun j hj hn=>hG j hj (fun e=>hn (List.mem_cons_of_mem _ (by rw [e,ri];exact List.mem_cons_self))) (fun e=>hn (by rw [e];exact List.mem_cons_self)) fun h0 e=>hn (List.mem_cons_of_mem _ (by rw [e];exact mI _ (idI h0)))⟩
    rcases h2 j hj with h | h
    · exact .inl h
    · rcases idN j h with h | h | h
      · exact .inr (.inr (by omega))
      · exact .inl (mI j (rowI j h).2.1)
      · exact .inr (.inl h)
  have w6:IntKind.i64.wrap m=m:=wrap_id (by omega) (by omega)
  by_cases hz:b.insts_.l=[]
  · have hv:=hsol hz
    have hB2:∀ (R:Heap) P,(H.set bs.id P++R)[B]? = some (.row 3 [[.d (.int .i64 p),.sl bs.id 5 0 (k + 1),.d (.int .i64 m)]]):=fun R P=>(List.getElem?_append_left (by simpa using hBl)).trans ((List.getElem?_set_ne hne.symm).trans hc)
    have hBs:∀ (R:Heap) P Q,(H.set bs.id P++R).set B Q=(H.set bs.id P).set B Q++R:=fun R P Q=>List.set_append_left _ _ (by simpa using hBl)
    have hB3:∀ (R:Heap) P Q,((H.set bs.id P).set B Q++R)[B]? = some Q:=fun R P Q=>(List.getElem?_append_left (by simpa using hBl)).trans (List.getElem?_set_self (by simpa using hBl))
    refine calls_of Tryz.func107 en_107 rfl (of_decide_eq_true rfl) (W_runS mixed [2] ⟨[],[],[],52,H.length,[0,1,2,3,8,9],[]⟩ (fun | 2=>[0,1,2,3,5,6,7,8,9,11,15,16,17,18,4,10,12,13,14,19,20,21,22,23] | _=>[]) (by kernel_rfl) ?_)
    simp only [Tryz.f107,stripS,skip_cons,skip_nil,Nat.reduceBEq,Bool.or_false,Bool.or_self,Bool.or_true,Bool.true_or,cond_true,cond_false,stripX,stripOps,pickOps]
    simp [-V.flat,-V.one,one_int,one_bool,one_str,one_nilp,one_rp,one_nilsl,one_ro,one_cl,one_nilf,one_nili,one_ifc,one_ptr,one_sl,one_clo,flat_d,flat_ptr,flat_sl,flat_clo,flat_agg,-decA,decA_int,decA_bool,decA_str,hc,w1,w2,w5]
    refine W_drawC mixed ⟨[],[],[],52,H.length,[0,1,2,3,8,9],[]⟩ [0,1,2,3,4,5,6,7,8,9,10,11,12,13,14,15,16,17,18,21,22] [19,20] [23] (.alt 19 (.alt 20 .leaf .nil) .nil) (fun | 19=>[4,10,14] | 20=>[4,10,14] | _=>[]) [0,1,2,3,8,9,17,18,19,20,21,22,23,24,25,26,27,28,29,30,31,32,33,34,35,36,37,38,39] (by kernel_rfl) (by kernel_rfl) ?_
    simp only [stripOps,pickOps]
    simp [denC,demC,loadD,stripOps,pickOps,-V.flat,-V.one,one_int,one_bool,one_str,one_nilp,one_rp,one_nilsl,one_ro,one_cl,one_nilf,one_nili,one_ifc,one_ptr,one_sl,one_clo,flat_d,flat_ptr,flat_sl,flat_clo,flat_agg,-decA,decA_int,decA_bool,decA_str,hc,hcR,rr,hrR,hsetK,hB2,hBs,hB3,hb,hb2,hb3,hkl,hl,w3,w4,w5,w6,av1,av2,hv]
    refine ⟨by omega, ?_⟩
    simp [retQ]
    refine fin _ (.sl (H.length + 1) 3 0 1) (by simp) (fun j hj h1 h2 _=>?_) ?_ ?_ ⟨H.length + 1,by rw [hz];rfl,by omega, ?_⟩
    · rw [List.getElem?_append_left (by simpa using hj),List.getElem?_set_ne (by omega),List.getElem?_set_ne (by omega)]
    · rw [List.getElem?_append_left (by simpa using hKl),List.getElem?_set_ne hne,List.getElem?_set_self hKl]
    · rw [List.getElem?_append_left (by simpa using hBl),List.getElem?_set_self (by simpa using hBl),rv];rfl
    · rw [List.getElem?_append_right (by simp),hz];simp
  · have h0:0 < b.insts_.l.length:=by
      cases hbl:b.insts_.l with
      | nil=>exact absurd hbl hz
      | cons=>simp
    obtain ⟨iv,ir,inn,ii⟩:=oI.row h0
    have hIl:=(List.getElem?_eq_some_iff.1 ir).1
    have hII:b.insts_.id∈ids b.insts_:=by rw [ii];exact List.mem_cons_self
    have hIK:b.insts_.id ≠ bs.id:=fun e=>rn (e ▸ mb _ hII)
    have hIB:b.insts_.id ≠ B:=fun e=>q.nin (e ▸ mI _ hII)
    have irR:∀ R:Heap,(H++R)[b.insts_.id]? = some (.row 3 (b.insts_.l.map Tr.cells)):=fun R=>(List.getElem?_append_left hIl).trans ir
    have hsI:∀ (R:Heap) P,(H++R).set b.insts_.id P=H.set b.insts_.id P++R:=fun R P=>List.set_append_left _ _ hIl
    have hsK2:∀ (R:Heap) P Q,(H.set b.insts_.id P++R).set bs.id Q=(H.set b.insts_.id P).set bs.id Q++R:=fun R P Q=>List.set_append_left _ _ (by simpa using hKl)
    have hrI:∀ (R:Heap) P,(H.set b.insts_.id P++R)[bs.id]? = some (.row 5 (bs.l.map Tr.cells)):=fun R P=>(List.getElem?_append_left (by simpa using hKl)).trans ((List.getElem?_set_ne hIK).trans rr)
    have hcI:∀ (R:Heap) P,(H.set b.insts_.id P++R)[B]? = some (.row 3 [[.d (.int .i64 p),.sl bs.id 5 0 (k + 1),.d (.int .i64 m)]]):=fun R P=>(List.getElem?_append_left (by simpa using hBl)).trans ((List.getElem?_set_ne hIB).trans hc)
    have hB2:∀ (R:Heap) P Q,((H.set b.insts_.id Q).set bs.id P++R)[B]? = some (.row 3 [[.d (.int .i64 p),.sl bs.id 5 0 (k + 1),.d (.int .i64 m)]]):=fun R P Q=>(List.getElem?_append_left (by simpa using hBl)).trans ((List.getElem?_set_ne hne.symm).trans ((List.getElem?_set_ne hIB).trans hc))
    have hBs:∀ (R:Heap) P Q S,((H.set b.insts_.id S).set bs.id P++R).set B Q=((H.set b.insts_.id S).set bs.id P).set B Q++R:=fun R P Q S=>List.set_append_left _ _ (by simpa using hBl)
    have hB3:∀ (R:Heap) P Q S,(((H.set b.insts_.id S).set bs.id P).set B Q++R)[B]? = some Q:=fun R P Q S=>(List.getElem?_append_left (by simpa using hBl)).trans (List.getElem?_set_self (by simpa using hBl))
    refine calls_of Tryz.func107 en_107 rfl (of_decide_eq_true rfl) (W_runS mixed [2] ⟨[],[],[],52,H.length,[0,1,2,3,8,9],[]⟩ (fun | 2=>[0,1,2,3,5,6,7,8,9,11,15,16,17,18,4,10,12,13,14,19,20,21,22,23] | _=>[]) (by kernel_rfl) ?_)
    simp only [Tryz.f107,stripS,skip_cons,skip_nil,Nat.reduceBEq,Bool.or_false,Bool.or_self,Bool.or_true,Bool.true_or,cond_true,cond_false,stripX,stripOps,pickOps]
    simp [-V.flat,-V.one,one_int,one_bool,one_str,one_nilp,one_rp,one_nilsl,one_ro,one_cl,one_nilf,one_nili,one_ifc,one_ptr,one_sl,one_clo,flat_d,flat_ptr,flat_sl,flat_clo,flat_agg,-decA,decA_int,decA_bool,decA_str,hc,w1,w2,w5]
    refine W_drawC mixed ⟨[],[],[],52,H.length,[0,1,2,3,8,9],[]⟩ [0,1,2,3,4,5,6,7,8,9,10,11,12,13,14,15,16,17,18,21,22] [19,20] [23] (.alt 19 (.alt 20 .leaf .nil) .nil) (fun | 19=>[4,10,14] | 20=>[4,10] | _=>[]) [0,1,2,3,8,9,17,18,19,20,21,22,23,24,25,26,27,28,29,30,31,32,33,34,35,36,37,38,39] (by kernel_rfl) (by kernel_rfl) ?_
    simp only [stripOps,pickOps]
    simp [denC,demC,loadD,stripOps,pickOps,-V.flat,-V.one,one_int,one_bool,one_str,one_nilp,one_rp,one_nilsl,one_ro,one_cl,one_nilf,one_nili,one_ifc,one_ptr,one_sl,one_clo,flat_d,flat_ptr,flat_sl,flat_clo,flat_agg,-decA,decA_int,decA_bool,decA_str,hc,hcR,rr,hrR,ir,irR,hsI,hsetK,hsK2,hrI,hcI,hB2,hBs,hB3,hb,hb2,hb3,hkl,hl,w3,w4,w5,w6,av1,av2,iv]
    refine ⟨by omega,⟨by omega,by omega⟩, ?_⟩
    simp [retQ]
    refine fin _ (.sl (H.length + 1) 3 0 (b.insts_.l.length + 1)) (by simp) (fun j hj h1 h2 h3=>?_) ?_ ?_ ⟨H.length + 1,rfl,by omega, ?_⟩
    · rw [List.getElem?_append_left (by simpa using hj),List.getElem?_set_ne (by omega),List.getElem?_set_ne (by omega),List.getElem?_set_ne (fun e=>h3 h0 e.symm)]
    · rw [List.getElem?_append_left (by simpa using hKl),List.getElem?_set_ne hne,List.getElem?_set_self (by simpa using hKl)]
    · rw [List.getElem?_append_left (by simpa using hBl),List.getElem?_set_self (by simpa using hBl),rv];rfl
    · rw [List.getElem?_append_right (by simp)];simp
end Go.Proofs.YthafdegfjadijaaGreat
