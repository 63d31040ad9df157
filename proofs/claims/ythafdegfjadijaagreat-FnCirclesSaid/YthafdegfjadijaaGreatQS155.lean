/- The loop of a head: the program. No condition. -/
import Derived.Test.YthafdegfjadijaaGreatQE11
import Derived.Test.YthafdegfjadijaaGreatQS154
namespace Go.Proofs.YthafdegfjadijaaGreat
set_option maxRecDepth 100000
set_option linter.unusedSimpArgs false
set_option linter.unusedVariables false
theorem listB_takeB {l:List Bool} {i:Nat} (h:i < l.length):numsOf (fun k=>l[k]?.getD false) (i + 1)=numsOf (fun k=>l[k]?.getD false) i++(if l[i]?.getD false=true then [(i:Int)] else []):=numsOf_succ _ _
theorem listOf_ownB (H:Heap) (l:List Bool) (hl:l.length≤1000):CallsD Tryz.prog 36 [.d (dBoolS l)] H fun r H'=>∃ s:AS Int,r=s.v∧Tr.era s=listB l∧New H H' s:=by
  refine calls_of Tryz.func36 en_36 rfl (of_decide_eq_true rfl) (W_run mixed ⟨[],[],[],21,H.length,[0,2,3,4,5,7,8,9,10,14],[10,14]⟩ (fun _=>[]) (by kernel_rfl) ?_)
  simp only [Tryz.f36,stripX,stripOps,pickOps]
  simp [-V.flat,-V.one,one_int,one_bool,one_str,one_nilp,one_rp,one_nilsl,one_ro,one_cl,one_nilf,one_nili,one_ifc,one_ptr,one_sl,one_clo,flat_d,flat_ptr,flat_sl,flat_clo,flat_agg,retQ]
  refine W_loopH (α:=Nat × Nat × Heap) (fun a=>[(3,.sl a.2.1 1 0 (numsOf (fun k=>l[k]?.getD false) a.1).length),(7,.d (dBoolS l)),(8,.d (.int .i64 l.length)),(9,.d (.int .i64 a.1))]) (fun a=>a.2.2)
    (fun a=>a.1≤l.length∧H.length≤a.2.1∧a.2.2[a.2.1]? = some (.row 1 (rI (numsOf (fun k=>l[k]?.getD false) a.1)))∧Only [] H a.2.2) (fun a=>l.length - a.1) (0,H.length,H++[.row 1 []]) ?_ ⟨Nat.zero_le _,Nat.le_refl _,by simp [numsOf],Only.app _ _ _⟩ ?_
  · simp [numsOf]
  rintro ⟨i,id,G⟩ ⟨hi,hid,hr,ho⟩
  simp only [] at hi hid hr ho ⊢
  have lG:=ho.len
  have hidl:=(List.getElem?_eq_some_iff.1 hr).1
  have wi:i < l.length→IntKind.i64.wrap ((i:Int) + 1)=((i + 1:Nat):Int):=fun h=>by rw [wrap_id] <;> omega
  have hnl:=numsOf_len (fun k=>l[k]?.getD false) i
  by_cases hil:i < l.length
  · have hs:=listB_takeB hil
    obtain ⟨x,hx⟩:∃ x,x=l[i]?.getD false:=⟨_,rfl⟩
    have hx0:=hx.symm
    have hx1:∀ h:i < l.length,l[i]=x:=fun h=>by rw [hx,List.getElem?_eq_getElem h];rfl
    rw [hx0] at hs
    obtain ⟨m,hm⟩:∃ m,m=numsOf (fun k=>l[k]?.getD false) i:=⟨_,rfl⟩
    rw [← hm] at hs hr hnl ⊢
    have hr':∀ R:Heap,(G++R)[id]? = some (.row 1 (rI m)):=fun R=>(List.getElem?_append_left hidl).trans hr
    have hset:∀ (R:Heap) p,(G++R).set id p=G.set id p++R:=fun R p=>List.set_append_left _ _ hidl
    cases x with
    | true =>
      rw [if_pos rfl] at hs
      refine W_run mixed ⟨[],[],[],21,H.length,[0,2,3,4,5,7,8,9,10,14],[10,14]⟩ (fun _=>[]) (by kernel_rfl) ?_
      simp only [stripX,stripOps,pickOps]
      simp [-V.flat,-V.one,one_int,one_bool,one_str,one_nilp,one_rp,one_nilsl,one_ro,one_cl,one_nilf,one_nili,one_ifc,one_ptr,one_sl,one_clo,flat_d,flat_ptr,flat_sl,flat_clo,flat_agg,hil,hx0,hx1,hr',hset,wi]
      exact ⟨⟨by omega,by omega⟩,i + 1,G.length + 1,_,⟨by omega,by omega,by rw [hs,List.getElem?_append_right (by simp),List.length_set,show G.length + 1 - G.length=1 by omega];simp [rI],only_dead ho hid⟩,by omega,rfl,⟨rfl,by rw [hs];simp⟩,by omega⟩
    | false =>
      rw [if_neg (by decide),List.append_nil] at hs
      refine W_run mixed ⟨[],[],[],21,H.length,[0,2,3,4,5,7,8,9,10,14],[10,14]⟩ (fun _=>[]) (by kernel_rfl) ?_
      simp only [stripX,stripOps,pickOps]
      simp [-V.flat,-V.one,one_int,one_bool,one_str,one_nilp,one_rp,one_nilsl,one_ro,one_cl,one_nilf,one_nili,one_ifc,one_ptr,one_sl,one_clo,flat_d,flat_ptr,flat_sl,flat_clo,flat_agg,hil,hx0,hx1,wi]
      exact ⟨i + 1,id,_,⟨by omega,hid,by rw [hs];exact hr,ho⟩,by omega,rfl,⟨rfl,by rw [hs]⟩,by omega⟩
  · have he:i=l.length:=by omega
    refine W_run mixed ⟨[],[],[],21,H.length,[0,2,3,4,5,7,8,9,10,14],[10,14]⟩ (fun _=>[]) (by kernel_rfl) ?_
    simp only [stripX,stripOps,pickOps]
    simp [-V.flat,-V.one,one_int,one_bool,one_str,one_nilp,one_rp,one_nilsl,one_ro,one_cl,one_nilf,one_nili,one_ifc,one_ptr,one_sl,one_clo,flat_d,flat_ptr,flat_sl,flat_clo,flat_agg,hil,retQ]
    refine fin_new (a:=(⟨.sl id 1 0 (numsOf (fun k=>l[k]?.getD false) i).length,numsOf (fun k=>l[k]?.getD false) i⟩:AS Int)) (own_row hr) ho (fun j hj=>?_) fun H' h'=>⟨_,rfl,by rw [he];exact era_ints _,h'⟩
    rw [ids_row] at hj
    rw [List.mem_singleton.1 hj];exact hid
theorem listOf_atB {H : Heap} {id : Nat} {l : List Bool} (hr : H[id]? = some (.row 1 (rB l))) (hl : l.length ≤ 1000) : CallsD Tryz.prog 36 [.sl id 1 0 l.length] H fun r H' => r = .d (dIntS (listB l)) ∧ ∃ k, H' = H ++ List.replicate k .dead := by
  have hd:decA (α:=List Bool) H (.sl id 1 0 l.length)=(True,l):=by
    have hd:(Dec.dec (α:=List Bool) H [.sl id 1 0 l.length]).1∧(Dec.dec (α:=List Bool) H [.sl id 1 0 l.length]).2=l:=by
      have e:((rB l).drop 0).take l.length=rB l:=by rw [List.drop_zero,List.take_of_length_le (by simp)]
      rw [dec_sl,hr]
      simp only [e]
      refine ⟨⟨⟨rfl,trivial⟩,by simp,fun r hr=>?_⟩, ?_⟩
      · obtain ⟨x,hx,rfl⟩:=List.mem_map.1 hr
        trivial
      · rw [rB,List.map_map]
        exact List.map_id' _
    exact Prod.ext (eq_true ⟨rfl,hd.1⟩) hd.2
  have rd:Rd1 H (.sl id 1 0 l.length) (.d (dBoolS l)):=Rd1.dec (α:=List Bool) (by rw [hd];exact ⟨trivial,rfl⟩)
  refine CallsD.closeS (α:=Int) (l:=listB l) ((CallsD.peekN (T:=fun r (s:AS Int)=>r=s.v∧Tr.era s=listB l) ((listOf_ownB (deads H.length) l hl).mono fun r H' ⟨s,q1,q2,q3⟩=>⟨s,⟨q1,q2⟩,q3⟩) (Rd1.list (vs:=[.sl id 1 0 l.length]) (vs':=[.d (dBoolS l)]) ⟨rd,trivial⟩) ?_).mono fun r H' ⟨s,⟨q1,q2⟩,q3⟩=>⟨s,q1,q2,q3⟩)
  rintro r s hok ⟨rfl,_⟩
  exact (show okS s from hok).1.scl.1
theorem Rd1.clo1 {H:Heap} {fn:Nat} {c:V} {d:D} (h:Rd1 H c (.d d)):Rd1 H (.clo fn [c]) (.d (.clo fn 1 fun _=>d)):=fun X w φ v hs hv=>by
  simp only [VS] at hv
  obtain ⟨cs,rfl,h1⟩:=hv
  simp only [VSs] at h1
  obtain ⟨x,l,e1,h2,e2⟩:=h1
  have h3:=h X w φ x hs h2
  simp only [VS] at h3 ⊢
  have e3:cs.toList=[x]:=by rw [e1,e2]
  have e4:cs=#[x]:=Array.ext' e3
  subst e4
  refine ⟨#[x],rfl,rfl,fun j hj=>?_⟩
  have:j=0:=by omega
  subst this
  exact ⟨x,rfl,h3⟩
theorem Rd1.cell {H:Heap} {c:Nat} {d:D} (h:H[c]? = some (.row 1 [[.d d]])):Rd1 H (.ptr c 1 0 0) (.d (.rp 1 fun _=>d)):=fun X w φ v hs hv=>by
  have h1:=closeD_spec hs 2 _ _ hv
  have e:closeD H 2 (.ptr c 1 0 0)=.rp 1 fun m=>closeD H 1 ((([[V.d d]]:List (List V))[0]?.getD [])[0 + m]?.getD (.d .undef)):=by simp only [closeD,h];rfl
  rw [e] at h1
  obtain ⟨a,rfl,h2⟩:=h1
  simp only [VS]
  refine ⟨a,rfl,fun j hj=>?_⟩
  obtain ⟨h3,c',h4,h5⟩:=h2 j hj
  have:j=0:=by omega
  subst this
  exact ⟨h3,c',h4,by simpa [closeD] using h5⟩
theorem loop1_c (s:Int) (bits:List Bool) (hs:0≤s∧s < bits.length):PureP Tryz.prog 77 [.d (.int .i64 s),.d (.rp 1 fun _=>dBoolS bits)] (· = .d (.bool (bits[s.toNat]?.getD false))):=by
  obtain ⟨h1,h2⟩:=hs
  refine pure_of Tryz.func77 en_77 rfl rfl (W_run mixed ⟨[],[],[],8,0,[0,1,3],[]⟩ (fun _=>[]) (by kernel_rfl) ?_)
  simp only [Tryz.f77,stripX,stripOps,pickOps]
  simp [h1,h2]
theorem anyTo_c (l:List Int) (bits:List Bool) (hl:Enc.good l) (hs:∀ s∈l,0≤s∧s < bits.length):PureP Tryz.prog 76 [.d (dIntS l),.d (.clo 77 1 fun _=>.rp 1 fun _=>dBoolS bits)] (· = .d (.bool (l.any fun s=>bits[s.toNat]?.getD false))) :=
  containsFuncInt_c (g:=77) (n:=1) (cap:=fun _=>.rp 1 fun _=>dBoolS bits) _ l hl fun i hi=>loop1_c _ bits (hs _ (by rw [List.getElem?_eq_getElem hi];exact List.getElem_mem hi))
theorem anyTo_own {H:Heap} {sid c:Nat} {l:List Int} {bits:List Bool} (hl:Enc.good l) (hs:∀ s∈l,0≤s∧s < bits.length) (h1:H[sid]? = some (.row 1 (rI l))) (h2:H[c]? = some (.row 1 [[.d (dBoolS bits)]])) :
    CallsD Tryz.prog 76 [.sl sid 1 0 l.length,.clo 77 [.ptr c 1 0 0]] H fun r H'=>r=.d (.bool (l.any fun s=>bits[s.toNat]?.getD false))∧H'=H:=by
  have r1:Rd1 H (.sl sid 1 0 l.length) (.d (dIntS l)):=by
    have:=Rd1.slice (own_row h1)
    rwa [show Tr.era (⟨.sl sid 1 0 l.length,l⟩:AS Int)=l from era_ints _] at this
  have:=CallsD.peek (anyTo_c l bits hl hs).ans (H:=H) (Rd1.list (vs:=[.sl sid 1 0 l.length,.clo 77 [.ptr c 1 0 0]]) ⟨r1,Rd1.clo1 (Rd1.cell h2),trivial⟩) rfl (fun _ h=>absurd h List.not_mem_nil)
  refine this.mono ?_
  rintro r H' ⟨rfl,rfl⟩
  exact ⟨rfl,by simp⟩
noncomputable def stN (nx:List (List Int)) (h:Int):List Int:=((bkTo (bkN nx) nx.length).filter fun e=>decide (e[1]?.getD 0=h)).map fun e=>e[0]?.getD 0
noncomputable def lpN (nx:List (List Int)) (h:Int) (k:Nat):Bool:=decide ((k:Int)=h) || ((rchB nx 0 (-1))[k]?.getD false && (stN nx h).any fun s=>(rchB nx k h)[s.toNat]?.getD false)
noncomputable def lpL (nx:List (List Int)) (h:Int):List Int:=numsOf (lpN nx h) nx.length
noncomputable def lpD (nx:List (List Int)) (h:Int):D:=if stN nx h=[] then .nilsl else dIntS (lpL nx h)
noncomputable def lpB (nx:List (List Int)) (h:Int) (j:Nat):List Bool:=(List.range nx.length).map fun k:Nat=>decide ((k:Int)=h) || (decide ((k:Int)∈(listB (rchB nx 0 (-1))).take j) && (stN nx h).any fun s=>(rchB nx k h)[s.toNat]?.getD false)
theorem lpB_len (nx:List (List Int)) (h:Int) (j:Nat):(lpB nx h j).length=nx.length:=by simp [lpB]
theorem lpB_get {nx:List (List Int)} (h:Int) (j:Nat) {k:Nat} (hk:k < nx.length):(lpB nx h j)[k]? = some (decide ((k:Int)=h) || (decide ((k:Int)∈(listB (rchB nx 0 (-1))).take j) && (stN nx h).any fun s=>(rchB nx k h)[s.toNat]?.getD false)):=by simp [lpB,hk]
theorem lpB_zero (nx:List (List Int)) (q:Nat):(List.replicate nx.length false).set q true=lpB nx (q:Int) 0:=by
  refine List.ext_getElem? fun k=>?_
  rw [List.getElem?_set]
  by_cases hk:k < nx.length
  · rw [lpB_get _ _ hk]
    by_cases e:q=k
    · subst e;simp [hk]
    · have:¬ (k:Int)=q:=by omega
      simp [e,hk,this]
  · rw [List.getElem?_eq_none (l:=lpB nx q 0) (by rw [lpB_len];omega)]
    split
    · rw [if_neg (by rw [List.length_replicate];omega)]
    · exact List.getElem?_eq_none (by rw [List.length_replicate];omega)
theorem lpB_step {nx:List (List Int)} {h:Int} {j x:Nat} (hj:(listB (rchB nx 0 (-1)))[j]? = some (x:Int)):(lpB nx h j).set x ((lpB nx h j)[x]?.getD false || (stN nx h).any fun s=>(rchB nx x h)[s.toNat]?.getD false)=lpB nx h (j + 1):=by
  have hjl:=(List.getElem?_eq_some_iff.1 hj).1
  have hje:=(List.getElem?_eq_some_iff.1 hj).2
  have hx:x < nx.length:=by
    have:=List.mem_of_getElem? hj
    have:=(listB_rchB.1 this).2.1
    omega
  have ht:(listB (rchB nx 0 (-1))).take (j + 1)=(listB (rchB nx 0 (-1))).take j++[(x:Int)]:=by rw [List.take_succ_eq_append_getElem hjl,hje]
  refine List.ext_getElem? fun k=>?_
  rw [List.getElem?_set]
  by_cases hk:k < nx.length
  · rw [lpB_get (nx:=nx) h (j + 1) hk,ht]
    by_cases e:x=k
    · subst e
      rw [if_pos rfl,if_pos (by rw [lpB_len];exact hk),lpB_get _ _ hk]
      simp
      cases decide ((x:Int)=h) <;> cases (decide ((x:Int)∈(listB (rchB nx 0 (-1))).take j)) <;> simp_all
    · have:¬ (k:Int)=x:=by omega
      rw [if_neg e,lpB_get _ _ hk]
      simp [this]
  · rw [if_neg (by omega),List.getElem?_eq_none (by rw [lpB_len];omega),List.getElem?_eq_none (by rw [lpB_len];omega)]
theorem lpB_done {nx:List (List Int)} {h:Int} {j:Nat} (hj:(listB (rchB nx 0 (-1))).length≤j):listB (lpB nx h j)=lpL nx h:=by
  unfold listB lpL
  rw [lpB_len]
  refine sorted_ext (numsOf_sorted _ _) (numsOf_sorted _ _) fun x=>?_
  rw [mem_numsOf,mem_numsOf]
  refine and_congr_right fun h0=>and_congr_right fun h1=>?_
  have hx:x.toNat < nx.length:=by omega
  rw [lpB_get _ _ hx,List.take_of_length_le hj,Option.getD_some,lpN]
  have e:decide (((x.toNat:Nat):Int)∈listB (rchB nx 0 (-1)))=(rchB nx 0 (-1))[x.toNat]?.getD false:=by
    refine Bool.eq_iff_iff.2 ?_
    rw [decide_eq_true_eq,listB_rchB,rchB_get hx]
    exact ⟨fun q=>q.2.2,fun q=>⟨by omega,by omega,q⟩⟩
  rw [e]
end Go.Proofs.YthafdegfjadijaaGreat
