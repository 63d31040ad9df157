/- Lists of what is so of a row; the uses at a block's end with a closure that writes. No condition. -/
import Derived.Test.YtnomiclfiijniaaQS21
import Derived.Test.YtnomiclfiijniaaQS92
import Derived.Test.YtnomiclfiijniaaQE11
namespace Go.Proofs.Ytnomiclfiijniaa
set_option maxRecDepth 100000
set_option linter.unusedSimpArgs false
set_option linter.unusedVariables false
theorem listB_take {l:List Bool} {i:Nat} (h:i < l.length):numsOf (fun k=>l[k]?.getD false) (i + 1)=numsOf (fun k=>l[k]?.getD false) i++(if l[i]?.getD false=true then [(i:Int)] else []):=numsOf_succ _ _
theorem listOf_own (H:Heap) (l:List Bool) (hl:l.length≤1000):CallsD Try.prog 68 [.d (dBoolS l)] H fun r H'=>∃ s:AS Int,r=s.v∧Tr.era s=listB l∧New H H' s:=by
  refine calls_of Try.func68 en_68 rfl (of_decide_eq_true rfl) (W_run mixed ⟨[],[],[],21,H.length,[0,2,3,4,5,7,8,9,10,14],[10,14]⟩ (fun _=>[]) (by kernel_rfl) ?_)
  simp only [Try.f68,stripX,stripOps,pickOps]
  simp [-V.flat,-V.one,one_int,one_bool,one_str,one_nilp,one_rp,one_nilsl,one_ro,one_cl,one_nilf,one_nili,one_ifc,one_ptr,one_sl,one_clo,flat_d,flat_ptr,flat_sl,flat_clo,flat_agg,retQ]
  refine W_loopH (α:=Nat × Nat × Heap) (fun a=>[(3,.sl a.2.1 1 0 (numsOf (fun k=>l[k]?.getD false) a.1).length),(7,.d (dBoolS l)),(8,.d (.int .i64 l.length)),(9,.d (.int .i64 a.1))]) (fun a=>a.2.2)
    (fun a=>a.1≤l.length∧H.length≤a.2.1∧a.2.2[a.2.1]? = some (.row 1 (rI (numsOf (fun k=>l[k]?.getD false) a.1)))∧Only [] H a.2.2) (fun a=>l.length - a.1) (0,H.length,H++[.row 1 []]) ?_ ⟨Nat.zero_le _,Nat.le_refl _,by simp [numsOf],Only.app _ _ _⟩ ?_
  · simp [numsOf]
  rintro ⟨i,id,G⟩ ⟨hi,hid,hr,ho⟩
  simp only [] at hi hid hr ho ⊢
  have lG:=ho.len
  have hidl:=(List.getElem?_eq_some_iff.1 hr).1
  have wi:i < l.length→IntKind.i64.wrap ((i:Int) + 1)=((i + 1:Nat):Int):=fun h=>by rw [wrap_id] <;> omega
  have hnl:=numsOf_len (fun k=>l[k]?.getD false) i
  by_cases hil:i < l.length
  · have hs:=listB_take hil
    obtain ⟨x,hx⟩:∃ x,x=l[i]?.getD false:=⟨_,rfl⟩
    have hx0:=hx.symm
    have hx1:∀ h:i < l.length,l[i]=x:=fun h=>by rw [hx,List.getElem?_eq_getElem h];rfl
    rw [hx0] at hs
    obtain ⟨m,hm⟩:∃ m,m=numsOf (fun k=>l[k]?.getD false) i:=⟨_,rfl⟩
    rw [← hm] at hs hr hnl ⊢
    have hr':∀ R:Heap,(G++R)[id]? = some (.row 1 (rI m)):=fun R=>(List.getElem?_append_left hidl).trans hr
    have hset:∀ (R:Heap) p,(G++R).set id p=G.set id p++R:=fun R p=>List.set_append_left _ _ hidl
    cases x with
    | true =>
      rw [if_pos rfl] at hs
      refine W_run mixed ⟨[],[],[],21,H.length,[0,2,3,4,5,7,8,9,10,14],[10,14]⟩ (fun _=>[]) (by kernel_rfl) ?_
      simp only [stripX,stripOps,pickOps]
      simp [-V.flat,-V.one,one_int,one_bool,one_str,one_nilp,one_rp,one_nilsl,one_ro,one_cl,one_nilf,one_nili,one_ifc,one_ptr,one_sl,one_clo,flat_d,flat_ptr,flat_sl,flat_clo,flat_agg,hil,hx0,hx1,hr',hset,wi]
      exact ⟨⟨by omega,by omega⟩,i + 1,G.length + 1,_,⟨by omega,by omega,by rw [hs,List.getElem?_append_right (by simp),List.length_set,show G.length + 1 - G.length=1 by omega];simp [rI],only_dead ho hid⟩,by omega,rfl,⟨rfl,by rw [hs];simp⟩,by omega⟩
    | false =>
      rw [if_neg (by decide),List.append_nil] at hs
      refine W_run mixed ⟨[],[],[],21,H.length,[0,2,3,4,5,7,8,9,10,14],[10,14]⟩ (fun _=>[]) (by kernel_rfl) ?_
      simp only [stripX,stripOps,pickOps]
      simp [-V.flat,-V.one,one_int,one_bool,one_str,one_nilp,one_rp,one_nilsl,one_ro,one_cl,one_nilf,one_nili,one_ifc,one_ptr,one_sl,one_clo,flat_d,flat_ptr,flat_sl,flat_clo,flat_agg,hil,hx0,hx1,wi]
      exact ⟨i + 1,id,_,⟨by omega,hid,by rw [hs];exact hr,ho⟩,by omega,rfl,⟨rfl,by rw [hs]⟩,by omega⟩
  · have he:i=l.length:=by omega
    refine W_run mixed ⟨[],[],[],21,H.length,[0,2,3,4,5,7,8,9,10,14],[10,14]⟩ (fun _=>[]) (by kernel_rfl) ?_
    simp only [stripX,stripOps,pickOps]
    simp [-V.flat,-V.one,one_int,one_bool,one_str,one_nilp,one_rp,one_nilsl,one_ro,one_cl,one_nilf,one_nili,one_ifc,one_ptr,one_sl,one_clo,flat_d,flat_ptr,flat_sl,flat_clo,flat_agg,hil,retQ]
    refine fin_new (a:=(⟨.sl id 1 0 (numsOf (fun k=>l[k]?.getD false) i).length,numsOf (fun k=>l[k]?.getD false) i⟩:AS Int)) (own_row hr) ho (fun j hj=>?_) fun H' h'=>⟨_,rfl,by rw [he];exact era_ints _,h'⟩
    rw [ids_row] at hj
    rw [List.mem_singleton.1 hj];exact hid
theorem listOf_at {H : Heap} {id : Nat} {l : List Bool} (hr : H[id]? = some (.row 1 (rB l))) (hl : l.length ≤ 1000) : CallsD Try.prog 68 [.sl id 1 0 l.length] H fun r H' => r = .d (dIntS (listB l)) ∧ ∃ k, H' = H ++ List.replicate k .dead := by
  have hd:decA (α:=List Bool) H (.sl id 1 0 l.length)=(True,l):=by
    have hd:(Dec.dec (α:=List Bool) H [.sl id 1 0 l.length]).1∧(Dec.dec (α:=List Bool) H [.sl id 1 0 l.length]).2=l:=by
      have e:((rB l).drop 0).take l.length=rB l:=by rw [List.drop_zero,List.take_of_length_le (by simp)]
      rw [dec_sl,hr]
      simp only [e]
      refine ⟨⟨⟨rfl,trivial⟩,by simp,fun r hr=>?_⟩, ?_⟩
      · obtain ⟨x,hx,rfl⟩:=List.mem_map.1 hr
        trivial
      · rw [rB,List.map_map]
        exact List.map_id' _
    exact Prod.ext (eq_true ⟨rfl,hd.1⟩) hd.2
  have rd:Rd1 H (.sl id 1 0 l.length) (.d (dBoolS l)):=Rd1.dec (α:=List Bool) (by rw [hd];exact ⟨trivial,rfl⟩)
  refine CallsD.closeS (α:=Int) (l:=listB l) ((CallsD.peekN (T:=fun r (s:AS Int)=>r=s.v∧Tr.era s=listB l) ((listOf_own (deads H.length) l hl).mono fun r H' ⟨s,q1,q2,q3⟩=>⟨s,⟨q1,q2⟩,q3⟩) (Rd1.list (vs:=[.sl id 1 0 l.length]) (vs':=[.d (dBoolS l)]) ⟨rd,trivial⟩) ?_).mono fun r H' ⟨s,⟨q1,q2⟩,q3⟩=>⟨s,q1,q2,q3⟩)
  rintro r s hok ⟨rfl,_⟩
  exact (show okS s from hok).1.scl.1
section
variable {α:Type} {b:Block} {fn:Nat} {caps:List V} {Hs:α→Heap} {f:α→Int→α} {n0:Nat}
theorem usedH_loop (s1 : α) (hj : b.jumps_.length ≤ 1000) (ha : ∀ j ∈ b.jumps_, j.args_.length ≤ 1000)
    (h:∀ s x n g,x∈usedL b→1≤n→g 0=D.int .i64 x→CallsD Try.prog fn (.d (.rp n g) :: caps) (Hs s) fun r H'=>r=.tup []∧H'=Hs (f s x))
    {c:Code} (hcd:(loopsIn (Try.f73.body.getD .skip))[0]? = some c) {Q:Exit→St→Prop} {s:St}
    (hs:IntoH s [(0,.d (.rp 5 (dBlock b))),(1,.clo fn caps),(20,.d (.int .i64 b.jumps_.length)),(21,.d (.int .i64 0))] (Hs s1))
    (hq:∀ l',Q (.exit 0) ⟨mk l',Hs ((b.jumps_.flatMap (·.args_)).foldl f s1)⟩):W Try.prog 50 n0 c Q s:=by
  cases hcd
  refine W_loopH (α:=α × Nat) (fun a=>[(0,.d (.rp 5 (dBlock b))),(1,.clo fn caps),(20,.d (.int .i64 b.jumps_.length)),(21,.d (.int .i64 a.2))]) (fun a=>Hs a.1)
    (fun a=>a.2≤b.jumps_.length∧((b.jumps_.drop a.2).flatMap (·.args_)).foldl f a.1=(b.jumps_.flatMap (·.args_)).foldl f s1) (fun a=>b.jumps_.length - a.2) (s1,0) hs ?_ ?_
  · simp
  rintro ⟨s,i⟩ ⟨hi,hT⟩
  dsimp only at hi hT
  refine W_run mixed ⟨[],[],[],50,n0,[0,1,4,5,10,20,21,22,32,33,34],[10,22,34]⟩ (fun _=>[]) (by kernel_rfl) ?_
  simp only [stripX,stripOps,pickOps]
  simp []
  refine ⟨fun hil=>⟨hil, ?_⟩,fun hil=>?_⟩
  · have hmem:b.jumps_[i]?.getD default∈b.jumps_:=by rw [List.getElem?_eq_getElem hil];exact List.getElem_mem hil
    have hal:=ha _ hmem
    have hin:∀ x∈(b.jumps_[i]?.getD default).args_,x∈usedL b:=fun x hx=>List.mem_append_right _ (List.mem_flatMap.2 ⟨_,hmem,hx⟩)
    rw [drop_cons hil,List.flatMap_cons,List.foldl_append] at hT
    have hjn:(i:Int) < b.jumps_.length:=by omega
    generalize hargs:(b.jumps_[i]?.getD default).args_=av at hal hin hT
    refine W_loopH (α:=α × Nat) (fun a=>[(0,.d (.rp 5 (dBlock b))),(1,.clo fn caps),(4,.d (.int .i64 i)),(20,.d (.int .i64 b.jumps_.length)),(21,.d (.int .i64 i)),(32,.d (.int .i64 av.length)),(33,.d (.int .i64 a.2))]) (fun a=>Hs a.1)
      (fun a=>a.2≤av.length∧(av.drop a.2).foldl f a.1=av.foldl f s) (fun a=>av.length - a.2) (s,0) ?_ ?_ ?_
    · simp
    · simp
    rintro ⟨s',j⟩ ⟨hj',hT'⟩
    dsimp only at hj' hT'
    refine W_run mixed ⟨[],[],[],50,n0,[0,1,4,5,10,20,21,22,32,33,34],[10,22,34]⟩ (fun _=>[]) (by kernel_rfl) ?_
    simp only [stripX,stripOps,pickOps]
    simp [hargs]
    refine ⟨fun hja=>⟨hil,hja, ?_⟩,fun hja=>?_⟩
    · have hx:av[j]?.getD 0∈av:=by rw [List.getElem?_eq_getElem hja];exact List.getElem_mem hja
      have hdr:av.drop j=av[j]?.getD 0 :: av.drop (j + 1):=by
        rw [List.drop_eq_getElem_cons hja,List.getElem?_eq_getElem hja];rfl
      rw [hdr,List.foldl_cons] at hT'
      refine (h s' (av[j]?.getD 0) _ _ (hin _ hx) (Nat.le_refl _) rfl).mono ?_
      rintro r H' ⟨rfl,rfl⟩
      simp []
      exact ⟨_,j + 1,⟨by omega,hT'⟩,by omega,rfl,by rw [wrap_id] <;> omega⟩
    · rw [List.drop_eq_nil_of_le hja] at hT'
      have e:s'=av.foldl f s:=hT'
      exact ⟨s',i + 1,⟨by omega,by rw [e];exact hT⟩,by omega,rfl,by rw [wrap_id] <;> omega⟩
  · rw [List.drop_eq_nil_of_le hil] at hT
    have:Hs s=Hs ((b.jumps_.flatMap (·.args_)).foldl f s1):=by rw [← hT];rfl
    rw [this]
    exact hq _
theorem usedH (s0:α) (hL:∀ s s',(Hs s).length=(Hs s').length) (hj:b.jumps_.length≤1000) (ha:∀ j∈b.jumps_,j.args_.length≤1000)
    (h:∀ s x n g,x∈usedL b→1≤n→g 0=D.int .i64 x→CallsD Try.prog fn (.d (.rp n g) :: caps) (Hs s) fun r H'=>r=.tup []∧H'=Hs (f s x)) :
    CallsD Try.prog 73 [.d (.rp 5 (dBlock b)),.clo fn caps] (Hs s0) fun r H'=>r=.tup []∧H'=Hs ((usedL b).foldl f s0):=by
  have fin:∀ T,Fin (Hs s0).length (Hs T) (.tup []) (Hs T) (.tup []):=fun T=>Fin.same (by rw [hL T s0];exact Nat.le_refl _)
  by_cases e:b.end_=2
  · refine calls_of Try.func73 en_73 rfl (of_decide_eq_true rfl) (W_run mixed ⟨[],[],[],50,(Hs s0).length,[0,1,4,5,10,20,21,22,32,33,34],[10,22,34]⟩ (fun _=>[]) (by kernel_rfl) ?_)
    simp only [Try.f73,stripX,stripOps,pickOps]
    simp [e]
    refine usedH_loop s0 hj ha h rfl ?_ fun l'=>?_
    · simp
    · simp [retQ]
      have eu:(usedL b).foldl f s0=(b.jumps_.flatMap (·.args_)).foldl f s0:=by simp [usedL,e]
      rw [eu];exact fin _
  · refine calls_of Try.func73 en_73 rfl (of_decide_eq_true rfl) (W_run mixed ⟨[],[],[],50,(Hs s0).length,[0,1,4,5,10,20,21,22,32,33,34],[10,22,34]⟩ (fun _=>[]) (by kernel_rfl) ?_)
    simp only [Try.f73,stripX,stripOps,pickOps]
    simp [e]
    refine (h s0 b.value_ _ _ (by simp [usedL,e]) (by decide) rfl).mono ?_
    rintro r H' ⟨rfl,rfl⟩
    simp []
    refine usedH_loop (f s0 b.value_) hj ha h rfl ?_ fun l'=>?_
    · simp
    · simp [retQ]
      have eu:(usedL b).foldl f s0=(b.jumps_.flatMap (·.args_)).foldl f (f s0 b.value_):=by simp [usedL,e]
      rw [eu];exact fin _
end
end Go.Proofs.Ytnomiclfiijniaa
