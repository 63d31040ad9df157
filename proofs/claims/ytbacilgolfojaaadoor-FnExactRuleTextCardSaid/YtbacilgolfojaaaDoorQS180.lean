/- The program's trees of a term. No condition. -/
import Derived.Test.YtbacilgolfojaaaDoorQS178
section
namespace Go.Proofs.YtbacilgolfojaaaDoor
set_option maxRecDepth 100000
set_option linter.unusedSimpArgs false
set_option linter.unusedVariables false
theorem isOpI_c (op:Int):PureP Tryd.prog 41 [.d (.int .i64 op)] (· = .d (.bool (inR op 1 11))):=by
  refine pure_of Tryd.func41 en_41 rfl rfl (W_run mixed ⟨[K_35],[K_35h],[],5,0,[0,2],[]⟩ (fun _=>[]) (by kernel_rfl) ?_)
  simp only [Tryd.f41,stripX,stripOps,pickOps]
  simp [K_35_f,K_35_e,K_35h_f,K_35h_e,K_35h_g]
noncomputable def K_41:Ent Tryd.prog:=Ent.p1 (α:=Int) 41 (fun a=>True) (fun a=>.d (.bool (inR a 1 11))) (fun a hc=>isOpI_c a)
theorem K_41_f:K_41.f=41:=rfl
theorem K_41_e (a:Int):K_41.e [.d (.int .i64 a)]=some (True,.d (.bool (inR a 1 11)),[]):=by unfold K_41;exact Ent.p1_eq (α:=Int) a
noncomputable def K_41h:EntH Tryd.prog:=EntH.pk1 (α:=Int) 41 (fun a=>True) (fun a=>.d (.bool (inR a 1 11))) (fun a=>[]) (fun a hc=>PureP.ans (isOpI_c a))
theorem K_41h_f:K_41h.f=41:=rfl
theorem K_41h_g:K_41h.gro=true:=rfl
theorem K_41h_e {x1:V} {H:Heap}:K_41h.e [x1] H=guardR ((decA (α:=Int) H x1).1) (peekR (True) (.d (.bool (inR (decA (α:=Int) H x1).2 1 11))) ([]) H):=rfl
theorem numOkI_c (op n:Int):PureP Tryd.prog 36 [.d (.int .i64 op),.d (.int .i64 n)] (· = .d (.bool (nodeOk ⟨op,n⟩))):=by
  refine pure_of Tryd.func36 en_36 rfl rfl (W_run mixed ⟨[K_41],[K_41h],[],22,0,[0,1,4,5,6,8],[6,8,12,18]⟩ (fun _=>[]) (by kernel_rfl) ?_)
  simp only [Tryd.f36,stripX,stripOps,pickOps]
  simp [K_41_f,K_41_e,K_41h_f,K_41h_e,K_41h_g]
  refine ⟨fun h=>?_,fun h1=>⟨fun h2=>⟨fun h=>?_,fun h=>?_⟩,fun h2=>⟨fun h=>?_,fun h=>?_⟩⟩⟩
  · simp [nodeOk,h]
  · simp [nodeOk,h2];omega
  · simp [nodeOk,h2];omega
  · have:=inR_t.1 h
    unfold nodeOk
    rw [decide_eq_decide]
    simp only []
    omega
  · have:=inR_f.1 h
    unfold nodeOk
    rw [decide_eq_false_iff_not]
    simp only []
    omega
noncomputable def K_36:Ent Tryd.prog:=Ent.p2 (α:=Int) (β:=Int) 36 (fun a b=>True) (fun a b=>.d (.bool (nodeOk ⟨a,b⟩))) (fun a b hc=>numOkI_c a b)
theorem K_36_f:K_36.f=36:=rfl
theorem K_36_e (a:Int) (b:Int):K_36.e [.d (.int .i64 a),.d (.int .i64 b)]=some (True,.d (.bool (nodeOk ⟨a,b⟩)),[]):=by unfold K_36;exact Ent.p2_eq (α:=Int) (β:=Int) a b
noncomputable def K_36h:EntH Tryd.prog:=EntH.pk2 (α:=Int) (β:=Int) 36 (fun a b=>True) (fun a b=>.d (.bool (nodeOk ⟨a,b⟩))) (fun a b=>[]) (fun a b hc=>PureP.ans (numOkI_c a b))
theorem K_36h_f:K_36h.f=36:=rfl
theorem K_36h_g:K_36h.gro=true:=rfl
theorem K_36h_e {x1 x2:V} {H:Heap}:K_36h.e [x1,x2] H=guardR ((decA (α:=Int) H x1).1∧(decA (α:=Int) H x2).1) (peekR (True) (.d (.bool (nodeOk ⟨(decA (α:=Int) H x1).2,(decA (α:=Int) H x2).2⟩))) ([]) H):=rfl
def arityN (op:Int):Int:=if op=1∨op=2 then 0 else if op=3 then 1 else if op=11 then 3 else 2
theorem arityI_c (op:Int):PureP Tryd.prog 37 [.d (.int .i64 op)] (· = .d (.int .i64 (arityN op))):=by
  refine pure_of Tryd.func37 en_37 rfl rfl (W_run mixed ⟨[],[],[],11,0,[0,2,3,4,7,9],[4,7,9]⟩ (fun _=>[]) (by kernel_rfl) ?_)
  simp only [Tryd.f37,stripX,stripOps,pickOps]
  simp []
  repeat' first | apply And.intro | intro _
  all_goals simp [arityN, *]
noncomputable def K_37:Ent Tryd.prog:=Ent.p1 (α:=Int) 37 (fun a=>True) (fun a=>.d (.int .i64 (arityN a))) (fun a hc=>arityI_c a)
theorem K_37_f:K_37.f=37:=rfl
theorem K_37_e (a:Int):K_37.e [.d (.int .i64 a)]=some (True,.d (.int .i64 (arityN a)),[]):=by unfold K_37;exact Ent.p1_eq (α:=Int) a
noncomputable def K_37h:EntH Tryd.prog:=EntH.pk1 (α:=Int) 37 (fun a=>True) (fun a=>.d (.int .i64 (arityN a))) (fun a=>[]) (fun a hc=>PureP.ans (arityI_c a))
theorem K_37h_f:K_37h.f=37:=rfl
theorem K_37h_g:K_37h.gro=true:=rfl
theorem K_37h_e {x1:V} {H:Heap}:K_37h.e [x1] H=guardR ((decA (α:=Int) H x1).1) (peekR (True) (.d (.int .i64 (arityN (decA (α:=Int) H x1).2))) ([]) H):=rfl
theorem clone_own (H:Heap) (id off n:Nat) (es:List (List V)) (hid:H[id]? = some (.row 1 es)) (hn:off + n≤es.length) (hb:n≤1000) :
    CallsD Tryd.prog 38 [.sl id 1 off n] H fun r H'=>r=.sl (H.length + 1) 1 0 n∧H'=H++[.dead,.row 1 ((es.drop off).take n)]:=by
  have h2:∀ R:Heap,(H++R)[id]? = some (.row 1 es):=fun R=>by rw [List.getElem?_append_left (List.getElem?_eq_some_iff.1 hid).1];exact hid
  have h3:((es.drop off).take n).length=n:=by simp;omega
  refine calls_of Tryd.func38 en_38 rfl (of_decide_eq_true rfl) (W_run mixed ⟨[],[],[],8,H.length,[0,2,4],[4]⟩ (fun _=>[]) (by kernel_rfl) ?_)
  simp only [Tryd.f38,stripX,stripOps,pickOps]
  simp [-V.flat,-V.one,one_int,one_bool,one_str,one_nilp,one_rp,one_nilsl,one_ro,one_cl,one_nilf,one_nili,one_ifc,one_ptr,one_sl,one_clo,flat_d,flat_ptr,flat_sl,flat_clo,flat_agg,retQ,h2,hn]
  have h4:min n (es.length - off)=n:=by omega
  rw [h4]
  exact ⟨by omega,Fin.same (by simp)⟩
noncomputable def K_clT:EntH Tryd.prog:=⟨38,fun vs H=>match vs with
    | [.sl id e off n]=>(match H[id]? with
      | some (.row e' es)=>guardR (e=1∧e'=1∧off + n≤es.length∧n≤1000) (.ok (.sl (H.length + 1) 1 0 n) (H++[.dead,.row 1 ((es.drop off).take n)]))
      | _=>.bad)
    | _=>.bad,by
    intro vs H k hk
    split at hk
    · split at hk
      · rename_i hid
        rw [guardR_holds] at hk
        obtain ⟨⟨rfl,rfl,h1,h2⟩,hk⟩:=hk
        exact (clone_own H _ _ _ _ hid h1 h2).mono fun r H' ⟨e1,e2⟩=>by rw [e1,e2];exact hk
      · exact hk.elim
    · exact hk.elim,true,by
    intro _ vs H k hk
    split at hk
    · split at hk
      · rename_i hid
        rw [guardR_holds] at hk
        refine ⟨_,_,fun k' hk'=>?_,hk.2⟩

        rw [guardR_holds]
        exact ⟨hk.1,hk'⟩
      · exact hk.elim
    · exact hk.elim⟩
theorem K_clT_f:K_clT.f=38:=rfl
theorem K_clT_g:K_clT.gro=true:=rfl
theorem K_clT_e {id e off n:Nat} {H:Heap}:K_clT.e [.sl id e off n] H=(match H[id]? with
      | some (.row e' es)=>guardR (e=1∧e'=1∧off + n≤es.length∧n≤1000) (.ok (.sl (H.length + 1) 1 0 n) (H++[.dead,.row 1 ((es.drop off).take n)]))
      | _=>.bad):=rfl

end Go.Proofs.YtbacilgolfojaaaDoor
end

section
namespace Go.Proofs.YtbacilgolfojaaaDoor
set_option maxRecDepth 100000
set_option linter.unusedSimpArgs false
set_option linter.unusedVariables false
def rT (l:List T):List (List V):=l.map fun t=>[.d (encT t)]
@[simp] theorem rT_len (l:List T):(rT l).length=l.length:=by simp [rT]
theorem arity_nd {nd:Node} (h:nodeOk nd=true):arityN nd.op_=arity1 nd.op_∧0≤arity1 nd.op_∧arity1 nd.op_≤3:=by
  have hok:nd.op_=1∨(nd.op_=2∧0≤nd.n_∧nd.n_ < 4)∨((3≤nd.op_∧nd.op_≤11)∧nd.n_=0):=by simpa [nodeOk] using h
  unfold arityN
  by_cases o1:nd.op_=1∨nd.op_=2
  · rw [if_pos o1];simp [arity1,o1]
  rw [if_neg o1]
  by_cases o3:nd.op_=3
  · simp [arity1,o3]
  by_cases o11:nd.op_=11
  · simp [arity1,o11]
  rw [if_neg o3,if_neg o11,ar_two (by omega)]
  omega
abbrev dTS (l:List T):D:=.ro 1 l.length fun i _=>encT (l[i]?.getD default)
def outsF:List T→List Node→List T
  | _,[]=>[]
  | st,nd :: l=>match stepS nd st with
    | some (t :: r)=>t :: outsF (t :: r) l
    | _=>[]
theorem outsF_cons (st:List T) (nd:Node) (l:List Node):outsF st (nd :: l)=match stepS nd st with
    | some (t :: r)=>t :: outsF (t :: r) l
    | _=>[]:=rfl
theorem outsF_nil (st:List T):outsF st []=[]:=rfl
def treesV (l:List Node):V:=if goodT l=true then .d (dTS (outsF [] l)) else .d .nilsl
theorem oneT (t:T):(V.d (encT t)).one=true:=by cases t <;> rfl
theorem stepS_gen {nd : Node} {st st' : List T} (h : stepS nd st = some st') : ∃ (t : T) (r ks : List T), st' = t :: r ∧ st.reverse = r.reverse ++ ks ∧ (ks.length : Int) = arity1 nd.op_ ∧ encT t = ndD nd.op_ nd.n_ (ks.map encT) := by
  unfold stepS at h
  split at h
  · rename_i hok
    have hok:nd.op_=1∨(nd.op_=2∧0≤nd.n_∧nd.n_ < 4)∨((3≤nd.op_∧nd.op_≤11)∧nd.n_=0):=by simpa [nodeOk] using hok
    split at h
    · rename_i o
      cases h
      exact ⟨_,_,[],rfl,by simp,by rw [show arity1 nd.op_=0 by simp [arity1,o]];rfl,rfl⟩
    · rename_i o
      have h0:nd.n_=0:=by omega
      split at h
      · rename_i o3
        split at h
        · rename_i a r
          cases h
          exact ⟨_,_,[a],rfl,by simp,by rw [show arity1 nd.op_=1 by simp [arity1,o3]];rfl,by simp [encT,o3,h0]⟩
        · cases h
      · rename_i o3
        split at h
        · rename_i o11
          split at h
          · rename_i c b a r
            cases h
            exact ⟨_,_,[a,b,c],rfl,by simp,by rw [show arity1 nd.op_=3 by simp [arity1,o11]];rfl,by simp [encT,o11,h0]⟩
          · cases h
        · rename_i o11
          split at h
          · rename_i b a r
            cases h
            exact ⟨_,_,[a,b],rfl,by simp,by rw [ar_two (by omega)];rfl,by simp [encT,h0]⟩
          · cases h
  · cases h
theorem rT_get {l:List T} {i:Nat} (h:i < l.length):(rT l)[i]? = some [.d (encT (l[i]?.getD default))]:=by
  simp [rT,h]
theorem rT_app (a b:List T):rT (a++b)=rT a++rT b:=by simp [rT]
theorem fit_elem {σ:List Nat} {H0:Heap} {op n:Int} {cnt:Nat} {ks:List T} {t:T} (s5:¬ 5∈σ) (s4:¬ 4∈σ) (h5:H0[5]? = some (.row 3 [[.d (.int .i64 op),.d (.int .i64 n),.sl 4 1 0 cnt]])) (h4:H0[4]? = some (.row 1 (rT ks)))
    (hc:cnt=ks.length) (ht:encT t=ndD op n (ks.map encT)):DLe (closeK σ H0 4 (.ptr 5 3 0 0)) (encT t):=by
  subst hc
  rw [ht]
  simp only [closeK,if_neg s5,h5]
  rw [if_pos (by simp)]
  refine ⟨Nat.le_refl _,fun m hm=>?_⟩
  rcases (by omega:m=0∨m=1∨m=2) with rfl | rfl | rfl
  · exact DLe.refl _
  · exact DLe.refl _
  · simp only [List.getElem?_cons_zero,Option.getD_some,Nat.zero_add,List.getElem?_cons_succ,closeK,if_neg s4,h4]
    rw [if_pos (by simp)]
    refine ⟨rfl,by simp,fun i hi j hj=>?_⟩
    obtain rfl:j=0:=by omega
    show DLe (closeK σ H0 2 (((rT ks)[i]?.getD [])[0]?.getD (V.d D.undef))) ((List.map encT ks)[i]?.getD D.undef)
    rw [rT_get hi]
    simp only [Option.getD_some,List.getElem?_cons_zero,closeK,List.getElem?_map,List.getElem?_eq_getElem hi,Option.map_some]
    exact DLe.refl _
theorem fit_row {σ:List Nat} {H0:Heap} (x:List T) {c:V} {t:T} (h:DLe (closeK σ H0 4 c) (encT t)):fitsR σ H0 (rT x++[[c]]) (rT (x++[t])):=by
  refine .inr ⟨by simp [rT],fun i hi=>?_⟩
  rw [rT_len,List.length_append,List.length_singleton] at hi
  by_cases hx:i < x.length
  · rw [List.getElem?_append_left (by rw [rT_len];exact hx),rT_app,List.getElem?_append_left (by rw [rT_len];exact hx),rT_get hx]
    exact ⟨⟨DLe.refl _,oneT _⟩,rfl⟩
  · obtain rfl:i=x.length:=by omega
    rw [List.getElem?_append_right (by rw [rT_len];exact Nat.le_refl _),rT_app,List.getElem?_append_right (by rw [rT_len];exact Nat.le_refl _),rT_len,Nat.sub_self]
    exact ⟨⟨h,oneT _⟩,rfl⟩
theorem below_rT (n:Nat) (x:List T):placeBelow n (.row 1 (rT x))=true:=by
  simp [placeBelow,rT,V.under,List.all_eq_true]
theorem trees_c (l : List Node) (hg : Enc.good l) : PureP Tryd.prog 28 [.d (dNodeS l)] (· = treesV l) := by
  cases hb:inR (l.length:Int) 1 40 with
  | false =>
    have e:goodT l=false:=by
      have:=inR_f.1 hb
      by_cases h:l.length=0
      · exact goodT_nil h
      · exact goodT_long (by omega)
    have e2:treesV l=.d .nilsl:=by unfold treesV;rw [e];rfl
    rw [e2]
    refine pure_of Tryd.func28 en_28 rfl rfl (W_run mixed ⟨[K_35,K_36,K_37],[K_35h,K_36h,K_37h,K_clT],[1000038],66,0,[0,2,3,4,6,7,8,12,15,16,17,18,34,64],[12,18,27,34,64]⟩ (fun | 10=>[0,2,4,5,6,1,3,7,8,9,10] | _=>[]) (by kernel_rfl) ?_)
    simp only [Tryd.f28,stripX,stripOps,pickOps]
    simp [K_35_f,K_35_e,K_36_f,K_36_e,K_37_f,K_37_e,K_35h_f,K_35h_e,K_36h_f,K_36h_e,K_37h_f,K_37h_e,K_clT_f,K_clT_e,K_35h_g,K_36h_g,K_37h_g,K_clT_g,hb]
  | true =>
    have hlen:=inR_t.1 hb
    refine PureP.le (pure_of Tryd.func28 en_28 rfl rfl (W_run mixed ⟨[K_35,K_36,K_37],[K_35h,K_36h,K_37h,K_clT],[1000038],66,0,[0,2,3,4,6,7,8,12,15,16,17,18,34,64],[12,18,27,34,64]⟩ (fun | 10=>[0,2,4,5,6,1,3,7,8,9,10] | _=>[]) (by kernel_rfl) ?_))
    simp only [Tryd.f28,stripX,stripOps,pickOps]
    simp [K_35_f,K_35_e,K_36_f,K_36_e,K_37_f,K_37_e,K_35h_f,K_35h_e,K_36h_f,K_36h_e,K_37h_f,K_37h_e,K_clT_f,K_clT_e,K_35h_g,K_36h_g,K_37h_g,K_clT_g,hb]
    refine W_loopF (α:=Nat × List T × List T) (fun a=>[(3,.sl 0 1 0 a.2.1.length),(4,.sl 1 1 0 a.2.2.length),(15,.d (dNodeS l)),(16,.d (.int .i64 l.length)),(17,.d (.int .i64 a.1))])
      (fun a=>[.row 1 (rT a.2.1.reverse),.row 1 (rT a.2.2)]) (fun a=>a.1≤l.length∧(a.2.1.length≤a.1∧a.2.2.length=a.1)∧pileOf l=pileF a.2.1 (l.drop a.1)∧outsF [] l=a.2.2++outsF a.2.1 (l.drop a.1)) (fun a=>l.length - a.1) (0,[],[]) [0,1] ?_ ?_ ?_
    · exact ⟨rfl,⟨⟨⟨rfl,.inl rfl⟩,rfl⟩,⟨⟨rfl,.inl rfl⟩,rfl⟩,rfl⟩,by simp⟩
    · exact ⟨Nat.zero_le _,⟨Nat.le_refl _,rfl⟩,by simp [pileOf],by simp⟩
    · rintro ⟨i,st,os⟩ ⟨hi,⟨hs,ho⟩,hp,hq⟩
      have hr:∀ x,(rT x).length=x.length:=rT_len
      refine W_run mixed ⟨[K_35,K_36,K_37],[K_35h,K_36h,K_37h,K_clT],[1000038],66,0,[0,2,3,4,6,7,8,12,15,16,17,18,34,64],[12,18,27,34,64]⟩ (fun | 10=>[0,2,4,5,6,1,3,7,8,9,10] | _=>[]) (by kernel_rfl) ?_
      simp only [stripX,stripOps,pickOps]
      simp [K_35_f,K_35_e,K_36_f,K_36_e,K_37_f,K_37_e,K_35h_f,K_35h_e,K_36h_f,K_36h_e,K_37h_f,K_37h_e,K_clT_f,K_clT_e,K_35h_g,K_36h_g,K_37h_g,K_clT_g,hr]
      simp only [] at hi hs ho hp hq
      refine ⟨fun h=>⟨h, ?_⟩,fun h=>?_⟩
      · have hd:=drop_cons h
        obtain ⟨nd,hnd⟩:∃ nd,nd=l[i]?.getD default:=⟨_,rfl⟩
        rw [← hnd] at hd ⊢
        rw [hd] at hp hq
        unfold pileF at hp
        rw [outsF_cons] at hq
        cases hst:stepS nd st with
        | none =>
          rw [hst] at hp
          have hf:VLe (.d .nilsl) (treesV l):=by
            unfold treesV
            rw [goodT_none hp]
            trivial
          have hB:=stepS_none hst
          refine ⟨fun _=>hf,fun q1=>⟨fun _=>hf,fun q2=>?_⟩⟩
          rw [(arity_nd q1).1] at q2
          exfalso
          rcases hB with hB | hB
          · rw [q1] at hB;cases hB
          · omega
        | some st' =>
          rw [hst] at hp hq
          obtain ⟨t,r,ks,rfl,e1,e2,e3⟩:=stepS_gen hst
          have q4:=stepS_ok hst
          have q5:=arity_nd q4
          have e4:=congrArg List.length e1
          simp only [List.length_reverse,List.length_append] at e4
          have e5:IntKind.i64.wrap ((st.length:Int) - arityN nd.op_)=(r.length:Int):=by rw [q5.1,wrap_id] <;> omega
          rw [e5,Int.toNat_natCast,q5.1]
          refine ⟨fun q=>(by rw [q4] at q;cases q),fun _=>⟨fun q=>by omega,fun _=>?_⟩⟩
          have k1:(rT st.reverse).take r.length=rT r.reverse:=by
            rw [e1,rT_app,List.take_left' (by simp)]
          have k2:((rT st.reverse).drop r.length).take (st.length - r.length)=rT ks:=by
            rw [e1,rT_app,List.drop_left' (by simp),List.take_of_length_le (by simp;omega)]
          have k3:(rT os).take os.length=rT os:=List.take_of_length_le (by simp)
          rw [k1,k2,k3]
          refine ⟨by omega,by omega,⟨by omega,by omega⟩,by omega,by omega,⟨by omega,by omega,by omega⟩,⟨by omega,by omega⟩,i + 1,t :: r,os++[t],⟨by omega,⟨by simp;omega,by simp [ho]⟩,hp,by rw [hq];simp⟩,by omega,
            [7,9],⟨rfl,by decide⟩, ?_,⟨⟨rfl,by simp⟩,by decide⟩,⟨⟨rfl,by simp⟩,by decide⟩, ?_⟩
          · have fe:∀ H0:Heap,H0[5]? = some (.row 3 [[.d (.int .i64 nd.op_),.d (.int .i64 nd.n_),.sl 4 1 0 (st.length - r.length)]])→H0[4]? = some (.row 1 (rT ks))→DLe (closeK [7,9] H0 4 (.ptr 5 3 0 0)) (encT t) :=
              fun H0 h5 h4=>fit_elem (by decide) (by decide) h5 h4 (by omega) e3
            refine ⟨⟨⟨rfl, ?_⟩,below_rT _ _⟩,⟨⟨rfl,fit_row _ (fe _ rfl rfl)⟩,below_rT _ _⟩,rfl⟩
            rw [List.reverse_cons]
            exact fit_row _ (fe _ rfl rfl)
          · rw [wrap_id (by omega) (by omega)]
            exact DLe.refl _
      · have e0:i=l.length:=by omega
        rw [List.drop_eq_nil_of_le h] at hp hq
        have hgd:=goodT_pile (by omega) hp
        refine ⟨fun q=>?_,fun q=>?_⟩
        · unfold treesV
          rw [hgd,decide_eq_false q]
          trivial
        · unfold treesV
          rw [hgd,decide_eq_true q,if_pos rfl,hq]
          rw [outsF_nil,List.append_nil]
          refine ⟨rfl,rfl,fun k hk j hj=>?_⟩
          obtain rfl:j=0:=by omega
          show DLe (closeD [Place.row 1 (rT st.reverse),Place.row 1 (rT os)] 3 (((rT os)[k]?.getD [])[0]?.getD (V.d D.undef))) (encT (os[k]?.getD default))
          rw [rT_get hk]
          exact DLe.refl _
noncomputable def K_28:Ent Tryd.prog:=Ent.p1 (α:=List Node) 28 (fun l=>Enc.good l) (fun l=>treesV l) (fun l hc=>trees_c l hc)
theorem K_28_f:K_28.f=28:=rfl
theorem K_28_e (l:List Node):K_28.e [.d (dNodeS l)]=some (Enc.good l,treesV l,[]):=by unfold K_28;exact Ent.p1_eq (α:=List Node) l
noncomputable def K_28h:EntH Tryd.prog:=EntH.pk1 (α:=List Node) 28 (fun l=>Enc.good l) (fun l=>treesV l) (fun l=>[]) (fun l hc=>PureP.ans (trees_c l hc))
theorem K_28h_f:K_28h.f=28:=rfl
theorem K_28h_g:K_28h.gro=true:=rfl
theorem K_28h_e {x1:V} {H:Heap}:K_28h.e [x1] H=guardR ((decA (α:=List Node) H x1).1) (peekR (Enc.good (decA (α:=List Node) H x1).2) (treesV (decA (α:=List Node) H x1).2) ([]) H):=rfl
theorem outs_last : ∀ (l : List Node) (st : List T) (t : T) (r : List T), pileF st l = some (t :: r) → l ≠ [] → (outsF st l).length = l.length ∧ (outsF st l)[l.length - 1]? = some t
  | [],st,t,r,h,hne=>absurd rfl hne
  | nd :: l,st,t,r,h,hne=>by
    unfold pileF at h
    rw [outsF_cons]
    cases hst:stepS nd st with
    | none=>rw [hst] at h;cases h
    | some st1 =>
      rw [hst] at h
      obtain ⟨t1,r1,ks,rfl,_⟩:=stepS_gen hst
      match l,h with
      | [],h =>
        cases h
        exact ⟨rfl,rfl⟩
      | nd2 :: l2,h =>
        obtain ⟨q1,q2⟩:=outs_last (nd2 :: l2) (t1 :: r1) t r h (by simp)
        simp only [List.length_cons] at q1 q2 ⊢
        refine ⟨by omega, ?_⟩
        rw [show l2.length + 1 + 1 - 1=(l2.length + 1 - 1) + 1 by omega,List.getElem?_cons_succ]
        exact q2
theorem goodT_out {l : List Node} (h : goodT l = true) : ∃ t, treeO l = some t ∧ (outsF [] l).length = l.length ∧ (outsF [] l)[l.length - 1]? = some t ∧ 0 < l.length := by
  obtain ⟨t,ht⟩:=Option.isSome_iff_exists.1 h
  refine ⟨t,ht, ?_⟩
  unfold treeO at ht
  split at ht
  · split at ht
    · rename_i t' hp
      cases ht
      have hne:l ≠ []:=by
        rintro rfl
        cases hp
      obtain ⟨q1,q2⟩:=outs_last l [] _ [] hp hne
      exact ⟨q1,q2,List.length_pos_iff.2 hne⟩
    · cases ht
  · cases ht
def treeV (l:List Node):V:=match treeO l with | some t=>.d (encT t) | none=>.d .nilp
theorem treeOf_c (l:List Node) (hg:Enc.good l):PureP Tryd.prog 18 [.d (dNodeS l)] (· = treeV l):=by
  cases hgd:goodT l with
  | false =>
    have e1:treesV l=.d .nilsl:=by unfold treesV;rw [hgd];rfl
    have e2:treeV l=.d .nilp:=by
      have:treeO l=none:=by simpa [goodT] using hgd
      unfold treeV;rw [this]
    rw [e2]
    refine pure_of Tryd.func18 en_18 rfl rfl (W_run mixed ⟨[K_28],[K_28h],[],14,0,[0,2,3,7],[7]⟩ (fun _=>[]) (by kernel_rfl) ?_)
    simp only [Tryd.f18,stripX,stripOps,pickOps]
    simp [K_28_f,K_28_e,K_28h_f,K_28h_e,K_28h_g,e1,hg]
  | true =>
    obtain ⟨t,ht,q1,q2,q3⟩:=goodT_out hgd
    have hl:=(treeO_rep hg ht).2.2
    have e1:treesV l=.d (dTS (outsF [] l)):=by unfold treesV;rw [hgd];rfl
    have e2:treeV l=.d (encT t):=by unfold treeV;rw [ht]
    have e3:IntKind.i64.wrap ((l.length:Int) - 1)=((l.length - 1:Nat):Int):=by rw [wrap_id] <;> omega
    rw [e2]
    refine pure_of Tryd.func18 en_18 rfl rfl (W_run mixed ⟨[K_28],[K_28h],[],14,0,[0,2,3,7],[7]⟩ (fun _=>[]) (by kernel_rfl) ?_)
    simp only [Tryd.f18,stripX,stripOps,pickOps]
    simp [K_28_f,K_28_e,K_28h_f,K_28h_e,K_28h_g,e1,hg,q1,q3,e3,q2]
    omega
noncomputable def K_18:Ent Tryd.prog:=Ent.p1 (α:=List Node) 18 (fun l=>Enc.good l) (fun l=>treeV l) (fun l hc=>treeOf_c l hc)
theorem K_18_f:K_18.f=18:=rfl
theorem K_18_e (l:List Node):K_18.e [.d (dNodeS l)]=some (Enc.good l,treeV l,[]):=by unfold K_18;exact Ent.p1_eq (α:=List Node) l
noncomputable def K_18h:EntH Tryd.prog:=EntH.pk1 (α:=List Node) 18 (fun l=>Enc.good l) (fun l=>treeV l) (fun l=>[]) (fun l hc=>PureP.ans (treeOf_c l hc))
theorem K_18h_f:K_18h.f=18:=rfl
theorem K_18h_g:K_18h.gro=true:=rfl
theorem K_18h_e {x1:V} {H:Heap}:K_18h.e [x1] H=guardR ((decA (α:=List Node) H x1).1) (peekR (Enc.good (decA (α:=List Node) H x1).2) (treeV (decA (α:=List Node) H x1).2) ([]) H):=rfl
end Go.Proofs.YtbacilgolfojaaaDoor
end
