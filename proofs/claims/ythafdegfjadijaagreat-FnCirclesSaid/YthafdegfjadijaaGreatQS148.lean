/- The program's BackOrder: its closure, which calls itself. No condition. -/
import Derived.Test.YthafdegfjadijaaGreatQS143
section
namespace Go.Proofs.YthafdegfjadijaaGreat
set_option maxRecDepth 100000
set_option linter.unusedSimpArgs false
set_option linter.unusedVariables false
structure VOk (n:Nat) (s:List Int × List Int):Prop where
  nd:s.1.Nodup
  rng:∀ x∈s.1,0≤x∧x < n
  nd2:s.2.Nodup
  sub:∀ x∈s.2,x∈s.1
theorem VOk.len {n:Nat} {s:List Int × List Int} (h:VOk n s):s.1.length≤n∧s.2.length≤n:=by
  have key:∀ l:List Int,l.Nodup→(∀ x∈l,0≤x∧x < n)→l.length≤n:=fun l h1 h2=>by
    have:=nodup_len_le (m:=numsOf (fun _=>true) n) h1 fun x hx=>mem_numsOf.2 ⟨(h2 x hx).1,(h2 x hx).2,rfl⟩
    have:=numsOf_len (fun _=>true) n
    omega
  exact ⟨key _ h.nd h.rng,key _ h.nd2 fun x hx=>h.rng x (h.sub x hx)⟩
theorem VOk.see {n:Nat} {s:List Int × List Int} {j:Int} (h:VOk n s) (hj:0≤j∧j < n) (hn:j ∉ s.1):VOk n (s.1++[j],s.2) :=
  ⟨List.nodup_append.2 ⟨h.nd,List.pairwise_singleton _ _,fun x hx y hy e=>hn (by rw [← List.mem_singleton.1 hy,← e];exact hx)⟩,fun x hx=>by
    rcases List.mem_append.1 hx with hx | hx
    · exact h.rng x hx
    · rw [List.mem_singleton.1 hx];exact hj,h.nd2,fun x hx=>List.mem_append_left _ (h.sub x hx)⟩
theorem Vis.ok {nx:List (List Int)} (hn:okNext nx) {l:List Int} {s t:List Int × List Int} (h:Vis nx l s t):VOk nx.length s→(∀ x∈l,0≤x∧x < nx.length)→VOk nx.length t:=by
  induction h with
  | nil s=>exact fun h _=>h
  | old _ _ ih=>exact fun h hl=>ih h fun x hx=>hl x (List.mem_cons_of_mem _ hx)
  | new hj g1 g2 ih1 ih2 =>
    rename_i j l s r t
    intro h hl
    have hjr:=hl j List.mem_cons_self
    have hr:=ih1 (h.see hjr hj) fun x hx=>(okNext_get hn _).2 x hx
    obtain ⟨v,e,m,nd⟩:=g1.left
    dsimp only at e m
    have jr:j∈r.1:=g1.sub (List.mem_append_right _ (List.mem_singleton.2 rfl))
    have jn:j ∉ r.2:=fun q=>by
      rw [e] at q
      rcases List.mem_append.1 q with q | q
      · exact ((m j).1 q).2 (List.mem_append_right _ (List.mem_singleton.2 rfl))
      · exact hj (h.sub j q)
    refine ih2 ⟨hr.nd,hr.rng,List.nodup_cons.2 ⟨jn,hr.nd2⟩,fun x hx=>?_⟩ fun x hx=>hl x (List.mem_cons_of_mem _ hx)
    rcases List.mem_cons.1 hx with rfl | hx
    · exact jr
    · exact hr.sub x hx
theorem dle_row {K:List Nat} {H:Heap} {f id:Nat} {l:List Int} (hK:id ∉ K) (hr:H[id]? = some (.row 1 (rI l))):DLe (closeK K H (f + 1) (.sl id 1 0 l.length)) (dIntS l):=by
  simp only [closeK]
  rw [if_neg hK,hr]
  simp only []
  rw [if_pos (by simp [rI])]
  refine ⟨rfl,rfl,fun i hi j hj=>?_⟩
  have:j=0:=by omega
  subst this
  dsimp only
  rw [Nat.zero_add,List.getElem?_map,List.getElem?_eq_getElem hi]
  cases f <;> simp [closeK,DLe]
theorem PureP.rdB {P:Program} {f:FuncId} {vs vs':List V} {Q:V→Prop} (h:PureP P f vs' Q) (hv:Reads1 [] vs vs'):PureP P f vs Q:=by
  refine ⟨h.1,fun X w φ args hX hs hvs=>?_⟩
  have hφ:φ=[]:=List.length_eq_zero_iff.1 hs.len
  subst hφ
  exact h.2 X w [] args hX hs (by rw [owned_nil];exact hv X w [] _ hs hvs)
noncomputable def boT (F:Func):List Int × List Int:=Classical.epsilon fun r=>Vis (nextL F.blocks_) ((nextL F.blocks_)[0]?.getD default) ([0],[]) r
theorem boT_vis {F:Func} (hg:goodF F=true):Vis (nextL F.blocks_) ((nextL F.blocks_)[0]?.getD default) ([0],[]) (boT F):=by
  obtain ⟨hv1,hn1,hp1⟩:=good_flow hg
  have hln:(nextL F.blocks_).length=F.blocks_.length:=by simp [nextL]
  exact Classical.epsilon_spec (Vis.some hn1 _ _ ([0],[]) (Nat.le_refl _) fun x hx=>(okNext_get hn1 _).2 x hx)
noncomputable def boV (F:Func):List Int:=if goodF F=true then 0 :: (boT F).2 else []
noncomputable def boR (F:Func):V:=.tup [.d (dIntS (boV F)),.d (.bool (goodF F))]
end Go.Proofs.YthafdegfjadijaaGreat
end

section
namespace Go.Proofs.YthafdegfjadijaaGreat
set_option maxRecDepth 100000
set_option linter.unusedSimpArgs false
set_option linter.unusedVariables false
def rowB (n:Nat) (s:List Int):List (List V):=(List.range n).map fun j:Nat=>[V.d (.bool (hasL s j))]
theorem rowB_len (n:Nat) (s:List Int):(rowB n s).length=n:=by simp [rowB]
theorem rowB_get {n k:Nat} (s:List Int) (h:k < n):(rowB n s)[k]? = some [.d (.bool (hasL s k))]:=by simp [rowB,h]
theorem rowB_set {n k:Nat} (s:List Int) (h:k < n):(rowB n s).set k [.d (.bool true)]=rowB n (s++[(k:Int)]):=by
  refine List.ext_getElem? fun j=>?_
  rw [List.getElem?_set]
  by_cases hj:j < n
  · rw [rowB_get _ hj,rowB_get _ hj,rowB_len]
    by_cases e:k=j
    · subst e;simp [h,hasL]
    · have:(j:Int) ≠ k:=by omega
      simp [e,hasL,this]
  · rw [if_neg (by omega),List.getElem?_eq_none (by rw [rowB_len];omega),List.getElem?_eq_none (by rw [rowB_len];omega)]
structure Bo (nx:List (List Int)) (cs cn cw co sid n:Nat) (G:Heap) (s:List Int × List Int):Prop where
  hcs:G[cs]? = some (.row 1 [[.sl sid 1 0 n]])
  hsd:G[sid]? = some (.row 1 (rowB n s.1))
  hcn:G[cn]? = some (.row 1 [[.d (dIntSS nx)]])
  hcw:G[cw]? = some (.row 1 [[.clo 41 [.ptr cs 1 0 0,.ptr cn 1 0 0,.ptr cw 1 0 0,.ptr co 1 0 0]]])
  hco:∃ oid,G[co]? = some (.row 1 [[.sl oid 1 0 s.2.length]])∧G[oid]? = some (.row 1 (rI s.2.reverse))∧oid ≠ cs∧oid ≠ sid∧oid ≠ cn∧oid ≠ cw∧oid ≠ co
  hne:sid ≠ cs∧sid ≠ cn∧sid ≠ cw∧sid ≠ co∧co ≠ cs∧co ≠ cn∧co ≠ cw
section
variable {nx:List (List Int)} {cs cn cw co sid n:Nat} {G:Heap} {s:List Int × List Int}
theorem Bo.see (q:Bo nx cs cn cw co sid n G s) {k:Nat} (hk:k < n):Bo nx cs cn cw co sid n (G.set sid (.row 1 (rowB n (s.1++[(k:Int)])))) (s.1++[(k:Int)],s.2):=by
  obtain ⟨e1,e2,e3,e4,e5,e6,e7⟩:=q.hne
  obtain ⟨oid,o1,o2,n1,n2,n3,n4,n5⟩:=q.hco
  have ls:=(List.getElem?_eq_some_iff.1 q.hsd).1
  exact ⟨(List.getElem?_set_ne e1).trans q.hcs,List.getElem?_set_self ls,(List.getElem?_set_ne e2).trans q.hcn,(List.getElem?_set_ne e3).trans q.hcw,⟨oid,(List.getElem?_set_ne e4).trans o1,(List.getElem?_set_ne n2.symm).trans o2,n1,n2,n3,n4,n5⟩,q.hne⟩
end
set_option maxHeartbeats 4000000 in
theorem walkI_own (F : Func) (hF : Enc.good F) (hg : goodF F = true) (n cs cn cw co sid : Nat) (hn : F.blocks_.length = n) : ∀ (m : Nat) (G : Heap) (k : Nat) (s T : List Int × List Int), Bo (nextL F.blocks_) cs cn cw co sid n G s → VOk (nextL F.blocks_).length s → k < n → (k : Int) ∉ s.1 → unseen (nextL F.blocks_).length s.1 ≤ m → Vis (nextL F.blocks_) ((nextL F.blocks_)[k]?.getD default) (s.1 ++ [(k : Int)], s.2) T →
    CallsD Tryz.prog 41 [.d (.int .i64 k),.ptr cs 1 0 0,.ptr cn 1 0 0,.ptr cw 1 0 0,.ptr co 1 0 0] G fun r H'=>r=.tup []∧G.length≤H'.length∧Bo (nextL F.blocks_) cs cn cw co sid n H' (T.1,(k:Int) :: T.2)
  | 0,G,k,s,T,q,ok,hk,hs,hm,_=>by
    have hln:(nextL F.blocks_).length=F.blocks_.length:=by simp [nextL]
    have:=unseen_lt (n:=(nextL F.blocks_).length) (l:=s.1) (j:=k) (by omega) (by omega) hs
    omega
  | m + 1, G, k, s, T, q, ok, hk, hs, hm, hT => by
    obtain ⟨hv1,hn1,hp1⟩:=good_flow hg
    have hln:(nextL F.blocks_).length=n:=by simp [nextL,hn]
    have hv8:=hv1.1
    have ok2:=ok.see (j:=(k:Int)) (by omega) hs
    have ul:=unseen_lt (n:=(nextL F.blocks_).length) (l:=s.1) (j:=k) (by omega) (by omega) hs
    obtain ⟨nx,hnx⟩:∃ nx,nx=nextL F.blocks_:=⟨_,rfl⟩
    have ih:=walkI_own F hF hg n cs cn cw co sid hn m
    rw [← hnx] at q hT ok ok2 hln ul hm hn1 ih ⊢
    have q2:=q.see hk
    obtain ⟨js,hjs⟩:∃ js,js=nx[k]?.getD default:=⟨_,rfl⟩
    have hj0:nx[k]?.getD []=js:=hjs.symm
    have hj1:∀ h:k < nx.length,nx[k]=js:=fun h=>by rw [hjs,List.getElem?_eq_getElem h];rfl
    have hj2:=okNext_get hn1 k
    rw [← hjs] at hT hj2
    have c1:=q.hcs
    have c2:=q.hsd
    have c3:=q2.hcn
    have bs:=rowB_set s.1 hk
    have bl:=rowB_len n s.1
    have g0:=rowB_get s.1 hk
    have g1:∀ h:k < (rowB n s.1).length,(rowB n s.1)[k]=[V.d (.bool (hasL s.1 k))]:=fun h=>Option.some.inj ((List.getElem?_eq_getElem h).symm.trans g0)
    have g2:(rowB n s.1)[k]?.getD []=[V.d (.bool (hasL s.1 k))]:=by rw [g0];rfl
    refine calls_of Tryz.func41 en_41 rfl (of_decide_eq_true rfl) (W_run mixed ⟨[],[],[],33,G.length,[0,1,2,3,4,7,14,15,16,17,24],[17,24]⟩ (fun _=>[]) (by kernel_rfl) ?_)
    simp only [Tryz.f41,stripX,stripOps,pickOps]
    simp [-V.flat,-V.one,one_int,one_bool,one_str,one_nilp,one_rp,one_nilsl,one_ro,one_cl,one_nilf,one_nili,one_ifc,one_ptr,one_sl,one_clo,flat_d,flat_ptr,flat_sl,flat_clo,flat_agg,c1,c2,bl,bs,c3,g1,g2,hj0,hj1,hln,hk]
    refine W_loopH (α:=Nat × (List Int × List Int) × Heap) (fun a=>[(0,.d (.int .i64 k)),(1,.ptr cs 1 0 0),(2,.ptr cn 1 0 0),(3,.ptr cw 1 0 0),(4,.ptr co 1 0 0),(14,.d (dIntS js)),(15,.d (.int .i64 js.length)),(16,.d (.int .i64 a.1))]) (fun a=>a.2.2)
      (fun a=>a.1≤js.length∧G.length≤a.2.2.length∧Bo nx cs cn cw co sid n a.2.2 a.2.1∧VOk nx.length a.2.1∧(∀ x∈s.1++[(k:Int)],x∈a.2.1.1)∧Vis nx (js.drop a.1) a.2.1 T)
      (fun a=>js.length - a.1) (0,(s.1++[(k:Int)],s.2),G.set sid (.row 1 (rowB n (s.1++[(k:Int)])))) ?_ ⟨Nat.zero_le _,by simp,q2,ok2,fun _ h=>h,hT⟩ ?_
    · simp
    rintro ⟨i,st,G1⟩ ⟨hi,hG,q1,ok1,hsub,hV⟩
    dsimp only at hi hG q1 ok1 hsub hV
    have d1:=q1.hcs
    have d2:=q1.hsd
    have d4:=q1.hcw
    have dl:=rowB_len n st.1
    by_cases h:i < js.length
    · obtain ⟨j,hj⟩:∃ j,j=js[i]?.getD 0:=⟨_,rfl⟩
      have i0:=hj.symm
      have i1:∀ h:i < js.length,js[i]=j:=fun h=>by rw [hj,List.getElem?_eq_getElem h];rfl
      have hjr:=hj2.2 j (by rw [← i1 h];exact List.getElem_mem h)
      have wi:IntKind.i64.wrap ((i:Int) + 1)=((i + 1:Nat):Int):=by rw [wrap_id] <;> omega
      rw [List.drop_eq_getElem_cons h,i1 h] at hV
      obtain ⟨t,rfl⟩:=Int.eq_ofNat_of_zero_le hjr.1
      have ht:t < n:=by omega
      have k0:=rowB_get st.1 ht
      cases hx:hasL st.1 (t:Int) with
      | true =>
        rw [hx] at k0
        have k1:∀ h:t < (rowB n st.1).length,(rowB n st.1)[t]=[V.d (.bool true)]:=fun h=>Option.some.inj ((List.getElem?_eq_getElem h).symm.trans k0)
        have k2:(rowB n st.1)[t]?.getD []=[V.d (.bool true)]:=by rw [k0];rfl
        refine W_run mixed ⟨[],[],[],33,G.length,[0,1,2,3,4,7,14,15,16,17,24],[17,24]⟩ (fun _=>[]) (by kernel_rfl) ?_
        simp only [stripX,stripOps,pickOps]
        simp [-V.flat,-V.one,one_int,one_bool,one_str,one_nilp,one_rp,one_nilsl,one_ro,one_cl,one_nilf,one_nili,one_ifc,one_ptr,one_sl,one_clo,flat_d,flat_ptr,flat_sl,flat_clo,flat_agg,h,i0,i1,d1,d2,dl,k1,k2,ht,wi]
        have hV2:Vis nx (js.drop (i + 1)) st T:=by
          cases hV with
          | old _ h=>exact h
          | new h _ _=>exact absurd (hasL_iff.1 hx) h
        exact ⟨i + 1,st.1,st.2,_,⟨by omega,hG,q1,ok1,fun x hx=>hsub x (by simpa using hx),hV2⟩,by omega,rfl,rfl⟩
      | false =>
        rw [hx] at k0
        have k1:∀ h:t < (rowB n st.1).length,(rowB n st.1)[t]=[V.d (.bool false)]:=fun h=>Option.some.inj ((List.getElem?_eq_getElem h).symm.trans k0)
        have k2:(rowB n st.1)[t]?.getD []=[V.d (.bool false)]:=by rw [k0];rfl
        refine W_run mixed ⟨[],[],[],33,G.length,[0,1,2,3,4,7,14,15,16,17,24],[17,24]⟩ (fun _=>[]) (by kernel_rfl) ?_
        simp only [stripX,stripOps,pickOps]
        simp [-V.flat,-V.one,one_int,one_bool,one_str,one_nilp,one_rp,one_nilsl,one_ro,one_cl,one_nilf,one_nili,one_ifc,one_ptr,one_sl,one_clo,flat_d,flat_ptr,flat_sl,flat_clo,flat_agg,h,i0,i1,d1,d2,d4,dl,k1,k2,ht]
        have hxn:(t:Int) ∉ st.1:=fun q=>by rw [hasL_iff.2 q] at hx;cases hx
        obtain ⟨R,hV1,hV2⟩:∃ R,Vis nx (nx[t]?.getD default) (st.1++[(t:Int)],st.2) R∧Vis nx (js.drop (i + 1)) (R.1,(t:Int) :: R.2) T:=by
          cases hV with
          | old h _=>exact absurd h hxn
          | new _ g1 g2=>exact ⟨_,g1,g2⟩
        have okR:VOk nx.length (R.1,(t:Int) :: R.2):=(Vis.new hxn hV1 (.nil _)).ok hn1 ok1 fun x hx=>by rw [List.mem_singleton.1 hx];omega
        have hus:unseen nx.length st.1≤m:=by
          have:=unseen_le (n:=nx.length) hsub
          omega
        rw [aft_call]
        refine (ih G1 t st R q1 ok1 ht hxn hus hV1).mono ?_
        rintro r G2 ⟨rfl,l2,q2'⟩
        simp [-V.flat,-V.one,one_int,one_bool,one_str,one_nilp,one_rp,one_nilsl,one_ro,one_cl,one_nilf,one_nili,one_ifc,one_ptr,one_sl,one_clo,flat_d,flat_ptr,flat_sl,flat_clo,flat_agg,wi]
        exact ⟨i + 1,R.1,(t:Int) :: R.2,_,⟨by omega,by omega,q2',okR,fun x hx=>hV1.sub (List.mem_append_left _ (hsub x (by simpa using hx))),hV2⟩,by omega,rfl,rfl⟩
    · rw [List.drop_eq_nil_of_le (by omega)] at hV
      cases hV
      obtain ⟨oid,o1,o2,n1,n2,n3,n4,n5⟩:=q1.hco
      have lo:=(List.getElem?_eq_some_iff.1 o2).1
      have lc:=(List.getElem?_eq_some_iff.1 o1).1
      have oR:∀ R:Heap,(G1++R)[oid]? = some (.row 1 (rI T.2.reverse)):=fun R=>(List.getElem?_append_left lo).trans o2
      have dR:∀ (R:Heap),(G1++R).set oid .dead=G1.set oid .dead++R:=fun R=>List.set_append_left _ _ lo
      have cD:∀ R:Heap,(G1.set oid .dead++R)[co]? = some (.row 1 [[.sl oid 1 0 T.2.length]]):=fun R=>by
        rw [List.getElem?_append_left (by simpa using lc),List.getElem?_set_ne n5,o1]
      have sD:∀ (R:Heap) P,(G1.set oid .dead++R).set co P=(G1.set oid .dead).set co P++R:=fun R P=>List.set_append_left _ _ (by simpa using lc)
      have ol:=ok1.len.2
      refine W_run mixed ⟨[],[],[],33,G.length,[0,1,2,3,4,7,14,15,16,17,24],[17,24]⟩ (fun _=>[]) (by kernel_rfl) ?_
      simp only [stripX,stripOps,pickOps]
      simp [-V.flat,-V.one,one_int,one_bool,one_str,one_nilp,one_rp,one_nilsl,one_ro,one_cl,one_nilf,one_nili,one_ifc,one_ptr,one_sl,one_clo,flat_d,flat_ptr,flat_sl,flat_clo,flat_agg,h,o1,o2,oR,dR,cD,sD,retQ]
      obtain ⟨e1,e2,e3,e4,e5,e6,e7⟩:=q1.hne
      have gK:∀ j,j < G1.length→j ≠ co→j ≠ oid→∀ R P,((G1.set oid .dead).set co P++R)[j]? = G1[j]?:=fun j h1 h2 h3 R P=>by
        rw [List.getElem?_append_left (by simpa using h1),List.getElem?_set_ne (fun e=>h2 e.symm),List.getElem?_set_ne (fun e=>h3 e.symm)]
      have k1:=(List.getElem?_eq_some_iff.1 d1).1
      have k2:=(List.getElem?_eq_some_iff.1 d2).1
      have k3:=(List.getElem?_eq_some_iff.1 q1.hcn).1
      have k4:=(List.getElem?_eq_some_iff.1 d4).1
      refine ⟨by omega,_,_,Fin.same (by simp;omega),rfl,by simp;omega,⟨(gK cs k1 e5.symm n1.symm _ _).trans d1,(gK sid k2 e4 n2.symm _ _).trans d2,(gK cn k3 e6.symm n3.symm _ _).trans q1.hcn,(gK cw k4 e7.symm n4.symm _ _).trans d4,⟨G1.length + 1, ?_, ?_,by omega,by omega,by omega,by omega,by omega⟩,q1.hne⟩⟩
      · rw [List.getElem?_append_left (by simpa using lc),List.getElem?_set_self (by simpa using lc)];rfl
      · rw [List.getElem?_append_right (by simp),List.take_of_length_le (by simp)];simp
end Go.Proofs.YthafdegfjadijaaGreat
end
