/- The reference's BackOrder, closed. No condition. -/
import Derived.Test.YthafdegfjadijaaGreatQS142
section
namespace Go.Proofs.YthafdegfjadijaaGreat
set_option maxRecDepth 100000
set_option linter.unusedSimpArgs false
set_option linter.unusedVariables false
inductive Vis (nx:List (List Int)):List Int→List Int × List Int→List Int × List Int→Prop
  | nil (s:List Int × List Int):Vis nx [] s s
  | old {j:Int} {l:List Int} {s t:List Int × List Int} (h:j∈s.1) (g:Vis nx l s t):Vis nx (j :: l) s t
  | new {j:Int} {l:List Int} {s r t:List Int × List Int} (h:j ∉ s.1) (g1:Vis nx (nx[j.toNat]?.getD default) (s.1++[j],s.2) r) (g2:Vis nx l (r.1,j :: r.2) t):Vis nx (j :: l) s t
section
variable {nx:List (List Int)}
def unseen (n:Nat) (l:List Int):Nat:=(List.range n).countP fun k:Nat=>!decide ((k:Int)∈l)
theorem unseen_le {n:Nat} {l m:List Int} (h:∀ x∈l,x∈m):unseen n m≤unseen n l:=by
  refine List.countP_mono_left fun k _ hk=>?_
  simp only [Bool.not_eq_true',decide_eq_false_iff_not] at hk ⊢
  exact fun q=>hk (h _ q)
theorem unseen_lt {n:Nat} {l:List Int} {j:Int} (h0:0≤j) (h1:j < n) (h:j ∉ l):unseen n (l++[j]) < unseen n l:=by
  obtain ⟨q,rfl⟩:=Int.eq_ofNat_of_zero_le h0
  have hq:q∈List.range n:=List.mem_range.2 (by omega)
  unfold unseen
  obtain ⟨a,b,e⟩:=List.append_of_mem hq
  have nd:(a++q :: b).Nodup:=e ▸ List.nodup_range
  have ha:∀ x∈a,x ≠ q:=fun x hx ex=>(List.nodup_append.1 nd).2.2 x hx q List.mem_cons_self ex
  have hb:∀ x∈b,x ≠ q:=fun x hx ex=>(List.nodup_cons.1 (List.nodup_append.1 nd).2.1).1 (ex ▸ hx)
  have same:∀ c:List Nat,(∀ x∈c,x ≠ q)→c.countP (fun k:Nat=>!decide ((k:Int)∈l++[(q:Int)]))=c.countP fun k:Nat=>!decide ((k:Int)∈l):=fun c hc=>by
    refine List.countP_congr fun x hx=>?_
    have:=hc x hx
    simp only [List.mem_append,List.mem_singleton,Bool.not_eq_true',decide_eq_false_iff_not]
    constructor
    · exact fun p r=>p (.inl r)
    · rintro p (r | r)
      · exact p r
      · omega
  rw [e,List.countP_append,List.countP_append,List.countP_cons,List.countP_cons,same a ha,same b hb]
  have x1:(!decide ((q:Int)∈l++[(q:Int)]))=false:=by simp
  have x2:(!decide ((q:Int)∈l))=true:=by simpa using h
  rw [x1,x2]
  simp
theorem Vis.grows {l:List Int} {s t:List Int × List Int} (h:Vis nx l s t):∃ u,t.1=s.1++u:=by
  induction h with
  | nil s=>exact ⟨[],by simp⟩
  | old _ _ ih=>exact ih
  | new _ _ _ ih1 ih2 =>
    rename_i j l s r t _ _ _
    obtain ⟨u,hu⟩:=ih1
    obtain ⟨v,hv⟩:=ih2
    dsimp only at hu hv
    exact ⟨[j]++u++v,by rw [hv,hu];simp⟩
theorem Vis.sub {l:List Int} {s t:List Int × List Int} (h:Vis nx l s t) {x:Int} (hx:x∈s.1):x∈t.1:=by
  obtain ⟨u,hu⟩:=h.grows
  rw [hu];exact List.mem_append_left _ hx
theorem Vis.all {l:List Int} {s t:List Int × List Int} (h:Vis nx l s t):∀ x∈l,x∈t.1:=by
  induction h with
  | nil s=>exact fun x hx=>absurd hx List.not_mem_nil
  | old h g ih =>
    intro x hx
    rcases List.mem_cons.1 hx with rfl | hx
    · exact g.sub h
    · exact ih x hx
  | new h g1 g2 ih1 ih2 =>
    intro x hx
    rcases List.mem_cons.1 hx with rfl | hx
    · exact g2.sub (g1.sub (List.mem_append_right _ (List.mem_singleton.2 rfl)))
    · exact ih2 x hx
theorem Vis.some (hn:okNext nx):∀ (m:Nat) (l:List Int) (s:List Int × List Int),unseen nx.length s.1≤m→(∀ x∈l,0≤x∧x < nx.length)→∃ t,Vis nx l s t
  | m,[],s,_,_=>⟨s,.nil s⟩
  | 0,j :: l,s,hm,hl=>by
    have hj:=hl j List.mem_cons_self
    have hs:j∈s.1:=Classical.byContradiction fun q=>by have:=unseen_lt (n:=nx.length) hj.1 hj.2 q;omega
    obtain ⟨t,ht⟩:=Vis.some hn 0 l s hm fun x hx=>hl x (List.mem_cons_of_mem _ hx)
    exact ⟨t,.old hs ht⟩
  | m + 1, j :: l, s, hm, hl => by
    have hj:=hl j List.mem_cons_self
    by_cases hs:j∈s.1
    · obtain ⟨t,ht⟩:=Vis.some hn (m + 1) l s hm fun x hx=>hl x (List.mem_cons_of_mem _ hx)
      exact ⟨t,.old hs ht⟩
    · have h1:=unseen_lt (n:=nx.length) hj.1 hj.2 hs
      obtain ⟨r,hr⟩:=Vis.some hn m (nx[j.toNat]?.getD default) (s.1++[j],s.2) (by dsimp only;omega) fun x hx=>(okNext_get hn _).2 x hx
      have h2:unseen nx.length r.1≤unseen nx.length (s.1++[j]):=unseen_le fun x hx=>hr.sub hx
      obtain ⟨t,ht⟩:=Vis.some hn (m + 1) l (r.1,j :: r.2) (by dsimp only;omega) fun x hx=>hl x (List.mem_cons_of_mem _ hx)
      exact ⟨t,.new hs hr ht⟩
termination_by m l=>(m,l.length)
theorem Vis.left {l : List Int} {s t : List Int × List Int} (h : Vis nx l s t) : ∃ v, t.2 = v ++ s.2 ∧ (∀ x, x ∈ v ↔ x ∈ t.1 ∧ x ∉ s.1) ∧ v.Nodup := by
  induction h with
  | nil s=>exact ⟨[],rfl,fun x=>⟨fun q=>absurd q List.not_mem_nil,fun q=>absurd q.1 q.2⟩,List.nodup_nil⟩
  | old _ _ ih=>exact ih
  | new hj g1 g2 ih1 ih2 =>
    rename_i j l s r t
    obtain ⟨v1,e1,m1,n1⟩:=ih1
    obtain ⟨v2,e2,m2,n2⟩:=ih2
    dsimp only at e1 m1 e2 m2
    have jr:j∈r.1:=g1.sub (List.mem_append_right _ (List.mem_singleton.2 rfl))
    have jv:j ∉ v1:=fun q=>((m1 j).1 q).2 (List.mem_append_right _ (List.mem_singleton.2 rfl))
    refine ⟨v2++j :: v1,by rw [e2,e1];simp,fun x=>?_, ?_⟩
    · rw [List.mem_append,List.mem_cons,m2,m1,List.mem_append,List.mem_singleton]
      constructor
      · rintro (⟨a,b⟩ | rfl | ⟨a,b⟩)
        · exact ⟨a,fun q=>b (g1.sub (List.mem_append_left _ q))⟩
        · exact ⟨g2.sub jr,hj⟩
        · exact ⟨g2.sub a,fun q=>b (.inl q)⟩
      · rintro ⟨a,b⟩
        by_cases hr:x∈r.1
        · by_cases hx:x=j
          · exact .inr (.inl hx)
          · exact .inr (.inr ⟨hr,fun q=>q.elim b hx⟩)
        · exact .inl ⟨a,hr⟩
    · refine List.nodup_append.2 ⟨n2,List.nodup_cons.2 ⟨jv,n1⟩,fun x hx y hy e=>?_⟩
      subst e
      have:=((m2 x).1 hx).2
      rcases List.mem_cons.1 hy with rfl | hy
      · exact this jr
      · exact this ((m1 x).1 hy).1
theorem Vis.rch (hn:okNext nx) {l:List Int} {s t:List Int × List Int} (h:Vis nx l s t):(∀ x∈l,Rch nx 0 (-1) x)→(∀ x∈s.1,Rch nx 0 (-1) x)→∀ x∈t.1,Rch nx 0 (-1) x:=by
  induction h with
  | nil s=>exact fun _ h=>h
  | old _ _ ih=>exact fun hl hs=>ih (fun x hx=>hl x (List.mem_cons_of_mem _ hx)) hs
  | new hj g1 g2 ih1 ih2 =>
    intro hl hs
    have hj:=hl _ List.mem_cons_self
    refine ih2 (fun x hx=>hl x (List.mem_cons_of_mem _ hx)) (ih1 (fun x hx=>?_) fun x hx=>?_)
    · exact .step hj hx (by have:=(okNext_get hn _).2 x hx;omega)
    · rcases List.mem_append.1 hx with hx | hx
      · exact hs x hx
      · rw [List.mem_singleton.1 hx];exact hj
theorem Vis.closed {l : List Int} {s t : List Int × List Int} (h : Vis nx l s t) : ∀ x ∈ t.1, x ∉ s.1 → ∀ y ∈ nx[x.toNat]?.getD default, y ∈ t.1 := by
  induction h with
  | nil s=>exact fun x h q=>absurd h q
  | old _ _ ih=>exact ih
  | new hj g1 g2 ih1 ih2 =>
    rename_i j l s r t
    intro x hx hs y hy
    by_cases hr:x∈r.1
    · by_cases e:x=j
      · subst e
        exact g2.sub (g1.all y hy)
      · exact g2.sub (ih1 x hr (fun q=>by rcases List.mem_append.1 q with q | q;exact hs q;exact e (List.mem_singleton.1 q)) y hy)
    · exact ih2 x hx hr y hy
open Classical in
open Classical in
end
end Go.Proofs.YthafdegfjadijaaGreat
end

section
namespace Go.Proofs.YthafdegfjadijaaGreat
set_option maxRecDepth 100000
set_option linter.unusedSimpArgs false
set_option linter.unusedVariables false
structure VOk (n:Nat) (s:List Int × List Int):Prop where
  nd:s.1.Nodup
  rng:∀ x∈s.1,0≤x∧x < n
  nd2:s.2.Nodup
  sub:∀ x∈s.2,x∈s.1
theorem VOk.len {n:Nat} {s:List Int × List Int} (h:VOk n s):s.1.length≤n∧s.2.length≤n:=by
  have key:∀ l:List Int,l.Nodup→(∀ x∈l,0≤x∧x < n)→l.length≤n:=fun l h1 h2=>by
    have:=nodup_len_le (m:=numsOf (fun _=>true) n) h1 fun x hx=>mem_numsOf.2 ⟨(h2 x hx).1,(h2 x hx).2,rfl⟩
    have:=numsOf_len (fun _=>true) n
    omega
  exact ⟨key _ h.nd h.rng,key _ h.nd2 fun x hx=>h.rng x (h.sub x hx)⟩
theorem VOk.see {n:Nat} {s:List Int × List Int} {j:Int} (h:VOk n s) (hj:0≤j∧j < n) (hn:j ∉ s.1):VOk n (s.1++[j],s.2) :=
  ⟨List.nodup_append.2 ⟨h.nd,List.pairwise_singleton _ _,fun x hx y hy e=>hn (by rw [← List.mem_singleton.1 hy,← e];exact hx)⟩,fun x hx=>by
    rcases List.mem_append.1 hx with hx | hx
    · exact h.rng x hx
    · rw [List.mem_singleton.1 hx];exact hj,h.nd2,fun x hx=>List.mem_append_left _ (h.sub x hx)⟩
theorem Vis.ok {nx:List (List Int)} (hn:okNext nx) {l:List Int} {s t:List Int × List Int} (h:Vis nx l s t):VOk nx.length s→(∀ x∈l,0≤x∧x < nx.length)→VOk nx.length t:=by
  induction h with
  | nil s=>exact fun h _=>h
  | old _ _ ih=>exact fun h hl=>ih h fun x hx=>hl x (List.mem_cons_of_mem _ hx)
  | new hj g1 g2 ih1 ih2 =>
    rename_i j l s r t
    intro h hl
    have hjr:=hl j List.mem_cons_self
    have hr:=ih1 (h.see hjr hj) fun x hx=>(okNext_get hn _).2 x hx
    obtain ⟨v,e,m,nd⟩:=g1.left
    dsimp only at e m
    have jr:j∈r.1:=g1.sub (List.mem_append_right _ (List.mem_singleton.2 rfl))
    have jn:j ∉ r.2:=fun q=>by
      rw [e] at q
      rcases List.mem_append.1 q with q | q
      · exact ((m j).1 q).2 (List.mem_append_right _ (List.mem_singleton.2 rfl))
      · exact hj (h.sub j q)
    refine ih2 ⟨hr.nd,hr.rng,List.nodup_cons.2 ⟨jn,hr.nd2⟩,fun x hx=>?_⟩ fun x hx=>hl x (List.mem_cons_of_mem _ hx)
    rcases List.mem_cons.1 hx with rfl | hx
    · exact jr
    · exact hr.sub x hx
theorem dle_row {K:List Nat} {H:Heap} {f id:Nat} {l:List Int} (hK:id ∉ K) (hr:H[id]? = some (.row 1 (rI l))):DLe (closeK K H (f + 1) (.sl id 1 0 l.length)) (dIntS l):=by
  simp only [closeK]
  rw [if_neg hK,hr]
  simp only []
  rw [if_pos (by simp [rI])]
  refine ⟨rfl,rfl,fun i hi j hj=>?_⟩
  have:j=0:=by omega
  subst this
  dsimp only
  rw [Nat.zero_add,List.getElem?_map,List.getElem?_eq_getElem hi]
  cases f <;> simp [closeK,DLe]
theorem l1Own_cl (H:Heap) (l:List Int) (h1:l.length≤1000):CallsD Tryz.prog 71 [.d (dIntS l)] H fun r H'=>r=.sl (H.length + 1) 1 0 l.length∧H'=H++[.dead,.row 1 (rI l)]:=by
  have f1:(l.length:Int) * 8≤140737488355328:=by omega
  have f2:l.length≤140737488355327:=by omega
  have f3:l.length * 8≤140737488355328:=by omega
  have eu:(upto l.length fun i=>[V.d (.int .i64 (l[i]?.getD 0))])=rI l:=by rw [upto_take l (Nat.le_refl _),List.take_length]
  refine calls_of Tryz.func71 en_71 rfl (of_decide_eq_true rfl) (W_run mixed ⟨[],[],[],6,H.length,[0,2],[]⟩ (fun _=>[]) (by kernel_rfl) ?_)
  simp only [Tryz.f71,stripX,stripOps,pickOps]
  simp [-V.flat,-V.one,one_int,one_bool,one_str,one_nilp,one_rp,one_nilsl,one_ro,one_cl,one_nilf,one_nili,one_ifc,one_ptr,one_sl,one_clo,flat_d,flat_ptr,flat_sl,flat_clo,flat_agg,f1,f2,f3,eu,retQ]
  exact ⟨by omega,Fin.same (by simp)⟩
set_option maxHeartbeats 4000000 in
theorem walkS_c (F : Func) (hF : Enc.good F) (hg : goodF F = true) : ∀ (m : Nat) (k : Nat) (s l : List Int) (T : List Int × List Int), VOk (nextL F.blocks_).length (s, l) → k < F.blocks_.length → (k : Int) ∉ s → unseen (nextL F.blocks_).length s ≤ m → Vis (nextL F.blocks_) ((nextL F.blocks_)[k]?.getD default) (s ++ [(k : Int)], l) T →
    PureP Tryz.prog 43 [vFunc F,.d (.int .i64 k),.d (dIntS s),.d (dIntS l)] (· = .tup [.d (dIntS T.1),.d (dIntS ((k:Int) :: T.2))])
  | 0,k,s,l,T,ok,hk,hs,hm,_=>by
    have hln:(nextL F.blocks_).length=F.blocks_.length:=by simp [nextL]
    have:=unseen_lt (n:=(nextL F.blocks_).length) (l:=s) (j:=k) (by omega) (by omega) hs
    omega
  | m + 1, k, s, l, T, ok, hk, hs, hm, hT => by
    obtain ⟨hv1,hn1,hp1⟩:=good_flow hg
    have hln:(nextL F.blocks_).length=F.blocks_.length:=by simp [nextL]
    have hv8:=hv1.1
    have ok2:=ok.see (j:=(k:Int)) (by omega) hs
    have ul:=unseen_lt (n:=(nextL F.blocks_).length) (l:=s) (j:=k) (by omega) (by omega) hs
    have ln:=ok.len
    dsimp only at ok2 ln
    obtain ⟨b,hb⟩:∃ b,b=F.blocks_[k]?.getD default:=⟨_,rfl⟩
    have hb0:=hb.symm
    have hb1:∀ h:k < F.blocks_.length,F.blocks_[k]=b:=fun h=>by rw [hb,List.getElem?_eq_getElem h];rfl
    have hnx:(nextL F.blocks_)[k]?.getD default=b.jumps_.map (·.to_):=by rw [nextL_get,tos,hb]
    obtain ⟨js,hjs⟩:∃ js,js=b.jumps_:=⟨_,rfl⟩
    rw [hnx,← hjs] at hT
    have hj2:js.length≤2∧∀ j∈js,0≤j.to_∧j.to_ < F.blocks_.length:=by
      have:=okNext_get hn1 k
      rw [hnx,← hjs,List.length_map,hln] at this
      exact ⟨this.1,fun j hj=>this.2 _ (List.mem_map.2 ⟨j,hj,rfl⟩)⟩
    have hs8:s.length≤1000:=by omega
    refine PureP.le (pure_of Tryz.func43 en_43 rfl rfl (W_run mixed ⟨[K_53],[K_53h],[71,43],48,0,[0,1,2,3,4,8,9,11,22,23,24,25,32],[25,32]⟩ (fun _=>[]) (by kernel_rfl) ?_))
    simp only [Tryz.f43,stripX,stripOps,pickOps]
    simp [K_53_f,K_53_e,K_53h_f,K_53h_e,K_53h_g,hF,hk,hs8,hb0,hb1,← hjs]
    rw [aft_call]
    refine (l1Own_cl _ s hs8).mono ?_
    rintro r H1 ⟨rfl,rfl⟩
    simp [K_53_f,K_53_e,K_53h_f,K_53h_e,K_53h_g,hF,hk,hs8,hb0,hb1,← hjs]
    refine ⟨⟨by omega,by omega⟩, ?_⟩
    refine W_loopF (α:=Nat × List Int × List Int) (fun a=>[(1,.d (.int .i64 k)),(2,.d (dIntS a.2.1)),(3,.d (dIntS a.2.2)),(4,.ptr 0 2 0 0),(22,.d (dJumpS js)),(23,.d (.int .i64 js.length)),(24,.d (.int .i64 a.1))])
      (fun a=>[.row 2 [[.d (.int .i64 F.params_),.d (dBlockS F.blocks_)]]]) (fun a=>a.1≤js.length∧VOk (nextL F.blocks_).length a.2∧(∀ x∈s++[(k:Int)],x∈a.2.1)∧Vis (nextL F.blocks_) ((js.drop a.1).map (·.to_)) a.2 T)
      (fun a=>js.length - a.1) (0,s++[(k:Int)],l) [0] ?_ ⟨Nat.zero_le _,ok2,fun _ h=>h,hT⟩ ?_
    · simp
      refine ⟨.inl (by simp), ?_⟩
      have:=dle_row (K:=[0]) (H:=[Place.row 2 [[V.d (.int .i64 F.params_),V.d (dBlockS F.blocks_)]],Place.dead,Place.dead,Place.row 1 [[V.d (.int .i64 k)]],Place.row 1 (rI (s++[(k:Int)]))]) (f:=3) (id:=4) (l:=s++[(k:Int)]) (by simp) rfl
      rw [List.length_append] at this
      simpa using this
    rintro ⟨i,sn,lf⟩ ⟨hi,okk,hsub,hV⟩
    dsimp only at hi okk hsub hV
    have lnn:=okk.len
    dsimp only at lnn
    have h8:sn.length≤1000:=by omega
    by_cases h:i < js.length
    · obtain ⟨j,hj⟩:∃ j,j=js[i]?.getD default:=⟨_,rfl⟩
      have hj0:=hj.symm
      have hj1:∀ h:i < js.length,js[i]=j:=fun h=>by rw [hj,List.getElem?_eq_getElem h];rfl
      have hjr:=hj2.2 j (by rw [← hj1 h];exact List.getElem_mem h)
      have wi:IntKind.i64.wrap ((i:Int) + 1)=((i + 1:Nat):Int):=by rw [wrap_id] <;> omega
      rw [List.drop_eq_getElem_cons h,hj1 h,List.map_cons] at hV
      cases hx:hasL sn j.to_ with
      | true =>
        refine W_run mixed ⟨[K_53],[K_53h],[71,43],48,0,[0,1,2,3,4,8,9,11,22,23,24,25,32],[25,32]⟩ (fun _=>[]) (by kernel_rfl) ?_
        simp only [stripX,stripOps,pickOps]
        simp [K_53_f,K_53_e,K_53h_f,K_53h_e,K_53h_g,h,hj0,hj1,h8,hx,wi]
        have hV2:Vis (nextL F.blocks_) ((js.drop (i + 1)).map (·.to_)) (sn,lf) T:=by
          cases hV with
          | old _ h=>exact h
          | new h _ _=>exact absurd (hasL_iff.1 hx) h
        rw [List.map_drop] at hV2
        exact ⟨i + 1,sn,lf,⟨by omega,okk,fun x hx=>hsub x (by simpa using hx),hV2⟩,by omega,[0],by simp,⟨⟨⟨rfl,.inl (by simp)⟩,by simp⟩,rfl⟩,DLe.refl _,DLe.refl _,by simp,DLe.refl _⟩
      | false =>
        refine W_run mixed ⟨[K_53],[K_53h],[71,43],48,0,[0,1,2,3,4,8,9,11,22,23,24,25,32],[25,32]⟩ (fun _=>[]) (by kernel_rfl) ?_
        simp only [stripX,stripOps,pickOps]
        simp [K_53_f,K_53_e,K_53h_f,K_53h_e,K_53h_g,h,hj0,hj1,h8,hx,wi]
        have hxn:j.to_ ∉ sn:=fun q=>by rw [hasL_iff.2 q] at hx;cases hx
        obtain ⟨R,hV1,hV2⟩:∃ R,Vis (nextL F.blocks_) ((nextL F.blocks_)[j.to_.toNat]?.getD default) (sn++[j.to_],lf) R∧Vis (nextL F.blocks_) ((js.drop (i + 1)).map (·.to_)) (R.1,j.to_ :: R.2) T:=by
          cases hV with
          | old h _=>exact absurd h hxn
          | new _ g1 g2=>exact ⟨_,g1,g2⟩
        rw [List.map_drop] at hV2
        obtain ⟨t,ht⟩:=Int.eq_ofNat_of_zero_le hjr.1
        rw [ht] at hV1 hV2 hxn hjr
        have okR:VOk (nextL F.blocks_).length (R.1,(t:Int) :: R.2):=by
          have h1:=(Vis.new hxn hV1 (.nil _)).ok hn1 okk fun x hx=>by rw [List.mem_singleton.1 hx];omega
          exact h1
        have hus:unseen (nextL F.blocks_).length sn≤m:=by
          have:=unseen_le (n:=(nextL F.blocks_).length) hsub
          omega
        rw [aft_call,ht]
        refine ((walkS_c F hF hg m t sn lf R okk (by omega) hxn hus hV1).calls rfl).mono ?_
        rintro r H1 ⟨rfl,rfl⟩
        simp [K_53_f,K_53_e,K_53h_f,K_53h_e,K_53h_g,h,hj0,hj1,h8,hx,wi]
        refine ⟨i + 1,R.1,(t:Int) :: R.2,⟨by omega,okR,fun x hx=>?_,hV2⟩,by omega,[0],by simp,⟨⟨⟨rfl,.inl (by simp)⟩,by simp⟩,rfl⟩,DLe.refl _,DLe.refl _,by simp,DLe.refl _⟩
        exact hV1.sub (List.mem_append_left _ (hsub x (by simpa using hx)))
    · rw [List.drop_eq_nil_of_le (by omega)] at hV
      cases hV
      have eu:(upto lf.length fun i=>[V.d (.int .i64 (lf[i]?.getD 0))])=rI lf:=by rw [upto_take lf (Nat.le_refl _),List.take_length]
      refine W_run mixed ⟨[K_53],[K_53h],[71,43],48,0,[0,1,2,3,4,8,9,11,22,23,24,25,32],[25,32]⟩ (fun _=>[]) (by kernel_rfl) ?_
      simp only [stripX,stripOps,pickOps]
      simp [K_53_f,K_53_e,K_53h_f,K_53h_e,K_53h_g,h,eu]
      refine ⟨⟨by omega,by omega⟩,DLe.refl _, ?_,rfl⟩
      rw [if_pos (by omega)]
      exact vle_row ((k:Int) :: lf) rfl (by simp;omega)
theorem PureP.rdB {P:Program} {f:FuncId} {vs vs':List V} {Q:V→Prop} (h:PureP P f vs' Q) (hv:Reads1 [] vs vs'):PureP P f vs Q:=by
  refine ⟨h.1,fun X w φ args hX hs hvs=>?_⟩
  have hφ:φ=[]:=List.length_eq_zero_iff.1 hs.len
  subst hφ
  exact h.2 X w [] args hX hs (by rw [owned_nil];exact hv X w [] _ hs hvs)
theorem Rd1.agg {H:Heap} {l l':List V} (h:Rds H l l'):Rd1 H (.agg l) (.agg l'):=fun X w φ v hs hv=>by
  simp only [VS] at hv ⊢
  obtain ⟨cs,rfl,h1⟩:=hv
  exact ⟨cs,rfl,Rd1.list h X w φ _ hs h1⟩
noncomputable def boT (F:Func):List Int × List Int:=Classical.epsilon fun r=>Vis (nextL F.blocks_) ((nextL F.blocks_)[0]?.getD default) ([0],[]) r
theorem boT_vis {F:Func} (hg:goodF F=true):Vis (nextL F.blocks_) ((nextL F.blocks_)[0]?.getD default) ([0],[]) (boT F):=by
  obtain ⟨hv1,hn1,hp1⟩:=good_flow hg
  have hln:(nextL F.blocks_).length=F.blocks_.length:=by simp [nextL]
  exact Classical.epsilon_spec (Vis.some hn1 _ _ ([0],[]) (Nat.le_refl _) fun x hx=>(okNext_get hn1 _).2 x hx)
noncomputable def boV (F:Func):List Int:=if goodF F=true then 0 :: (boT F).2 else []
noncomputable def boR (F:Func):V:=.tup [.d (dIntS (boV F)),.d (.bool (goodF F))]
theorem boS_c (F:Func) (hF:Enc.good F):PureP Tryz.prog 12 [vFunc F] (· = boR F):=by
  cases hg:goodF F with
  | false =>
    have h:PureP Tryz.prog 12 [vFunc F] (· = .tup [.d .nilsl,.d (.bool false)]):=by
      refine pure_of Tryz.func12 en_12 rfl rfl (W_run mixed ⟨[K_37],[K_37h],[43],15,0,[0,1,2,3,5,8],[8]⟩ (fun _=>[]) (by kernel_rfl) ?_)
      simp only [Tryz.f12,stripX,stripOps,pickOps]
      simp [K_37_f,K_37_e,K_37h_f,K_37h_e,K_37h_g,hF,hg]
    refine PureP.of_own (h.ans.mono ?_)
    rintro r H' ⟨rfl,rfl⟩
    simp only [boR,boV,hg]
    exact Rd1.tup ⟨Rd1.nilL,Rd1.d,trivial⟩
  | true =>
    obtain ⟨hv1,hn1,hp1⟩:=good_flow hg
    have hln:(nextL F.blocks_).length=F.blocks_.length:=by simp [nextL]
    have hW:=walkS_c F hF hg _ 0 [] [] (boT F) ⟨List.nodup_nil,fun x hx=>absurd hx List.not_mem_nil,List.nodup_nil,fun x hx=>absurd hx List.not_mem_nil⟩ hp1 List.not_mem_nil (Nat.le_refl _) (boT_vis hg)
    have hW2:=hW.rdB (vs:=[vFunc F,.d (.int .i64 0),.d .nilsl,.d .nilsl]) (Rd1.list (vs:=[vFunc F,.d (.int .i64 0),.d .nilsl,.d .nilsl]) (vs':=[vFunc F,.d (.int .i64 ((0:Nat):Int)),.d (dIntS []),.d (dIntS [])]) ⟨Rd1.agg ⟨Rd1.d,Rd1.d,trivial⟩,Rd1.d,Rd1.nilL,Rd1.nilL,trivial⟩)
    refine pure_of Tryz.func12 en_12 rfl rfl (W_run mixed ⟨[K_37],[K_37h],[43],15,0,[0,1,2,3,5,8],[8]⟩ (fun _=>[]) (by kernel_rfl) ?_)
    simp only [Tryz.f12,stripX,stripOps,pickOps]
    simp [K_37_f,K_37_e,K_37h_f,K_37h_e,K_37h_g,hF,hg]
    rw [aft_call]
    refine (hW2.calls rfl).mono ?_
    rintro r H1 ⟨rfl,rfl⟩
    simp [K_37_f,K_37_e,K_37h_f,K_37h_e,K_37h_g,hF,hg]
    simp [boR,boV,hg]
noncomputable def K_12:Ent Tryz.prog:=Ent.p1 (α:=Func) 12 (fun F=>Enc.good F) (fun F=>boR F) (fun F hc=>boS_c F hc)
theorem K_12_f:K_12.f=12:=rfl
theorem K_12_e (F0:Int) (F1:List Block):K_12.e [.agg [.d (.int .i64 F0),.d (dBlockS F1)]]=some (Enc.good (Func.mk F0 F1),boR (Func.mk F0 F1),[]):=by unfold K_12;exact Ent.p1_eq (α:=Func) (Func.mk F0 F1)
noncomputable def K_12h:EntH Tryz.prog:=EntH.pk1 (α:=Func) 12 (fun F=>Enc.good F) (fun F=>boR F) (fun F=>[]) (fun F hc=>PureP.ans (boS_c F hc))
theorem K_12h_f:K_12h.f=12:=rfl
theorem K_12h_g:K_12h.gro=true:=rfl
theorem K_12h_e {x1:V} {H:Heap}:K_12h.e [x1] H=guardR ((decA (α:=Func) H x1).1) (peekR (Enc.good (decA (α:=Func) H x1).2) (boR (decA (α:=Func) H x1).2) ([]) H):=rfl
end Go.Proofs.YthafdegfjadijaaGreat
end
