/- Contracts of the program's lists of numbers, dominators and ways. No condition. -/
import Derived.Test.YthafdegfjadijaaGreatQS12
namespace Go.Proofs.YthafdegfjadijaaGreat
set_option maxRecDepth 100000
set_option linter.unusedSimpArgs false
set_option linter.unusedVariables false
def numsOf (p:Nat→Bool) (n:Nat):List Int:=((List.range n).filter p).map fun k:Nat=>(k:Int)
theorem numsOf_succ (p:Nat→Bool) (n:Nat):numsOf p (n + 1)=numsOf p n++(if p n=true then [(n:Int)] else []):=by
  simp only [numsOf,List.range_succ,List.filter_append,List.map_append]
  congr 1
  by_cases h:p n=true <;> simp [h]
theorem numsOf_len (p:Nat→Bool) (n:Nat):(numsOf p n).length≤n:=by
  simp only [numsOf,List.length_map]
  exact Nat.le_trans (List.length_filter_le _ _) (by simp)
theorem mem_numsOf {p:Nat→Bool} {n:Nat} {x:Int}:x∈numsOf p n ↔ 0≤x∧x < n∧p x.toNat=true:=by
  simp only [numsOf,List.mem_map,List.mem_filter,List.mem_range]
  constructor
  · rintro ⟨k,⟨h1,h2⟩,rfl⟩
    exact ⟨by omega,by omega,by simpa using h2⟩
  · rintro ⟨h0,h1,h2⟩
    exact ⟨x.toNat,⟨by omega,h2⟩,by omega⟩
def listB (l:List Bool):List Int:=numsOf (fun k=>l[k]?.getD false) l.length
theorem vle_rI (l:List Int) (f:Nat) (H:Heap):VLe (.d (.ro 1 l.length fun i j=>closeD H f (((Option.map (fun n=>[V.d (D.int IntKind.i64 n)]) l[i]?).getD [])[j]?.getD (.d .undef)))) (.d (dIntS l)):=by
  refine ⟨rfl,rfl,fun k hk j hj=>?_⟩
  have:j=0:=by omega
  subst this
  dsimp only
  rw [List.getElem?_eq_getElem hk]
  cases f <;> simp [closeD]
theorem listOf_c (l:List Bool) (h8:l.length≤8):PureP Tryz.prog 36 [.d (dBoolS l)] (· = .d (dIntS (listB l))):=by
  refine PureP.le (pure_of Tryz.func36 en_36 rfl rfl (W_run mixed ⟨[],[],[],21,0,[0,2,3,4,5,7,8,9,10,14],[10,14]⟩ (fun _=>[]) (by kernel_rfl) ?_))
  simp only [Tryz.f36,stripX,stripOps,pickOps]
  simp []
  refine W_loopS (fun i:Nat=>[(3,.sl 0 1 0 (numsOf (fun k=>l[k]?.getD false) i).length),(7,.d (dBoolS l)),(8,.d (.int .i64 l.length)),(9,.d (.int .i64 i))])
    (fun i=>[.row 1 (rI (numsOf (fun k=>l[k]?.getD false) i))]) (fun i=>i≤l.length) (fun i=>l.length - i) 0 [0] ?_ ?_ ?_
  · simp [numsOf]
  · simp
  intro i hi
  have hl:=numsOf_len (fun k=>l[k]?.getD false) i
  refine W_run mixed ⟨[],[],[],21,0,[0,2,3,4,5,7,8,9,10,14],[10,14]⟩ (fun _=>[]) (by kernel_rfl) ?_
  simp only [stripX,stripOps,pickOps]
  simp []
  have wi:i < l.length→IntKind.i64.wrap ((i:Int) + 1)=((i + 1:Nat):Int):=fun h=>by rw [wrap_id] <;> omega
  refine ⟨fun h=>⟨h,fun hb=>⟨by omega, ?_⟩,fun hb=>?_⟩,fun h=>?_⟩
  · have e:numsOf (fun k=>l[k]?.getD false) (i + 1)=numsOf (fun k=>l[k]?.getD false) i++[(i:Int)]:=by rw [numsOf_succ,if_pos hb]
    refine ⟨i + 1,by omega,by omega,[2],by simp, ?_,by simp [e],wi h⟩
    rw [e]
    simp
  · have e:numsOf (fun k=>l[k]?.getD false) (i + 1)=numsOf (fun k=>l[k]?.getD false) i:=by rw [numsOf_succ,if_neg (by simp [hb])];simp
    refine ⟨i + 1,by omega,by omega,[0],by simp, ?_,by simp [e],wi h⟩
    rw [e]
    simp
  · have e:i=l.length:=by omega
    subst e
    exact vle_rI _ _ _
noncomputable def K_36:Ent Tryz.prog:=Ent.p1 (α:=List Bool) 36 (fun l=>l.length≤8) (fun l=>.d (dIntS (listB l))) (fun l hc=>listOf_c l hc)
theorem K_36_f:K_36.f=36:=rfl
theorem K_36_e (l:List Bool):K_36.e [.d (dBoolS l)]=some (l.length≤8,.d (dIntS (listB l)),[]):=by unfold K_36;exact Ent.p1_eq (α:=List Bool) l
noncomputable def K_36h:EntH Tryz.prog:=EntH.pk1 (α:=List Bool) 36 (fun l=>l.length≤8) (fun l=>.d (dIntS (listB l))) (fun l=>[]) (fun l hc=>PureP.ans (listOf_c l hc))
theorem K_36h_f:K_36h.f=36:=rfl
theorem K_36h_g:K_36h.gro=true:=rfl
theorem K_36h_e {x1:V} {H:Heap}:K_36h.e [x1] H=guardR ((decA (α:=List Bool) H x1).1) (peekR ((decA (α:=List Bool) H x1).2.length≤8) (.d (dIntS (listB (decA (α:=List Bool) H x1).2))) ([]) H):=rfl

def rowOf (n:Nat) (g:Nat→Bool):List Bool:=(List.range n).map g
def rowsB (n i:Nat) (f:Nat→Nat→Bool):Heap:=(List.range i).map fun b=>.row 1 (rB (rowOf n (f b)))
def heads (n i:Nat):List (List V):=fillR n i (fun b=>[.sl (b + 1) 1 0 n]) [.d .nilsl]
@[simp] theorem rowOf_len (n:Nat) (g:Nat→Bool):(rowOf n g).length=n:=by simp [rowOf]
@[simp] theorem rowsB_len (n i:Nat) (f:Nat→Nat→Bool):(rowsB n i f).length=i:=by simp [rowsB]
@[simp] theorem heads_len (n i:Nat):(heads n i).length=n:=by simp [heads]
theorem rowsB_get {n i b:Nat} (f:Nat→Nat→Bool) (h:b < i):(rowsB n i f)[b]? = some (.row 1 (rB (rowOf n (f b)))):=by
  simp [rowsB,h]
theorem heads_step {n i:Nat} (h:i < n):(heads n i).set i (((heads n i)[i]?.getD []).set 0 (V.sl (i + 1) 1 0 n))=heads n (i + 1):=by
  unfold heads
  rw [fillR_at _ _ _ _ h]
  exact fillR_set _ _ _ _ h
theorem heads_under {n i m:Nat} (h:i < m):∀ x∈heads n i,∀ c∈x,c.under m=true:=by
  intro x hx c hc
  obtain ⟨j,hj,rfl⟩:=List.mem_map.1 hx
  split at hc
  · have:c=.sl (j + 1) 1 0 n:=by simpa using hc
    subst this
    simp [V.under];omega
  · have:c=.d .nilsl:=by simpa using hc
    subst this;rfl
theorem below_all {m:Nat}:∀ {l:Heap},(∀ p∈l,placeBelow m p=true)→placesBelow m l
  | [],_=>trivial
  | p :: l,h=>by
    simp only [placesBelow]
    exact ⟨h p List.mem_cons_self,below_all fun q hq=>h q (List.mem_cons_of_mem _ hq)⟩
theorem rowsB_below (n i m:Nat) (f:Nat→Nat→Bool):placesBelow m (rowsB n i f):=by
  refine below_all fun p hp=>?_
  obtain ⟨b,_,rfl⟩:=List.mem_map.1 hp
  simp only [placeBelow,List.all_eq_true]
  exact rows_under _ _ _
theorem rowsB_step (n i:Nat):rowsB n i (fun _ _=>false)++[Place.row 1 (List.replicate n [V.d (D.bool false)])]=rowsB n (i + 1) (fun _ _=>false):=by
  unfold rowsB
  rw [List.range_succ,List.map_append]
  congr 2
  refine congrArg (Place.row 1) ?_
  refine List.ext_getElem (by simp) fun k h1 h2=>?_
  simp [rowOf]
theorem rowsB_set {n i b k:Nat} (f:Nat→Nat→Bool) (x:Bool) (hb:b < i) (hk:k < n) :
    (rowsB n i f).set b (.row 1 ((rB (rowOf n (f b))).set k [V.d (.bool x)]))=rowsB n i (fun b' k'=>if b'=b∧k'=k then x else f b' k'):=by
  refine List.ext_getElem (by simp) fun c h1 h2=>?_
  simp only [List.getElem_set]
  have hc:c < i:=by simpa using h2
  simp only [rowsB,List.getElem_map,List.getElem_range]
  by_cases e:b=c
  · subst e
    rw [if_pos rfl,rB_set]
    congr 2
    refine List.ext_getElem (by simp) fun d h3 h4=>?_
    simp only [List.getElem_set,rowOf,List.getElem_map,List.getElem_range]
    by_cases e:k=d
    · subst e;simp
    · rw [if_neg e,if_neg (by omega)]
  · rw [if_neg e]
    congr 3
    funext d
    rw [if_neg (by omega)]
theorem rowsB_congr {n i:Nat} {f g:Nat→Nat→Bool} (h:∀ b k,b < i→k < n→f b k=g b k):rowsB n i f=rowsB n i g:=by
  refine List.ext_getElem (by simp) fun c h1 h2=>?_
  have hc:c < i:=by simpa using h2
  simp only [rowsB,List.getElem_map,List.getElem_range]
  congr 2
  refine List.ext_getElem (by simp) fun d h3 h4=>?_
  have hd:d < n:=by simpa using h4
  simp only [rowOf,List.getElem_map,List.getElem_range]
  exact h c d hc hd
@[simp 2000] theorem elR_heads {n b:Nat} {H:Heap}:elR (heads n n) b 1 1 0 1 false H=guardR (b < n) (.ok (.sl (b + 1) 1 0 n) H):=by
  unfold elR
  refine guardR_congr (by simp) fun h=>?_
  have h1:b < n:=by simpa using h.1
  unfold heads
  rw [fillR_done _ _ _ h1]
  rfl
noncomputable def domE (nx:List (List Int)) (b k:Nat):Bool:=(rchB nx 0 (-1))[b]?.getD false && !((rchB nx 0 k)[b]?.getD false)
noncomputable def domF (nx:List (List Int)) (r:List Int) (i b k:Nat):Bool:=(r.take i).contains (k:Int) && domE nx b k
noncomputable def domG (nx:List (List Int)) (r:List Int) (i j b k:Nat):Bool:=if b < j∧(k:Int)=r[i]?.getD 0 then domE nx b k else domF nx r i b k
theorem domF_zero (nx:List (List Int)) (r:List Int):domF nx r 0=fun _ _=>false:=by funext b k;simp [domF]
theorem domG_zero (nx:List (List Int)) (r:List Int) (i:Nat):domG nx r i 0=domF nx r i:=by funext b k;simp [domG]
theorem rows_take {n i:Nat} (f:Nat→Nat→Bool):List.take i (rowsB n i f)=rowsB n i f:=List.take_of_length_le (by simp)
theorem domG_step (nx:List (List Int)) (r:List Int) {i j n:Nat} {kk:Int} {x:Bool} (hkk:r[i]?.getD 0=kk) (k0:0≤kk) (k1:kk < n) (hj:j < n) (hx:x=domE nx j kk.toNat) :
    List.take n ((rowsB n n (domG nx r i j)).set j (.row 1 ((rB (rowOf n (domG nx r i j j))).set kk.toNat [V.d (.bool x)])))=rowsB n n (domG nx r i (j + 1)):=by
  rw [rowsB_set _ _ hj (by omega),rows_take]
  refine rowsB_congr fun b k hb hk=>?_
  unfold domG
  rw [hkk]
  by_cases e:b=j∧k=kk.toNat
  · obtain ⟨rfl,rfl⟩:=e
    rw [if_pos ⟨rfl,rfl⟩,if_pos ⟨by omega,by omega⟩,hx]
  · rw [if_neg e]
    by_cases e2:b < j∧(k:Int)=kk
    · rw [if_pos e2,if_pos ⟨by omega,e2.2⟩]
    · rw [if_neg e2,if_neg (by omega)]
theorem domG_done (nx:List (List Int)) (r:List Int) {i n:Nat} (h:i < r.length):rowsB n n (domG nx r i n)=rowsB n n (domF nx r (i + 1)):=by
  refine rowsB_congr fun b k hb hk=>?_
  have e:r[i]?.getD 0=r[i]:=by rw [List.getElem?_eq_getElem h];rfl
  unfold domG domF
  have hm:∀ x:Int,(r.take (i + 1)).contains x=((r.take i).contains x || decide (x=r[i])):=fun x=>by
    apply Bool.eq_iff_iff.2
    rw [List.contains_iff_mem,List.take_succ_eq_append_getElem h,List.mem_append,List.mem_singleton,Bool.or_eq_true,List.contains_iff_mem,decide_eq_true_eq]
  rw [e,hm]
  by_cases e2:(k:Int)=r[i]
  · rw [if_pos ⟨hb,e2⟩,decide_eq_true e2,Bool.or_true,Bool.true_and]
  · rw [if_neg (fun q=>e2 q.2),decide_eq_false e2,Bool.or_false]
noncomputable def domL (nx:List (List Int)):List (List Bool):=(List.range nx.length).map fun b=>rowOf nx.length (domF nx (listB (rchB nx 0 (-1))) (listB (rchB nx 0 (-1))).length b)
theorem dominators_c (nx:List (List Int)) (hn:okNext nx) (h1:0 < nx.length):PureP Tryz.prog 34 [.d (dIntSS nx)] (· = .d (dBoolSS (domL nx))):=by
  have h8:=hn.1
  have f1:(nx.length:Int) * 24≤140737488355328:=by omega
  have f2:(nx.length:Int)≤140737488355328:=by omega
  refine PureP.le (pure_of Tryz.func34 en_34 rfl rfl (W_run mixed ⟨[K_39,K_36],[K_39h,K_36h],[],62,0,[0,2,3,4,5,7,8,9,16,17,18,28,29,30,31,38,39,40],[18,31,40,51]⟩ (fun | 1=>[0,1,3,4,2,5,6] | 14=>[0,1,2,4,5,6,7,3,8,9,10,11,12,13,14,15,16,17] | _=>[]) (by kernel_rfl) ?_))
  simp only [Tryz.f34,stripX,stripOps,pickOps]
  simp [K_39_f,K_39_e,K_36_f,K_36_e,K_39h_f,K_39h_e,K_36h_f,K_36h_e,K_39h_g,K_36h_g,f1,f2,h1,hn]
  have hz:List.replicate nx.length [V.d D.nilsl]=heads nx.length 0:=fillR_zero _ _ _
  rw [hz]
  refine W_loopA (fun i:Nat=>[(0,.d (dIntSS nx)),(3,.sl 0 1 0 nx.length),(4,.d (dBoolS (rchB nx 0 (-1)))),(16,.d (.int .i64 nx.length)),(17,.d (.int .i64 i))])
    (fun i=>.row 1 (heads nx.length i) :: rowsB nx.length i (fun _ _=>false)) (fun i=>i≤nx.length) (fun i=>nx.length - i) 0 ?_ ?_ ?_
  · simp [rowsB]
    exact heads_under (by omega)
  · simp
  intro i hi
  have hrl:(rchB nx 0 (-1)).length=nx.length:=by simp [rchB]
  refine W_run mixed ⟨[K_39,K_36],[K_39h,K_36h],[],62,0,[0,2,3,4,5,7,8,9,16,17,18,28,29,30,31,38,39,40],[18,31,40,51]⟩ (fun | 1=>[0,1,3,4,2,5,6] | 14=>[0,1,2,4,5,6,7,3,8,9,10,11,12,13,14,15,16,17] | _=>[]) (by kernel_rfl) ?_
  simp only [stripX,stripOps,pickOps]
  simp [K_39_f,K_39_e,K_36_f,K_36_e,K_39h_f,K_39h_e,K_36h_f,K_36h_e,K_39h_g,K_36h_g,f1,f2,h1,hn,hrl]
  refine ⟨fun h=>⟨h,i + 1,by omega,by omega,⟨heads_step h, ?_⟩,⟨heads_under (by omega),rowsB_below ..⟩, ?_⟩,fun h=>⟨h8, ?_⟩⟩
  · rw [rowsB_step,List.take_of_length_le (by simp)]
  · rw [wrap_id] <;> omega
  have e:i=nx.length:=by omega
  subst e
  clear h hi
  generalize hr:listB (rchB nx 0 (-1))=r
  have hrm:∀ x∈r,0≤x∧x < nx.length:=fun x hx=>by
    rw [← hr] at hx
    obtain ⟨q0,q1,_⟩:=mem_numsOf.1 hx
    exact ⟨q0,by omega⟩
  have hr8:r.length≤8:=by
    have:=numsOf_len (fun k=>(rchB nx 0 (-1))[k]?.getD false) (rchB nx 0 (-1)).length
    rw [← hr,listB];omega
  refine W_loopA (fun i:Nat=>[(0,.d (dIntSS nx)),(3,.sl 0 1 0 nx.length),(4,.d (dBoolS (rchB nx 0 (-1)))),(28,.d (dIntS r)),(29,.d (.int .i64 r.length)),(30,.d (.int .i64 i))])
    (fun i=>.row 1 (heads nx.length nx.length) :: rowsB nx.length nx.length (domF nx r i)) (fun i=>i≤r.length) (fun i=>r.length - i) 0 ?_ ?_ ?_
  · simp [domF_zero,rows_take]
    exact ⟨heads_under (by omega),rowsB_below ..⟩
  · simp
  intro i hi
  refine W_run mixed ⟨[K_39,K_36],[K_39h,K_36h],[],62,0,[0,2,3,4,5,7,8,9,16,17,18,28,29,30,31,38,39,40],[18,31,40,51]⟩ (fun | 1=>[0,1,3,4,2,5,6] | 14=>[0,1,2,4,5,6,7,3,8,9,10,11,12,13,14,15,16,17] | _=>[]) (by kernel_rfl) ?_
  simp only [stripX,stripOps,pickOps]
  simp [K_39_f,K_39_e,K_36_f,K_36_e,K_39h_f,K_39h_e,K_36h_f,K_36h_e,K_39h_g,K_36h_g,f1,f2,h1,hn,hrl]
  refine ⟨fun h=>⟨h, ?_⟩,fun h=>?_⟩
  · have hk:r[i]?.getD 0∈r:=by rw [List.getElem?_eq_getElem h];exact List.getElem_mem h
    obtain ⟨k0,k1⟩:=hrm _ hk
    generalize hkk:r[i]?.getD 0=kk at k0 k1
    have hlk:(rchB nx 0 kk).length=nx.length:=by simp [rchB]
    have wi:IntKind.i64.wrap ((i:Int) + 1)=((i + 1:Nat):Int):=by rw [wrap_id] <;> omega
    refine W_loopA (fun j:Nat=>[(0,.d (dIntSS nx)),(3,.sl 0 1 0 nx.length),(4,.d (dBoolS (rchB nx 0 (-1)))),(28,.d (dIntS r)),(29,.d (.int .i64 r.length)),(30,.d (.int .i64 i)),(7,.d (.int .i64 kk)),(8,.d (dBoolS (rchB nx 0 kk))),(38,.d (.int .i64 nx.length)),(39,.d (.int .i64 j))])
      (fun j=>.row 1 (heads nx.length nx.length) :: rowsB nx.length nx.length (domG nx r i j)) (fun j=>j≤nx.length) (fun j=>nx.length - j) 0 ?_ ?_ ?_
    · simp [domG_zero,rows_take]
      exact ⟨heads_under (by omega),rowsB_below ..⟩
    · simp
    intro j hj
    by_cases hjl:j < nx.length
    · have hrow:=rowsB_get (n:=nx.length) (domG nx r i j) hjl
      refine W_run mixed ⟨[K_39,K_36],[K_39h,K_36h],[],62,0,[0,2,3,4,5,7,8,9,16,17,18,28,29,30,31,38,39,40],[18,31,40,51]⟩ (fun | 1=>[0,1,3,4,2,5,6] | 14=>[0,1,2,4,5,6,7,3,8,9,10,11,12,13,14,15,16,17] | _=>[]) (by kernel_rfl) ?_
      simp only [stripX,stripOps,pickOps]
      simp [K_39_f,K_39_e,K_36_f,K_36_e,K_39h_f,K_39h_e,K_36h_f,K_36h_e,K_39h_g,K_36h_g,f1,f2,h1,hn,hrl,hlk,hrow,wi]
      have wj:IntKind.i64.wrap ((j:Int) + 1)=((j + 1:Nat):Int):=by rw [wrap_id] <;> omega
      have ek:((kk.toNat:Nat):Int)=kk:=by omega
      refine ⟨fun h=>⟨h,fun ha=>⟨h,⟨k0,k1⟩,k1,j + 1,by omega,by omega,domG_step nx r hkk k0 k1 h ?_,⟨heads_under (by omega),rowsB_below ..⟩,wj⟩,fun ha=>⟨⟨k0,k1⟩,k1,j + 1,by omega,by omega,domG_step nx r hkk k0 k1 h ?_,⟨heads_under (by omega),rowsB_below ..⟩,wj⟩⟩,fun h=>absurd hjl (by omega)⟩
      · simp [domE,ha,ek]
      · simp [domE,ha]
    · have e:j=nx.length:=by omega
      subst e
      refine W_run mixed ⟨[K_39,K_36],[K_39h,K_36h],[],62,0,[0,2,3,4,5,7,8,9,16,17,18,28,29,30,31,38,39,40],[18,31,40,51]⟩ (fun | 1=>[0,1,3,4,2,5,6] | 14=>[0,1,2,4,5,6,7,3,8,9,10,11,12,13,14,15,16,17] | _=>[]) (by kernel_rfl) ?_
      simp only [stripX,stripOps,pickOps]
      simp [K_39_f,K_39_e,K_36_f,K_36_e,K_39h_f,K_39h_e,K_36h_f,K_36h_e,K_39h_g,K_36h_g,f1,f2,h1,hn,hrl,hlk,wi]
      refine ⟨i + 1,by omega,by omega, ?_,⟨heads_under (by omega),rowsB_below ..⟩,by omega⟩
      rw [rows_take,domG_done nx r h]
  · have e:i=r.length:=by omega
    subst e
    refine ⟨rfl,by simp [domL],fun k hk j hj=>?_⟩
    have:j=0:=by omega
    subst this
    dsimp only
    unfold heads
    rw [fillR_done _ _ _ hk]
    have hrow:=rowsB_get (n:=nx.length) (domF nx r r.length) hk
    have hd:(domL nx)[k]?.getD default=rowOf nx.length (domF nx r r.length k):=by simp [domL,hk,hr]
    show DLe (closeD _ (2 + 1) (.sl (k + 1) 1 0 nx.length)) _
    simp only [closeD,List.getElem?_cons_succ,hrow,hd]
    rw [if_pos (by simp)]
    refine ⟨rfl,by simp,fun m hm q hq=>?_⟩
    have:q=0:=by omega
    subst this
    dsimp only
    have hm':m < (rowOf nx.length (domF nx r r.length k)).length:=by simpa using hm
    have e1:(rowOf nx.length (domF nx r r.length k))[m]? = some ((rowOf nx.length (domF nx r r.length k))[m]):=List.getElem?_eq_getElem hm'
    rw [Nat.zero_add,List.getElem?_map,e1]
    simp [closeD]
noncomputable def K_34:Ent Tryz.prog:=Ent.p1 (α:=List (List Int)) 34 (fun nx=>okNext nx∧0 < nx.length) (fun nx=>.d (dBoolSS (domL nx))) (fun nx hc=>dominators_c nx hc.1 hc.2)
theorem K_34_f:K_34.f=34:=rfl
theorem K_34_e (nx:List (List Int)):K_34.e [.d (dIntSS nx)]=some (okNext nx∧0 < nx.length,.d (dBoolSS (domL nx)),[]):=by unfold K_34;exact Ent.p1_eq (α:=List (List Int)) nx
noncomputable def K_34h:EntH Tryz.prog:=EntH.pk1 (α:=List (List Int)) 34 (fun nx=>okNext nx∧0 < nx.length) (fun nx=>.d (dBoolSS (domL nx))) (fun nx=>[]) (fun nx hc=>PureP.ans (dominators_c nx hc.1 hc.2))
theorem K_34h_f:K_34h.f=34:=rfl
theorem K_34h_g:K_34h.gro=true:=rfl
theorem K_34h_e {x1:V} {H:Heap}:K_34h.e [x1] H=guardR ((decA (α:=List (List Int)) H x1).1) (peekR (okNext (decA (α:=List (List Int)) H x1).2∧0 < (decA (α:=List (List Int)) H x1).2.length) (.d (dBoolSS (domL (decA (α:=List (List Int)) H x1).2))) ([]) H):=rfl
structure Ways where
  view_:Ptr View
  all_:List Bool
  dom_:List (List Bool)
  deriving Inhabited
def dWays (x:Ways):Nat→D
  | 0=>.rp 5 (dView x.view_.v)
  | 1=>dBoolS x.all_
  | 2=>dBoolSS x.dom_
  | _=>.undef
@[simp] theorem dWays_0 (x:Ways):dWays x 0=.rp 5 (dView x.view_.v):=rfl
@[simp] theorem dWays_1 (x:Ways):dWays x 1=dBoolS x.all_:=rfl
@[simp] theorem dWays_2 (x:Ways):dWays x 2=dBoolSS x.dom_:=rfl
@[reducible] instance encWays:Enc Ways where
  size:=3
  agg:=true
  cells:=dWays
  good x:=Enc.good x.view_∧Enc.good x.all_∧Enc.good x.dom_
  un f:=⟨Enc.un fun _=>f 0,Enc.un fun _=>f 1,Enc.un fun _=>f 2⟩
  un_of a f h:=by
    rw [h 0 (by omega),h 1 (by omega),h 2 (by omega)]
    have e0:(Enc.un fun _=>dWays a 0)=a.view_:=Enc.un_of (α:=Ptr View) _ _ fun j hj=>rfl
    have e1:(Enc.un fun _=>dWays a 1)=a.all_:=Enc.un_of (α:=List Bool) _ _ fun j hj=>rfl
    have e2:(Enc.un fun _=>dWays a 2)=a.dom_:=Enc.un_of (α:=List (List Bool)) _ _ fun j hj=>rfl
    rw [e0,e1,e2]
instance:Shaped Ways:=⟨fun h=>by cases h⟩
@[simp] theorem Ways.eta (x:Ways):Ways.mk x.view_ x.all_ x.dom_=x:=rfl
abbrev dWaysS (l:List Ways):D:=.ro 3 l.length fun i j=>dWays (l[i]?.getD default) j
@[reducible] instance decWays:Dec Ways where
  dec H l:=match l with | [c0,c1,c2]=>((Dec.dec (α:=Ptr View) H [c0]).1∧(Dec.dec (α:=List Bool) H [c1]).1∧(Dec.dec (α:=List (List Bool)) H [c2]).1,⟨(Dec.dec (α:=Ptr View) H [c0]).2,(Dec.dec (α:=List Bool) H [c1]).2,(Dec.dec (α:=List (List Bool)) H [c2]).2⟩) | _=>(False,default)
  ok H l h X w φ xs hs hv:=by
    split at h
    · obtain ⟨h0,h1,h2⟩:=h
      obtain ⟨v0,_,rfl,g0,hv⟩:=hv
      obtain ⟨v1,_,rfl,g1,hv⟩:=hv
      obtain ⟨v2,_,rfl,g2,hv⟩:=hv
      have e:_=[]:=hv
      subst e
      have q0:=Dec.ok (α:=Ptr View) H _ h0 X w φ [v0] hs ⟨v0,[],rfl,g0,rfl⟩
      have q1:=Dec.ok (α:=List Bool) H _ h1 X w φ [v1] hs ⟨v1,[],rfl,g1,rfl⟩
      have q2:=Dec.ok (α:=List (List Bool)) H _ h2 X w φ [v2] hs ⟨v2,[],rfl,g2,rfl⟩
      refine ⟨rfl,fun j u hu=>?_⟩
      match j,hu with
      | 0,hu=>simp at hu;subst hu;exact q0.2 0 _ rfl
      | 1,hu=>simp at hu;subst hu;exact q1.2 0 _ rfl
      | 2,hu=>simp at hu;subst hu;exact q2.2 0 _ rfl
    · exact h.elim
@[simp] theorem dec_Ways {H:Heap} {c0 c1 c2:V}:Dec.dec (α:=Ways) H [c0,c1,c2]=((Dec.dec (α:=Ptr View) H [c0]).1∧(Dec.dec (α:=List Bool) H [c1]).1∧(Dec.dec (α:=List (List Bool)) H [c2]).1,⟨(Dec.dec (α:=Ptr View) H [c0]).2,(Dec.dec (α:=List Bool) H [c1]).2,(Dec.dec (α:=List (List Bool)) H [c2]).2⟩):=rfl
@[simp] theorem dec_dWaysS {H:Heap} {l:List Ways}:Dec.dec (α:=List Ways) H [.d (dWaysS l)]=(True,l):=dec_ro (α:=Ways) (l:=l)
@[simp] theorem dec_rpWays {H:Heap} {x:Ways}:Dec.dec (α:=Ptr Ways) H [.d (.rp 3 (dWays x))]=(True,⟨x⟩):=dec_rp (α:=Ways) (p:=⟨x⟩)
@[simp] theorem agg_Ways:Enc.agg Ways=true:=rfl
@[simp] theorem size_Ways:Enc.size Ways=3:=rfl
end Go.Proofs.YthafdegfjadijaaGreat
