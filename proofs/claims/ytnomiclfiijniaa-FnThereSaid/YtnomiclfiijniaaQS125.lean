/- What is live, as a set of pairs; passes that make it grow. No condition. -/
import Derived.Test.YtnomiclfiijniaaQS126
section
namespace Go.Proofs.Ytnomiclfiijniaa
set_option maxRecDepth 100000
set_option linter.unusedSimpArgs false
set_option linter.unusedVariables false
def ntF (F:Func) (k:Nat) (L:Nat→Bool) (x:Int):Nat→Bool:=fun v=>if v=x.toNat then L v || decide (bk (viewD F) x ≠ k) else L v
theorem rowOf_get {n i:Nat} (g:Nat→Bool) (h:i < n):(rowOf n g)[i]? = some (g i):=by simp [rowOf,h]
theorem rowOf_set {n i:Nat} (g:Nat→Bool) (b:Bool) (h:i < n):(rB (rowOf n g)).set i [.d (.bool b)]=rB (rowOf n fun v=>if v=i then b else g v):=by
  rw [rB_set]
  congr 1
  refine List.ext_getElem? fun j=>?_
  rw [List.getElem?_set]
  by_cases hj:j < n
  · rw [rowOf_get _ hj,rowOf_get _ hj,rowOf_len]
    by_cases e:i=j
    · subst e;simp [h]
    · simp [e,Ne.symm e]
  · rw [if_neg (by omega),List.getElem?_eq_none (by rw [rowOf_len];omega),List.getElem?_eq_none (by rw [rowOf_len];omega)]
theorem live1_own (H:Heap) (F:Func) (hg:goodF F=true) {c6 c7 c9 o rk n tot k m:Nat} {rows:List (List V)} {L:Nat→Bool} {x:Int} {g:Nat→D} (h6:H[c6]? = some (.row 1 [[.d (.rp 5 (dView (viewD F)))]])) (h7:H[c7]? = some (.row 1 [[.sl o 1 0 n]])) (h9:H[c9]? = some (.row 1 [[.d (.int .i64 k)]]))
    (ho:H[o]? = some (.row 1 rows)) (hk:rows[k]? = some [.sl rk 1 0 tot]) (hn:rows.length=n) (hr:H[rk]? = some (.row 1 (rB (rowOf tot L)))) (x0:0≤x) (x1:x < many F) (htot:many F=tot) (hm:1≤m) (hg0:g 0=.int .i64 x) :
    CallsD Try.prog 72 [.d (.rp m g),.ptr c7 1 0 0,.ptr c9 1 0 0,.ptr c6 1 0 0] H fun r H'=>r=.tup []∧H'=H.set rk (.row 1 (rB (rowOf tot (ntF F k L x)))):=by
  have hkl:=(List.getElem?_eq_some_iff.1 hk).1
  have hkn:k < n:=by omega
  have hk0:rows[k]?.getD []=[.sl rk 1 0 tot]:=by rw [hk];rfl
  have hk1:∀ h:k < rows.length,rows[k]=[.sl rk 1 0 tot]:=fun h=>Option.some.inj ((List.getElem?_eq_getElem h).symm.trans hk)
  have hxt:x.toNat < tot:=by omega
  have hxt2:x < tot:=by omega
  obtain ⟨bits,hbits⟩:∃ bits,bits=rowOf tot L:=⟨_,rfl⟩
  have hbl:bits.length=tot:=by rw [hbits,rowOf_len]
  have hbg:bits[x.toNat]?.getD false=L x.toNat:=by rw [hbits,rowOf_get _ hxt];rfl
  have hbg2:∀ h:x.toNat < bits.length,bits[x.toNat]=L x.toNat:=fun h=>by rw [← hbg,List.getElem?_eq_getElem h];rfl
  have hset:∀ b:Bool,(List.map (fun n:Bool=>[V.d (D.bool n)]) bits).set x.toNat [.d (.bool b)]=rB (rowOf tot fun v=>if v=x.toNat then b else L v):=fun b=>by rw [hbits];exact rowOf_set L b hxt
  rw [← hbits] at hr
  have hok:okV (viewD F) x:=(view_spec hg x0 x1).1
  have hb1:=hok.1.2
  have hbk:(viewD F).block_[x.toNat]?.getD 0=bk (viewD F) x:=rfl
  have hbk1:∀ h:x.toNat < (viewD F).block_.length,(viewD F).block_[x.toNat]=bk (viewD F) x:=fun h=>by rw [← hbk,List.getElem?_eq_getElem h];rfl
  cases hL:L x.toNat with
  | true =>
    have e:(fun v=>if v=x.toNat then true else L v)=ntF F k L x:=by
      funext v;unfold ntF
      by_cases h:v=x.toNat
      · rw [if_pos h,if_pos h,h,hL,Bool.true_or]
      · rw [if_neg h,if_neg h]
    rw [← e]
    rw [hL] at hbg hbg2
    refine calls_of Try.func72 en_72 rfl (of_decide_eq_true rfl) (W_run mixed ⟨[],[],[],35,H.length,[0,1,2,3],[21]⟩ (fun | 0=>[4,5,11,12,0,1,2,3,6,7,8,9,10,13,14,15,16,21,22,17,18,19,20,23,24,25,26,27,28,29,30] | _=>[]) (by kernel_rfl) ?_)
    simp only [Try.f72,stripX,stripOps,pickOps]
    simp [-V.flat,-V.one,one_int,one_bool,one_str,one_nilp,one_rp,one_nilsl,one_ro,one_cl,one_nilf,one_nili,one_ifc,one_ptr,one_sl,one_clo,flat_d,flat_ptr,flat_sl,flat_clo,flat_agg,h6,h7,h9,ho,hk0,hk1,hr,hn,hkn,hkl,x0,hxt,hxt2,hbl,hbg,hbg2,hset,hm,hg0,retQ,-List.map_set]
    exact Fin.same (by simp)
  | false =>
    have e:(fun v=>if v=x.toNat then decide (bk (viewD F) x ≠ k) else L v)=ntF F k L x:=by
      funext v;unfold ntF
      by_cases h:v=x.toNat
      · rw [if_pos h,if_pos h,h,hL,Bool.false_or]
      · rw [if_neg h,if_neg h]
    rw [← e]
    rw [hL] at hbg hbg2
    refine calls_of Try.func72 en_72 rfl (of_decide_eq_true rfl) (W_run mixed ⟨[],[],[],35,H.length,[0,1,2,3],[21]⟩ (fun | 0=>[4,5,11,12,0,1,2,3,6,7,8,9,10,13,14,15,16,21,22,17,18,19,20,23,24,25,26,27,28,29,30] | _=>[]) (by kernel_rfl) ?_)
    simp only [Try.f72,stripX,stripOps,pickOps]
    simp [-V.flat,-V.one,one_int,one_bool,one_str,one_nilp,one_rp,one_nilsl,one_ro,one_cl,one_nilf,one_nili,one_ifc,one_ptr,one_sl,one_clo,flat_d,flat_ptr,flat_sl,flat_clo,flat_agg,h6,h7,h9,ho,hk0,hk1,hr,hn,hkn,hkl,x0,hxt,hxt2,hb1,hbk,hbk1,hbl,hbg,hbg2,hset,hm,hg0,retQ,-List.map_set]
    exact Fin.same (by simp)
end Go.Proofs.Ytnomiclfiijniaa
end

section
namespace Go.Proofs.Ytnomiclfiijniaa
set_option linter.unusedVariables false
def L1 (F:Func) (k:Nat):Nat→Bool:=(allU (F.blocks_[k]?.getD default)).foldl (ntF F k) fun _=>false
inductive Lv (F:Func):Nat→Nat→Prop
  | use {k v:Nat}:L1 F k v=true→Lv F k v
  | step {k m v:Nat}:(m:Int)∈tos (F.blocks_[k]?.getD default)→Lv F m v→bk (viewD F) v ≠ k→Lv F k v
def pts (n tot:Nat):List (Nat × Nat):=(List.range n).flatMap fun k=>(List.range tot).map fun v=>(k,v)
theorem mem_pts {n tot k v:Nat}:(k,v)∈pts n tot ↔ k < n∧v < tot:=by
  unfold pts
  simp only [List.mem_flatMap,List.mem_range,List.mem_map,Prod.mk.injEq]
  constructor
  · rintro ⟨a,h1,b,h2,rfl,rfl⟩;exact ⟨h1,h2⟩
  · rintro ⟨h1,h2⟩;exact ⟨k,h1,v,h2,rfl,rfl⟩
def leftN (n tot:Nat) (L:Nat→Nat→Bool):Nat:=(pts n tot).countP fun p=>!L p.1 p.2
theorem countP_lt {α:Type} {p q:α→Bool}:∀ {l:List α},(∀ x∈l,q x=true→p x=true)→∀ {a:α},a∈l→p a=true→q a=false→l.countP q < l.countP p
  | [],_,_,h,_,_=>absurd h List.not_mem_nil
  | b :: l, hm, a, ha, hp, hq => by
    rw [List.countP_cons,List.countP_cons]
    have hle:l.countP q≤l.countP p:=List.countP_mono_left fun x hx=>hm x (List.mem_cons_of_mem _ hx)
    rcases List.mem_cons.1 ha with rfl | ha
    · rw [hp,hq];simp;omega
    · have:=countP_lt (fun x hx=>hm x (List.mem_cons_of_mem _ hx)) ha hp hq
      have h2:=hm b List.mem_cons_self
      cases hqb:q b
      · simp only [Bool.false_eq_true,if_false];split <;> omega
      · rw [h2 hqb];simp only [if_true];omega
structure Pass (F:Func) (n tot:Nat) (L0 L:Nat→Nat→Bool) (again:Bool) (D:Nat→Nat→Prop):Prop where
  snd:∀ k v:Nat,k < n→v < tot→L k v=true→Lv F k v
  mono:∀ k v:Nat,L0 k v=true→L k v=true
  keep:again=false→∀ k v:Nat,L k v=L0 k v
  cls:again=false→∀ k m v:Nat,D k m→v < tot→L0 m v=true→bk (viewD F) v ≠ k→L0 k v=true
  more:again=true→∃ k v:Nat,k < n∧v < tot∧L0 k v=false∧L k v=true
section
variable {F:Func} {n tot:Nat} {L0 L:Nat→Nat→Bool} {again:Bool} {D D':Nat→Nat→Prop}
theorem Pass.weak (h:Pass F n tot L0 L again D) (hd:again=false→∀ k m:Nat,D' k m→D k m∨∀ v:Nat,v < tot→L0 m v=true→bk (viewD F) v ≠ k→L0 k v=true):Pass F n tot L0 L again D' :=
  ⟨h.snd,h.mono,h.keep,fun ha k m v hD=>(hd ha k m hD).elim (fun q=>h.cls ha k m v q) fun q=>q v,h.more⟩
theorem Pass.put (h:Pass F n tot L0 L again D) {k v:Nat} (hk:k < n) (hv:v < tot) (hl:Lv F k v) (hf:L k v=false) :
    Pass F n tot L0 (fun j=>if j=k then (fun x=>if x=v then true else L k x) else L j) true D:=by
  have up:∀ j x,(if j=k then (fun x=>if x=v then true else L k x) else L j) x=if j=k∧x=v then true else L j x:=fun j x=>by
    by_cases e:j=k
    · subst e;by_cases e2:x=v <;> simp [e2]
    · simp [e]
  refine ⟨fun j x hj hx hL=>?_,fun j x h0=>?_,fun q=>(by cases q),fun q=>(by cases q),fun _=>⟨k,v,hk,hv, ?_, ?_⟩⟩
  · rw [up] at hL
    by_cases e:j=k∧x=v
    · obtain ⟨rfl,rfl⟩:=e;exact hl
    · rw [if_neg e] at hL;exact h.snd j x hj hx hL
  · rw [up];split
    · rfl
    · exact h.mono j x h0
  · cases h0:L0 k v
    · rfl
    · rw [h.mono k v h0] at hf;cases hf
  · rw [up,if_pos ⟨rfl,rfl⟩]
theorem Pass.less (h:Pass F n tot L0 L true D):leftN n tot L < leftN n tot L0:=by
  obtain ⟨k,v,hk,hv,h0,h1⟩:=h.more rfl
  refine countP_lt (fun x _ hx=>?_) (mem_pts.2 ⟨hk,hv⟩) (by simp [h0]) (by simp [h1])
  cases q:L0 x.1 x.2
  · rfl
  · rw [h.mono _ _ q] at hx;simp at hx
theorem Pass.begin_ (hs:∀ k v:Nat,k < n→v < tot→L k v=true→Lv F k v):Pass F n tot L L false fun _ _=>False :=
  ⟨hs,fun _ _ h=>h,fun _ _ _=>rfl,fun _ _ _ _ h=>h.elim,fun h=>by cases h⟩
end
def Dk (F:Func) (k j:Nat) (k' m:Nat):Prop:=(k' < k∧(m:Int)∈tos (F.blocks_[k']?.getD default))∨(k'=k∧(m:Int)∈(tos (F.blocks_[k]?.getD default)).take j)
theorem numsOf_congr {p q:Nat→Bool} {n:Nat} (h:∀ i,i < n→p i=q i):numsOf p n=numsOf q n:=by
  unfold numsOf
  rw [List.filter_congr fun x hx=>h x (List.mem_range.1 hx)]
theorem listB_row {n:Nat} {g:Nat→Bool}:listB (rowOf n g)=numsOf g n:=by
  unfold listB
  rw [rowOf_len]
  exact numsOf_congr fun i hi=>by rw [rowOf_get _ hi];rfl
structure Fx (F:Func) (n tot:Nat) (L:Nat→Nat→Bool):Prop where
  snd:∀ k v:Nat,k < n→v < tot→L k v=true→Lv F k v
  base:∀ k v:Nat,k < n→v < tot→L1 F k v=true→L k v=true
  cls:∀ k m v:Nat,k < n→(m:Int)∈tos (F.blocks_[k]?.getD default)→v < tot→L m v=true→bk (viewD F) v ≠ k→L k v=true
theorem Fx.iff {F:Func} {n tot:Nat} {L:Nat→Nat→Bool} (h:Fx F n tot L) (hn:n=F.blocks_.length) {k v:Nat} (hk:k < n) (hv:v < tot) (hto:∀ (j m:Nat),(m:Int)∈tos (F.blocks_[j]?.getD default)→m < n):L k v=true ↔ Lv F k v:=by
  refine ⟨h.snd k v hk hv,fun hl=>?_⟩
  induction hl with
  | use h1=>exact h.base _ _ hk hv h1
  | step h1 _ h3 ih=>exact h.cls _ _ _ hk h1 hv (ih (hto _ _ h1) hv) h3
open Classical in
noncomputable def liveL (F:Func) (k:Nat):List Int:=numsOf (fun v=>decide (Lv F k v)) (many F).toNat
open Classical in
theorem mem_liveL {F:Func} {k:Nat} {x:Int}:x∈liveL F k ↔ 0≤x∧x < (many F).toNat∧Lv F k x.toNat:=by
  unfold liveL
  rw [mem_numsOf,decide_eq_true_eq]
theorem fold_nt {F:Func} {k v:Nat}:∀ {l:List Int} {g:Nat→Bool},(∀ x∈l,0≤x)→((l.foldl (ntF F k) g) v=true ↔ g v=true∨((v:Int)∈l∧bk (viewD F) v ≠ k))
  | [],g,_=>by simp
  | x :: l, g, h => by
    have h0:=h x List.mem_cons_self
    obtain ⟨x,rfl⟩:=Int.eq_ofNat_of_zero_le h0
    rw [List.foldl_cons,fold_nt fun y hy=>h y (List.mem_cons_of_mem _ hy),List.mem_cons]
    unfold ntF
    rw [Int.toNat_natCast]
    by_cases e:v=x
    · subst e;by_cases q:bk (viewD F) v=k <;> simp [q]
    · rw [if_neg e]
      have:¬ (v:Int)=x:=by omega
      simp [this]
theorem L1_iff {F:Func} {k v:Nat} (h:∀ x∈allU (F.blocks_[k]?.getD default),0≤x):L1 F k v=true ↔ (v:Int)∈allU (F.blocks_[k]?.getD default)∧bk (viewD F) v ≠ k:=by
  unfold L1
  rw [fold_nt h];simp
def nz (l:List Int):D:=if l=[] then .nilsl else dIntS l
theorem nz_ne {l:List Int} (h:l ≠ []):nz l=dIntS l:=if_neg h
def RL (n tot:Nat) (L:Nat→Nat→Bool):List (List V):=(List.range n).map fun k=>[V.d (nz (numsOf (L k) tot))]
@[simp] theorem RL_len {n tot:Nat} {L:Nat→Nat→Bool}:(RL n tot L).length=n:=by simp [RL]
theorem RL_get {n tot k:Nat} {L:Nat→Nat→Bool} (h:k < n):(RL n tot L)[k]? = some [V.d (nz (numsOf (L k) tot))]:=by simp [RL,h]
theorem RL_set {n tot k:Nat} {L:Nat→Nat→Bool} (g:Nat→Bool) (h:k < n):(RL n tot L).set k [V.d (nz (numsOf g tot))]=RL n tot fun j=>if j=k then g else L j:=by
  refine List.ext_getElem? fun j=>?_
  rw [List.getElem?_set]
  by_cases hj:j < n
  · rw [RL_get hj,RL_get hj,RL_len]
    by_cases e:k=j
    · subst e;simp [h]
    · rw [if_neg e,if_neg (Ne.symm e)]
  · rw [if_neg (by omega),List.getElem?_eq_none (by rw [RL_len];omega),List.getElem?_eq_none (by rw [RL_len];omega)]
theorem putL_nums {tot v:Nat} {g:Nat→Bool} (hv:v < tot):putL (numsOf g tot) v=numsOf (fun x=>if x=v then true else g x) tot:=by
  refine sorted_ext (putL_sorted (numsOf_sorted _ _)) (numsOf_sorted _ _) fun x=>?_
  rw [mem_putL,mem_numsOf,mem_numsOf]
  constructor
  · rintro (rfl | ⟨h1,h2,h3⟩)
    · exact ⟨by omega,by omega,by simp⟩
    · exact ⟨h1,h2,by split <;> simp_all⟩
  · rintro ⟨h1,h2,h3⟩
    by_cases e:x.toNat=v
    · exact .inl (by omega)
    · rw [if_neg e] at h3;exact .inr ⟨h1,h2,h3⟩
end Go.Proofs.Ytnomiclfiijniaa
end
