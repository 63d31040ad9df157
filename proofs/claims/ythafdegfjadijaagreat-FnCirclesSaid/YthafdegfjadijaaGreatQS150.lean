/- The program's BackOrder, closed. No condition. -/
import Derived.Test.YthafdegfjadijaaGreatQE11
import Derived.Test.YthafdegfjadijaaGreatQS148
section
namespace Go.Proofs.YthafdegfjadijaaGreat
set_option maxRecDepth 100000
set_option linter.unusedSimpArgs false
set_option linter.unusedVariables false
def revI (l:List Int) (i:Nat):List Int:=(List.range l.length).map fun p=>if p < i∨l.length - i≤p then l[l.length - 1 - p]?.getD 0 else l[p]?.getD 0
theorem revI_len (l:List Int) (i:Nat):(revI l i).length=l.length:=by simp [revI]
theorem revI_get (l:List Int) (i:Nat) {p:Nat} (h:p < l.length):(revI l i)[p]? = some (if p < i∨l.length - i≤p then l[l.length - 1 - p]?.getD 0 else l[p]?.getD 0):=by simp [revI,h]
theorem revI_zero (l:List Int):revI l 0=l:=by
  refine List.ext_getElem? fun p=>?_
  by_cases h:p < l.length
  · rw [revI_get l 0 h,if_neg (by omega),List.getElem?_eq_getElem h];rfl
  · rw [List.getElem?_eq_none (by rw [revI_len];omega),List.getElem?_eq_none (by omega)]
theorem revI_done (l:List Int) {i:Nat} (hi:l.length≤i + (i + 1)):revI l i=l.reverse:=by
  refine List.ext_getElem? fun p=>?_
  by_cases h:p < l.length
  · rw [revI_get l i h,List.getElem?_reverse h,List.getElem?_eq_getElem (by omega:l.length - 1 - p < l.length)]
    split
    · rfl
    · have e:l.length - 1 - p=p:=by omega
      rw [List.getElem?_eq_getElem h]
      simp [e]
  · rw [List.getElem?_eq_none (by rw [revI_len];omega),List.getElem?_eq_none (by simp;omega)]
theorem revI_step (l : List Int) {i j : Nat} (hj : j = l.length - 1 - i) (hi : i < j) : ((rI (revI l i)).set i [.d (.int .i64 (l[j]?.getD 0))]).set j [.d (.int .i64 (l[i]?.getD 0))] = rI (revI l (i + 1)) := by
  refine List.ext_getElem? fun p=>?_
  have hl:(rI (revI l i)).length=l.length:=by simp [rI,revI_len]
  by_cases h:p < l.length
  · have r1:(rI (revI l (i + 1)))[p]? = some [.d (.int .i64 (if p < i + 1∨l.length - (i + 1)≤p then l[l.length - 1 - p]?.getD 0 else l[p]?.getD 0))]:=by rw [rI,List.getElem?_map,revI_get l _ h];rfl
    have r2:(rI (revI l i))[p]? = some [.d (.int .i64 (if p < i∨l.length - i≤p then l[l.length - 1 - p]?.getD 0 else l[p]?.getD 0))]:=by rw [rI,List.getElem?_map,revI_get l _ h];rfl
    rw [List.getElem?_set,List.getElem?_set,r1,r2,List.length_set,hl]
    by_cases e1:j=p
    · subst e1
      rw [if_pos rfl,if_pos h,if_pos (by omega),show l.length - 1 - j=i by omega]
    · rw [if_neg e1]
      by_cases e2:i=p
      · subst e2
        rw [if_pos rfl,if_pos h,if_pos (by omega),hj]
      · rw [if_neg e2]
        by_cases c:p < i∨l.length - i≤p
        · rw [if_pos c,if_pos (by omega)]
        · rw [if_neg c,if_neg (by omega)]
  · rw [List.getElem?_eq_none (by simp [rI,revI_len];omega),List.getElem?_eq_none (by simp [rI,revI_len];omega)]
theorem reverse_own (H:Heap) (id:Nat) (l:List Int) (h8:0 < l.length∧l.length≤1000) (hr:H[id]? = some (.row 1 (rI l))):CallsD Tryz.prog 42 [.sl id 1 0 l.length] H fun r H'=>r=.tup []∧H'=H.set id (.row 1 (rI l.reverse)):=by
  have lH:=(List.getElem?_eq_some_iff.1 hr).1
  have w0:IntKind.i64.wrap ((l.length:Int) - 1)=((l.length - 1:Nat):Int):=by rw [wrap_id] <;> omega
  refine calls_of Tryz.func42 en_42 rfl (of_decide_eq_true rfl) (W_run mixed ⟨[],[],[],28,H.length,[0,2,3,9],[9]⟩ (fun | 3=>[0,1,2,3,4,5,6,8,9,10,7,11,12,13,14,15] | _=>[]) (by kernel_rfl) ?_)
  simp only [Tryz.f42,stripX,stripOps,pickOps]
  simp [-V.flat,-V.one,one_int,one_bool,one_str,one_nilp,one_rp,one_nilsl,one_ro,one_cl,one_nilf,one_nili,one_ifc,one_ptr,one_sl,one_clo,flat_d,flat_ptr,flat_sl,flat_clo,flat_agg,w0]
  refine W_loopH (α:=Nat) (fun i=>[(0,.sl id 1 0 l.length),(2,.d (.int .i64 i)),(3,.d (.int .i64 (((l.length - 1:Nat):Int) - i)))]) (fun i=>H.set id (.row 1 (rI (revI l i))))
    (fun i=>i≤l.length) (fun i=>l.length - i) 0 ?_ (Nat.zero_le _) ?_
  · have e:H.set id (.row 1 (rI (revI l 0)))=H:=by
      rw [revI_zero,← (List.getElem?_eq_some_iff.1 hr).2];exact List.set_getElem_self lH
    rw [e]
    simp
  intro i hi
  replace hi:i≤l.length:=hi
  have hG:(H.set id (.row 1 (rI (revI l i))))[id]? = some (.row 1 (rI (revI l i))):=List.getElem?_set_self lH
  have hS:∀ P,(H.set id (.row 1 (rI (revI l i)))).set id P=H.set id P:=fun P=>List.set_set ..
  generalize hg:H.set id (.row 1 (rI (revI l i)))=G at hG hS
  have lG:G.length=H.length:=by rw [← hg];simp
  by_cases h:i < l.length - 1 - i
  · obtain ⟨j,hj⟩:∃ j,j=l.length - 1 - i:=⟨_,rfl⟩
    have ej:((l.length - 1:Nat):Int) - i=j:=by omega
    rw [← hj] at h
    have st:=revI_step l hj h
    have hli:i < l.length:=by omega
    have hlj:j < l.length:=by omega
    have gi:=revI_get l i hli
    have gj:=revI_get l i hlj
    rw [if_neg (by omega)] at gi gj
    obtain ⟨row,hrow⟩:∃ row,row=rI (revI l i):=⟨_,rfl⟩
    have rl:row.length=l.length:=by rw [hrow];simp [rI,revI_len]
    have ri:row[i]? = some [.d (.int .i64 (l[i]?.getD 0))]:=by rw [hrow,rI,List.getElem?_map,gi];rfl
    have rj:row[j]? = some [.d (.int .i64 (l[j]?.getD 0))]:=by rw [hrow,rI,List.getElem?_map,gj];rfl
    generalize l[i]?.getD 0=x at ri st
    generalize l[j]?.getD 0=y at rj st
    have ri1:row[i]?.getD []=[.d (.int .i64 x)]:=by rw [ri];rfl
    have rj1:row[j]?.getD []=[.d (.int .i64 y)]:=by rw [rj];rfl
    have ri2:∀ h:i < row.length,row[i]=[.d (.int .i64 x)]:=fun h=>Option.some.inj ((List.getElem?_eq_getElem h).symm.trans ri)
    have rj2:∀ h:j < row.length,row[j]=[.d (.int .i64 y)]:=fun h=>Option.some.inj ((List.getElem?_eq_getElem h).symm.trans rj)
    rw [← hrow] at hG st
    have wi:IntKind.i64.wrap ((i:Int) + 1)=((i + 1:Nat):Int):=by rw [wrap_id] <;> omega
    have wj:IntKind.i64.wrap ((j:Int) - 1)=(j:Int) - 1:=by rw [wrap_id] <;> omega
    have sG:∀ P,(H.set id P)[id]? = some P:=fun P=>List.getElem?_set_self lH
    have rk1:∀ v,(row.set i v)[j]?.getD []=[.d (.int .i64 y)]:=fun v=>by rw [List.getElem?_set_ne (by omega)];exact rj1
    have rk2:∀ v (h:j < (row.set i v).length),(row.set i v)[j]=[.d (.int .i64 y)]:=fun v h=>Option.some.inj ((List.getElem?_eq_getElem h).symm.trans ((List.getElem?_set_ne (by omega)).trans rj))
    rw [ej]
    refine W_run mixed ⟨[],[],[],28,H.length,[0,2,3,9],[9]⟩ (fun | 3=>[0,1,2,3,4,5,6,8,9,10,7,11,12,13,14,15] | _=>[]) (by kernel_rfl) ?_
    simp only [stripX,stripOps,pickOps]
    simp [-V.flat,-V.one,one_int,one_bool,one_str,one_nilp,one_rp,one_nilsl,one_ro,one_cl,one_nilf,one_nili,one_ifc,one_ptr,one_sl,one_clo,flat_d,flat_ptr,flat_sl,flat_clo,flat_agg,h,hli,hlj,hG,hS,sG,rl,ri1,rj1,ri2,rj2,rk1,rk2,st,wi,wj]
    exact ⟨i + 1,by omega,by omega,rfl,rfl,by omega⟩
  · have h':¬ (i:Int) < ((l.length - 1:Nat):Int) - i:=by omega
    refine W_run mixed ⟨[],[],[],28,H.length,[0,2,3,9],[9]⟩ (fun | 3=>[0,1,2,3,4,5,6,8,9,10,7,11,12,13,14,15] | _=>[]) (by kernel_rfl) ?_
    simp only [stripX,stripOps,pickOps]
    simp [-V.flat,-V.one,one_int,one_bool,one_str,one_nilp,one_rp,one_nilsl,one_ro,one_cl,one_nilf,one_nili,one_ifc,one_ptr,one_sl,one_clo,flat_d,flat_ptr,flat_sl,flat_clo,flat_agg,h',retQ]
    have e:(List.map (fun n=>[V.d (.int .i64 n)]) l).reverse=rI (revI l i):=by rw [revI_done l (by omega),rI,List.map_reverse]
    rw [e,hg]
    exact Fin.same (by omega)
end Go.Proofs.YthafdegfjadijaaGreat
end

section
namespace Go.Proofs.YthafdegfjadijaaGreat
set_option maxRecDepth 100000
set_option linter.unusedSimpArgs false
set_option linter.unusedVariables false
def linOT (need:Nat→List Nat):Nat→List Nat→OT
  | 0,_=>.leaf
  | f + 1,m=>match m with
    | []=>.leaf
    | _=>m.foldr (fun i acc=>bif (need i).all (fun x=>!m.contains x) then .alt i (linOT need f (m.erase i)) acc else acc) .nil
def okOrd (need:Nat→List Nat) (all:List Nat):List Nat→OT→Bool
  | D,.leaf=>all.all fun x=>D.contains x
  | _,.nil=>true
  | D,.alt m t r=>all.contains m && !D.contains m && (need m).all (fun x=>D.contains x) && okOrd need all (m :: D) t && okOrd need all D r
theorem denB_rel {P:Program} {C:Cfg P} {R:List Nat} {ops:Array Oper} {gd:FuncId} {n1:Nat} {post:List Nat} {Q:Exit→St→Prop} (Rel:List Nat→St→Prop) (need:Nat→List Nat) (all:List Nat)
    (step:∀ D m s k,m∈all→m ∉ D→(∀ x∈need m,x∈D)→Rel D s→(∀ s',Rel (m :: D) s'→k s')→demB C R ops gd n1 m (pickOps (stripOps ops.toList) [m]) k s)
    (leaf:∀ D s,(∀ x∈all,x∈D)→Rel D s→den C [.ops true (dstsOf (stripOps ops.toList)) (pickOps (stripOps ops.toList) post)] Q .normal s) :
    ∀ (T:OT) (D:List Nat) (s:St),okOrd need all D T=true→Rel D s→denB C R ops gd n1 post Q T s
  | .leaf,D,s,h,hR=>by
    simp only [okOrd,List.all_eq_true,List.contains_iff_mem] at h
    simp only [denB]
    exact leaf D s h hR
  | .nil,D,s,h,hR=>trivial
  | .alt m t r,D,s,h,hR=>by
    simp only [okOrd,Bool.and_eq_true,List.all_eq_true,List.contains_iff_mem,Bool.not_eq_true'] at h
    obtain ⟨⟨⟨⟨h1,h2⟩,h3⟩,h4⟩,h5⟩:=h
    have h2':m ∉ D:=fun q=>by rw [List.contains_iff_mem.2 q] at h2;cases h2
    simp only [denB]
    exact ⟨step D m s _ h1 h2' h3 hR fun s' h'=>denB_rel Rel need all step leaf t (m :: D) s' h4 h',denB_rel Rel need all step leaf r D s h5 hR⟩
def bo4:Nat→List Nat
  | 13=>[10,11,12]
  | 14=>[8,11,13]
  | _=>[]
def boM:List Nat:=[8,9,10,11,12]
def boC (n:Nat) (nx:List (List Int)) (D:List Nat) (a:Nat):Nat→Place
  | 8=>.row 1 (List.replicate n [.d (.bool false)])
  | 9=>.row 1 []
  | 10=>.row 1 [[if 13∈D then .d (dIntSS nx) else .d .nilsl]]
  | 11=>.row 1 [[if 14∈D then .sl a 1 0 n else .d .nilsl]]
  | _=>.row 1 [[.d .nilsl]]
def boE (n:Nat) (d:Nat→Nat):Nat→V
  | 8=>.sl (d 8) 1 0 n
  | 9=>.sl (d 9) 1 0 0
  | i=>.ptr (d i) 1 0 0
def boS (F:Func) (v:Nat→V):List (Nat × V):=[(0,vFunc F),(1,V.ptr 0 2 0 0),(2,V.d D.nilsl),(3,V.d (D.bool false)),
  (4,V.d (D.rp 5 (dView (viewD F)))),(5,v 10),(6,v 11),(7,v 12),(8,V.d D.undef),
  (12,V.d (D.bool false)),(13,V.d (D.rp 5 (dView (viewD F)))),(14,V.d (dIntSS (nextL F.blocks_))),
  (15,V.d (D.rp 5 (dView (viewD F)))),(16,V.d (D.rp 5 (dView (viewD F)))),
  (17,V.d (D.rp 5 fun j=>dView (viewD F) j)),(18,V.d (D.rp 4 fun j=>dView (viewD F) (1 + j))),
  (19,V.d (dBlockS F.blocks_)),(20,V.d (D.int IntKind.i64 ↑F.blocks_.length)),(21,v 8),(22,v 9)]
structure BoR (n:Nat) (nx:List (List Int)) (D:List Nat) (v:Nat→V) (H:Heap) (d:Nat→Nat):Prop where
  pos:1≤H.length
  inj:∀ i∈boM,∀ j∈boM,i∈D→j∈D→d i=d j→i=j
  at_:∀ i∈boM,i∈D→1≤d i∧H[d i]? = some (boC n nx D (d 8) i)∧v i=boE n d i
  d13:13∈D→10∈D∧11∈D∧12∈D
  d14:14∈D→8∈D∧11∈D∧13∈D
theorem BoR.mk_ {n : Nat} {nx : List (List Int)} {D : List Nat} {v v' : Nat → V} {H : Heap} {d : Nat → Nat} (q : BoR n nx D v H d) {m : Nat} (hm : m ∈ boM) (hD : m ∉ D) {p : Place} (hp : p = boC n nx D H.length m) {w : V} (hw : w = boE n (fun _ => H.length) m) (hv : v' = fun i => if i = m then w else v i) :
    BoR n nx (m :: D) v' (H++[p]) (fun i=>if i=m then H.length else d i):=by
  subst hv
  have m13:m ≠ 13:=fun e=>by subst e;simp [boM] at hm
  have m14:m ≠ 14:=fun e=>by subst e;simp [boM] at hm
  have i13:13∈m :: D ↔ 13∈D:=by simp [m13.symm]
  have i14:14∈m :: D ↔ 14∈D:=by simp [m14.symm]
  have lt:∀ i∈boM,i∈D→d i < H.length:=fun i h1 h2=>(List.getElem?_eq_some_iff.1 (q.at_ i h1 h2).2.1).1
  have cE:∀ i a b,i∈boM→(14∈D→i=11→a=b)→boC n nx (m :: D) a i=boC n nx D b i:=fun i a b hi hab=>by
    simp only [boM,List.mem_cons,List.not_mem_nil,or_false] at hi
    rcases hi with rfl | rfl | rfl | rfl | rfl
    · rfl
    · rfl
    · simp only [boC,i13]
    · simp only [boC,i14]
      by_cases h:14∈D
      · rw [if_pos h,if_pos h,hab h rfl]
      · rw [if_neg h,if_neg h]
    · rfl
  refine ⟨by simp,fun i hi j hj h1 h2 e=>?_,fun i hi h1=>?_,fun h=>?_,fun h=>?_⟩
  · by_cases ei:i=m
    · by_cases ej:j=m
      · rw [ei,ej]
      · rw [if_pos ei,if_neg ej] at e
        have:=lt j hj ((List.mem_cons.1 h2).resolve_left ej)
        omega
    · by_cases ej:j=m
      · rw [if_neg ei,if_pos ej] at e
        have:=lt i hi ((List.mem_cons.1 h1).resolve_left ei)
        omega
      · rw [if_neg ei,if_neg ej] at e
        exact q.inj i hi j hj ((List.mem_cons.1 h1).resolve_left ei) ((List.mem_cons.1 h2).resolve_left ej) e
  · by_cases ei:i=m
    · subst ei
      simp only [if_true]
      refine ⟨q.pos, ?_, ?_⟩
      · rw [List.getElem?_append_right (Nat.le_refl _),Nat.sub_self,hp]
        refine congrArg some ?_
        refine (cE i _ _ hi fun h e=>?_).symm
        subst e
        exact absurd (q.d14 h).2.1 hD
      · rw [hw]
        simp only [boM,List.mem_cons,List.not_mem_nil,or_false] at hi
        rcases hi with rfl | rfl | rfl | rfl | rfl <;> rfl
    · have hi':=(List.mem_cons.1 h1).resolve_left ei
      obtain ⟨q1,q2,q3⟩:=q.at_ i hi hi'
      simp only [if_neg ei]
      refine ⟨q1, ?_, ?_⟩
      · rw [List.getElem?_append_left (lt i hi hi'),q2]
        refine congrArg some (cE i _ _ hi fun h e=>?_).symm
        have h8:(8:Nat) ≠ m:=fun e2=>hD (by rw [← e2];exact (q.d14 h).1)
        simp only [if_neg h8]
      · rw [q3]
        simp only [boM,List.mem_cons,List.not_mem_nil,or_false] at hi
        rcases hi with rfl | rfl | rfl | rfl | rfl <;> simp only [boE,if_neg ei]
  · have:=q.d13 (i13.1 h)
    exact ⟨List.mem_cons_of_mem _ this.1,List.mem_cons_of_mem _ this.2.1,List.mem_cons_of_mem _ this.2.2⟩
  · have:=q.d14 (i14.1 h)
    exact ⟨List.mem_cons_of_mem _ this.1,List.mem_cons_of_mem _ this.2.1,List.mem_cons_of_mem _ this.2.2⟩
theorem BoR.st {n : Nat} {nx : List (List Int)} {D : List Nat} {v : Nat → V} {H : Heap} {d : Nat → Nat} (q : BoR n nx D v H d) {m k : Nat} (hm : (m = 13 ∧ k = 10) ∨ (m = 14 ∧ k = 11)) (hk : k ∈ D) (hd : m = 13 → 10 ∈ D ∧ 11 ∈ D ∧ 12 ∈ D) (hd2 : m = 14 → 8 ∈ D ∧ 11 ∈ D ∧ 13 ∈ D) :
    BoR n nx (m :: D) v (H.set (d k) (boC n nx (m :: D) (d 8) k)) d:=by
  have kM:k∈boM:=by rcases hm with ⟨_,rfl⟩ | ⟨_,rfl⟩ <;> simp [boM]
  have mM:m ∉ boM:=by rcases hm with ⟨rfl,_⟩ | ⟨rfl,_⟩ <;> simp [boM]
  have lt:∀ i∈boM,i∈D→d i < H.length:=fun i h1 h2=>(List.getElem?_eq_some_iff.1 (q.at_ i h1 h2).2.1).1
  have inD:∀ i∈boM,i∈m :: D→i∈D:=fun i hi h=>(List.mem_cons.1 h).resolve_left fun e=>mM (e ▸ hi)
  refine ⟨by simpa using q.pos,fun i hi j hj h1 h2 e=>q.inj i hi j hj (inD i hi h1) (inD j hj h2) e,fun i hi h1=>?_,fun h=>?_,fun h=>?_⟩
  · have hi':=inD i hi h1
    obtain ⟨q1,q2,q3⟩:=q.at_ i hi hi'
    refine ⟨q1, ?_,q3⟩
    by_cases e:i=k
    · subst e
      exact List.getElem?_set_self (lt i hi hi')
    · rw [List.getElem?_set_ne fun e2=>e (q.inj i hi k kM hi' hk e2.symm),q2]
      refine congrArg some ?_
      simp only [boM,List.mem_cons,List.not_mem_nil,or_false] at hi
      rcases hm with ⟨rfl,rfl⟩ | ⟨rfl,rfl⟩
      · rcases hi with rfl | rfl | rfl | rfl | rfl
        · rfl
        · rfl
        · exact absurd rfl e
        · simp [boC]
        · rfl
      · rcases hi with rfl | rfl | rfl | rfl | rfl
        · rfl
        · rfl
        · simp [boC]
        · exact absurd rfl e
        · rfl
  · have:=(List.mem_cons.1 h).elim (fun e=>hd e.symm) q.d13
    exact ⟨List.mem_cons_of_mem _ this.1,List.mem_cons_of_mem _ this.2.1,List.mem_cons_of_mem _ this.2.2⟩
  · have:=(List.mem_cons.1 h).elim (fun e=>hd2 e.symm) q.d14
    exact ⟨List.mem_cons_of_mem _ this.1,List.mem_cons_of_mem _ this.2.1,List.mem_cons_of_mem _ this.2.2⟩
theorem rowB_nil (n:Nat):rowB n []=List.replicate n [.d (.bool false)]:=by
  have h:∀ j:Nat,hasL [] (j:Int)=false:=fun j=>by simp [hasL]
  unfold rowB
  simp only [h]
  rw [List.map_const',List.length_range]
structure Bo0 (nx:List (List Int)) (n:Nat) (a:Nat × Nat × Nat × Nat × Nat × Heap):Prop where
  hcn:a.2.2.2.2.2[a.1]? = some (.row 1 [[.d (dIntSS nx)]])
  hcs:a.2.2.2.2.2[a.2.1]? = some (.row 1 [[.sl a.2.2.2.1 1 0 n]])
  hco:a.2.2.2.2.2[a.2.2.1]? = some (.row 1 [[.sl a.2.2.2.2.1 1 0 0]])
  hsd:a.2.2.2.2.2[a.2.2.2.1]? = some (.row 1 (List.replicate n [.d (.bool false)]))
  hod:a.2.2.2.2.2[a.2.2.2.2.1]? = some (.row 1 [])
  nd:[a.1,a.2.1,a.2.2.1,a.2.2.2.1,a.2.2.2.2.1].Nodup
set_option maxHeartbeats 8000000 in
theorem boI_own (F : Func) (hF : Enc.good F) (hg : goodF F = true) : CallsD Tryz.prog 11 [vFunc F] [] fun r H' => Rd1 H' r (.tup [.d (dIntS (0 :: (boT F).2)), .d (.bool true)]) := by
  obtain ⟨hv1,hn1,hp1⟩:=good_flow hg
  have hv8:=hv1.1
  have f1:(F.blocks_.length:Int)≤140737488355328:=by omega
  refine calls_of Tryz.func11 en_11 rfl (of_decide_eq_true rfl) (W_runS mixed [4] ⟨[K_33,K_35],[K_33h,K_35h],[42],29,0,[0,1,2,3,4,5,6,7,8,12],[12]⟩ (fun | 4=>[0,1,2,3,4,5,6,7,8,9,10,11,12,13,14,15] | _=>[]) (by kernel_rfl) ?_)
  simp only [Tryz.f11,stripS,skip_cons,skip_nil,Nat.reduceBEq,Bool.or_false,Bool.or_self,Bool.or_true,Bool.true_or,cond_true,cond_false,stripX,stripOps,pickOps]
  simp [K_33_f,K_33_e,K_35_f,K_35_e,K_33h_f,K_33h_e,K_35h_f,K_35h_e,K_33h_g,K_35h_g,-V.flat,-V.one,one_int,one_bool,one_str,one_nilp,one_rp,one_nilsl,one_ro,one_cl,one_nilf,one_nili,one_ifc,one_ptr,one_sl,one_clo,flat_d,flat_ptr,flat_sl,flat_clo,flat_agg,-decA,decA_int,decA_bool,decA_str,hF,viewV_t hg,viewD_blocks,hv1]
  refine W_mid (α:=Nat × Nat × Nat × Nat × Nat × Heap) (fun a=>[(0,vFunc F),(1,.ptr 0 2 0 0),(2,.d .nilsl),(3,.d (.bool false)),(4,.d (.rp 5 (dView (viewD F)))),(5,.ptr a.1 1 0 0),(6,.ptr a.2.1 1 0 0),(7,.ptr a.2.2.1 1 0 0),(8,.d .undef),(12,.d (.bool false))]) (fun a=>a.2.2.2.2.2)
    (fun a=>Bo0 (nextL F.blocks_) F.blocks_.length a) ?_ ?_
  · have hvb:(viewD F).blocks_=F.blocks_:=viewD_blocks F
    have f2:F.blocks_.length≤140737488355328:=by omega
    refine W_drawB mixed ⟨[K_33,K_35],[K_33h,K_35h],[42],29,0,[0,1,2,3,4,5,6,7,8,12],[12]⟩ 42 [0,1,2,3,4,5,6,7] [8,9,10,11,12,13,14] [15] (linOT bo4 7 [8,9,10,11,12,13,14]) [0,1,2,3,4,5,6,7,8,12,13,14,15,16,17,18,19,20,21,22] (by kernel_rfl) (by kernel_rfl) (by intro vs;simp [tabG,tab,K_33_f,K_35_f,K_33h_f,K_35h_f]) ?_
    simp only [stripOps,pickOps]
    simp [K_33_f,K_33_e,K_35_f,K_35_e,K_33h_f,K_33h_e,K_35h_f,K_35h_e,K_33h_g,K_35h_g,-V.flat,-V.one,one_int,one_bool,one_str,one_nilp,one_rp,one_nilsl,one_ro,one_cl,one_nilf,one_nili,one_ifc,one_ptr,one_sl,one_clo,flat_d,flat_ptr,flat_sl,flat_clo,flat_agg,-decA,decA_int,decA_bool,decA_str,hvb,hv1,f2]
    refine denB_rel (fun Z s=>∃ v H d,s=⟨mk (boS F v),H⟩∧BoR F.blocks_.length (nextL F.blocks_) Z v H d) bo4 [8,9,10,11,12,13,14] ?_ ?_ _ [] _ (by kernel_rfl) ⟨fun _=>.d .undef,_,fun _=>0,rfl,by simp,fun _ _ _ _ h=>absurd h List.not_mem_nil,fun _ _ h=>absurd h List.not_mem_nil,fun h=>absurd h List.not_mem_nil,fun h=>absurd h List.not_mem_nil⟩
    · rintro Z m s k hm hD hneed ⟨v,H,d,rfl,q⟩ hk
      have f3:F.blocks_.length * 8≤140737488355328:=by omega
      simp only [List.mem_cons,List.not_mem_nil,or_false] at hm
      rcases hm with rfl | rfl | rfl | rfl | rfl | rfl | rfl
      · simp only [boS]
        simp [demB,isDem,isSt,newS,stripOps,pickOps,K_33_f,K_33_e,K_35_f,K_35_e,K_33h_f,K_33h_e,K_35h_f,K_35h_e,K_33h_g,K_35h_g,-V.flat,-V.one,one_int,one_bool,one_str,one_nilp,one_rp,one_nilsl,one_ro,one_cl,one_nilf,one_nili,one_ifc,one_ptr,one_sl,one_clo,flat_d,flat_ptr,flat_sl,flat_clo,flat_agg,-decA,decA_int,decA_bool,decA_str,hvb,hv1,f2,f3]
        have:=q.mk_ (m:=8) (w:=.sl H.length 1 0 F.blocks_.length) (by simp [boM]) hD rfl rfl rfl
        refine ⟨by omega,hk _ ⟨_,_,_, ?_,this⟩⟩
        rfl
      · simp only [boS]
        simp [demB,isDem,isSt,newS,stripOps,pickOps,K_33_f,K_33_e,K_35_f,K_35_e,K_33h_f,K_33h_e,K_35h_f,K_35h_e,K_33h_g,K_35h_g,-V.flat,-V.one,one_int,one_bool,one_str,one_nilp,one_rp,one_nilsl,one_ro,one_cl,one_nilf,one_nili,one_ifc,one_ptr,one_sl,one_clo,flat_d,flat_ptr,flat_sl,flat_clo,flat_agg,-decA,decA_int,decA_bool,decA_str,hvb,hv1,f2,f3]
        have:=q.mk_ (m:=9) (w:=.sl H.length 1 0 0) (by simp [boM]) hD rfl rfl rfl
        refine hk _ ⟨_,_,_, ?_,this⟩
        rfl
      · simp only [boS]
        simp [demB,isDem,isSt,newS,stripOps,pickOps,K_33_f,K_33_e,K_35_f,K_35_e,K_33h_f,K_33h_e,K_35h_f,K_35h_e,K_33h_g,K_35h_g,-V.flat,-V.one,one_int,one_bool,one_str,one_nilp,one_rp,one_nilsl,one_ro,one_cl,one_nilf,one_nili,one_ifc,one_ptr,one_sl,one_clo,flat_d,flat_ptr,flat_sl,flat_clo,flat_agg,-decA,decA_int,decA_bool,decA_str,hvb,hv1,f2,f3]
        have h9:13 ∉ Z:=fun h=>hD (q.d13 h).1
        have:=q.mk_ (m:=10) (p:=.row 1 [[.d .nilsl]]) (w:=.ptr H.length 1 0 0) (by simp [boM]) hD (by simp [boC,h9]) rfl rfl
        refine hk _ ⟨_,_,_, ?_,this⟩
        rfl
      · simp only [boS]
        simp [demB,isDem,isSt,newS,stripOps,pickOps,K_33_f,K_33_e,K_35_f,K_35_e,K_33h_f,K_33h_e,K_35h_f,K_35h_e,K_33h_g,K_35h_g,-V.flat,-V.one,one_int,one_bool,one_str,one_nilp,one_rp,one_nilsl,one_ro,one_cl,one_nilf,one_nili,one_ifc,one_ptr,one_sl,one_clo,flat_d,flat_ptr,flat_sl,flat_clo,flat_agg,-decA,decA_int,decA_bool,decA_str,hvb,hv1,f2,f3]
        have h9:14 ∉ Z:=fun h=>hD (q.d14 h).2.1
        have:=q.mk_ (m:=11) (p:=.row 1 [[.d .nilsl]]) (w:=.ptr H.length 1 0 0) (by simp [boM]) hD (by simp [boC,h9]) rfl rfl
        refine hk _ ⟨_,_,_, ?_,this⟩
        rfl
      · simp only [boS]
        simp [demB,isDem,isSt,newS,stripOps,pickOps,K_33_f,K_33_e,K_35_f,K_35_e,K_33h_f,K_33h_e,K_35h_f,K_35h_e,K_33h_g,K_35h_g,-V.flat,-V.one,one_int,one_bool,one_str,one_nilp,one_rp,one_nilsl,one_ro,one_cl,one_nilf,one_nili,one_ifc,one_ptr,one_sl,one_clo,flat_d,flat_ptr,flat_sl,flat_clo,flat_agg,-decA,decA_int,decA_bool,decA_str,hvb,hv1,f2,f3]
        have:=q.mk_ (m:=12) (w:=.ptr H.length 1 0 0) (by simp [boM]) hD rfl rfl rfl
        refine hk _ ⟨_,_,_, ?_,this⟩
        rfl
      · obtain ⟨p1,p2,p3⟩:=q.at_ 10 (by simp [boM]) (hneed 10 (by simp [bo4]))
        have p3':v 10=.ptr (d 10) 1 0 0:=p3
        have p2':H[d 10]? = some (.row 1 [[.d .nilsl]]):=p2.trans (by simp [boC,hD])
        simp only [boS,p3']
        simp [demB,isDem,isSt,newS,stripOps,pickOps,K_33_f,K_33_e,K_35_f,K_35_e,K_33h_f,K_33h_e,K_35h_f,K_35h_e,K_33h_g,K_35h_g,-V.flat,-V.one,one_int,one_bool,one_str,one_nilp,one_rp,one_nilsl,one_ro,one_cl,one_nilf,one_nili,one_ifc,one_ptr,one_sl,one_clo,flat_d,flat_ptr,flat_sl,flat_clo,flat_agg,-decA,decA_int,decA_bool,decA_str,hvb,hv1,f2,f3,p1,p2']
        have:=q.st (m:=13) (k:=10) (.inl ⟨rfl,rfl⟩) (hneed 10 (by simp [bo4])) (fun _=>⟨hneed 10 (by simp [bo4]),hneed 11 (by simp [bo4]),hneed 12 (by simp [bo4])⟩) (fun e=>absurd e (by decide))
        rw [show boC F.blocks_.length (nextL F.blocks_) (13 :: Z) (d 8) 10=.row 1 [[.d (dIntSS (nextL F.blocks_))]] by simp [boC]] at this
        refine hk _ ⟨v,_,d, ?_,this⟩
        simp only [boS,p3']
      · obtain ⟨p1,p2,p3⟩:=q.at_ 11 (by simp [boM]) (hneed 11 (by simp [bo4]))
        obtain ⟨r1,r2,r3⟩:=q.at_ 8 (by simp [boM]) (hneed 8 (by simp [bo4]))
        have p3':v 11=.ptr (d 11) 1 0 0:=p3
        have r3':v 8=.sl (d 8) 1 0 F.blocks_.length:=r3
        have p2':H[d 11]? = some (.row 1 [[.d .nilsl]]):=p2.trans (by simp [boC,hD])
        simp only [boS,p3',r3']
        simp [demB,isDem,isSt,newS,stripOps,pickOps,K_33_f,K_33_e,K_35_f,K_35_e,K_33h_f,K_33h_e,K_35h_f,K_35h_e,K_33h_g,K_35h_g,-V.flat,-V.one,one_int,one_bool,one_str,one_nilp,one_rp,one_nilsl,one_ro,one_cl,one_nilf,one_nili,one_ifc,one_ptr,one_sl,one_clo,flat_d,flat_ptr,flat_sl,flat_clo,flat_agg,-decA,decA_int,decA_bool,decA_str,hvb,hv1,f2,f3,p1,p2']
        have:=q.st (m:=14) (k:=11) (.inr ⟨rfl,rfl⟩) (hneed 11 (by simp [bo4])) (fun e=>absurd e (by decide)) (fun _=>⟨hneed 8 (by simp [bo4]),hneed 11 (by simp [bo4]),hneed 13 (by simp [bo4])⟩)
        rw [show boC F.blocks_.length (nextL F.blocks_) (14 :: Z) (d 8) 11=.row 1 [[.sl (d 8) 1 0 F.blocks_.length]] by simp [boC]] at this
        refine hk _ ⟨v,_,d, ?_,this⟩
        simp only [boS,p3',r3']
    · rintro Z s hall ⟨v,H,d,rfl,q⟩
      have h13:=hall 13 (by simp)
      have h14:=hall 14 (by simp)
      obtain ⟨a1,a2,a3⟩:=q.at_ 8 (by simp [boM]) (hall 8 (by simp))
      obtain ⟨b1,b2,b3⟩:=q.at_ 9 (by simp [boM]) (hall 9 (by simp))
      obtain ⟨c1,c2,c3⟩:=q.at_ 10 (by simp [boM]) (hall 10 (by simp))
      obtain ⟨d1,d2,d3⟩:=q.at_ 11 (by simp [boM]) (hall 11 (by simp))
      obtain ⟨e1,e2,e3⟩:=q.at_ 12 (by simp [boM]) (hall 12 (by simp))
      simp only [boC,if_pos h13,if_pos h14,boE] at a2 a3 b2 b3 c2 c3 d2 d3 e2 e3
      have le:=(List.getElem?_eq_some_iff.1 e2).1
      have ne:∀ i∈boM,∀ j∈boM,i ≠ j→d i ≠ d j:=fun i hi j hj h e=>h (q.inj i hi j hj (hall i (by simp only [boM,List.mem_cons,List.not_mem_nil,or_false] at hi ⊢;omega)) (hall j (by simp only [boM,List.mem_cons,List.not_mem_nil,or_false] at hj ⊢;omega)) e)
      simp only [boS,a3,b3,c3,d3,e3]
      simp [demB,isDem,isSt,newS,stripOps,pickOps,K_33_f,K_33_e,K_35_f,K_35_e,K_33h_f,K_33h_e,K_35h_f,K_35h_e,K_33h_g,K_35h_g,-V.flat,-V.one,one_int,one_bool,one_str,one_nilp,one_rp,one_nilsl,one_ro,one_cl,one_nilf,one_nili,one_ifc,one_ptr,one_sl,one_clo,flat_d,flat_ptr,flat_sl,flat_clo,flat_agg,-decA,decA_int,decA_bool,decA_str,e2]
      refine ⟨d 10,d 11,d 12,⟨d 8,d 9, ?_⟩,rfl⟩
      have hn:=fun i (hi:i∈boM) (h:(12:Nat) ≠ i)=>List.getElem?_set_ne (l:=H) (a:=Place.row 1 [[V.sl (d 9) 1 0 0]]) (ne 12 (by simp [boM]) i hi h)
      refine ⟨(hn 10 (by simp [boM]) (by decide)).trans c2,(hn 11 (by simp [boM]) (by decide)).trans d2,List.getElem?_set_self le,(hn 8 (by simp [boM]) (by decide)).trans a2,(hn 9 (by simp [boM]) (by decide)).trans b2, ?_⟩
      have n1:=ne 10 (by simp [boM]) 11 (by simp [boM]) (by decide)
      have n2:=ne 10 (by simp [boM]) 12 (by simp [boM]) (by decide)
      have n3:=ne 10 (by simp [boM]) 8 (by simp [boM]) (by decide)
      have n4:=ne 10 (by simp [boM]) 9 (by simp [boM]) (by decide)
      have n5:=ne 11 (by simp [boM]) 12 (by simp [boM]) (by decide)
      have n6:=ne 11 (by simp [boM]) 8 (by simp [boM]) (by decide)
      have n7:=ne 11 (by simp [boM]) 9 (by simp [boM]) (by decide)
      have n8:=ne 12 (by simp [boM]) 8 (by simp [boM]) (by decide)
      have n9:=ne 12 (by simp [boM]) 9 (by simp [boM]) (by decide)
      have n10:=ne 8 (by simp [boM]) 9 (by simp [boM]) (by decide)
      simp [n1,n2,n3,n4,n5,n6,n7,n8,n9,n10]
  · rintro ⟨cn,cs,co,sid,oid,G⟩ q0
    obtain ⟨k1,k2,k3,k4,k5,knd⟩:=q0
    dsimp only at k1 k2 k3 k4 k5 knd
    simp only [List.nodup_cons,List.mem_cons,List.not_mem_nil,or_false,not_or] at knd
    obtain ⟨⟨m1,m2,m3,m4⟩,⟨m5,m6,m7⟩,⟨m8,m9⟩,m10,_⟩:=knd
    have lt:∀ {j:Nat} {p:Place},G[j]? = some p→j < G.length:=fun h=>(List.getElem?_eq_some_iff.1 h).1
    have l1:=lt k1
    have l2:=lt k2
    have l3:=lt k3
    have l4:=lt k4
    have l5:=lt k5
    have hln:(nextL F.blocks_).length=F.blocks_.length:=by simp [nextL]
    have ap:∀ (R:Heap) {j:Nat},j < G.length→(G++R)[j]? = G[j]?:=fun R j h=>List.getElem?_append_left h
    have qb:Bo (nextL F.blocks_) cs cn G.length co sid F.blocks_.length (G++[Place.row 1 [[V.clo 41 [.ptr cs 1 0 0,.ptr cn 1 0 0,.ptr G.length 1 0 0,.ptr co 1 0 0]]]]) ([],[]) :=
      ⟨(ap _ l2).trans k2,(ap _ l4).trans (k4.trans (by rw [rowB_nil])),(ap _ l1).trans k1,by rw [List.getElem?_append_right (Nat.le_refl _),Nat.sub_self];rfl,⟨oid,(ap _ l3).trans k3,(ap _ l5).trans k5,Ne.symm m7,Ne.symm m10,Ne.symm m4,by omega,Ne.symm m9⟩,⟨Ne.symm m6,Ne.symm m3,by omega,Ne.symm m8,Ne.symm m5,Ne.symm m2,by omega⟩⟩
    simp [K_33_f,K_33_e,K_35_f,K_35_e,K_33h_f,K_33h_e,K_35h_f,K_35h_e,K_33h_g,K_35h_g,-V.flat,-V.one,one_int,one_bool,one_str,one_nilp,one_rp,one_nilsl,one_ro,one_cl,one_nilf,one_nili,one_ifc,one_ptr,one_sl,one_clo,flat_d,flat_ptr,flat_sl,flat_clo,flat_agg,-decA,decA_int,decA_bool,decA_str,k1]
    rw [aft_call]
    refine (walkI_own F hF hg F.blocks_.length cs cn G.length co sid rfl _ _ 0 ([],[]) (boT F) qb ⟨List.nodup_nil,fun x hx=>absurd hx List.not_mem_nil,List.nodup_nil,fun x hx=>absurd hx List.not_mem_nil⟩ hp1 List.not_mem_nil (Nat.le_refl _) (boT_vis hg)).mono ?_
    rintro r G2 ⟨rfl,lG,q2⟩
    obtain ⟨oid2,o1,o2,_,_,_,_,n5⟩:=q2.hco
    obtain ⟨L,hL⟩:∃ L,L=(0:Int) :: (boT F).2:=⟨_,rfl⟩
    have hL1:(((0:Nat):Int) :: (boT F).2)=L:=hL.symm
    dsimp only at o1 o2
    rw [hL1] at o1 o2
    have h8:0 < L.reverse.length∧L.reverse.length≤1000:=by
      have hb:=(boT_vis hg).ok hn1 (s:=([0],[])) ⟨List.pairwise_singleton _ _,fun x hx=>by rw [List.mem_singleton.1 hx];omega,List.nodup_nil,fun x hx=>absurd hx List.not_mem_nil⟩ fun x hx=>(okNext_get hn1 _).2 x hx
      have:=hb.len
      rw [hL];simp;omega
    have e2:L.length=L.reverse.length:=by simp
    have e2':L.length=L.length:=rfl
    simp [K_33_f,K_33_e,K_35_f,K_35_e,K_33h_f,K_33h_e,K_35h_f,K_35h_e,K_33h_g,K_35h_g,-V.flat,-V.one,one_int,one_bool,one_str,one_nilp,one_rp,one_nilsl,one_ro,one_cl,one_nilf,one_nili,one_ifc,one_ptr,one_sl,one_clo,flat_d,flat_ptr,flat_sl,flat_clo,flat_agg,-decA,decA_int,decA_bool,decA_str,o1]
    rw [e2,aft_call]
    refine (reverse_own G2 oid2 L.reverse h8 o2).mono ?_
    rintro r G3 ⟨rfl,rfl⟩
    rw [List.reverse_reverse]
    have o3:(G2.set oid2 (.row 1 (rI L)))[co]? = some (.row 1 [[.sl oid2 1 0 L.length]]):=(List.getElem?_set_ne n5).trans (by rw [o1,e2'])
    have o4:(G2.set oid2 (.row 1 (rI L)))[oid2]? = some (.row 1 (rI L)):=List.getElem?_set_self (List.getElem?_eq_some_iff.1 o2).1
    generalize G2.set oid2 (.row 1 (rI L))=G3 at o3 o4
    simp [K_33_f,K_33_e,K_35_f,K_35_e,K_33h_f,K_33h_e,K_35h_f,K_35h_e,K_33h_g,K_35h_g,-V.flat,-V.one,one_int,one_bool,one_str,one_nilp,one_rp,one_nilsl,one_ro,one_cl,one_nilf,one_nili,one_ifc,one_ptr,one_sl,one_clo,flat_d,flat_ptr,flat_sl,flat_clo,flat_agg,-decA,decA_int,decA_bool,decA_str,o3,retQ]
    rw [← hL]
    have rd:=Rd1.slice (own_row o4)
    have er:Tr.era (⟨.sl oid2 1 0 L.length,L⟩:AS Int)=L:=era_ints _
    rw [er] at rd
    exact ⟨_,_,Fin.same (Nat.zero_le _),Rd1.tup ⟨rd,Rd1.d,trivial⟩⟩
theorem boI_c (F:Func) (hF:Enc.good F):PureP Tryz.prog 11 [vFunc F] (· = boR F):=by
  cases hg:goodF F with
  | false =>
    have h:PureP Tryz.prog 11 [vFunc F] (· = .tup [.d .nilsl,.d (.bool false)]):=by
      refine pure_of Tryz.func11 en_11 rfl rfl (W_runS mixed [4] ⟨[K_33,K_35],[K_33h,K_35h],[42],29,0,[0,1,2,3,4,5,6,7,8,12],[12]⟩ (fun | 4=>[0,1,2,3,4,5,6,7,8,9,10,11,12,13,14,15] | _=>[]) (by kernel_rfl) ?_)
      simp only [Tryz.f11,stripS,skip_cons,skip_nil,Nat.reduceBEq,Bool.or_false,Bool.or_self,Bool.or_true,Bool.true_or,cond_true,cond_false,stripX,stripOps,pickOps]
      simp [K_33_f,K_33_e,K_35_f,K_35_e,K_33h_f,K_33h_e,K_35h_f,K_35h_e,K_33h_g,K_35h_g,hF,viewV_f hg]
    refine PureP.of_own (h.ans.mono ?_)
    rintro r H' ⟨rfl,rfl⟩
    simp only [boR,boV,hg]
    exact Rd1.tup ⟨Rd1.nilL,Rd1.d,trivial⟩
  | true =>
    refine PureP.of_own ((boI_own F hF hg).mono fun r H' h=>?_)
    simp only [boR,boV,hg,if_true]
    exact h
noncomputable def K_11:Ent Tryz.prog:=Ent.p1 (α:=Func) 11 (fun F=>Enc.good F) (fun F=>boR F) (fun F hc=>boI_c F hc)
theorem K_11_f:K_11.f=11:=rfl
theorem K_11_e (F0:Int) (F1:List Block):K_11.e [.agg [.d (.int .i64 F0),.d (dBlockS F1)]]=some (Enc.good (Func.mk F0 F1),boR (Func.mk F0 F1),[]):=by unfold K_11;exact Ent.p1_eq (α:=Func) (Func.mk F0 F1)
noncomputable def K_11h:EntH Tryz.prog:=EntH.pk1 (α:=Func) 11 (fun F=>Enc.good F) (fun F=>boR F) (fun F=>[]) (fun F hc=>PureP.ans (boI_c F hc))
theorem K_11h_f:K_11h.f=11:=rfl
theorem K_11h_g:K_11h.gro=true:=rfl
theorem K_11h_e {x1:V} {H:Heap}:K_11h.e [x1] H=guardR ((decA (α:=Func) H x1).1) (peekR (Enc.good (decA (α:=Func) H x1).2) (boR (decA (α:=Func) H x1).2) ([]) H):=rfl
end Go.Proofs.YthafdegfjadijaaGreat
end
