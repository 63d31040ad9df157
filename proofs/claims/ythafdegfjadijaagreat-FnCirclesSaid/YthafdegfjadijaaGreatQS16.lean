/- Contracts of the specification's dominators. No condition. -/
import Derived.Test.YthafdegfjadijaaGreatQS15
namespace Go.Proofs.YthafdegfjadijaaGreat
set_option maxRecDepth 100000
set_option linter.unusedSimpArgs false
set_option linter.unusedVariables false
def accV (id:Nat):List Int→V
  | []=>.d .nilsl
  | a :: l=>.sl id 1 0 (l.length + 1)
def accH:List Int→Heap
  | []=>[]
  | a :: l=>[.row 1 (rI (a :: l))]
@[simp] theorem accV_nil (id:Nat):accV id []=.d .nilsl:=rfl
@[simp] theorem accH_nil:accH []=[]:=rfl
@[simp] theorem accV_cons (id:Nat) (a:Int) (l:List Int):accV id (a :: l)=.sl id 1 0 (l.length + 1):=rfl
@[simp] theorem accH_cons (a:Int) (l:List Int):accH (a :: l)=[.row 1 (rI (a :: l))]:=rfl
def okFlow (F:Func):Prop:=fewJumps F.blocks_∧okNext (nextL F.blocks_)∧0 < F.blocks_.length
noncomputable def domP (F:Func) (b:Int) (k:Nat):Bool:=decide ((k:Int)=b) || !hasL (fromL F 0 k) b
noncomputable def domS (F:Func) (b:Int):List Int:=numsOf (domP F b) F.blocks_.length
theorem fromL_len {F:Func} (hn:okNext (nextL F.blocks_)) (a b:Int):(fromL F a b).length≤8:=by
  have h1:=numsOf_len (fun k=>(rchB (nextL F.blocks_) a b)[k]?.getD false) (rchB (nextL F.blocks_) a b).length
  have h2:(rchB (nextL F.blocks_) a b).length=(nextL F.blocks_).length:=by simp [rchB]
  have:=hn.1
  unfold fromL listB
  omega
theorem l13Doms_c (F:Func) (b:Int) (hf:okFlow F):PureP Tryz.prog 69 [vFunc F,.d (.int .i64 b)] (· = .d (dIntS (domS F b))):=by
  obtain ⟨hv,hn,hp⟩:=hf
  have h8:=hv.1
  refine PureP.le (pure_of Tryz.func69 en_69 rfl rfl (W_run mixed ⟨[K_40,K_53],[K_40h,K_53h],[],30,0,[0,1,2,4,5,6,9,10,11,23],[11,16,23]⟩ (fun _=>[]) (by kernel_rfl) ?_))
  simp only [Tryz.f69,stripX,stripOps,pickOps]
  simp [K_40_f,K_40_e,K_53_f,K_53_e,K_40h_f,K_40h_e,K_53h_f,K_53h_e,K_40h_g,K_53h_g]
  refine W_loopS (α:=Nat × List Int) (fun a=>[(1,.d (.int .i64 b)),(2,.ptr 0 2 0 0),(5,accV 1 a.2),(9,.d (.int .i64 F.blocks_.length)),(10,.d (.int .i64 a.1))])
    (fun a=>.row 2 [[.d (.int .i64 F.params_),.d (dBlockS F.blocks_)]] :: accH a.2) (fun a=>a.1≤F.blocks_.length∧a.2=numsOf (domP F b) a.1) (fun a=>F.blocks_.length - a.1) (0,[]) [0] ?_ ?_ ?_
  · simp
  · simp [numsOf]
  rintro ⟨i,acc⟩ ⟨hi,ha⟩
  dsimp only at hi ha
  have hfl:∀ k,(fromL F 0 k).length≤1000:=fun k=>by have:=fromL_len hn 0 k;omega
  have hla:acc.length≤i:=by rw [ha];exact numsOf_len _ _
  have wi:i < F.blocks_.length→IntKind.i64.wrap ((i:Int) + 1)=((i + 1:Nat):Int):=fun h=>by rw [wrap_id] <;> omega
  have yes:domP F b i=true→numsOf (domP F b) (i + 1)=acc++[(i:Int)]:=fun h=>by rw [numsOf_succ,if_pos h,← ha]
  have no:domP F b i=false→numsOf (domP F b) (i + 1)=acc:=fun h=>by rw [numsOf_succ,if_neg (by simp [h]),← ha,List.append_nil]
  have p1:(i:Int)=b→domP F b i=true:=fun h=>by simp [domP,h]
  have p2:hasL (fromL F 0 i) b=false→domP F b i=true:=fun h=>by simp [domP,h]
  have p3:(i:Int) ≠ b→hasL (fromL F 0 i) b=true→domP F b i=false:=fun h h'=>by simp [domP,h,h']
  have dn:F.blocks_.length≤i→domS F b=acc:=fun h=>by
    have:i=F.blocks_.length:=by omega
    subst this
    exact ha.symm
  cases acc with
  | nil =>
    refine W_run mixed ⟨[K_40,K_53],[K_40h,K_53h],[],30,0,[0,1,2,4,5,6,9,10,11,23],[11,16,23]⟩ (fun _=>[]) (by kernel_rfl) ?_
    simp only [stripX,stripOps,pickOps]
    simp [K_40_f,K_40_e,K_53_f,K_53_e,K_40h_f,K_40h_e,K_53h_f,K_53h_e,K_40h_g,K_53h_g,hfl,hp,hv,hn]
    refine ⟨fun h=>⟨fun e=>?_,fun e=>⟨fun e'=>?_,fun e'=>?_⟩⟩,fun h=>?_⟩
    · exact ⟨i + 1,[(i:Int)],⟨by omega,(yes (p1 e)).symm⟩,by omega,[0,2],by simp,by simp,by simp,by simp,wi h⟩
    · exact ⟨i + 1,[(i:Int)],⟨by omega,(yes (p2 e')).symm⟩,by omega,[0,2],by simp,by simp,by simp,by simp,wi h⟩
    · exact ⟨i + 1,[],⟨by omega,(no (p3 e e')).symm⟩,by omega,[0],by simp,by simp,by simp,by simp,wi h⟩
    · rw [dn h];exact rfl
  | cons a acc =>
    simp only [List.length_cons] at hla
    refine W_run mixed ⟨[K_40,K_53],[K_40h,K_53h],[],30,0,[0,1,2,4,5,6,9,10,11,23],[11,16,23]⟩ (fun _=>[]) (by kernel_rfl) ?_
    simp only [stripX,stripOps,pickOps]
    simp [K_40_f,K_40_e,K_53_f,K_53_e,K_40h_f,K_40h_e,K_53h_f,K_53h_e,K_40h_g,K_53h_g,hfl,hp,hv,hn]
    refine ⟨fun h=>⟨fun e=>⟨by omega, ?_⟩,fun e=>⟨fun e'=>⟨by omega, ?_⟩,fun e'=>?_⟩⟩,fun h=>?_⟩
    · exact ⟨i + 1,a :: (acc++[(i:Int)]),⟨by omega,(yes (p1 e)).symm⟩,by omega,[0,3],by simp,by simp,by simp,by simp,wi h⟩
    · exact ⟨i + 1,a :: (acc++[(i:Int)]),⟨by omega,(yes (p2 e')).symm⟩,by omega,[0,3],by simp,by simp,by simp,by simp,wi h⟩
    · exact ⟨i + 1,a :: acc,⟨by omega,(no (p3 e e')).symm⟩,by omega,[0,1],by simp,by simp,by simp,by simp,wi h⟩
    · rw [dn h];exact vle_row (a :: acc) rfl rfl
noncomputable def K_69:Ent Tryz.prog:=Ent.p2 (α:=Func) (β:=Int) 69 (fun F b=>okFlow F) (fun F b=>.d (dIntS (domS F b))) (fun F b hc=>l13Doms_c F b hc)
theorem K_69_f:K_69.f=69:=rfl
theorem K_69_e (F0:Int) (F1:List Block) (b:Int):K_69.e [.agg [.d (.int .i64 F0),.d (dBlockS F1)],.d (.int .i64 b)]=some (okFlow (Func.mk F0 F1),.d (dIntS (domS (Func.mk F0 F1) b)),[]):=by unfold K_69;exact Ent.p2_eq (α:=Func) (β:=Int) (Func.mk F0 F1) b
noncomputable def K_69h:EntH Tryz.prog:=EntH.pk2 (α:=Func) (β:=Int) 69 (fun F b=>okFlow F) (fun F b=>.d (dIntS (domS F b))) (fun F b=>[]) (fun F b hc=>PureP.ans (l13Doms_c F b hc))
theorem K_69h_f:K_69h.f=69:=rfl
theorem K_69h_g:K_69h.gro=true:=rfl
theorem K_69h_e {x1 x2:V} {H:Heap}:K_69h.e [x1,x2] H=guardR ((decA (α:=Func) H x1).1∧(decA (α:=Int) H x2).1) (peekR (okFlow (decA (α:=Func) H x1).2) (.d (dIntS (domS (decA (α:=Func) H x1).2 (decA (α:=Int) H x2).2))) ([]) H):=rfl
theorem domS_len {F:Func} (hf:okFlow F) (b:Int):(domS F b).length≤8:=by
  have:=numsOf_len (domP F b) F.blocks_.length
  have:=hf.1.1
  unfold domS;omega
noncomputable def allR (F:Func):List Int:=fromL F 0 (-1)
noncomputable def adS (F:Func) (k:Int):List Int:=(domS F k).filter (hasL (allR F))
noncomputable def adO (F:Func) (r:List Int) (i:Nat) (k:Nat):D:=if (k:Int)∈r.take i then dIntS (adS F k) else .nilsl
noncomputable def allS (F:Func):List (List Int):=(List.range F.blocks_.length).map fun k:Nat=>if (k:Int)∈allR F then adS F k else []
def rowD (n:Nat) (o:Nat→D):List (List V):=fillR n n (fun k=>[.d (o k)]) [.d .nilsl]
theorem rowD_get {n k:Nat} (o:Nat→D) (h:k < n):(rowD n o)[k]? = some [.d (o k)]:=fillR_done _ _ _ h
@[simp] theorem rowD_len (n:Nat) (o:Nat→D):(rowD n o).length=n:=by simp [rowD]
@[simp] theorem rowD_ren (σ:List Nat) (n:Nat) (o:Nat→D):(rowD n o).map (renL σ)=rowD n o:=fillR_ren1 ..
theorem rowD_hole {n k:Nat} {o:Nat→D} (h:k < n) (ho:o k=.nilsl):(rowD n o).set k [accV 2 []]=rowD n o:=by
  refine List.ext_getElem? fun c=>?_
  rw [List.getElem?_set]
  by_cases e:k=c
  · subst e
    rw [if_pos rfl,if_pos (by simpa using h),rowD_get o h,ho];rfl
  · rw [if_neg e]
@[simp 2000] theorem setR_rowD {n k id e e' j size:Nat} {o:Nat→D} {l0 l:List V} {H:Heap}:setR ((rowD n o).set k l0) id k e e' j size l H =
    guardR (k < n∧e'=e∧l.length=size∧j + size≤e∧ones l=true) (.ok (.tup []) (H.set id (.row e ((rowD n o).set k (setMany l0 j l))))):=setR_hole
@[simp 2000] theorem elR_rowD {n k e e' j size:Nat} {agg:Bool} {o:Nat→D} {l0:List V} {H:Heap}:elR ((rowD n o).set k l0) k e e' j size agg H =
    guardR (k < n∧e'=e∧j + size≤e∧(agg=true∨size=1)) (.ok (asVal agg ((l0.drop j).take size)) H):=elR_hole
theorem rowD_under (n m:Nat) (o:Nat→D):∀ x∈rowD n o,∀ c∈x,c.under m=true:=fillR_under (by simp) (by simp)
theorem rowD_under_set {n k m:Nat} {o:Nat→D} {v:V} (h:v.under m=true):∀ x∈(rowD n o).set k [v],∀ c∈x,c.under m=true:=by
  intro x hx c hc
  rcases List.mem_or_eq_of_mem_set hx with hx | rfl
  · exact rowD_under n m o x hx c hc
  · have:c=v:=by simpa using hc
    subst this;exact h
theorem rowD_ren_set (σ:List Nat) (n k:Nat) (o:Nat→D) (v:V):((rowD n o).set k [v]).map (renL σ)=(rowD n o).set k [v.ren σ]:=by
  rw [List.map_set,rowD_ren];rfl
theorem fits_rowD (σ:List Nat) (H0:Heap) {n k:Nat} {o o':Nat→D} {c:V} (hk:k < n) (h1:∀ j,(V.d (o' j)).one=true) (hc:DLe (closeK σ H0 4 c) (o' k)) (ho:∀ j,j ≠ k→o' j=o j) :
    fitsR σ H0 ((rowD n o).set k [c]) (rowD n o'):=by
  refine .inr ⟨by simp,fun j hj=>?_⟩
  simp only [rowD_len] at hj
  rw [rowD_get _ hj,List.getElem?_set]
  by_cases e:k=j
  · subst e
    rw [if_pos rfl,if_pos (by simpa using hk)]
    exact ⟨⟨hc,h1 _⟩,rfl⟩
  · rw [if_neg e,rowD_get _ hj,ho j fun q=>e q.symm]
    refine ⟨⟨?_, ?_⟩,rfl⟩
    · show DLe (closeK σ H0 4 (.d (o j))) (o j)
      rw [closeK_d];exact DLe.refl _
    · rw [← ho j fun q=>e q.symm];exact h1 j
theorem adO_one (F:Func) (r:List Int) (i k:Nat):(V.d (adO F r i k)).one=true:=by
  unfold adO;split <;> rfl
noncomputable def accS (F:Func) (l:List Int) (j:Nat):List Int:=(l.take j).filter (hasL (allR F))
theorem accS_succ (F:Func) {l:List Int} {j:Nat} (h:j < l.length):accS F l (j + 1)=accS F l j++if hasL (allR F) (l[j]?.getD 0)=true then [l[j]?.getD 0] else []:=by
  have e:l[j]?.getD 0=l[j]:=by rw [List.getElem?_eq_getElem h];rfl
  unfold accS
  rw [List.take_succ_eq_append_getElem h,List.filter_append,e]
  congr 1
  by_cases q:hasL (allR F) l[j]=true <;> simp [q]
theorem dle_rowK {n f:Nat} {K:List Nat} {row:List (List V)} {H:Heap} (l:List Int) (hr:row=rI l) (hn:n=l.length):DLe (.ro 1 n fun i j=>closeK K H f ((row[i]?.getD [])[j]?.getD (.d .undef))) (dIntS l):=by
  subst hr hn
  refine ⟨rfl,rfl,fun k hk j hj=>?_⟩
  have:j=0:=by omega
  subst this
  dsimp only
  rw [List.getElem?_map,List.getElem?_eq_getElem hk]
  simp
theorem adO_other (F:Func) {r:List Int} {i k:Nat} (h:i < r.length) (hk:(k:Int) ≠ r[i]):adO F r (i + 1) k=adO F r i k:=by
  have e:((k:Int)∈r.take (i + 1))=((k:Int)∈r.take i):=by
    rw [List.take_succ_eq_append_getElem h,List.mem_append,List.mem_singleton]
    exact propext ⟨fun q=>q.resolve_right hk,.inl⟩
  unfold adO
  simp only [e]
theorem adO_here (F:Func) {r:List Int} {i k:Nat} (h:i < r.length) (hk:(k:Int)=r[i]):adO F r (i + 1) k=dIntS (adS F r[i]):=by
  have e:(k:Int)∈r.take (i + 1):=by
    rw [List.take_succ_eq_append_getElem h,List.mem_append,List.mem_singleton]
    exact .inr hk
  unfold adO
  rw [if_pos e,hk]
theorem l13All_c (F : Func) (hf : okFlow F) : PureP Tryz.prog 38 [vFunc F] (· = .d (dIntSS (allS F))) := by
  have h8:=hf.1.1
  have f1:(F.blocks_.length:Int) * 24≤140737488355328:=by omega
  have f2:(F.blocks_.length:Int)≤140737488355328:=by omega
  have hnx:okNext (nextL F.blocks_):=hf.2.1
  have hv:fewJumps F.blocks_:=hf.1
  have hp:0 < F.blocks_.length:=hf.2.2
  refine PureP.le (pure_of Tryz.func38 en_38 rfl rfl (W_run mixed ⟨[K_40,K_69,K_53],[K_40h,K_69h,K_53h],[],45,0,[0,1,2,3,4,6,8,15,16,17,18,23,24,25,26,31],[18,26,31]⟩ (fun _=>[]) (by kernel_rfl) ?_))
  simp only [Tryz.f38,stripX,stripOps,pickOps]
  simp [K_40_f,K_40_e,K_69_f,K_69_e,K_53_f,K_53_e,K_40h_f,K_40h_e,K_69h_f,K_69h_e,K_53h_f,K_53h_e,K_40h_g,K_69h_g,K_53h_g,f1,f2,hf,hnx,hv,hp]
  have hr:fromL F 0 (-1)=allR F:=rfl
  rw [hr]
  have hrm:∀ x∈allR F,0≤x∧x < F.blocks_.length:=fun x hx=>by
    obtain ⟨q0,q1,_⟩:=listB_rchB.1 hx
    exact ⟨q0,by simpa [nextL] using q1⟩
  have hrs:(allR F).Pairwise (· < ·):=numsOf_sorted _ _
  have hr8:(allR F).length≤8:=fromL_len hnx _ _
  have hz:List.replicate F.blocks_.length [V.d D.nilsl]=rowD F.blocks_.length (adO F (allR F) 0):=by
    refine List.ext_getElem (by simp) fun k k1 k2=>?_
    have hk:k < F.blocks_.length:=by simpa using k1
    have:=rowD_get (adO F (allR F) 0) hk
    rw [List.getElem?_eq_getElem k2] at this
    rw [Option.some.inj this]
    simp [adO]
  rw [hz]
  refine W_loopF (fun i:Nat=>[(1,.ptr 0 2 0 0),(3,.d (dIntS (allR F))),(4,.sl 1 1 0 F.blocks_.length),(15,.d (dIntS (allR F))),(16,.d (.int .i64 (allR F).length)),(17,.d (.int .i64 i))])
    (fun i=>[.row 2 [[.d (.int .i64 F.params_),.d (dBlockS F.blocks_)]],.row 1 (rowD F.blocks_.length (adO F (allR F) i))]) (fun i=>i≤(allR F).length) (fun i=>(allR F).length - i) 0 [0,1] ?_ ?_ ?_
  · simp
    exact ⟨.inl (by simp),.inl (by simp),rowD_under _ _ _⟩
  · simp
  intro i hi
  refine W_run mixed ⟨[K_40,K_69,K_53],[K_40h,K_69h,K_53h],[],45,0,[0,1,2,3,4,6,8,15,16,17,18,23,24,25,26,31],[18,26,31]⟩ (fun _=>[]) (by kernel_rfl) ?_
  simp only [stripX,stripOps,pickOps]
  simp [K_40_f,K_40_e,K_69_f,K_69_e,K_53_f,K_53_e,K_40h_f,K_40h_e,K_69h_f,K_69h_e,K_53h_f,K_53h_e,K_40h_g,K_69h_g,K_53h_g,f1,f2,hf,hnx,hv,hp]
  have hr8':(allR F).length≤1000:=by omega
  refine ⟨fun h=>⟨h, ?_⟩,fun h=>?_⟩
  · have hk:(allR F)[i]?.getD 0∈allR F:=by rw [List.getElem?_eq_getElem h];exact List.getElem_mem h
    have ek:(allR F)[i]?.getD 0=(allR F)[i]:=by rw [List.getElem?_eq_getElem h];rfl
    obtain ⟨k0,k1⟩:=hrm _ hk
    have hl8:=domS_len hf ((allR F)[i]?.getD 0)
    generalize hkk:(allR F)[i]?.getD 0=kk at k0 k1 hk ek hl8
    have had:adS F kk=(domS F kk).filter (hasL (allR F)):=rfl
    generalize domS F kk=l at hl8 had
    have hkn:kk.toNat < F.blocks_.length:=by omega
    have hnew:kk ∉ (allR F).take i:=fun q=>by
      rw [ek] at q
      obtain ⟨m,hm,e⟩:=List.getElem_of_mem q
      have hm':m < i:=by simp only [List.length_take] at hm;omega
      rw [List.getElem_take] at e
      have:=List.pairwise_iff_getElem.1 hrs m i (by omega) h hm'
      omega
    have ekn:((kk.toNat:Nat):Int)=kk:=by omega
    have hhole:adO F (allR F) i kk.toNat=.nilsl:=by
      unfold adO;rw [ekn,if_neg hnew]
    rw [← rowD_hole hkn hhole]
    refine W_loopS (α:=Nat × List Int) (fun a=>[(1,.ptr 0 2 0 0),(3,.d (dIntS (allR F))),(4,.sl 1 1 0 F.blocks_.length),(15,.d (dIntS (allR F))),(16,.d (.int .i64 (allR F).length)),(17,.d (.int .i64 i)),(6,.d (.int .i64 kk)),(23,.d (dIntS l)),(24,.d (.int .i64 l.length)),(25,.d (.int .i64 a.1))])
      (fun a=>.row 2 [[.d (.int .i64 F.params_),.d (dBlockS F.blocks_)]] :: .row 1 ((rowD F.blocks_.length (adO F (allR F) i)).set kk.toNat [accV 2 a.2]) :: accH a.2) (fun a=>a.1≤l.length∧a.2=accS F l a.1) (fun a=>l.length - a.1) (0,[]) [0,1] ?_ ?_ ?_
    · simp [rowD_ren_set]
      exact rowD_under_set rfl
    · simp [accS]
    rintro ⟨j,acc⟩ ⟨hj,ha⟩
    dsimp only at hj ha
    have wj:j < l.length→IntKind.i64.wrap ((j:Int) + 1)=((j + 1:Nat):Int):=fun q=>by rw [wrap_id] <;> omega
    have wi:IntKind.i64.wrap ((i:Int) + 1)=((i + 1:Nat):Int):=by rw [wrap_id] <;> omega
    have yes:j < l.length→hasL (allR F) (l[j]?.getD 0)=true→accS F l (j + 1)=acc++[l[j]?.getD 0]:=fun h q=>by rw [accS_succ F h,if_pos q,← ha]
    have no:j < l.length→hasL (allR F) (l[j]?.getD 0)=false→accS F l (j + 1)=acc:=fun h q=>by rw [accS_succ F h,if_neg (by simp [q]),← ha,List.append_nil]
    have hla:acc.length≤8:=by
      have q1:=List.length_filter_le (hasL (allR F)) (l.take j)
      have q2:(l.take j).length≤l.length:=by simp;omega
      rw [ha];unfold accS;omega
    have fin:l.length≤j→adO F (allR F) (i + 1) kk.toNat=dIntS acc:=fun q=>by
      rw [adO_here F h (by omega),← ek,had,ha]
      unfold accS
      rw [List.take_of_length_le q]
    have oth:∀ m,m ≠ kk.toNat→adO F (allR F) (i + 1) m=adO F (allR F) i m:=fun m q=>adO_other F h (by omega)
    cases acc with
    | nil =>
      refine W_run mixed ⟨[K_40,K_69,K_53],[K_40h,K_69h,K_53h],[],45,0,[0,1,2,3,4,6,8,15,16,17,18,23,24,25,26,31],[18,26,31]⟩ (fun _=>[]) (by kernel_rfl) ?_
      simp only [stripX,stripOps,pickOps]
      simp [K_40_f,K_40_e,K_69_f,K_69_e,K_53_f,K_53_e,K_40h_f,K_40h_e,K_69h_f,K_69h_e,K_53h_f,K_53h_e,K_40h_g,K_69h_g,K_53h_g,f1,f2,hf,hnx,hv,hp,hr8']
      refine ⟨fun hl=>⟨hl,fun q=>⟨⟨k0,k1⟩,k1,⟨k0,k1⟩,k1, ?_⟩,fun q=>?_⟩,fun hl=>?_⟩
      · exact ⟨j + 1,[l[j]?.getD 0],⟨by omega,(yes hl q).symm⟩,by omega,[0,1,3],by simp,by simp [rowD_ren_set];exact rowD_under_set (by simp [V.under]),by simp,by simp,wj hl⟩
      · exact ⟨j + 1,[],⟨by omega,(no hl q).symm⟩,by omega,[0,1],by simp,by simp [rowD_ren_set];exact rowD_under_set rfl,by simp,by simp,wj hl⟩
      · refine ⟨i + 1,by omega,by omega,[0,1],by simp, ?_,by simp,by simp,by rw [wi];exact DLe.refl _⟩
        simp
        refine ⟨.inl (by simp),fits_rowD _ _ hkn (adO_one _ _ _) ?_ oth,rowD_under _ _ _⟩
        rw [fin hl,closeK_d];exact rfl
    | cons a acc =>
      simp only [List.length_cons] at hla
      refine W_run mixed ⟨[K_40,K_69,K_53],[K_40h,K_69h,K_53h],[],45,0,[0,1,2,3,4,6,8,15,16,17,18,23,24,25,26,31],[18,26,31]⟩ (fun _=>[]) (by kernel_rfl) ?_
      simp only [stripX,stripOps,pickOps]
      simp [K_40_f,K_40_e,K_69_f,K_69_e,K_53_f,K_53_e,K_40h_f,K_40h_e,K_69h_f,K_69h_e,K_53h_f,K_53h_e,K_40h_g,K_69h_g,K_53h_g,f1,f2,hf,hnx,hv,hp,hr8']
      refine ⟨fun hl=>⟨hl,fun q=>⟨⟨k0,k1⟩,k1,by omega,⟨k0,k1⟩,k1, ?_⟩,fun q=>?_⟩,fun hl=>?_⟩
      · exact ⟨j + 1,a :: (acc++[l[j]?.getD 0]),⟨by omega,(yes hl q).symm⟩,by omega,[0,1,4],by simp,by simp [rowD_ren_set];exact rowD_under_set (by simp [V.under]),by simp,by simp,wj hl⟩
      · exact ⟨j + 1,a :: acc,⟨by omega,(no hl q).symm⟩,by omega,[0,1,2],by simp,by simp [rowD_ren_set];exact rowD_under_set (by simp [V.under]),by simp,by simp,wj hl⟩
      · refine ⟨i + 1,by omega,by omega,[0,1],by simp, ?_,by simp,by simp,by rw [wi];exact DLe.refl _⟩
        simp
        refine ⟨.inl (by simp),fits_rowD _ _ hkn (adO_one _ _ _) ?_ oth,rowD_under _ _ _⟩
        rw [fin hl]
        simp only [closeK]
        rw [if_neg (by decide)]
        show DLe (if (1:Nat)=1∧0 + (acc.length + 1)≤(rI (a :: acc)).length then _ else _) _
        rw [if_pos (by simp)]
        simp only [Nat.zero_add]
        exact dle_rowK (a :: acc) rfl rfl
  · have e:i=(allR F).length:=by omega
    subst e
    refine ⟨rfl,by simp [allS],fun k hk j hj=>?_⟩
    have:j=0:=by omega
    subst this
    dsimp only
    rw [rowD_get _ hk]
    have e2:(allS F)[k]?.getD default=if (k:Int)∈allR F then adS F k else []:=by simp [allS,hk]
    show DLe (closeD _ 3 (.d (adO F (allR F) (allR F).length k))) _
    simp only [closeD]
    rw [e2]
    unfold adO
    rw [List.take_length]
    split
    · exact DLe.refl _
    · exact rfl
noncomputable def K_38:Ent Tryz.prog:=Ent.p1 (α:=Func) 38 (fun F=>okFlow F) (fun F=>.d (dIntSS (allS F))) (fun F hc=>l13All_c F hc)
theorem K_38_f:K_38.f=38:=rfl
theorem K_38_e (F0:Int) (F1:List Block):K_38.e [.agg [.d (.int .i64 F0),.d (dBlockS F1)]]=some (okFlow (Func.mk F0 F1),.d (dIntSS (allS (Func.mk F0 F1))),[]):=by unfold K_38;exact Ent.p1_eq (α:=Func) (Func.mk F0 F1)
noncomputable def K_38h:EntH Tryz.prog:=EntH.pk1 (α:=Func) 38 (fun F=>okFlow F) (fun F=>.d (dIntSS (allS F))) (fun F=>[]) (fun F hc=>PureP.ans (l13All_c F hc))
theorem K_38h_f:K_38h.f=38:=rfl
theorem K_38h_g:K_38h.gro=true:=rfl
theorem K_38h_e {x1:V} {H:Heap}:K_38h.e [x1] H=guardR ((decA (α:=Func) H x1).1) (peekR (okFlow (decA (α:=Func) H x1).2) (.d (dIntSS (allS (decA (α:=Func) H x1).2))) ([]) H):=rfl
end Go.Proofs.YthafdegfjadijaaGreat
