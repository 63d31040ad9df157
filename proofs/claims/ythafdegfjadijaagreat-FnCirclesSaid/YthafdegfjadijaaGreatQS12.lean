/- Contract of the program's search for what is reached. No condition. -/
import Derived.Test.YthafdegfjadijaaGreatQS6
section
namespace Go.Proofs.YthafdegfjadijaaGreat
set_option maxRecDepth 100000
set_option linter.unusedSimpArgs false
set_option linter.unusedVariables false
def tos (b:Block):List Int:=b.jumps_.map (·.to_)
def nextL (bs:List Block):List (List Int):=bs.map tos
theorem nextL_get (bs:List Block) (i:Nat):(nextL bs)[i]?.getD default=tos (bs[i]?.getD default):=by
  unfold nextL
  rw [List.getElem?_map]
  cases bs[i]? <;> rfl
@[simp] theorem fillR_ren1 (σ:List Nat) (n i:Nat) (g:Nat→D) (z:D):(fillR n i (fun j=>[V.d (g j)]) [.d z]).map (renL σ)=fillR n i (fun j=>[V.d (g j)]) [.d z]:=by
  unfold fillR
  rw [List.map_map]
  refine List.map_congr_left fun j _=>?_
  simp only [Function.comp]
  split <;> rfl
@[simp] theorem fillR_below1 (m n i:Nat) (g:Nat→D) (z:D):(∀ x∈fillR n i (fun j=>[V.d (g j)]) [.d z],∀ c∈x,c.under m=true)=True :=
  eq_true (fillR_under (by simp) (by simp))
theorem fits_same (σ:List Nat) (H0:Heap) (n i:Nat) (g:Nat→D) (z:D):fitsR σ H0 (fillR n i (fun j=>[V.d (g j)]) [.d z]) (fillR n i (fun j=>[V.d (g j)]) [.d z]):=.inl (fillR_ren1 ..).symm
theorem fits_fill (σ:List Nat) (H0:Heap) {n i:Nat} (g:Nat→D) (z:D) {c:V} (hi:i < n) (hg:∀ j,(V.d (g j)).one=true) (hz:(V.d z).one=true) (hc:DLe (closeK σ H0 4 c) (g i)) :
    fitsR σ H0 ((fillR n i (fun j=>[V.d (g j)]) [.d z]).set i [c]) (fillR n (i + 1) (fun j=>[V.d (g j)]) [.d z]):=by
  refine .inr ⟨by simp,fun k hk=>?_⟩
  simp only [fillR_length] at hk
  rw [fillR_get _ _ _ _ hk,List.getElem?_set]
  by_cases e:i=k
  · subst e
    rw [if_pos rfl,if_pos (by simpa using hi),if_pos (Nat.lt_succ_self _)]
    exact ⟨⟨hc,hg _⟩,rfl⟩
  · rw [if_neg e,fillR_get _ _ _ _ hk]
    by_cases h:k < i
    · rw [if_pos h,if_pos (by omega)]
      exact ⟨⟨by show DLe (closeK σ H0 4 (.d (g k))) (g k);rw [closeK_d];exact DLe.refl _,hg k⟩,rfl⟩
    · rw [if_neg h,if_neg (by omega)]
      exact ⟨⟨by show DLe (closeK σ H0 4 (.d z)) z;rw [closeK_d];exact DLe.refl _,hz⟩,rfl⟩
theorem fillR_hole {n i:Nat} {f:Nat→List V} {z:List V} (h:i < n):(fillR n i f z).set i z=fillR n i f z:=by
  refine List.ext_getElem? fun k=>?_
  rw [List.getElem?_set]
  by_cases e:i=k
  · subst e
    rw [if_pos rfl,if_pos (by simpa using h),fillR_at _ _ _ _ h]
  · rw [if_neg e]
@[simp 2000] theorem setR_hole {n i k id e e' j size:Nat} {f:Nat→List V} {z l0 l:List V} {H:Heap}:setR ((fillR n i f z).set k l0) id k e e' j size l H =
    guardR (k < n∧e'=e∧l.length=size∧j + size≤e∧ones l=true) (.ok (.tup []) (H.set id (.row e ((fillR n i f z).set k (setMany l0 j l))))):=by
  unfold setR
  refine guardR_congr (by simp) fun h=>?_
  have h1:k < (fillR n i f z).length:=by simpa using h.1
  rw [List.getElem?_set,if_pos rfl,if_pos h1,List.set_set]
  rfl
@[simp 2000] theorem elR_hole {n i k e e' j size:Nat} {agg:Bool} {f:Nat→List V} {z l0:List V} {H:Heap}:elR ((fillR n i f z).set k l0) k e e' j size agg H =
    guardR (k < n∧e'=e∧j + size≤e∧(agg=true∨size=1)) (.ok (asVal agg ((l0.drop j).take size)) H):=by
  unfold elR
  refine guardR_congr (by simp) fun h=>?_
  have h1:k < (fillR n i f z).length:=by simpa using h.1
  rw [List.getElem?_set,if_pos rfl,if_pos h1]
  rfl
def fewJumps (bs:List Block):Prop:=bs.length≤8∧∀ b∈bs,b.jumps_.length≤2
theorem next_c (v:View) (hv:fewJumps v.blocks_):PureP Tryz.prog 35 [.d (.rp 5 (dView v))] (· = .d (dIntSS (nextL v.blocks_))):=by
  obtain ⟨h8,h2⟩:=hv
  have e1:¬ (140737488355328:Int) < v.blocks_.length:=by omega
  refine PureP.le (pure_of Tryz.func35 en_35 rfl rfl (W_run mixed ⟨[],[],[],47,0,[0,2,3,4,5,7,19,20,21,22,27,28,29,30],[22,30]⟩ (fun | 8=>[0,1,2,3,4,6,5,7,8,9,10,11] | _=>[]) (by kernel_rfl) ?_))
  simp only [Tryz.f35,stripX,stripOps,pickOps]
  simp []
  rw [fillR_zero _ (fun j=>[.d (dIntS (tos (v.blocks_[j]?.getD default)))])]
  refine ⟨by omega, ?_⟩
  refine W_loopF (fun i:Nat=>[(3,.sl 0 1 0 v.blocks_.length),(19,.d (dBlockS v.blocks_)),(20,.d (.int .i64 v.blocks_.length)),(21,.d (.int .i64 i))])
    (fun i=>[.row 1 (fillR v.blocks_.length i (fun j=>[.d (dIntS (tos (v.blocks_[j]?.getD default)))]) [.d .nilsl])]) (fun i=>i≤v.blocks_.length) (fun i=>v.blocks_.length - i) 0 [0] ?_ ?_ ?_
  · simp
    exact fits_same ..
  · simp
  intro i hi
  refine W_run mixed ⟨[],[],[],47,0,[0,2,3,4,5,7,19,20,21,22,27,28,29,30],[22,30]⟩ (fun | 8=>[0,1,2,3,4,6,5,7,8,9,10,11] | _=>[]) (by kernel_rfl) ?_
  simp only [stripX,stripOps,pickOps]
  simp []
  refine ⟨fun h=>⟨h, ?_⟩,fun h=>?_⟩
  · have hj:=h2 (v.blocks_[i]?.getD default) (by rw [List.getElem?_eq_getElem h];exact List.getElem_mem h)
    have hin:∀ js,(v.blocks_[i]?.getD default).jumps_=js→tos (v.blocks_[i]?.getD default)=js.map (·.to_):=fun js e=>by rw [tos,e]
    have w1:IntKind.i64.wrap 1=1:=by decide
    have w2:IntKind.i64.wrap 2=2:=by decide
    have wi:IntKind.i64.wrap ((i:Int) + 1)=((i + 1:Nat):Int):=by rw [wrap_id] <;> omega
    match hjs:(v.blocks_[i]?.getD default).jumps_,hj with
    | [],_ =>
      refine W_rounds 1 (WR_succ ?_)
      refine W_run mixed ⟨[],[],[],47,0,[0,2,3,4,5,7,19,20,21,22,27,28,29,30],[22,30]⟩ (fun | 8=>[0,1,2,3,4,6,5,7,8,9,10,11] | _=>[]) (by kernel_rfl) ?_
      simp only [stripX,stripOps,pickOps]
      simp [hjs]
      refine ⟨i + 1,by omega,by omega,[0],by simp,⟨⟨⟨rfl, ?_⟩,by simp⟩,rfl⟩,by simp,by rw [wi];exact DLe.refl _⟩
      have:=fun H0=>fits_fill [0] H0 (fun j=>dIntS (tos (v.blocks_[j]?.getD default))) .nilsl (c:=.d .nilsl) h (fun _=>rfl) rfl (by rw [closeK_d,hin _ hjs];exact rfl)
      simp only [fillR_hole h] at this
      exact this _
    | [a],_ =>
      refine W_rounds 2 (WR_succ ?_)
      refine W_run mixed ⟨[],[],[],47,0,[0,2,3,4,5,7,19,20,21,22,27,28,29,30],[22,30]⟩ (fun | 8=>[0,1,2,3,4,6,5,7,8,9,10,11] | _=>[]) (by kernel_rfl) ?_
      simp only [stripX,stripOps,pickOps]
      simp [hjs,w1]
      refine ⟨h,WR_succ ?_⟩
      refine W_run mixed ⟨[],[],[],47,0,[0,2,3,4,5,7,19,20,21,22,27,28,29,30],[22,30]⟩ (fun | 8=>[0,1,2,3,4,6,5,7,8,9,10,11] | _=>[]) (by kernel_rfl) ?_
      simp only [stripX,stripOps,pickOps]
      simp [hjs,w1]
      refine ⟨i + 1,by omega,by omega,[0],by simp,⟨⟨⟨rfl, ?_⟩,by simp⟩,rfl⟩,by simp,by rw [wi];exact DLe.refl _⟩
      refine fits_fill [0] _ (fun j=>dIntS (tos (v.blocks_[j]?.getD default))) .nilsl h (fun _=>rfl) rfl ?_
      rw [hin _ hjs]
      simp [closeK,DLe]
    | [a,b],_ =>
      refine W_rounds 3 (WR_succ ?_)
      refine W_run mixed ⟨[],[],[],47,0,[0,2,3,4,5,7,19,20,21,22,27,28,29,30],[22,30]⟩ (fun | 8=>[0,1,2,3,4,6,5,7,8,9,10,11] | _=>[]) (by kernel_rfl) ?_
      simp only [stripX,stripOps,pickOps]
      simp [hjs,w1]
      refine ⟨h,WR_succ ?_⟩
      refine W_run mixed ⟨[],[],[],47,0,[0,2,3,4,5,7,19,20,21,22,27,28,29,30],[22,30]⟩ (fun | 8=>[0,1,2,3,4,6,5,7,8,9,10,11] | _=>[]) (by kernel_rfl) ?_
      simp only [stripX,stripOps,pickOps]
      simp [hjs,w1,w2]
      refine ⟨h,WR_succ ?_⟩
      refine W_run mixed ⟨[],[],[],47,0,[0,2,3,4,5,7,19,20,21,22,27,28,29,30],[22,30]⟩ (fun | 8=>[0,1,2,3,4,6,5,7,8,9,10,11] | _=>[]) (by kernel_rfl) ?_
      simp only [stripX,stripOps,pickOps]
      simp [hjs,w1,w2]
      refine ⟨i + 1,by omega,by omega,[0],by simp,⟨⟨⟨rfl, ?_⟩,by simp⟩,rfl⟩,by simp,by rw [wi];exact DLe.refl _⟩
      refine fits_fill [0] _ (fun j=>dIntS (tos (v.blocks_[j]?.getD default))) .nilsl h (fun _=>rfl) rfl ?_
      rw [hin _ hjs]
      simp [closeK,DLe]
      intro k hk
      rcases (by omega:k=0∨k=1) with rfl | rfl <;> simp
  · have e:i=v.blocks_.length:=by omega
    subst e
    refine ⟨rfl,by simp [nextL],fun k hk j hj=>?_⟩
    dsimp only
    rw [fillR_done _ _ _ hk,nextL_get]
    have:j=0:=by omega
    subst this
    simp [closeD]
noncomputable def K_35:Ent Tryz.prog:=Ent.p1 (α:=Ptr View) 35 (fun v=>fewJumps v.v.blocks_) (fun v=>.d (dIntSS (nextL v.v.blocks_))) (fun v hc=>next_c v.v hc)
theorem K_35_f:K_35.f=35:=rfl
theorem K_35_e (v:View):K_35.e [.d (.rp 5 (dView v))]=some (fewJumps v.blocks_,.d (dIntSS (nextL v.blocks_)),[]):=by unfold K_35;exact Ent.p1_eq (α:=Ptr View) (Ptr.mk v)
noncomputable def K_35h:EntH Tryz.prog:=EntH.pk1 (α:=Ptr View) 35 (fun v=>fewJumps v.v.blocks_) (fun v=>.d (dIntSS (nextL v.v.blocks_))) (fun v=>[]) (fun v hc=>PureP.ans (next_c v.v hc))
theorem K_35h_f:K_35h.f=35:=rfl
theorem K_35h_g:K_35h.gro=true:=rfl
theorem K_35h_e {x1:V} {H:Heap}:K_35h.e [x1] H=guardR ((decA (α:=Ptr View) H x1).1) (peekR (fewJumps (decA (α:=Ptr View) H x1).2.v.blocks_) (.d (dIntSS (nextL (decA (α:=Ptr View) H x1).2.v.blocks_))) ([]) H):=rfl
end Go.Proofs.YthafdegfjadijaaGreat
end

section
namespace Go.Proofs.YthafdegfjadijaaGreat
set_option maxRecDepth 100000
set_option linter.unusedSimpArgs false
set_option linter.unusedVariables false
inductive Rch (nx:List (List Int)) (fr but:Int):Int→Prop
  | base (h:fr ≠ but):Rch nx fr but fr
  | step {a b:Int} (h:Rch nx fr but a) (hb:b∈nx[a.toNat]?.getD default) (hn:b ≠ but):Rch nx fr but b
open Classical in
noncomputable def rchB (nx:List (List Int)) (fr but:Int):List Bool:=(List.range nx.length).map fun k:Nat=>decide (Rch nx fr but (k:Int))
abbrev rB (l:List Bool):List (List V):=l.map fun n=>[.d (.bool n)]
def okNext (nx:List (List Int)):Prop:=nx.length≤8∧∀ l∈nx,l.length≤2∧∀ b∈l,0≤b∧b < nx.length
theorem okNext_get {nx:List (List Int)} (h:okNext nx) (i:Nat):(nx[i]?.getD default).length≤2∧∀ b∈nx[i]?.getD default,0≤b∧b < nx.length:=by
  cases e:nx[i]? with
  | none=>exact ⟨Nat.zero_le _,fun b hb=>absurd hb List.not_mem_nil⟩
  | some l=>exact h.2 l (List.mem_of_getElem? e)
structure RInv (nx:List (List Int)) (fr but:Int) (M:Nat) (out:List Bool) (td:List Int):Prop where
  len:out.length=nx.length
  sound:∀ k:Nat,out[k]? = some true→Rch nx fr but k
  start:out[fr.toNat]? = some true
  rng:∀ t∈td,0≤t∧t < nx.length∧out[t.toNat]? = some true
  closed:∀ a:Nat,out[a]? = some true→(a:Int)∈td∨∀ b∈nx[a]?.getD default,b ≠ but→out[b.toNat]? = some true
  cnt:td.length + out.count false≤M
open Classical in
theorem RInv.done {nx:List (List Int)} {fr but:Int} {M:Nat} {out:List Bool} (hn:okNext nx) (h0:0≤fr) (h:RInv nx fr but M out []):out=rchB nx fr but:=by
  have all:∀ k,Rch nx fr but k→0≤k∧out[k.toNat]? = some true:=by
    intro k hk
    induction hk with
    | base=>exact ⟨h0,h.start⟩
    | step hr hb hne ih =>
      rename_i a b
      obtain ⟨i0,i1⟩:=ih
      rcases h.closed a.toNat i1 with q | q
      · exact absurd q List.not_mem_nil
      · exact ⟨((okNext_get hn a.toNat).2 b hb).1,q b hb hne⟩
  refine List.ext_getElem (by simp [rchB,h.len]) fun k h1 h2=>?_
  simp only [rchB,List.getElem_map,List.getElem_range]
  cases hk:out[k] with
  | true=>exact (decide_eq_true (h.sound k (by rw [List.getElem?_eq_getElem h1,hk]))).symm
  | false =>
    refine (decide_eq_false fun hr=>?_).symm
    have:=(all k hr).2
    rw [Int.toNat_natCast,List.getElem?_eq_getElem h1,hk] at this
    cases this
theorem set_true {out:List Bool} {k x:Nat} (hk:k < out.length):(out.set k true)[x]? = some true ↔ x=k∨out[x]? = some true:=by
  rw [List.getElem?_set]
  by_cases e:k=x
  · subst e;simp [hk]
  · rw [if_neg e]
    exact ⟨.inr,fun h=>h.resolve_left fun q=>e q.symm⟩
theorem RInv.init {nx:List (List Int)} {fr but:Int} (hne:fr ≠ but) (h0:0≤fr) (h1:fr < nx.length):RInv nx fr but nx.length ((List.replicate nx.length false).set fr.toNat true) [fr]:=by
  have hk:fr.toNat < (List.replicate nx.length false).length:=by simp;omega
  have hst:((List.replicate nx.length false).set fr.toNat true)[fr.toNat]? = some true:=(set_true hk).2 (.inl rfl)
  refine ⟨by simp,fun k h=>?_,hst,fun t ht=>?_,fun a h=>?_, ?_⟩
  · rcases (set_true hk).1 h with rfl | h
    · have:((fr.toNat:Nat):Int)=fr:=by omega
      rw [this];exact .base hne
    · rw [List.getElem?_replicate] at h;split at h <;> cases h
  · have e:t=fr:=by simpa using ht
    subst e;exact ⟨h0,h1,hst⟩
  · rcases (set_true hk).1 h with rfl | h
    · left;simp;omega
    · rw [List.getElem?_replicate] at h;split at h <;> cases h
  · rw [List.count_set hk]
    simp
    omega
theorem RInv.push {nx:List (List Int)} {fr but:Int} {M:Nat} {out:List Bool} {td:List Int} {t b:Int} (hn:okNext nx) (h:RInv nx fr but M out td) (ht:t∈td) (hb:b∈nx[t.toNat]?.getD default) (hne:b ≠ but) (hf:out[b.toNat]? = some false) :
    RInv nx fr but M (out.set b.toNat true) (td++[b]):=by
  have hr:=(okNext_get hn t.toNat).2 b hb
  have hk:b.toNat < out.length:=(List.getElem?_eq_some_iff.1 hf).1
  have hg:out[b.toNat]=false:=(List.getElem?_eq_some_iff.1 hf).2
  obtain ⟨t0,t1,t2⟩:=h.rng t ht
  have keep:∀ {x:Nat},out[x]? = some true→(out.set b.toNat true)[x]? = some true:=fun q=>(set_true hk).2 (.inr q)
  refine ⟨by simp [h.len],fun k q=>?_,keep h.start,fun x hx=>?_,fun a q=>?_, ?_⟩
  · rcases (set_true hk).1 q with rfl | q
    · have e:((b.toNat:Nat):Int)=b:=by omega
      rw [e]
      refine .step (a:=t) ?_ hb hne
      have:=h.sound t.toNat t2
      have e2:((t.toNat:Nat):Int)=t:=by omega
      rwa [e2] at this
    · exact h.sound k q
  · rcases List.mem_append.1 hx with hx | hx
    · obtain ⟨x0,x1,x2⟩:=h.rng x hx
      exact ⟨x0,x1,keep x2⟩
    · have:x=b:=by simpa using hx
      subst this
      exact ⟨hr.1,hr.2,(set_true hk).2 (.inl rfl)⟩
  · rcases (set_true hk).1 q with rfl | q
    · left;refine List.mem_append_right _ ?_;simp;omega
    · rcases h.closed a q with z | z
      · exact .inl (List.mem_append_left _ z)
      · exact .inr fun c hc hcn=>keep (z c hc hcn)
  · have:=h.cnt
    rw [List.count_set hk,hg]
    have hpos:0 < out.count false:=List.count_pos_iff.2 (by rw [← hg];exact List.getElem_mem hk)
    simp
    omega
theorem RInv.pop {nx : List (List Int)} {fr but : Int} {M : Nat} {out : List Bool} {t : Int} {td : List Int} (h : RInv nx fr but M out (t :: td)) (hd : ∀ b ∈ nx[t.toNat]?.getD default, b ≠ but → out[b.toNat]? = some true) : RInv nx fr but (M - 1) out td := by
  refine ⟨h.len,h.sound,h.start,fun x hx=>h.rng x (List.mem_cons_of_mem _ hx),fun a q=>?_, ?_⟩
  · rcases h.closed a q with z | z
    · rcases List.mem_cons.1 z with e | z
      · right
        intro b hb
        refine hd b ?_
        have:a=t.toNat:=by omega
        rw [← this];exact hb
      · exact .inl z
    · exact .inr z
  · have:=h.cnt
    simp only [List.length_cons] at this
    omega
theorem RInv.tight {nx:List (List Int)} {fr but:Int} {M:Nat} {out:List Bool} {td:List Int} (h:RInv nx fr but M out td):RInv nx fr but (td.length + out.count false) out td :=
  ⟨h.len,h.sound,h.start,h.rng,h.closed,Nat.le_refl _⟩
@[simp] theorem renL_rows {α:Type} (σ:List Nat) (f:α→D):(renL σ ∘ fun n=>[V.d (f n)])=fun n=>[V.d (f n)]:=by
  funext n;simp [renL,V.ren]
theorem rows_under {α:Type} (l:List α) (f:α→D) (m:Nat):∀ x∈l.map (fun n=>[V.d (f n)]),∀ c∈x,c.under m=true:=by
  intro x hx c hc
  obtain ⟨b,_,rfl⟩:=List.mem_map.1 hx
  have:c=V.d (f b):=by simpa using hc
  subst this;rfl
theorem rB_set (l:List Bool) (k:Nat) (b:Bool):(rB l).set k [.d (.bool b)]=rB (l.set k b):=(List.map_set ..).symm
theorem rB_init (n k:Nat):(List.replicate n [V.d (.bool false)]).set k [.d (.bool true)]=rB ((List.replicate n false).set k true):=by
  rw [← rB_set];congr 1;exact (List.map_replicate (f:=fun n:Bool=>[V.d (.bool n)])).symm
theorem reach_c (nx : List (List Int)) (fr but : Int) (hn : okNext nx) (h0 : 0 ≤ fr) (h1 : fr < nx.length) : PureP Tryz.prog 39 [.d (dIntSS nx), .d (.int .i64 fr), .d (.int .i64 but)] (· = .d (dBoolS (rchB nx fr but))) := by
  have h8:=hn.1
  have f1:(nx.length:Int) * 1≤140737488355328:=by omega
  have f2:(nx.length:Int)≤140737488355328:=by omega
  by_cases hfb:fr=but
  · refine PureP.le (pure_of Tryz.func39 en_39 rfl rfl (W_run mixed ⟨[],[],[],58,0,[0,1,2,6,7,8,10,16,25,33,34,35,36,48],[16,25,36,44,48]⟩ (fun _=>[]) (by kernel_rfl) ?_))
    simp only [Tryz.f39,stripX,stripOps,pickOps]
    simp [hfb,f1,f2]
    have hno:∀ k,¬ Rch nx fr but k:=fun k hk=>by
      induction hk with
      | base h=>exact h hfb
      | step _ _ _ ih=>exact ih
    refine ⟨rfl,by simp [rchB],fun k hk j hj=>?_⟩
    dsimp only
    have:j=0:=by omega
    subst this
    rw [List.getElem?_replicate,if_pos hk]
    simp [closeD,rchB,hk,hno,hfb ▸ hno]
  refine PureP.le (pure_of Tryz.func39 en_39 rfl rfl (W_run mixed ⟨[],[],[],58,0,[0,1,2,6,7,8,10,16,25,33,34,35,36,48],[16,25,36,44,48]⟩ (fun _=>[]) (by kernel_rfl) ?_))
  simp only [Tryz.f39,stripX,stripOps,pickOps]
  simp [hfb,f1,f2,h0,h1]
  rw [rB_init]
  refine W_loopS (α:=List Bool × List Int × List Int) (fun a=>[(0,.d (dIntSS nx)),(2,.d (.int .i64 but)),(7,.sl 0 1 0 nx.length),(8,.sl 1 1 a.2.1.length a.2.2.length)])
    (fun a=>[.row 1 (rB a.1),.row 1 (rI (a.2.1++a.2.2))]) (fun a=>∃ M,M≤nx.length∧RInv nx fr but M a.1 a.2.2) (fun a=>a.2.2.length + a.1.count false) ((List.replicate nx.length false).set fr.toNat true,[],[fr]) [0,1] ?_ ?_ ?_
  · simp
    rw [rB_init]
    exact rows_under _ _ _
  · exact ⟨nx.length,Nat.le_refl _,RInv.init hfb h0 h1⟩
  rintro ⟨out,pre,td⟩ ⟨M,hM,hI⟩
  dsimp only at hI
  cases td with
  | nil =>
    refine W_run mixed ⟨[],[],[],58,0,[0,1,2,6,7,8,10,16,25,33,34,35,36,48],[16,25,36,44,48]⟩ (fun _=>[]) (by kernel_rfl) ?_
    simp only [stripX,stripOps,pickOps]
    simp []
    rw [if_pos (by rw [hI.len];exact Nat.le_refl _),← hI.done hn h0]
    refine ⟨rfl,hI.len.symm,fun i hi j hj=>?_⟩
    have:j=0:=by omega
    subst this
    have hi':i < out.length:=by rw [hI.len];exact hi
    dsimp only
    rw [List.getElem?_eq_getElem hi']
    simp [closeD]
  | cons t td =>
    have hget:(pre++t :: td)[pre.length]?.getD default=t:=by simp
    have hcn:=hI.cnt
    simp only [List.length_cons] at hcn
    refine W_run mixed ⟨[],[],[],58,0,[0,1,2,6,7,8,10,16,25,33,34,35,36,48],[16,25,36,44,48]⟩ (fun _=>[]) (by kernel_rfl) ?_
    simp only [stripX,stripOps,pickOps]
    simp [hget]
    obtain ⟨t0,t1,t2⟩:=hI.rng t List.mem_cons_self
    refine ⟨⟨t0,t1⟩, ?_⟩
    obtain ⟨l2,lr⟩:=okNext_get hn t.toNat
    generalize hl:nx[t.toNat]?.getD default=l at l2 lr
    refine W_loopS (α:=List Bool × List Int × List Int × Nat) (fun a=>[(0,.d (dIntSS nx)),(2,.d (.int .i64 but)),(7,.sl 0 1 0 nx.length),(8,.sl 1 1 a.2.1.length (a.2.2.1.length + 1)),(33,.d (dIntS l)),(34,.d (.int .i64 l.length)),(35,.d (.int .i64 a.2.2.2))])
      (fun a=>[.row 1 (rB a.1),.row 1 (rI (a.2.1++t :: a.2.2.1))])
      (fun a=>RInv nx fr but (td.length + 1 + out.count false) a.1 (t :: a.2.2.1)∧a.2.2.2≤l.length∧∀ b∈l.take a.2.2.2,b ≠ but→a.1[b.toNat]? = some true) (fun a=>l.length - a.2.2.2) (out,pre,td,0) [0,1] ?_ ?_ ?_
    · simp
    · exact ⟨hI.tight,Nat.zero_le _,fun b hb=>absurd hb List.not_mem_nil⟩
    rintro ⟨out1,pre1,td1,j⟩ ⟨hI1,hj,hd⟩
    dsimp only at hI1 hj hd
    refine W_run mixed ⟨[],[],[],58,0,[0,1,2,6,7,8,10,16,25,33,34,35,36,48],[16,25,36,44,48]⟩ (fun _=>[]) (by kernel_rfl) ?_
    simp only [stripX,stripOps,pickOps]
    simp [hget]
    have stay:(hjl:j < l.length)→(∀ b∈l.take j,b ≠ but→out1[b.toNat]? = some true)→(l[j]?.getD 0 ≠ but→out1[(l[j]?.getD 0).toNat]? = some true)→∀ b∈l.take (j + 1),b ≠ but→out1[b.toNat]? = some true:=by
      intro hjl h2 h3 b hb hne
      rw [List.take_succ_eq_append_getElem hjl] at hb
      rcases List.mem_append.1 hb with hb | hb
      · exact h2 b hb hne
      · have:b=l[j]:=by simpa using hb
        subst this
        have e:l[j]?.getD 0=l[j]:=by rw [List.getElem?_eq_getElem hjl];rfl
        rw [e] at h3
        exact h3 hne
    have wj:j < l.length→IntKind.i64.wrap ((j:Int) + 1)=((j + 1:Nat):Int):=fun h=>by rw [wrap_id] <;> omega
    have hcn1:=hI1.cnt
    simp only [List.length_cons] at hcn1
    refine ⟨fun hjl=>⟨hjl, ?_⟩,fun hjl=>?_⟩
    · have hb:l[j]?.getD 0∈l:=by rw [List.getElem?_eq_getElem hjl];exact List.getElem_mem hjl
      obtain ⟨b0,b1⟩:=lr _ hb
      have hbo:(l[j]?.getD 0).toNat < out1.length:=by rw [hI1.len];omega
      have hval:∀ v,out1[(l[j]?.getD 0).toNat]?.getD false=v→out1[(l[j]?.getD 0).toNat]? = some v:=fun v h=>by
        rw [List.getElem?_eq_getElem hbo] at h ⊢
        exact congrArg some h
      refine ⟨⟨b0,b1⟩,hbo,fun hf=>⟨fun hne=>⟨⟨b0,b1⟩,hbo,⟨by omega,by omega⟩, ?_⟩,fun he=>?_⟩,fun hf=>?_⟩
      · have hp:=hI1.push hn List.mem_cons_self (by rw [hl];exact hb) hne (hval _ hf)
        refine ⟨out1.set (l[j]?.getD 0).toNat true,[],td1++[l[j]?.getD 0],j + 1,⟨hp,by omega, ?_⟩,by omega,[0,3],by simp, ?_,by simp,by simp,wj hjl⟩
        · intro b hb2 hbn
          rw [List.take_succ_eq_append_getElem hjl] at hb2
          rcases List.mem_append.1 hb2 with hb2 | hb2
          · exact (set_true hbo).2 (.inr (hd b hb2 hbn))
          · have:b=l[j]:=by simpa using hb2
            subst this
            refine (set_true hbo).2 (.inl ?_)
            rw [List.getElem?_eq_getElem hjl];rfl
        · simp
          rw [rB_set]
          exact rows_under _ _ _
      · exact ⟨out1,pre1,td1,j + 1,⟨hI1,by omega,stay hjl hd fun h=>absurd he h⟩,by omega,[0,1],by simp,by simp,by simp,by simp,wj hjl⟩
      · exact ⟨out1,pre1,td1,j + 1,⟨hI1,by omega,stay hjl hd fun _=>hval _ hf⟩,by omega,[0,1],by simp,by simp,by simp,by simp,wj hjl⟩
    · have hd':∀ b∈nx[t.toNat]?.getD default,b ≠ but→out1[b.toNat]? = some true:=by
        rw [hl];intro b hb;exact hd b (by rw [List.take_of_length_le hjl];exact hb)
      have hp:=hI1.pop hd'
      have:=hp.cnt
      refine ⟨out1,pre1++[t],td1,⟨_,by omega,hp⟩,by omega,[0,1],by simp, ?_,by simp,by simp⟩
      simp
noncomputable def K_39:Ent Tryz.prog:=Ent.p3 (α:=List (List Int)) (β:=Int) (γ:=Int) 39 (fun nx fr but=>okNext nx∧0≤fr∧fr < nx.length) (fun nx fr but=>.d (dBoolS (rchB nx fr but))) (fun nx fr but hc=>reach_c nx fr but hc.1 hc.2.1 hc.2.2)
theorem K_39_f:K_39.f=39:=rfl
theorem K_39_e (nx:List (List Int)) (fr:Int) (but:Int):K_39.e [.d (dIntSS nx),.d (.int .i64 fr),.d (.int .i64 but)]=some (okNext nx∧0≤fr∧fr < nx.length,.d (dBoolS (rchB nx fr but)),[]):=by unfold K_39;exact Ent.p3_eq (α:=List (List Int)) (β:=Int) (γ:=Int) nx fr but
noncomputable def K_39h:EntH Tryz.prog:=EntH.pk3 (α:=List (List Int)) (β:=Int) (γ:=Int) 39 (fun nx fr but=>okNext nx∧0≤fr∧fr < nx.length) (fun nx fr but=>.d (dBoolS (rchB nx fr but))) (fun nx fr but=>[]) (fun nx fr but hc=>PureP.ans (reach_c nx fr but hc.1 hc.2.1 hc.2.2))
theorem K_39h_f:K_39h.f=39:=rfl
theorem K_39h_g:K_39h.gro=true:=rfl
theorem K_39h_e {x1 x2 x3:V} {H:Heap}:K_39h.e [x1,x2,x3] H=guardR ((decA (α:=List (List Int)) H x1).1∧(decA (α:=Int) H x2).1∧(decA (α:=Int) H x3).1) (peekR (okNext (decA (α:=List (List Int)) H x1).2∧0≤(decA (α:=Int) H x2).2∧(decA (α:=Int) H x2).2 < (decA (α:=List (List Int)) H x1).2.length) (.d (dBoolS (rchB (decA (α:=List (List Int)) H x1).2 (decA (α:=Int) H x2).2 (decA (α:=Int) H x3).2))) ([]) H):=rfl
end Go.Proofs.YthafdegfjadijaaGreat
end
