/- All uses of values in a closed view: uses with a closure that keeps a state; counts. No condition. -/
import Derived.Test.YtnomiclfiijniaaGreatQS7
import Derived.Test.YtnomiclfiijniaaGreatQS13
import Derived.Test.YtnomiclfiijniaaGreatQS20
import Derived.Test.YtnomiclfiijniaaGreatQS38
import Derived.Test.YtnomiclfiijniaaGreatQE6
import Derived.Test.YtnomiclfiijniaaGreatQS41
section
namespace Go.Proofs.YtnomiclfiijniaaGreat
set_option linter.unusedVariables false
set_option linter.unusedSimpArgs false
def isBS:Op→Bool
  | .buildSlice ..=>true
  | _=>false
def sideZ (i0:Nat) (env:Env) (H:Heap) (o:Op):Prop:=sideA i0 env o∧(isBS o=true→i0 < H.length)
def opZ (P:Program) (Γ:Table) (own:List FuncId) (i0:Nat) (env:Env) (H:Heap) (o:Op) (k:V→Heap→Prop):Prop:=sideZ i0 env H o∧opT P Γ own env H o k
def stepZ (P:Program) (Γ:Table) (own:List FuncId) (i0:Nat) (all:List (Option Nat)) (o:SOp) (env:Env) (H:Heap) (K:Env→Heap→Prop):Prop :=
  match o.guard with
  | none=>opZ P Γ own i0 env H o.op fun v H'=>K (updO env o.dst v) H'
  | some _=>False
def opsZ (P:Program) (Γ:Table) (own:List FuncId) (i0:Nat) (all:List (Option Nat)):List SOp→Env→Heap→(Env→Heap→Prop)→Prop
  | [],env,H,k=>k env H
  | o :: rest,env,H,k=>stepZ P Γ own i0 all o env H fun e h=>opsZ P Γ own i0 all rest e h k
section
variable {P:Program} {Γ:Table} {own:List FuncId} {i0:Nat} {all:List (Option Nat)}
end
section
variable {P:Program} {Γ:Table} {own:List FuncId} {x:Ctx} {N i0:Nat}
end
attribute [simp] isBS sideZ opZ stepZ opsZ
end Go.Proofs.YtnomiclfiijniaaGreat
end

section
namespace Go.Proofs.YtnomiclfiijniaaGreat
set_option linter.unusedVariables false
set_option linter.unusedSimpArgs false
structure HLe (G H:Heap):Prop where
  len:G.length=H.length
  at_:∀ i:Nat,G[i]? = H[i]?∨∃ (e:Nat) (es es':List (List V)),G[i]? = some (Place.row e es)∧H[i]? = some (Place.row e es')∧es.length=es'.length ∧
    ∀ (k:Nat) (l':List V),es'[k]? = some l'→∃ l:List V,es[k]? = some l∧l.length=l'.length∧∀ (j:Nat) (c':V),l'[j]? = some c'→∃ c:V,l[j]? = some c∧(c=c'∨(VLe c c'∧c'.one=true))
theorem HLe.refl (H:Heap):HLe H H:=⟨rfl,fun _=>.inl rfl⟩
theorem HLe.row {G H:Heap} (h:HLe G H) {i e:Nat} {es:List (List V)}:H[i]? = some (.row e es)→∃ es',G[i]? = some (.row e es'):=fun hi=>by
  rcases h.at_ i with q | ⟨e',es1,es2,q1,q2,_⟩
  · exact ⟨es,q.trans hi⟩
  · rw [q2] at hi
    obtain ⟨rfl,rfl⟩:=Place.row.inj (Option.some.inj hi)
    exact ⟨es1,q1⟩
theorem HLe.row' {G H:Heap} (h:HLe G H) {i e:Nat} {es:List (List V)}:G[i]? = some (.row e es)→∃ es',H[i]? = some (.row e es'):=fun hi=>by
  rcases h.at_ i with q | ⟨e',es1,es2,q1,q2,_⟩
  · exact ⟨es,q.symm.trans hi⟩
  · rw [q1] at hi
    obtain ⟨rfl,rfl⟩:=Place.row.inj (Option.some.inj hi)
    exact ⟨es2,q2⟩
theorem HLe.ownOf {G H:Heap} (h:HLe G H) (φ:List (Nat × Nat)):Go.Proofs.YtnomiclfiijniaaGreat.ownOf φ G=Go.Proofs.YtnomiclfiijniaaGreat.ownOf φ H:=by
  funext g
  apply propext
  constructor
  · rintro ⟨id,e,es,o,h1,h2⟩
    obtain ⟨es',q⟩:=h.row' h1
    exact ⟨id,e,es',o,q,h2⟩
  · rintro ⟨id,e,es,o,h1,h2⟩
    obtain ⟨es',q⟩:=h.row h1
    exact ⟨id,e,es',o,q,h2⟩
theorem HLe.hs {G H:Heap} (h:HLe G H) {X:Nat→Prop} {w:World} {φ:List (Nat × Nat)} (hs:HS X w φ G):HS X w φ H:=by
  have ho:owned X φ H=owned X φ G:=by funext g;unfold owned;rw [h.ownOf φ]
  refine ⟨hs.len.trans h.len,fun i j e es e' es' g o o' hi hj=>?_,fun g hg=>hs.disj g (by rw [h.ownOf];exact hg),fun id e es hid=>?_⟩
  · obtain ⟨_,q1⟩:=h.row hi
    obtain ⟨_,q2⟩:=h.row hj
    exact hs.inj i j _ _ _ _ g o o' q1 q2
  · rw [ho]
    rcases h.at_ id with q | ⟨e',es1,es2,q1,q2,q3,q4⟩
    · exact hs.live id e es (q.trans hid)
    · rw [q2] at hid
      obtain ⟨rfl,rfl⟩:=Place.row.inj (Option.some.inj hid)
      obtain ⟨g,o,cs,t,r1,r2,r3,r4⟩:=hs.live id _ _ q1
      refine ⟨g,o,cs,t,r1,r2,by rw [← q3];exact r3,fun i l hl=>?_⟩
      obtain ⟨l0,p1,p2,p3⟩:=q4 i l hl
      obtain ⟨p4,p5⟩:=r4 i l0 p1
      refine ⟨p2.symm.trans p4,fun j c hc=>?_⟩
      obtain ⟨c0,p6,p7⟩:=p3 j c hc
      obtain ⟨p8,x,p9,p10⟩:=p5 j c0 p6
      rcases p7 with rfl | ⟨p7,p11⟩
      · exact ⟨p8,x,p9,p10⟩
      · exact ⟨p11,x,p9,VS.le _ _ _ p7 p10⟩
theorem HLe.weak {G H:Heap} (h:HLe G H) {n0:Nat} {env:Env}:Weak n0 ⟨env,G⟩ ⟨env,H⟩:=by
  intro x N φ a w hx hs
  have ho:owned x.X φ H=owned x.X φ G:=by funext g;unfold owned;rw [h.ownOf φ]
  exact ⟨φ,⟨h.hs hs.hs,fun t=>by show VS w (owned x.X φ H) φ (env t) _;rw [ho];exact hs.env t,hs.low,hs.defers,hs.size,hs.fr,fun g hg hn=>hs.old g hg (by show Go.Proofs.YtnomiclfiijniaaGreat.ownOf φ G g;rw [h.ownOf];exact hn),hs.ext,by show x.H0.length≤H.length;rw [← h.len];exact hs.long,hs.len0⟩⟩
def IntoW (s:St) (l:List (Nat × V)) (H:Heap):Prop:=HLe s.H H∧intoQ s.env l
theorem IntoW.weak {n0:Nat} {s:St} {l:List (Nat × V)} {H:Heap} (h:IntoW s l H):Weak n0 s ⟨mk l,H⟩:=by
  obtain ⟨env,G⟩:=s
  exact (HLe.weak h.1).trans (IntoH.weak ⟨rfl,h.2⟩)
attribute [simp] IntoW
end Go.Proofs.YtnomiclfiijniaaGreat
end

section
namespace Go.Proofs.YtnomiclfiijniaaGreat
set_option linter.unusedVariables false
set_option linter.unusedSimpArgs false
end Go.Proofs.YtnomiclfiijniaaGreat
end

section
namespace Go.Proofs.YtnomiclfiijniaaGreat
set_option maxRecDepth 100000
set_option linter.unusedSimpArgs false
set_option linter.unusedVariables false
end Go.Proofs.YtnomiclfiijniaaGreat
end

section
namespace Go.Proofs.YtnomiclfiijniaaGreat
set_option maxRecDepth 100000
set_option linter.unusedSimpArgs false
set_option linter.unusedVariables false
section
variable {α:Type} {v:View} {fn:Nat} {caps:List V} {L:Nat} {Hs:α→Heap} {f:α→Int→α}
theorem usesV (s0 : α) (hb8 : v.blocks_.length ≤ 1000) (hsm : ∀ b ∈ v.blocks_, b.insts_.length ≤ 1000 ∧ b.jumps_.length ≤ 1000 ∧ (∀ x ∈ b.insts_, x.args_.length ≤ 1000) ∧ ∀ j ∈ b.jumps_, j.args_.length ≤ 1000)
    (hL:∀ s,(Hs s).length=L) (hb:∀ s,placesBelow L (Hs s)) (hc:belowL L caps=true)
    (h:∀ s x n g,x∈v.blocks_.flatMap allU→1≤n→g 0=D.int .i64 x→CallsD Tryz.prog fn (.d (.rp n g) :: caps) (Hs s) fun r H'=>r=.tup []∧H'=Hs (f s x)) :
    CallsD Tryz.prog 100 [.d (.rp 5 (dView v)),.clo fn caps] (Hs s0) fun r H'=>r=.tup []∧H'=Hs ((v.blocks_.flatMap allU).foldl f s0):=by
  have tk:∀ s,List.take L (Hs s)=Hs s:=fun s=>List.take_of_length_le (by rw [hL];exact Nat.le_refl _)
  have fin:∀ T,Fin L (Hs T) (.tup []) (Hs T) (.tup []):=fun T=>Fin.drop (by simp) (by rw [hL];exact hb T) rfl (by rw [hL];exact Nat.le_refl _)
  refine calls_of Tryz.func100 en_100 rfl (of_decide_eq_true rfl) (W_run mixed ⟨[],[],[134],60,(Hs s0).length,[0,1,4,5,6,7,12,13,14,26,27,28,38,39,40],[14,28,40]⟩ (fun _=>[]) (by kernel_rfl) ?_)
  simp only [Tryz.f100,stripX,stripOps,pickOps]
  simp []
  rw [hL s0]
  refine W_loopA (α:=α × Nat) (fun a=>[(0,.d (.rp 5 (dView v))),(1,.clo fn caps),(12,.d (.int .i64 v.blocks_.length)),(13,.d (.int .i64 a.2))]) (fun a=>Hs a.1)
    (fun a=>a.2≤v.blocks_.length∧((v.blocks_.drop a.2).flatMap allU).foldl f a.1=(v.blocks_.flatMap allU).foldl f s0) (fun a=>v.blocks_.length - a.2) (s0,0) ?_ ?_ ?_
  · simp [hL,hb,hc,tk]
  · simp
  rintro ⟨s,i⟩ ⟨hi,hT⟩
  dsimp only at hi hT
  by_cases hil:i < v.blocks_.length
  · have hin:(i:Int) < v.blocks_.length:=by omega
    have hmem:v.blocks_[i]?.getD default∈v.blocks_:=by rw [List.getElem?_eq_getElem hil];exact List.getElem_mem hil
    obtain ⟨m1,m2,m3,m4⟩:=hsm _ hmem
    have hU:∀ x∈allU (v.blocks_[i]?.getD default),x∈v.blocks_.flatMap allU:=fun x hx=>List.mem_flatMap.2 ⟨_,hmem,hx⟩
    rw [drop_cons hil,List.flatMap_cons,List.foldl_append] at hT
    refine W_run mixed ⟨[],[],[134],60,L,[0,1,4,5,6,7,12,13,14,26,27,28,38,39,40],[14,28,40]⟩ (fun _=>[]) (by kernel_rfl) ?_
    simp only [stripX,stripOps,pickOps]
    simp [hL,hb,hc,tk,hil]
    generalize hbk:v.blocks_[i]?.getD default=b at m1 m2 m3 m4 hU hT
    have hbk2:∀ h:i < v.blocks_.length,v.blocks_[i]=b:=fun h=>by rw [← hbk,List.getElem?_eq_getElem h];rfl
    have hdb:∀ h:i < v.blocks_.length,D.rp 5 (fun j=>dBlock (v.blocks_[i]?.getD default) j)=D.rp 5 (dBlock b):=fun h=>by rw [hbk]
    have eU:allU b=b.insts_.flatMap (·.args_)++usedL b:=rfl
    rw [eU,List.foldl_append] at hT
    refine W_loopA (α:=α × Nat) (fun a=>[(0,.d (.rp 5 (dView v))),(1,.clo fn caps),(4,.d (.int .i64 i)),(5,.d (.rp 5 (dBlock b))),(12,.d (.int .i64 v.blocks_.length)),(13,.d (.int .i64 i)),(26,.d (.int .i64 b.insts_.length)),(27,.d (.int .i64 a.2))]) (fun a=>Hs a.1)
      (fun a=>a.2≤b.insts_.length∧((b.insts_.drop a.2).flatMap (·.args_)).foldl f a.1=(b.insts_.flatMap (·.args_)).foldl f s) (fun a=>b.insts_.length - a.2) (s,0) ?_ ?_ ?_
    · simp [hL,hb,hc,tk,hbk,hbk2]
    · simp
    rintro ⟨s1,j⟩ ⟨hj,hT1⟩
    dsimp only at hj hT1
    by_cases hjl:j < b.insts_.length
    · have hmi:b.insts_[j]?.getD default∈b.insts_:=by rw [List.getElem?_eq_getElem hjl];exact List.getElem_mem hjl
      have hal:=m3 _ hmi
      rw [drop_cons hjl,List.flatMap_cons,List.foldl_append] at hT1
      have hUi:∀ x∈(b.insts_[j]?.getD default).args_,x∈v.blocks_.flatMap allU:=fun x hx=>hU x (by rw [eU];exact List.mem_append_left _ (List.mem_flatMap.2 ⟨_,hmi,hx⟩))
      obtain ⟨y,hy⟩:∃ y:Inst,b.insts_[j]? = some y:=⟨_,List.getElem?_eq_getElem hjl⟩
      have hyg:b.insts_[j]?.getD default=y:=by rw [hy];rfl
      have hy2:∀ h:j < b.insts_.length,b.insts_[j]=y:=fun h=>Option.some.inj ((List.getElem?_eq_getElem h).symm.trans hy)
      rw [hyg] at hal hUi hT1
      refine W_run mixed ⟨[],[],[134],60,L,[0,1,4,5,6,7,12,13,14,26,27,28,38,39,40],[14,28,40]⟩ (fun _=>[]) (by kernel_rfl) ?_
      simp only [stripX,stripOps,pickOps]
      simp [hL,hb,hc,tk,hil,hbk,hbk2,hjl,hyg,hy2]
      generalize hargs:y.args_=av at hal hUi hT1
      refine W_loopA (α:=α × Nat) (fun a=>[(0,.d (.rp 5 (dView v))),(1,.clo fn caps),(4,.d (.int .i64 i)),(5,.d (.rp 5 (dBlock b))),(6,.d (.int .i64 j)),(12,.d (.int .i64 v.blocks_.length)),(13,.d (.int .i64 i)),(26,.d (.int .i64 b.insts_.length)),(27,.d (.int .i64 j)),(38,.d (.int .i64 av.length)),(39,.d (.int .i64 a.2))]) (fun a=>Hs a.1)
        (fun a=>a.2≤av.length∧(av.drop a.2).foldl f a.1=av.foldl f s1) (fun a=>av.length - a.2) (s1,0) ?_ ?_ ?_
      · simp [hL,hb,hc,tk,hargs]
      · simp
      rintro ⟨s2,k⟩ ⟨hk,hT2⟩
      dsimp only at hk hT2
      by_cases hka:k < av.length
      · have hx:av[k]?.getD 0∈av:=by rw [List.getElem?_eq_getElem hka];exact List.getElem_mem hka
        have hdr:av.drop k=av[k]?.getD 0 :: av.drop (k + 1):=by
          rw [List.drop_eq_getElem_cons hka,List.getElem?_eq_getElem hka];rfl
        rw [hdr,List.foldl_cons] at hT2
        refine W_run mixed ⟨[],[],[134],60,L,[0,1,4,5,6,7,12,13,14,26,27,28,38,39,40],[14,28,40]⟩ (fun _=>[]) (by kernel_rfl) ?_
        simp only [stripX,stripOps,pickOps]
        simp [hL,hb,hc,tk,hil,hbk,hjl,hyg,hy2,hargs,hka]
        rw [aft_call]
        refine (h s2 (av[k]?.getD 0) _ _ (hUi _ hx) (Nat.le_refl _) (by rw [List.getElem?_eq_getElem hka];rfl)).mono ?_
        rintro r H' ⟨rfl,rfl⟩
        simp [hL,hb,hc,tk]
        exact ⟨_,k + 1,⟨by omega,hT2⟩,by omega,rfl,by rw [wrap_id] <;> omega⟩
      · rw [List.drop_eq_nil_of_le (by omega)] at hT2
        have e:s2=av.foldl f s1:=hT2
        refine W_run mixed ⟨[],[],[134],60,L,[0,1,4,5,6,7,12,13,14,26,27,28,38,39,40],[14,28,40]⟩ (fun _=>[]) (by kernel_rfl) ?_
        simp only [stripX,stripOps,pickOps]
        simp [hL,hb,hc,tk,hka]
        exact ⟨s2,j + 1,⟨by omega,by rw [e];exact hT1⟩,by omega,rfl,by rw [wrap_id] <;> omega⟩
    · rw [List.drop_eq_nil_of_le (by omega)] at hT1
      have e1:s1=(b.insts_.flatMap (·.args_)).foldl f s:=hT1
      refine W_run mixed ⟨[],[],[134],60,L,[0,1,4,5,6,7,12,13,14,26,27,28,38,39,40],[14,28,40]⟩ (fun _=>[]) (by kernel_rfl) ?_
      simp only [stripX,stripOps,pickOps]
      simp [hL,hb,hc,tk,hil,hbk,hjl]
      rw [aft_call]
      refine (usedOwn (b:=b) s1 m2 m4 hL hb hc fun s x n g hx=>h s x n g (hU x (by rw [eU];exact List.mem_append_right _ hx))).mono ?_
      rintro r H' ⟨rfl,rfl⟩
      simp [hL,hb,hc,tk]
      exact ⟨_,i + 1,⟨by omega,by rw [e1];exact hT⟩,by omega,rfl,by rw [wrap_id] <;> omega⟩
  · rw [List.drop_eq_nil_of_le (by omega)] at hT
    refine W_run mixed ⟨[],[],[134],60,L,[0,1,4,5,6,7,12,13,14,26,27,28,38,39,40],[14,28,40]⟩ (fun _=>[]) (by kernel_rfl) ?_
    simp only [stripX,stripOps,pickOps]
    simp [retQ,hil]
    rw [← hT];exact fin _
end
def cntH (n tot:Nat) (c:Nat→Int):Heap:=deads n++[.row 1 ((List.range tot).map fun j=>[.d (.int .i64 (c j))]),.row 1 [[.sl n 1 0 tot]]]
theorem cntH_len (n tot:Nat) (c:Nat→Int):(cntH n tot c).length=n + 2:=by simp [cntH]
theorem cntH_below (n tot:Nat) (c:Nat→Int):placesBelow (n + 2) (cntH n tot c):=by
  have key:∀ (m:Nat) (R:Heap),placesBelow (n + 2) R→placesBelow (n + 2) (deads m++R):=fun m R hR=>by
    induction m with
    | zero=>exact hR
    | succ m ih=>exact ⟨rfl,ih⟩
  refine key n _ ?_
  simp [placesBelow]
def cntF (c:Nat→Int) (x:Int) (j:Nat):Int:=if j=x.toNat then IntKind.i64.wrap (c j + 1) else c j
theorem counts1_c {m tot:Nat} (c:Nat→Int) (x:Int) (n:Nat) (g:Nat→D) (h0:0≤x) (h1:x < tot) (hn:1≤n) (hg:g 0=D.int .i64 x) :
    CallsD Tryz.prog 101 [.d (.rp n g),.ptr (m + 1) 1 0 0] (cntH m tot c) fun r H'=>r=.tup []∧H'=cntH m tot (cntF c x):=by
  have hxt:x.toNat < tot:=by omega
  have hset:((List.range tot).map fun j=>[V.d (.int .i64 (c j))]).set x.toNat [.d (.int .i64 (IntKind.i64.wrap (c x.toNat + 1)))]=(List.range tot).map fun j=>[V.d (.int .i64 (cntF c x j))]:=by
    refine List.ext_getElem? fun j=>?_
    rw [List.getElem?_set,List.getElem?_map,List.getElem?_map]
    by_cases hjt:j < tot
    · rw [List.getElem?_range hjt]
      by_cases hj:x.toNat=j
      · subst hj;simp [cntF,hxt]
      · simp [cntF,hj,Ne.symm hj]
    · have h2:¬ x.toNat=j:=by omega
      have h3:(List.range tot)[j]? = none:=by simp;omega
      rw [if_neg h2,h3];rfl
  have k0:(cntH m tot c)[m]? = some (.row 1 ((List.range tot).map fun j=>[V.d (.int .i64 (c j))])):=by
    unfold cntH;rw [List.getElem?_append_right (by simp)];simp
  have k1:(cntH m tot c)[m + 1]? = some (.row 1 [[.sl m 1 0 tot]]):=by
    unfold cntH;rw [List.getElem?_append_right (by simp)];simp
  have ks:(cntH m tot c).set m (.row 1 ((List.range tot).map fun j=>[V.d (.int .i64 (cntF c x j))]))=cntH m tot (cntF c x):=by
    unfold cntH;rw [List.set_append_right _ _ (by simp)];simp
  have kl:=cntH_len m tot c
  have kl2:=cntH_len m tot (cntF c x)
  generalize hH:cntH m tot c=H at *
  generalize hH2:cntH m tot (cntF c x)=H2 at *
  refine calls_of Tryz.func101 en_101 rfl (of_decide_eq_true rfl) (W_run mixed ⟨[],[],[],11,H.length,[0,1],[]⟩ (fun | 0=>[1,2,0,3,4,5,6,7,8] | _=>[]) (by kernel_rfl) ?_)
  simp only [Tryz.f101,stripX,stripOps,pickOps]
  simp [retQ,h0,h1,hn,hg,hxt,hset,k0,k1,ks]
  exact Fin.same (by omega)
theorem sum_le {α:Type} (f:α→Nat) (c:Nat):∀ l:List α,(∀ x∈l,f x≤c)→(l.map f).sum≤c * l.length
  | [],_=>by simp
  | x :: l,h=>by
    have:=sum_le f c l fun y hy=>h y (List.mem_cons_of_mem _ hy)
    have h1:=h x List.mem_cons_self
    rw [List.map_cons,List.sum_cons,List.length_cons,Nat.mul_succ];omega
def usesN (bs:List Block) (j:Nat):Int:=(((bs.flatMap allU).filter fun x=>x.toNat == j).length:Nat)
theorem cnt_fold (l : List Int) : ∀ (c : Nat → Int), (∀ j, 0 ≤ c j) → (∀ j, c j + l.length ≤ 1000000000) → ∀ j, l.foldl cntF c j = c j + ((l.filter fun x => x.toNat == j).length : Nat) := by
  induction l with
  | nil=>intro c _ _ j;simp
  | cons x l ih =>
    intro c h0 h1 j
    have hx:∀ j,cntF c x j=c j + if x.toNat=j then 1 else 0:=fun j=>by
      unfold cntF
      by_cases h:j=x.toNat
      · have:=h0 j;have:=h1 j
        rw [if_pos h,if_pos h.symm,wrap_id (by omega) (by omega)]
      · rw [if_neg h,if_neg (Ne.symm h),Int.add_zero]
    rw [List.foldl_cons,ih (cntF c x) (fun j=>by rw [hx];have:=h0 j;split <;> omega) (fun j=>by rw [hx];have:=h1 j;rw [List.length_cons] at this;split <;> omega),hx,List.filter_cons]
    by_cases h:x.toNat=j
    · rw [if_pos h,if_pos (by simpa using h),List.length_cons];omega
    · rw [if_neg h,if_neg (by simpa using h)];omega
def cntsL (v:View):List Int:=(List.range v.total_.toNat).map fun j=>usesN v.blocks_ j
theorem counts_tree (n:Nat) (v:View) (hm:0≤v.total_∧v.total_≤1000) (hb8:v.blocks_.length≤1000) (hsm:∀ b∈v.blocks_,b.insts_.length≤1000∧b.jumps_.length≤1000∧(∀ x∈b.insts_,x.args_.length≤1000)∧∀ j∈b.jumps_,j.args_.length≤1000)
    (hU:∀ x∈v.blocks_.flatMap allU,0≤x∧x < v.total_) (hUl:(v.blocks_.flatMap allU).length≤1000000000):CallsD Tryz.prog 50 [.d (.rp 5 (dView v))] (deads n) fun r H'=>∃ s:AS Int,r=s.v∧s.l=cntsL v∧New (deads n) H' s:=by
  obtain ⟨tot,htot⟩:∃ n:Nat,v.total_=n:=⟨v.total_.toNat,by omega⟩
  have f1:(tot:Int) * 8≤140737488355328:=by omega
  have f2:(tot:Int)≤140737488355328:=by omega
  have f3:(0:Int)≤tot:=by omega
  have hln:(deads n).length=n:=by simp
  generalize hH:deads n=H at *
  refine calls_of Tryz.func50 en_50 rfl (of_decide_eq_true rfl) (W_run mixed ⟨[],[],[100],15,H.length,[0,2,3],[]⟩ (fun _=>[]) (by kernel_rfl) ?_)
  simp only [Tryz.f50,stripX,stripOps,pickOps]
  simp [-V.flat,-V.one,one_int,one_bool,one_str,one_nilp,one_rp,one_nilsl,one_ro,one_cl,one_nilf,one_nili,one_ifc,one_ptr,one_sl,one_clo,flat_d,flat_ptr,flat_sl,flat_clo,flat_agg,htot,f1,f2,f3]
  rw [aft_call]
  have e0:H++[Place.row 1 (List.replicate tot [V.d (.int .i64 0)]),.row 1 [[.sl H.length 1 0 tot]]]=cntH n tot (fun _=>0):=by
    unfold cntH
    rw [hH,hln,show (List.range tot).map (fun _=>[V.d (.int .i64 0)])=List.replicate tot [V.d (.int .i64 0)] by rw [List.map_const',List.length_range]]
  rw [e0,hln]
  refine (usesV (v:=v) (fn:=101) (caps:=[.ptr (n + 1) 1 0 0]) (L:=n + 2) (Hs:=cntH n tot) (f:=cntF) (fun _=>0) hb8 hsm (fun c=>cntH_len n tot c) (fun c=>cntH_below n tot c) (by simp) fun c x n' g hx hn hg=>counts1_c c x n' g (hU x hx).1 (by have:=(hU x hx).2;omega) hn hg).mono ?_
  rintro r H' ⟨rfl,rfl⟩
  obtain ⟨l,hl⟩:∃ l:List Int,l=(List.range tot).map ((v.blocks_.flatMap allU).foldl cntF (fun _=>0)):=⟨_,rfl⟩
  have hll:l.length=tot:=by rw [hl];simp
  have hle:l=cntsL v:=by
    unfold cntsL
    rw [hl,htot,Int.toNat_natCast]
    refine List.map_congr_left fun j _=>?_
    rw [cnt_fold _ _ (fun _=>Int.le_refl _) (fun _=>by omega),Int.zero_add];rfl
  have er:cntH n tot ((v.blocks_.flatMap allU).foldl cntF (fun _=>0))=H++[.row 1 (rI l),.row 1 [[.sl n 1 0 l.length]]]:=by
    unfold cntH
    rw [hH,hll,hl,rI,List.map_map];rfl
  rw [er]
  have k1:(H++[.row 1 (rI l),.row 1 [[.sl n 1 0 l.length]]])[n + 1]? = some (.row 1 [[.sl n 1 0 l.length]]):=by rw [List.getElem?_append_right (by omega),show n + 1 - H.length=1 by omega];rfl
  have k0:(H++[.row 1 (rI l),.row 1 [[.sl n 1 0 l.length]]])[n]? = some (.row 1 (rI l)):=by rw [List.getElem?_append_right (by omega),show n - H.length=0 by omega];rfl
  have oo:Only [] H (H++[.row 1 (rI l),.row 1 [[.sl n 1 0 l.length]]]):=Only.app _ _ _
  generalize H++[.row 1 (rI l),.row 1 [[.sl n 1 0 l.length]]]=H2 at k0 k1 oo
  simp [-V.flat,-V.one,one_int,one_bool,one_str,one_nilp,one_rp,one_nilsl,one_ro,one_cl,one_nilf,one_nili,one_ifc,one_ptr,one_sl,one_clo,flat_d,flat_ptr,flat_sl,flat_clo,flat_agg,retQ,k1]
  rw [← hln]
  refine fin_new (H0:=H) (a:=(⟨.sl n 1 0 l.length,l⟩:AS Int)) (own_row k0) oo (fun j hj=>?_) fun H' h'=>⟨⟨.sl n 1 0 l.length,l⟩,by rw [hln],hle,h'⟩
  rw [ids_row] at hj
  rw [List.mem_singleton.1 hj,hln];exact Nat.le_refl _
end Go.Proofs.YtnomiclfiijniaaGreat
end
