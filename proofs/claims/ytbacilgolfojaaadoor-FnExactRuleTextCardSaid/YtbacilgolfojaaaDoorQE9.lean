/- The abstract machine: a new tree of a callee becomes closed data, beside places that stay. No condition. -/
import Derived.Test.YtbacilgolfojaaaDoorQE5
section
namespace Go.Proofs.YtbacilgolfojaaaDoor
set_option linter.unusedVariables false
set_option linter.unusedSimpArgs false

section
variable {P:Program} {Γ:Table} {own:List FuncId} {all:List (Option Nat)}
end
section
variable {P:Program} {Γ:Table} {own:List FuncId} {all:List (Option Nat)} {x:Ctx} {N:Nat}
end
def bothQ {P:Program} (C:Cfg P) (a b:List Fm) (Q:Exit→St→Prop):Exit→St→Prop
  | .normal,s=>den C a Q .normal s∧den C b Q .normal s
  | _,_=>False
theorem bothQ_n {P:Program} {C:Cfg P} {a b:List Fm} {Q:Exit→St→Prop} {env:Env} {H:Heap}:bothQ C a b Q .normal ⟨env,H⟩=(den C a Q .normal ⟨env,H⟩∧den C b Q .normal ⟨env,H⟩):=rfl
attribute [simp] bothQ_n
theorem skip_cons {a b:Nat} {l:List Nat}:(b :: l).contains a=(a == b || l.contains a):=rfl
theorem skip_nil {a:Nat}:([]:List Nat).contains a=false:=rfl
def stripS (S:List Nat) (O:Nat→List Nat):Code→XCode
  | .region id ops true=>bif S.contains id then .other (.region id ops true) else stripX O (.region id ops true)
  | .seq a b=>.seq (stripS S O a) (stripS S O b)
  | .cond c a b=>.cond c (stripS S O a) (stripS S O b)
  | .block id c=>.block id (stripS S O c)
  | c=>stripX O c
def codeOkS (S:List Nat) (N:Nat) (own:List FuncId) (O:Nat→List Nat):Code→Bool
  | .region id ops true=>bif S.contains id then true else codeOkX N own O (.region id ops true)
  | .seq a b | .cond _ a b=>codeOkS S N own O a && codeOkS S N own O b
  | .block _ c=>codeOkS S N own O c
  | c=>codeOkX N own O c
theorem W_ofS {P:Program} {Γ:Table} {N n0:Nat} {own:List FuncId} {S:List Nat} {O:Nat→List Nat} (hm:P.follows .mixedOrders=true) (hΓ:Good P Γ) (K:List Nat):∀ {c:Code} {Q:Exit→St→Prop} {s:St},codeOkS S N own O c=true→wpX P Γ own N n0 K (stripS S O c) Q s→W P N n0 c Q s:=by
  intro c
  induction c with
  | region id ops draw =>
    intro Q s hok h
    cases draw with
    | false=>exact W_ofX hm hΓ K hok h
    | true =>
      simp only [codeOkS] at hok
      simp only [stripS] at h
      cases hc:S.contains id with
      | true=>rw [hc] at h;exact h
      | false=>rw [hc] at h hok;exact W_ofX hm hΓ K hok h
  | seq a b iha ihb =>
    intro Q s hok h
    simp only [codeOkS,Bool.and_eq_true] at hok
    refine W_seq (W_mono (iha hok.1 h) ?_)
    intro e s' hq
    cases e with
    | normal=>exact ihb hok.2 hq
    | _=>exact hq
  | cond c a b iha ihb =>
    intro Q s hok h
    simp only [codeOkS,Bool.and_eq_true] at hok
    simp only [stripS,wpX] at h
    split at h
    · rename_i t ht
      refine W_cond (t:=t) (fun x φ a w hx hs=>?_) (fun e=>iha hok.1 (h.1 e)) (fun e=>ihb hok.2 (h.2 e))
      have:=ev_spec hs c
      rw [ht] at this
      simpa only [VS,DS] using this
    · exact h.elim
  | block id c ih=>intro Q s hok h;exact W_block (ih hok h)
  | _=>intro Q s hok h;exact W_ofX hm hΓ K hok h
theorem W_runS {P:Program} (hm:P.follows .mixedOrders=true) (S:List Nat) (C:Cfg P) (O:Nat→List Nat) {c:Code} {Q:Exit→St→Prop} {s:St} (hc:codeOkS S C.N C.own O c=true) (h:den C [.code (stripS S O c)] Q .normal s):W P C.N C.n0 c Q s:=by
  rw [den_eq] at h
  exact W_ofS hm (tabG_good C.l) C.K hc (wpR_X _ (fun _ _ q=>q) _ h)
def midQ {α:Type} (E:α→List (Nat × V)) (Hp:α→Heap) (Inv:α→Prop):Exit→St→Prop
  | .normal,s=>∃ a,Inv a∧s=⟨mk (E a),Hp a⟩
  | _,_=>False
attribute [simp] midQ
end Go.Proofs.YtbacilgolfojaaaDoor
end

section
namespace Go.Proofs.YtbacilgolfojaaaDoor
set_option linter.unusedVariables false
set_option linter.unusedSimpArgs false
def isBS:Op→Bool
  | .buildSlice ..=>true
  | _=>false
def sideZ (i0:Nat) (env:Env) (H:Heap) (o:Op):Prop:=sideA i0 env o∧(isBS o=true→i0 < H.length)
def opZ (P:Program) (Γ:Table) (own:List FuncId) (i0:Nat) (env:Env) (H:Heap) (o:Op) (k:V→Heap→Prop):Prop:=sideZ i0 env H o∧opT P Γ own env H o k
def stepZ (P:Program) (Γ:Table) (own:List FuncId) (i0:Nat) (all:List (Option Nat)) (o:SOp) (env:Env) (H:Heap) (K:Env→Heap→Prop):Prop :=
  match o.guard with
  | none=>opZ P Γ own i0 env H o.op fun v H'=>K (updO env o.dst v) H'
  | some _=>False
def opsZ (P:Program) (Γ:Table) (own:List FuncId) (i0:Nat) (all:List (Option Nat)):List SOp→Env→Heap→(Env→Heap→Prop)→Prop
  | [],env,H,k=>k env H
  | o :: rest,env,H,k=>stepZ P Γ own i0 all o env H fun e h=>opsZ P Γ own i0 all rest e h k
section
variable {P:Program} {Γ:Table} {own:List FuncId} {i0:Nat} {all:List (Option Nat)}
end
section
variable {P:Program} {Γ:Table} {own:List FuncId} {x:Ctx} {N i0:Nat}
end
attribute [simp] isBS sideZ opZ stepZ opsZ
end Go.Proofs.YtbacilgolfojaaaDoor
end

section
namespace Go.Proofs.YtbacilgolfojaaaDoor
set_option linter.unusedVariables false
set_option linter.unusedSimpArgs false
structure HLe (G H:Heap):Prop where
  len:G.length=H.length
  at_:∀ i:Nat,G[i]? = H[i]?∨∃ (e:Nat) (es es':List (List V)),G[i]? = some (Place.row e es)∧H[i]? = some (Place.row e es')∧es.length=es'.length ∧
    ∀ (k:Nat) (l':List V),es'[k]? = some l'→∃ l:List V,es[k]? = some l∧l.length=l'.length∧∀ (j:Nat) (c':V),l'[j]? = some c'→∃ c:V,l[j]? = some c∧(c=c'∨(VLe c c'∧c'.one=true))
theorem HLe.refl (H:Heap):HLe H H:=⟨rfl,fun _=>.inl rfl⟩
theorem HLe.row {G H:Heap} (h:HLe G H) {i e:Nat} {es:List (List V)}:H[i]? = some (.row e es)→∃ es',G[i]? = some (.row e es'):=fun hi=>by
  rcases h.at_ i with q | ⟨e',es1,es2,q1,q2,_⟩
  · exact ⟨es,q.trans hi⟩
  · rw [q2] at hi
    obtain ⟨rfl,rfl⟩:=Place.row.inj (Option.some.inj hi)
    exact ⟨es1,q1⟩
theorem HLe.row' {G H:Heap} (h:HLe G H) {i e:Nat} {es:List (List V)}:G[i]? = some (.row e es)→∃ es',H[i]? = some (.row e es'):=fun hi=>by
  rcases h.at_ i with q | ⟨e',es1,es2,q1,q2,_⟩
  · exact ⟨es,q.symm.trans hi⟩
  · rw [q1] at hi
    obtain ⟨rfl,rfl⟩:=Place.row.inj (Option.some.inj hi)
    exact ⟨es2,q2⟩
theorem HLe.ownOf {G H:Heap} (h:HLe G H) (φ:List (Nat × Nat)):Go.Proofs.YtbacilgolfojaaaDoor.ownOf φ G=Go.Proofs.YtbacilgolfojaaaDoor.ownOf φ H:=by
  funext g
  apply propext
  constructor
  · rintro ⟨id,e,es,o,h1,h2⟩
    obtain ⟨es',q⟩:=h.row' h1
    exact ⟨id,e,es',o,q,h2⟩
  · rintro ⟨id,e,es,o,h1,h2⟩
    obtain ⟨es',q⟩:=h.row h1
    exact ⟨id,e,es',o,q,h2⟩
theorem HLe.hs {G H:Heap} (h:HLe G H) {X:Nat→Prop} {w:World} {φ:List (Nat × Nat)} (hs:HS X w φ G):HS X w φ H:=by
  have ho:owned X φ H=owned X φ G:=by funext g;unfold owned;rw [h.ownOf φ]
  refine ⟨hs.len.trans h.len,fun i j e es e' es' g o o' hi hj=>?_,fun g hg=>hs.disj g (by rw [h.ownOf];exact hg),fun id e es hid=>?_⟩
  · obtain ⟨_,q1⟩:=h.row hi
    obtain ⟨_,q2⟩:=h.row hj
    exact hs.inj i j _ _ _ _ g o o' q1 q2
  · rw [ho]
    rcases h.at_ id with q | ⟨e',es1,es2,q1,q2,q3,q4⟩
    · exact hs.live id e es (q.trans hid)
    · rw [q2] at hid
      obtain ⟨rfl,rfl⟩:=Place.row.inj (Option.some.inj hid)
      obtain ⟨g,o,cs,t,r1,r2,r3,r4⟩:=hs.live id _ _ q1
      refine ⟨g,o,cs,t,r1,r2,by rw [← q3];exact r3,fun i l hl=>?_⟩
      obtain ⟨l0,p1,p2,p3⟩:=q4 i l hl
      obtain ⟨p4,p5⟩:=r4 i l0 p1
      refine ⟨p2.symm.trans p4,fun j c hc=>?_⟩
      obtain ⟨c0,p6,p7⟩:=p3 j c hc
      obtain ⟨p8,x,p9,p10⟩:=p5 j c0 p6
      rcases p7 with rfl | ⟨p7,p11⟩
      · exact ⟨p8,x,p9,p10⟩
      · exact ⟨p11,x,p9,VS.le _ _ _ p7 p10⟩
theorem HLe.weak {G H:Heap} (h:HLe G H) {n0:Nat} {env:Env}:Weak n0 ⟨env,G⟩ ⟨env,H⟩:=by
  intro x N φ a w hx hs
  have ho:owned x.X φ H=owned x.X φ G:=by funext g;unfold owned;rw [h.ownOf φ]
  exact ⟨φ,⟨h.hs hs.hs,fun t=>by show VS w (owned x.X φ H) φ (env t) _;rw [ho];exact hs.env t,hs.low,hs.defers,hs.size,hs.fr,fun g hg hn=>hs.old g hg (by show Go.Proofs.YtbacilgolfojaaaDoor.ownOf φ G g;rw [h.ownOf];exact hn),hs.ext,by show x.H0.length≤H.length;rw [← h.len];exact hs.long,hs.len0⟩⟩
theorem HLe.set {G:Heap} {id e:Nat} {es es':List (List V)} {k:Nat} {l l':List V} (h1:G[id]? = some (.row e es)) (h2:es[k]? = some l) (h3:es'=es.set k l') (h4:l.length=l'.length) (h5:∀ (j:Nat) (c':V),l'[j]? = some c'→∃ c:V,l[j]? = some c∧(c=c'∨(VLe c c'∧c'.one=true))):HLe G (G.set id (.row e es')):=by
  refine ⟨by simp,fun i=>?_⟩
  by_cases e1:id=i
  · subst e1
    refine .inr ⟨e,es,es',h1,List.getElem?_set_self (List.getElem?_eq_some_iff.1 h1).1,by rw [h3];simp,fun k' l1 hk=>?_⟩
    rw [h3,List.getElem?_set] at hk
    split at hk
    · rename_i e2;subst e2
      rw [if_pos (List.getElem?_eq_some_iff.1 h2).1] at hk
      obtain rfl:=Option.some.inj hk
      exact ⟨l,h2,h4,h5⟩
    · exact ⟨l1,hk,rfl,fun j c hc=>⟨c,hc,.inl rfl⟩⟩
  · exact .inl (List.getElem?_set_ne e1).symm
def IntoW (s:St) (l:List (Nat × V)) (H:Heap):Prop:=HLe s.H H∧intoQ s.env l
theorem IntoW.weak {n0:Nat} {s:St} {l:List (Nat × V)} {H:Heap} (h:IntoW s l H):Weak n0 s ⟨mk l,H⟩:=by
  obtain ⟨env,G⟩:=s
  exact (HLe.weak h.1).trans (IntoH.weak ⟨rfl,h.2⟩)
attribute [simp] IntoW
end Go.Proofs.YtbacilgolfojaaaDoor
end

section
namespace Go.Proofs.YtbacilgolfojaaaDoor
set_option linter.unusedVariables false
set_option linter.unusedSimpArgs false
theorem getR_split {H R:Heap} {i e:Nat} {es:List (List V)} (h:(H++R)[i]? = some (.row e es)):(i < H.length∧H[i]? = some (.row e es))∨(H.length≤i∧(deads H.length++R)[i]? = some (.row e es)):=by
  by_cases hi:i < H.length
  · rw [List.getElem?_append_left hi] at h;exact .inl ⟨hi,h⟩
  · rw [List.getElem?_append_right (by omega)] at h
    exact .inr ⟨by omega,by rw [List.getElem?_append_right (by simp;omega),List.length_replicate];exact h⟩
theorem getR_dead {n i e:Nat} {R:Heap} {es:List (List V)} (h:(deads n++R)[i]? = some (.row e es)):n≤i∧R[i - n]? = some (.row e es):=by
  by_cases hi:i < n
  · rw [List.getElem?_append_left (by simpa using hi)] at h
    exact (deads_row h).elim
  · rw [List.getElem?_append_right (by simp;omega),List.length_replicate] at h
    exact ⟨by omega,h⟩
theorem CallsD.close {P : Program} {f : FuncId} {vs : List V} {H : Heap} {r0 : V} (h : CallsD P f vs H fun r H' => ∃ R, H' = H ++ R ∧ Rd1 (deads H.length ++ R) r r0) : CallsD P f vs H fun r H' => r = r0 ∧ ∃ k, H' = H ++ List.replicate k .dead := by
  refine ⟨h.1,fun X w φ args hX hs hv=>(h.2 X w φ args hX hs hv).mono ?_⟩
  rintro e w' ⟨v,r,φ',H',rfl,⟨R,rfl,hR⟩,hs',hv',hfr,hext,hlen,hnew⟩
  have getD:∀ {i e:Nat} {es:List (List V)},(deads H.length++R)[i]? = some (.row e es)→H.length≤i∧(H++R)[i]? = some (.row e es):=fun h=>by
    obtain ⟨q1,q2⟩:=getR_dead h
    exact ⟨q1,by rw [List.getElem?_append_right q1];exact q2⟩
  have hl':φ'.length=H.length + R.length:=by rw [hs'.len];simp
  have hown:owned (fun g=>X g∨ownOf φ' H g) φ' (deads H.length++R)=owned X φ' (H++R):=by
    funext g
    apply propext
    constructor
    · rintro ((q | ⟨i,e,es,o,q1,q2⟩) | ⟨i,e,es,o,q1,q2⟩)
      · exact .inl q
      · exact .inr ⟨i,e,es,o,(List.getElem?_append_left (List.getElem?_eq_some_iff.1 q1).1).trans q1,q2⟩
      · exact .inr ⟨i,e,es,o,(getD q1).2,q2⟩
    · rintro (q | ⟨i,e,es,o,q1,q2⟩)
      · exact .inl (.inl q)
      · rcases getR_split q1 with ⟨_,q3⟩ | ⟨_,q3⟩
        · exact .inl (.inr ⟨i,e,es,o,q3,q2⟩)
        · exact .inr ⟨i,e,es,o,q3,q2⟩
  have hsd:HS (fun g=>X g∨ownOf φ' H g) w' φ' (deads H.length++R):=by
    refine ⟨by rw [hl'];simp,fun i j e es e' es' g o o' hi hj=>hs'.inj i j e es e' es' g o o' (getD hi).2 (getD hj).2,fun g hg hx=>?_,fun id e es hid=>?_⟩
    · obtain ⟨i,e,es,o,q1,q2⟩:=hg
      obtain ⟨q3,q4⟩:=getD q1
      rcases hx with hx | ⟨j,e',es',o',p1,p2⟩
      · exact hs'.disj g ⟨i,e,es,o,q4,q2⟩ hx
      · have hj:=(List.getElem?_eq_some_iff.1 p1).1
        have:=hs'.inj i j e es e' es' g o o' q4 ((List.getElem?_append_left hj).trans p1) q2 p2
        omega
    · rw [hown];exact hs'.live id e es (getD hid).2
  have hk:ownOf φ' (H++List.replicate (φ'.length - H.length) .dead)=ownOf φ' H:=by
    funext g
    apply propext
    constructor
    · rintro ⟨i,e,es,o,q1,q2⟩
      rcases getR_split q1 with ⟨_,q3⟩ | ⟨_,q3⟩
      · exact ⟨i,e,es,o,q3,q2⟩
      · obtain ⟨_,q4⟩:=getR_dead q3
        exact (deads_row q4).elim
    · rintro ⟨i,e,es,o,q1,q2⟩
      exact ⟨i,e,es,o,(List.getElem?_append_left (List.getElem?_eq_some_iff.1 q1).1).trans q1,q2⟩
  have hr:=hR _ w' φ' v hsd (by rw [hown];exact hv')
  have hdr:∀ {i e:Nat} {es:List (List V)},(H++List.replicate (φ'.length - H.length) Place.dead)[i]? = some (.row e es)→H[i]? = some (.row e es):=fun q1=>by
    rcases getR_split q1 with ⟨_,q3⟩ | ⟨_,q3⟩
    · exact q3
    · exact (deads_row (getR_dead q3).2).elim
  have up:∀ {i e:Nat} {es:List (List V)},H[i]? = some (.row e es)→(H++R)[i]? = some (.row e es):=fun q=>(List.getElem?_append_left (List.getElem?_eq_some_iff.1 q).1).trans q
  have less:∀ g,owned X φ' (H++List.replicate (φ'.length - H.length) .dead) g→owned X φ' (H++R) g:=fun g hg=>hg.imp id fun q=>by
    rw [hk] at q
    obtain ⟨i,e,es,o,q1,q2⟩:=q
    exact ⟨i,e,es,o,up q1,q2⟩
  refine ⟨v,r0,φ',H++List.replicate (φ'.length - H.length) .dead,rfl,⟨rfl,_,rfl⟩,⟨by rw [hl'];simp,fun i j e es e' es' g o o' hi hj=>hs'.inj i j e es e' es' g o o' (up (hdr hi)) (up (hdr hj)),fun g hg=>hs'.disj g ?_,fun id e es hid=>?_⟩, ?_,hfr,hext,by simp,fun g hg ho=>?_⟩
  · rw [hk] at hg
    obtain ⟨i,e,es,o,q1,q2⟩:=hg
    exact ⟨i,e,es,o,up q1,q2⟩
  · obtain ⟨g,o,cs,t,r1,r2,r3,r4⟩:=hs'.live id e es (up (hdr hid))
    refine ⟨g,o,cs,t,r1,r2,r3,fun i l hl=>⟨(r4 i l hl).1,fun j c hc=>?_⟩⟩
    obtain ⟨p1,y,p2,p3⟩:=(r4 i l hl).2 j c hc
    exact ⟨p1,y,p2,VS.keeps (fun b _ hn=>⟨rfl,fun q=>hn (less b q)⟩) (Sizes.refl w') (Ext.refl φ') _ _ p3⟩
  · refine VS.keeps (fun b _ hn=>⟨rfl,fun q=>hn ?_⟩) (Sizes.refl w') (fun id hid=>absurd hid (by simp)) _ _ hr
    unfold owned at q
    rw [hk] at q
    exact q
  · rw [hk] at ho
    obtain ⟨i,e,es,o,q1,q2⟩:=ho
    exact hnew g hg ⟨i,e,es,o,up q1,q2⟩
end Go.Proofs.YtbacilgolfojaaaDoor
end
