/- The abstract machine: places whose cells say less; loops that go on in them. No condition. -/
import Derived.Test.YtcgekblpbheikaaGreatDoorQE6
section
namespace Go.Proofs.YtcgekblpbheikaaGreatDoor
set_option linter.unusedVariables false
set_option linter.unusedSimpArgs false
def isBS:Op→Bool
  | .buildSlice ..=>true
  | _=>false
def sideZ (i0:Nat) (env:Env) (H:Heap) (o:Op):Prop:=sideA i0 env o∧(isBS o=true→i0 < H.length)
def opZ (P:Program) (Γ:Table) (own:List FuncId) (i0:Nat) (env:Env) (H:Heap) (o:Op) (k:V→Heap→Prop):Prop:=sideZ i0 env H o∧opT P Γ own env H o k
def stepZ (P:Program) (Γ:Table) (own:List FuncId) (i0:Nat) (all:List (Option Nat)) (o:SOp) (env:Env) (H:Heap) (K:Env→Heap→Prop):Prop :=
  match o.guard with
  | none=>opZ P Γ own i0 env H o.op fun v H'=>K (updO env o.dst v) H'
  | some _=>False
def opsZ (P:Program) (Γ:Table) (own:List FuncId) (i0:Nat) (all:List (Option Nat)):List SOp→Env→Heap→(Env→Heap→Prop)→Prop
  | [],env,H,k=>k env H
  | o :: rest,env,H,k=>stepZ P Γ own i0 all o env H fun e h=>opsZ P Γ own i0 all rest e h k
section
variable {P:Program} {Γ:Table} {own:List FuncId} {i0:Nat} {all:List (Option Nat)}
end
section
variable {P:Program} {Γ:Table} {own:List FuncId} {x:Ctx} {N i0:Nat}
end
attribute [simp] isBS sideZ opZ stepZ opsZ
end Go.Proofs.YtcgekblpbheikaaGreatDoor
end

section
namespace Go.Proofs.YtcgekblpbheikaaGreatDoor
set_option linter.unusedVariables false
set_option linter.unusedSimpArgs false
structure HLe (G H:Heap):Prop where
  len:G.length=H.length
  at_:∀ i:Nat,G[i]? = H[i]?∨∃ (e:Nat) (es es':List (List V)),G[i]? = some (Place.row e es)∧H[i]? = some (Place.row e es')∧es.length=es'.length ∧
    ∀ (k:Nat) (l':List V),es'[k]? = some l'→∃ l:List V,es[k]? = some l∧l.length=l'.length∧∀ (j:Nat) (c':V),l'[j]? = some c'→∃ c:V,l[j]? = some c∧(c=c'∨(VLe c c'∧c'.one=true))
theorem HLe.refl (H:Heap):HLe H H:=⟨rfl,fun _=>.inl rfl⟩
theorem HLe.row {G H:Heap} (h:HLe G H) {i e:Nat} {es:List (List V)}:H[i]? = some (.row e es)→∃ es',G[i]? = some (.row e es'):=fun hi=>by
  rcases h.at_ i with q | ⟨e',es1,es2,q1,q2,_⟩
  · exact ⟨es,q.trans hi⟩
  · rw [q2] at hi
    obtain ⟨rfl,rfl⟩:=Place.row.inj (Option.some.inj hi)
    exact ⟨es1,q1⟩
theorem HLe.row' {G H:Heap} (h:HLe G H) {i e:Nat} {es:List (List V)}:G[i]? = some (.row e es)→∃ es',H[i]? = some (.row e es'):=fun hi=>by
  rcases h.at_ i with q | ⟨e',es1,es2,q1,q2,_⟩
  · exact ⟨es,q.symm.trans hi⟩
  · rw [q1] at hi
    obtain ⟨rfl,rfl⟩:=Place.row.inj (Option.some.inj hi)
    exact ⟨es2,q2⟩
theorem HLe.ownOf {G H:Heap} (h:HLe G H) (φ:List (Nat × Nat)):Go.Proofs.YtcgekblpbheikaaGreatDoor.ownOf φ G=Go.Proofs.YtcgekblpbheikaaGreatDoor.ownOf φ H:=by
  funext g
  apply propext
  constructor
  · rintro ⟨id,e,es,o,h1,h2⟩
    obtain ⟨es',q⟩:=h.row' h1
    exact ⟨id,e,es',o,q,h2⟩
  · rintro ⟨id,e,es,o,h1,h2⟩
    obtain ⟨es',q⟩:=h.row h1
    exact ⟨id,e,es',o,q,h2⟩
theorem HLe.hs {G H:Heap} (h:HLe G H) {X:Nat→Prop} {w:World} {φ:List (Nat × Nat)} (hs:HS X w φ G):HS X w φ H:=by
  have ho:owned X φ H=owned X φ G:=by funext g;unfold owned;rw [h.ownOf φ]
  refine ⟨hs.len.trans h.len,fun i j e es e' es' g o o' hi hj=>?_,fun g hg=>hs.disj g (by rw [h.ownOf];exact hg),fun id e es hid=>?_⟩
  · obtain ⟨_,q1⟩:=h.row hi
    obtain ⟨_,q2⟩:=h.row hj
    exact hs.inj i j _ _ _ _ g o o' q1 q2
  · rw [ho]
    rcases h.at_ id with q | ⟨e',es1,es2,q1,q2,q3,q4⟩
    · exact hs.live id e es (q.trans hid)
    · rw [q2] at hid
      obtain ⟨rfl,rfl⟩:=Place.row.inj (Option.some.inj hid)
      obtain ⟨g,o,cs,t,r1,r2,r3,r4⟩:=hs.live id _ _ q1
      refine ⟨g,o,cs,t,r1,r2,by rw [← q3];exact r3,fun i l hl=>?_⟩
      obtain ⟨l0,p1,p2,p3⟩:=q4 i l hl
      obtain ⟨p4,p5⟩:=r4 i l0 p1
      refine ⟨p2.symm.trans p4,fun j c hc=>?_⟩
      obtain ⟨c0,p6,p7⟩:=p3 j c hc
      obtain ⟨p8,x,p9,p10⟩:=p5 j c0 p6
      rcases p7 with rfl | ⟨p7,p11⟩
      · exact ⟨p8,x,p9,p10⟩
      · exact ⟨p11,x,p9,VS.le _ _ _ p7 p10⟩
theorem HLe.weak {G H:Heap} (h:HLe G H) {n0:Nat} {env:Env}:Weak n0 ⟨env,G⟩ ⟨env,H⟩:=by
  intro x N φ a w hx hs
  have ho:owned x.X φ H=owned x.X φ G:=by funext g;unfold owned;rw [h.ownOf φ]
  exact ⟨φ,⟨h.hs hs.hs,fun t=>by show VS w (owned x.X φ H) φ (env t) _;rw [ho];exact hs.env t,hs.low,hs.defers,hs.size,hs.fr,fun g hg hn=>hs.old g hg (by show Go.Proofs.YtcgekblpbheikaaGreatDoor.ownOf φ G g;rw [h.ownOf];exact hn),hs.ext,by show x.H0.length≤H.length;rw [← h.len];exact hs.long,hs.len0⟩⟩
theorem HLe.set {G:Heap} {id e:Nat} {es es':List (List V)} {k:Nat} {l l':List V} (h1:G[id]? = some (.row e es)) (h2:es[k]? = some l) (h3:es'=es.set k l') (h4:l.length=l'.length) (h5:∀ (j:Nat) (c':V),l'[j]? = some c'→∃ c:V,l[j]? = some c∧(c=c'∨(VLe c c'∧c'.one=true))):HLe G (G.set id (.row e es')):=by
  refine ⟨by simp,fun i=>?_⟩
  by_cases e1:id=i
  · subst e1
    refine .inr ⟨e,es,es',h1,List.getElem?_set_self (List.getElem?_eq_some_iff.1 h1).1,by rw [h3];simp,fun k' l1 hk=>?_⟩
    rw [h3,List.getElem?_set] at hk
    split at hk
    · rename_i e2;subst e2
      rw [if_pos (List.getElem?_eq_some_iff.1 h2).1] at hk
      obtain rfl:=Option.some.inj hk
      exact ⟨l,h2,h4,h5⟩
    · exact ⟨l1,hk,rfl,fun j c hc=>⟨c,hc,.inl rfl⟩⟩
  · exact .inl (List.getElem?_set_ne e1).symm
def IntoW (s:St) (l:List (Nat × V)) (H:Heap):Prop:=HLe s.H H∧intoQ s.env l
theorem IntoW.weak {n0:Nat} {s:St} {l:List (Nat × V)} {H:Heap} (h:IntoW s l H):Weak n0 s ⟨mk l,H⟩:=by
  obtain ⟨env,G⟩:=s
  exact (HLe.weak h.1).trans (IntoH.weak ⟨rfl,h.2⟩)
attribute [simp] IntoW
end Go.Proofs.YtcgekblpbheikaaGreatDoor
end
