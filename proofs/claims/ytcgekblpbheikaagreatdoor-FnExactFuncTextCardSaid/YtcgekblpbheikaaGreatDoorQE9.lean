/- The abstract machine: a new tree of a callee becomes closed data, beside places that stay. No condition. -/
import Derived.Test.YtcgekblpbheikaaGreatDoorQE8
namespace Go.Proofs.YtcgekblpbheikaaGreatDoor
set_option linter.unusedVariables false
set_option linter.unusedSimpArgs false
theorem getR_split {H R:Heap} {i e:Nat} {es:List (List V)} (h:(H++R)[i]? = some (.row e es)):(i < H.length∧H[i]? = some (.row e es))∨(H.length≤i∧(deads H.length++R)[i]? = some (.row e es)):=by
  by_cases hi:i < H.length
  · rw [List.getElem?_append_left hi] at h;exact .inl ⟨hi,h⟩
  · rw [List.getElem?_append_right (by omega)] at h
    exact .inr ⟨by omega,by rw [List.getElem?_append_right (by simp;omega),List.length_replicate];exact h⟩
theorem getR_dead {n i e:Nat} {R:Heap} {es:List (List V)} (h:(deads n++R)[i]? = some (.row e es)):n≤i∧R[i - n]? = some (.row e es):=by
  by_cases hi:i < n
  · rw [List.getElem?_append_left (by simpa using hi)] at h
    exact (deads_row h).elim
  · rw [List.getElem?_append_right (by simp;omega),List.length_replicate] at h
    exact ⟨by omega,h⟩
theorem CallsD.close {P : Program} {f : FuncId} {vs : List V} {H : Heap} {r0 : V} (h : CallsD P f vs H fun r H' => ∃ R, H' = H ++ R ∧ Rd1 (deads H.length ++ R) r r0) : CallsD P f vs H fun r H' => r = r0 ∧ ∃ k, H' = H ++ List.replicate k .dead := by
  refine ⟨h.1,fun X w φ args hX hs hv=>(h.2 X w φ args hX hs hv).mono ?_⟩
  rintro e w' ⟨v,r,φ',H',rfl,⟨R,rfl,hR⟩,hs',hv',hfr,hext,hlen,hnew⟩
  have getD:∀ {i e:Nat} {es:List (List V)},(deads H.length++R)[i]? = some (.row e es)→H.length≤i∧(H++R)[i]? = some (.row e es):=fun h=>by
    obtain ⟨q1,q2⟩:=getR_dead h
    exact ⟨q1,by rw [List.getElem?_append_right q1];exact q2⟩
  have hl':φ'.length=H.length + R.length:=by rw [hs'.len];simp
  have hown:owned (fun g=>X g∨ownOf φ' H g) φ' (deads H.length++R)=owned X φ' (H++R):=by
    funext g
    apply propext
    constructor
    · rintro ((q | ⟨i,e,es,o,q1,q2⟩) | ⟨i,e,es,o,q1,q2⟩)
      · exact .inl q
      · exact .inr ⟨i,e,es,o,(List.getElem?_append_left (List.getElem?_eq_some_iff.1 q1).1).trans q1,q2⟩
      · exact .inr ⟨i,e,es,o,(getD q1).2,q2⟩
    · rintro (q | ⟨i,e,es,o,q1,q2⟩)
      · exact .inl (.inl q)
      · rcases getR_split q1 with ⟨_,q3⟩ | ⟨_,q3⟩
        · exact .inl (.inr ⟨i,e,es,o,q3,q2⟩)
        · exact .inr ⟨i,e,es,o,q3,q2⟩
  have hsd:HS (fun g=>X g∨ownOf φ' H g) w' φ' (deads H.length++R):=by
    refine ⟨by rw [hl'];simp,fun i j e es e' es' g o o' hi hj=>hs'.inj i j e es e' es' g o o' (getD hi).2 (getD hj).2,fun g hg hx=>?_,fun id e es hid=>?_⟩
    · obtain ⟨i,e,es,o,q1,q2⟩:=hg
      obtain ⟨q3,q4⟩:=getD q1
      rcases hx with hx | ⟨j,e',es',o',p1,p2⟩
      · exact hs'.disj g ⟨i,e,es,o,q4,q2⟩ hx
      · have hj:=(List.getElem?_eq_some_iff.1 p1).1
        have:=hs'.inj i j e es e' es' g o o' q4 ((List.getElem?_append_left hj).trans p1) q2 p2
        omega
    · rw [hown];exact hs'.live id e es (getD hid).2
  have hk:ownOf φ' (H++List.replicate (φ'.length - H.length) .dead)=ownOf φ' H:=by
    funext g
    apply propext
    constructor
    · rintro ⟨i,e,es,o,q1,q2⟩
      rcases getR_split q1 with ⟨_,q3⟩ | ⟨_,q3⟩
      · exact ⟨i,e,es,o,q3,q2⟩
      · obtain ⟨_,q4⟩:=getR_dead q3
        exact (deads_row q4).elim
    · rintro ⟨i,e,es,o,q1,q2⟩
      exact ⟨i,e,es,o,(List.getElem?_append_left (List.getElem?_eq_some_iff.1 q1).1).trans q1,q2⟩
  have hr:=hR _ w' φ' v hsd (by rw [hown];exact hv')
  have hdr:∀ {i e:Nat} {es:List (List V)},(H++List.replicate (φ'.length - H.length) Place.dead)[i]? = some (.row e es)→H[i]? = some (.row e es):=fun q1=>by
    rcases getR_split q1 with ⟨_,q3⟩ | ⟨_,q3⟩
    · exact q3
    · exact (deads_row (getR_dead q3).2).elim
  have up:∀ {i e:Nat} {es:List (List V)},H[i]? = some (.row e es)→(H++R)[i]? = some (.row e es):=fun q=>(List.getElem?_append_left (List.getElem?_eq_some_iff.1 q).1).trans q
  have less:∀ g,owned X φ' (H++List.replicate (φ'.length - H.length) .dead) g→owned X φ' (H++R) g:=fun g hg=>hg.imp id fun q=>by
    rw [hk] at q
    obtain ⟨i,e,es,o,q1,q2⟩:=q
    exact ⟨i,e,es,o,up q1,q2⟩
  refine ⟨v,r0,φ',H++List.replicate (φ'.length - H.length) .dead,rfl,⟨rfl,_,rfl⟩,⟨by rw [hl'];simp,fun i j e es e' es' g o o' hi hj=>hs'.inj i j e es e' es' g o o' (up (hdr hi)) (up (hdr hj)),fun g hg=>hs'.disj g ?_,fun id e es hid=>?_⟩, ?_,hfr,hext,by simp,fun g hg ho=>?_⟩
  · rw [hk] at hg
    obtain ⟨i,e,es,o,q1,q2⟩:=hg
    exact ⟨i,e,es,o,up q1,q2⟩
  · obtain ⟨g,o,cs,t,r1,r2,r3,r4⟩:=hs'.live id e es (up (hdr hid))
    refine ⟨g,o,cs,t,r1,r2,r3,fun i l hl=>⟨(r4 i l hl).1,fun j c hc=>?_⟩⟩
    obtain ⟨p1,y,p2,p3⟩:=(r4 i l hl).2 j c hc
    exact ⟨p1,y,p2,VS.keeps (fun b _ hn=>⟨rfl,fun q=>hn (less b q)⟩) (Sizes.refl w') (Ext.refl φ') _ _ p3⟩
  · refine VS.keeps (fun b _ hn=>⟨rfl,fun q=>hn ?_⟩) (Sizes.refl w') (fun id hid=>absurd hid (by simp)) _ _ hr
    unfold owned at q
    rw [hk] at q
    exact q
  · rw [hk] at ho
    obtain ⟨i,e,es,o,q1,q2⟩:=ho
    exact hnew g hg ⟨i,e,es,o,up q1,q2⟩
theorem CallsD.closeS {P:Program} {f:FuncId} {vs:List V} {H:Heap} {α β:Type} [Enc β] [Dec β] [Inhabited β] [Tr α β] {l:List β} (h:CallsD P f vs H fun r H'=>∃ s:AS α,r=s.v∧Tr.era s=l∧New H H' s):CallsD P f vs H fun r H'=>r=argV l∧∃ k,H'=H++List.replicate k .dead:=by
  refine CallsD.close (h.mono ?_)
  rintro r H' ⟨s,rfl,e,hn⟩
  obtain ⟨R,rfl⟩:=hn.only.tail
  refine ⟨R,rfl, ?_⟩
  have:=Rd1.slice (hn.own.behind (Q:=deads H.length) [] hn.fresh (by simp))
  rw [e,List.append_nil] at this
  exact this
end Go.Proofs.YtcgekblpbheikaaGreatDoor
