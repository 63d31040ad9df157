/- Contracts of the program's lists of numbers, dominators and ways. No condition. -/
import Derived.Test.YtcgekblpbheikaaGreatDoorQS12
namespace Go.Proofs.YtcgekblpbheikaaGreatDoor
set_option maxRecDepth 100000
set_option linter.unusedSimpArgs false
set_option linter.unusedVariables false
def numsOf (p:Nat→Bool) (n:Nat):List Int:=((List.range n).filter p).map fun k:Nat=>(k:Int)
theorem numsOf_len (p:Nat→Bool) (n:Nat):(numsOf p n).length≤n:=by
  simp only [numsOf,List.length_map]
  exact Nat.le_trans (List.length_filter_le _ _) (by simp)
theorem mem_numsOf {p:Nat→Bool} {n:Nat} {x:Int}:x∈numsOf p n ↔ 0≤x∧x < n∧p x.toNat=true:=by
  simp only [numsOf,List.mem_map,List.mem_filter,List.mem_range]
  constructor
  · rintro ⟨k,⟨h1,h2⟩,rfl⟩
    exact ⟨by omega,by omega,by simpa using h2⟩
  · rintro ⟨h0,h1,h2⟩
    exact ⟨x.toNat,⟨by omega,h2⟩,by omega⟩
def listB (l:List Bool):List Int:=numsOf (fun k=>l[k]?.getD false) l.length
def rowOf (n:Nat) (g:Nat→Bool):List Bool:=(List.range n).map g
def rowsB (n i:Nat) (f:Nat→Nat→Bool):Heap:=(List.range i).map fun b=>.row 1 (rB (rowOf n (f b)))
def heads (n i:Nat):List (List V):=fillR n i (fun b=>[.sl (b + 1) 1 0 n]) [.d .nilsl]
@[simp] theorem rowOf_len (n:Nat) (g:Nat→Bool):(rowOf n g).length=n:=by simp [rowOf]
@[simp] theorem rowsB_len (n i:Nat) (f:Nat→Nat→Bool):(rowsB n i f).length=i:=by simp [rowsB]
@[simp] theorem heads_len (n i:Nat):(heads n i).length=n:=by simp [heads]
@[simp 2000] theorem elR_heads {n b:Nat} {H:Heap}:elR (heads n n) b 1 1 0 1 false H=guardR (b < n) (.ok (.sl (b + 1) 1 0 n) H):=by
  unfold elR
  refine guardR_congr (by simp) fun h=>?_
  have h1:b < n:=by simpa using h.1
  unfold heads
  rw [fillR_done _ _ _ h1]
  rfl
structure Ways where
  view_:Ptr View
  all_:List Bool
  dom_:List (List Bool)
  deriving Inhabited
def dWays (x:Ways):Nat→D
  | 0=>.rp 5 (dView x.view_.v)
  | 1=>dBoolS x.all_
  | 2=>dBoolSS x.dom_
  | _=>.undef
@[simp] theorem dWays_0 (x:Ways):dWays x 0=.rp 5 (dView x.view_.v):=rfl
@[simp] theorem dWays_1 (x:Ways):dWays x 1=dBoolS x.all_:=rfl
@[simp] theorem dWays_2 (x:Ways):dWays x 2=dBoolSS x.dom_:=rfl
@[reducible] instance encWays:Enc Ways where
  size:=3
  agg:=true
  cells:=dWays
  good x:=Enc.good x.view_∧Enc.good x.all_∧Enc.good x.dom_
  un f:=⟨Enc.un fun _=>f 0,Enc.un fun _=>f 1,Enc.un fun _=>f 2⟩
  un_of a f h:=by
    rw [h 0 (by omega),h 1 (by omega),h 2 (by omega)]
    have e0:(Enc.un fun _=>dWays a 0)=a.view_:=Enc.un_of (α:=Ptr View) _ _ fun j hj=>rfl
    have e1:(Enc.un fun _=>dWays a 1)=a.all_:=Enc.un_of (α:=List Bool) _ _ fun j hj=>rfl
    have e2:(Enc.un fun _=>dWays a 2)=a.dom_:=Enc.un_of (α:=List (List Bool)) _ _ fun j hj=>rfl
    rw [e0,e1,e2]
instance:Shaped Ways:=⟨fun h=>by cases h⟩
@[simp] theorem Ways.eta (x:Ways):Ways.mk x.view_ x.all_ x.dom_=x:=rfl
abbrev dWaysS (l:List Ways):D:=.ro 3 l.length fun i j=>dWays (l[i]?.getD default) j
@[reducible] instance decWays:Dec Ways where
  dec H l:=match l with | [c0,c1,c2]=>((Dec.dec (α:=Ptr View) H [c0]).1∧(Dec.dec (α:=List Bool) H [c1]).1∧(Dec.dec (α:=List (List Bool)) H [c2]).1,⟨(Dec.dec (α:=Ptr View) H [c0]).2,(Dec.dec (α:=List Bool) H [c1]).2,(Dec.dec (α:=List (List Bool)) H [c2]).2⟩) | _=>(False,default)
  ok H l h X w φ xs hs hv:=by
    split at h
    · obtain ⟨h0,h1,h2⟩:=h
      obtain ⟨v0,_,rfl,g0,hv⟩:=hv
      obtain ⟨v1,_,rfl,g1,hv⟩:=hv
      obtain ⟨v2,_,rfl,g2,hv⟩:=hv
      have e:_=[]:=hv
      subst e
      have q0:=Dec.ok (α:=Ptr View) H _ h0 X w φ [v0] hs ⟨v0,[],rfl,g0,rfl⟩
      have q1:=Dec.ok (α:=List Bool) H _ h1 X w φ [v1] hs ⟨v1,[],rfl,g1,rfl⟩
      have q2:=Dec.ok (α:=List (List Bool)) H _ h2 X w φ [v2] hs ⟨v2,[],rfl,g2,rfl⟩
      refine ⟨rfl,fun j u hu=>?_⟩
      match j,hu with
      | 0,hu=>simp at hu;subst hu;exact q0.2 0 _ rfl
      | 1,hu=>simp at hu;subst hu;exact q1.2 0 _ rfl
      | 2,hu=>simp at hu;subst hu;exact q2.2 0 _ rfl
    · exact h.elim
@[simp] theorem dec_Ways {H:Heap} {c0 c1 c2:V}:Dec.dec (α:=Ways) H [c0,c1,c2]=((Dec.dec (α:=Ptr View) H [c0]).1∧(Dec.dec (α:=List Bool) H [c1]).1∧(Dec.dec (α:=List (List Bool)) H [c2]).1,⟨(Dec.dec (α:=Ptr View) H [c0]).2,(Dec.dec (α:=List Bool) H [c1]).2,(Dec.dec (α:=List (List Bool)) H [c2]).2⟩):=rfl
@[simp] theorem dec_dWaysS {H:Heap} {l:List Ways}:Dec.dec (α:=List Ways) H [.d (dWaysS l)]=(True,l):=dec_ro (α:=Ways) (l:=l)
@[simp] theorem dec_rpWays {H:Heap} {x:Ways}:Dec.dec (α:=Ptr Ways) H [.d (.rp 3 (dWays x))]=(True,⟨x⟩):=dec_rp (α:=Ways) (p:=⟨x⟩)
@[simp] theorem agg_Ways:Enc.agg Ways=true:=rfl
@[simp] theorem size_Ways:Enc.size Ways=3:=rfl
end Go.Proofs.YtcgekblpbheikaaGreatDoor
