/- Contracts of the specification's dominators. No condition. -/
import Derived.Test.YtnomiclfiijniaaQS6
section
namespace Go.Proofs.Ytnomiclfiijniaa
set_option maxRecDepth 100000
set_option linter.unusedSimpArgs false
set_option linter.unusedVariables false
@[simp] theorem fillR_ren1 (σ:List Nat) (n i:Nat) (g:Nat→D) (z:D):(fillR n i (fun j=>[V.d (g j)]) [.d z]).map (renL σ)=fillR n i (fun j=>[V.d (g j)]) [.d z]:=by
  unfold fillR
  rw [List.map_map]
  refine List.map_congr_left fun j _=>?_
  simp only [Function.comp]
  split <;> rfl
@[simp] theorem fillR_below1 (m n i:Nat) (g:Nat→D) (z:D):(∀ x∈fillR n i (fun j=>[V.d (g j)]) [.d z],∀ c∈x,c.under m=true)=True :=
  eq_true (fillR_under (by simp) (by simp))
@[simp 2000] theorem setR_hole {n i k id e e' j size:Nat} {f:Nat→List V} {z l0 l:List V} {H:Heap}:setR ((fillR n i f z).set k l0) id k e e' j size l H =
    guardR (k < n∧e'=e∧l.length=size∧j + size≤e∧ones l=true) (.ok (.tup []) (H.set id (.row e ((fillR n i f z).set k (setMany l0 j l))))):=by
  unfold setR
  refine guardR_congr (by simp) fun h=>?_
  have h1:k < (fillR n i f z).length:=by simpa using h.1
  rw [List.getElem?_set,if_pos rfl,if_pos h1,List.set_set]
  rfl
@[simp 2000] theorem elR_hole {n i k e e' j size:Nat} {agg:Bool} {f:Nat→List V} {z l0:List V} {H:Heap}:elR ((fillR n i f z).set k l0) k e e' j size agg H =
    guardR (k < n∧e'=e∧j + size≤e∧(agg=true∨size=1)) (.ok (asVal agg ((l0.drop j).take size)) H):=by
  unfold elR
  refine guardR_congr (by simp) fun h=>?_
  have h1:k < (fillR n i f z).length:=by simpa using h.1
  rw [List.getElem?_set,if_pos rfl,if_pos h1]
  rfl
end Go.Proofs.Ytnomiclfiijniaa
end

section
namespace Go.Proofs.Ytnomiclfiijniaa
set_option maxRecDepth 100000
set_option linter.unusedSimpArgs false
set_option linter.unusedVariables false
inductive Rch (nx:List (List Int)) (fr but:Int):Int→Prop
  | base (h:fr ≠ but):Rch nx fr but fr
  | step {a b:Int} (h:Rch nx fr but a) (hb:b∈nx[a.toNat]?.getD default) (hn:b ≠ but):Rch nx fr but b
open Classical in
abbrev rB (l:List Bool):List (List V):=l.map fun n=>[.d (.bool n)]
structure RInv (nx:List (List Int)) (fr but:Int) (M:Nat) (out:List Bool) (td:List Int):Prop where
  len:out.length=nx.length
  sound:∀ k:Nat,out[k]? = some true→Rch nx fr but k
  start:out[fr.toNat]? = some true
  rng:∀ t∈td,0≤t∧t < nx.length∧out[t.toNat]? = some true
  closed:∀ a:Nat,out[a]? = some true→(a:Int)∈td∨∀ b∈nx[a]?.getD default,b ≠ but→out[b.toNat]? = some true
  cnt:td.length + out.count false≤M
open Classical in
@[simp] theorem renL_rows {α:Type} (σ:List Nat) (f:α→D):(renL σ ∘ fun n=>[V.d (f n)])=fun n=>[V.d (f n)]:=by
  funext n;simp [renL,V.ren]
end Go.Proofs.Ytnomiclfiijniaa
end

section
namespace Go.Proofs.Ytnomiclfiijniaa
set_option maxRecDepth 100000
set_option linter.unusedSimpArgs false
set_option linter.unusedVariables false
def numsOf (p:Nat→Bool) (n:Nat):List Int:=((List.range n).filter p).map fun k:Nat=>(k:Int)
def listB (l:List Bool):List Int:=numsOf (fun k=>l[k]?.getD false) l.length
def rowOf (n:Nat) (g:Nat→Bool):List Bool:=(List.range n).map g
def rowsB (n i:Nat) (f:Nat→Nat→Bool):Heap:=(List.range i).map fun b=>.row 1 (rB (rowOf n (f b)))
def heads (n i:Nat):List (List V):=fillR n i (fun b=>[.sl (b + 1) 1 0 n]) [.d .nilsl]
@[simp] theorem rowOf_len (n:Nat) (g:Nat→Bool):(rowOf n g).length=n:=by simp [rowOf]
@[simp] theorem rowsB_len (n i:Nat) (f:Nat→Nat→Bool):(rowsB n i f).length=i:=by simp [rowsB]
@[simp] theorem heads_len (n i:Nat):(heads n i).length=n:=by simp [heads]
@[simp 2000] theorem elR_heads {n b:Nat} {H:Heap}:elR (heads n n) b 1 1 0 1 false H=guardR (b < n) (.ok (.sl (b + 1) 1 0 n) H):=by
  unfold elR
  refine guardR_congr (by simp) fun h=>?_
  have h1:b < n:=by simpa using h.1
  unfold heads
  rw [fillR_done _ _ _ h1]
  rfl
structure Ways where
  view_:Ptr View
  all_:List Bool
  dom_:List (List Bool)
  deriving Inhabited
def dWays (x:Ways):Nat→D
  | 0=>.rp 5 (dView x.view_.v)
  | 1=>dBoolS x.all_
  | 2=>dBoolSS x.dom_
  | _=>.undef
@[simp] theorem dWays_0 (x:Ways):dWays x 0=.rp 5 (dView x.view_.v):=rfl
@[simp] theorem dWays_1 (x:Ways):dWays x 1=dBoolS x.all_:=rfl
@[simp] theorem dWays_2 (x:Ways):dWays x 2=dBoolSS x.dom_:=rfl
@[reducible] instance encWays:Enc Ways where
  size:=3
  agg:=true
  cells:=dWays
  good x:=Enc.good x.view_∧Enc.good x.all_∧Enc.good x.dom_
  un f:=⟨Enc.un fun _=>f 0,Enc.un fun _=>f 1,Enc.un fun _=>f 2⟩
  un_of a f h:=by
    rw [h 0 (by omega),h 1 (by omega),h 2 (by omega)]
    have e0:(Enc.un fun _=>dWays a 0)=a.view_:=Enc.un_of (α:=Ptr View) _ _ fun j hj=>rfl
    have e1:(Enc.un fun _=>dWays a 1)=a.all_:=Enc.un_of (α:=List Bool) _ _ fun j hj=>rfl
    have e2:(Enc.un fun _=>dWays a 2)=a.dom_:=Enc.un_of (α:=List (List Bool)) _ _ fun j hj=>rfl
    rw [e0,e1,e2]
instance:Shaped Ways:=⟨fun h=>by cases h⟩
@[simp] theorem Ways.eta (x:Ways):Ways.mk x.view_ x.all_ x.dom_=x:=rfl
abbrev dWaysS (l:List Ways):D:=.ro 3 l.length fun i j=>dWays (l[i]?.getD default) j
@[reducible] instance decWays:Dec Ways where
  dec H l:=match l with | [c0,c1,c2]=>((Dec.dec (α:=Ptr View) H [c0]).1∧(Dec.dec (α:=List Bool) H [c1]).1∧(Dec.dec (α:=List (List Bool)) H [c2]).1,⟨(Dec.dec (α:=Ptr View) H [c0]).2,(Dec.dec (α:=List Bool) H [c1]).2,(Dec.dec (α:=List (List Bool)) H [c2]).2⟩) | _=>(False,default)
  ok H l h X w φ xs hs hv:=by
    split at h
    · obtain ⟨h0,h1,h2⟩:=h
      obtain ⟨v0,_,rfl,g0,hv⟩:=hv
      obtain ⟨v1,_,rfl,g1,hv⟩:=hv
      obtain ⟨v2,_,rfl,g2,hv⟩:=hv
      have e:_=[]:=hv
      subst e
      have q0:=Dec.ok (α:=Ptr View) H _ h0 X w φ [v0] hs ⟨v0,[],rfl,g0,rfl⟩
      have q1:=Dec.ok (α:=List Bool) H _ h1 X w φ [v1] hs ⟨v1,[],rfl,g1,rfl⟩
      have q2:=Dec.ok (α:=List (List Bool)) H _ h2 X w φ [v2] hs ⟨v2,[],rfl,g2,rfl⟩
      refine ⟨rfl,fun j u hu=>?_⟩
      match j,hu with
      | 0,hu=>simp at hu;subst hu;exact q0.2 0 _ rfl
      | 1,hu=>simp at hu;subst hu;exact q1.2 0 _ rfl
      | 2,hu=>simp at hu;subst hu;exact q2.2 0 _ rfl
    · exact h.elim
@[simp] theorem dec_Ways {H:Heap} {c0 c1 c2:V}:Dec.dec (α:=Ways) H [c0,c1,c2]=((Dec.dec (α:=Ptr View) H [c0]).1∧(Dec.dec (α:=List Bool) H [c1]).1∧(Dec.dec (α:=List (List Bool)) H [c2]).1,⟨(Dec.dec (α:=Ptr View) H [c0]).2,(Dec.dec (α:=List Bool) H [c1]).2,(Dec.dec (α:=List (List Bool)) H [c2]).2⟩):=rfl
@[simp] theorem dec_dWaysS {H:Heap} {l:List Ways}:Dec.dec (α:=List Ways) H [.d (dWaysS l)]=(True,l):=dec_ro (α:=Ways) (l:=l)
@[simp] theorem dec_rpWays {H:Heap} {x:Ways}:Dec.dec (α:=Ptr Ways) H [.d (.rp 3 (dWays x))]=(True,⟨x⟩):=dec_rp (α:=Ways) (p:=⟨x⟩)
@[simp] theorem agg_Ways:Enc.agg Ways=true:=rfl
@[simp] theorem size_Ways:Enc.size Ways=3:=rfl
end Go.Proofs.Ytnomiclfiijniaa
end

section
namespace Go.Proofs.Ytnomiclfiijniaa
set_option maxRecDepth 100000
set_option linter.unusedSimpArgs false
set_option linter.unusedVariables false
theorem upto_take (l:List Int) {i:Nat} (h:i≤l.length):(upto i fun i=>[V.d (D.int IntKind.i64 (l[i]?.getD 0))])=rI (l.take i):=by
  refine List.ext_getElem? fun k=>?_
  rw [upto_get,List.getElem?_map,List.getElem?_take]
  split
  · rw [List.getElem?_eq_getElem (by omega)];rfl
  · rfl
end Go.Proofs.Ytnomiclfiijniaa
end

section
namespace Go.Proofs.Ytnomiclfiijniaa
set_option maxRecDepth 100000
set_option linter.unusedSimpArgs false
set_option linter.unusedVariables false
structure SInv (nx:List (List Int)) (fr but:Int) (out:List Int):Prop where
  sorted:out.Pairwise (· < ·)
  start:fr∈out
  rng:∀ x∈out,0≤x∧x < nx.length
  sound:∀ x∈out,Rch nx fr but x
structure MInv (nx:List (List Int)) (fr but:Int) (out0:List Int) (i:Nat) (l out:List Int) (more:Bool):Prop where
  inv:SInv nx fr but out
  sub:∀ x∈out0,x∈out
  past:∀ a∈out0.take i,∀ b∈nx[a.toNat]?.getD default,b ≠ but→b∈out
  now:∀ b∈l,b ≠ but→b∈out
  same:more=false→out=out0
  grow:more=true→out0.length < out.length
end Go.Proofs.Ytnomiclfiijniaa
end

section
namespace Go.Proofs.Ytnomiclfiijniaa
set_option maxRecDepth 100000
set_option linter.unusedSimpArgs false
set_option linter.unusedVariables false
def accV (id:Nat):List Int→V
  | []=>.d .nilsl
  | a :: l=>.sl id 1 0 (l.length + 1)
def accH:List Int→Heap
  | []=>[]
  | a :: l=>[.row 1 (rI (a :: l))]
@[simp] theorem accV_nil (id:Nat):accV id []=.d .nilsl:=rfl
@[simp] theorem accH_nil:accH []=[]:=rfl
@[simp] theorem accV_cons (id:Nat) (a:Int) (l:List Int):accV id (a :: l)=.sl id 1 0 (l.length + 1):=rfl
@[simp] theorem accH_cons (a:Int) (l:List Int):accH (a :: l)=[.row 1 (rI (a :: l))]:=rfl
def rowD (n:Nat) (o:Nat→D):List (List V):=fillR n n (fun k=>[.d (o k)]) [.d .nilsl]
@[simp] theorem rowD_len (n:Nat) (o:Nat→D):(rowD n o).length=n:=by simp [rowD]
@[simp] theorem rowD_ren (σ:List Nat) (n:Nat) (o:Nat→D):(rowD n o).map (renL σ)=rowD n o:=fillR_ren1 ..
@[simp 2000] theorem setR_rowD {n k id e e' j size:Nat} {o:Nat→D} {l0 l:List V} {H:Heap}:setR ((rowD n o).set k l0) id k e e' j size l H =
    guardR (k < n∧e'=e∧l.length=size∧j + size≤e∧ones l=true) (.ok (.tup []) (H.set id (.row e ((rowD n o).set k (setMany l0 j l))))):=setR_hole
@[simp 2000] theorem elR_rowD {n k e e' j size:Nat} {agg:Bool} {o:Nat→D} {l0:List V} {H:Heap}:elR ((rowD n o).set k l0) k e e' j size agg H =
    guardR (k < n∧e'=e∧j + size≤e∧(agg=true∨size=1)) (.ok (asVal agg ((l0.drop j).take size)) H):=elR_hole
end Go.Proofs.Ytnomiclfiijniaa
end
