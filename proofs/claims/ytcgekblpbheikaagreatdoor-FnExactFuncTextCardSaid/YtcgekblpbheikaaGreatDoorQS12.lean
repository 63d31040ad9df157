/- Contract of the program's search for what is reached. No condition. -/
import Derived.Test.YtcgekblpbheikaaGreatDoorQS6
section
namespace Go.Proofs.YtcgekblpbheikaaGreatDoor
set_option maxRecDepth 100000
set_option linter.unusedSimpArgs false
set_option linter.unusedVariables false
@[simp] theorem fillR_ren1 (σ:List Nat) (n i:Nat) (g:Nat→D) (z:D):(fillR n i (fun j=>[V.d (g j)]) [.d z]).map (renL σ)=fillR n i (fun j=>[V.d (g j)]) [.d z]:=by
  unfold fillR
  rw [List.map_map]
  refine List.map_congr_left fun j _=>?_
  simp only [Function.comp]
  split <;> rfl
@[simp] theorem fillR_below1 (m n i:Nat) (g:Nat→D) (z:D):(∀ x∈fillR n i (fun j=>[V.d (g j)]) [.d z],∀ c∈x,c.under m=true)=True :=
  eq_true (fillR_under (by simp) (by simp))
@[simp 2000] theorem setR_hole {n i k id e e' j size:Nat} {f:Nat→List V} {z l0 l:List V} {H:Heap}:setR ((fillR n i f z).set k l0) id k e e' j size l H =
    guardR (k < n∧e'=e∧l.length=size∧j + size≤e∧ones l=true) (.ok (.tup []) (H.set id (.row e ((fillR n i f z).set k (setMany l0 j l))))):=by
  unfold setR
  refine guardR_congr (by simp) fun h=>?_
  have h1:k < (fillR n i f z).length:=by simpa using h.1
  rw [List.getElem?_set,if_pos rfl,if_pos h1,List.set_set]
  rfl
@[simp 2000] theorem elR_hole {n i k e e' j size:Nat} {agg:Bool} {f:Nat→List V} {z l0:List V} {H:Heap}:elR ((fillR n i f z).set k l0) k e e' j size agg H =
    guardR (k < n∧e'=e∧j + size≤e∧(agg=true∨size=1)) (.ok (asVal agg ((l0.drop j).take size)) H):=by
  unfold elR
  refine guardR_congr (by simp) fun h=>?_
  have h1:k < (fillR n i f z).length:=by simpa using h.1
  rw [List.getElem?_set,if_pos rfl,if_pos h1]
  rfl
end Go.Proofs.YtcgekblpbheikaaGreatDoor
end

section
namespace Go.Proofs.YtcgekblpbheikaaGreatDoor
set_option maxRecDepth 100000
set_option linter.unusedSimpArgs false
set_option linter.unusedVariables false
inductive Rch (nx:List (List Int)) (fr but:Int):Int→Prop
  | base (h:fr ≠ but):Rch nx fr but fr
  | step {a b:Int} (h:Rch nx fr but a) (hb:b∈nx[a.toNat]?.getD default) (hn:b ≠ but):Rch nx fr but b
open Classical in
noncomputable def rchB (nx:List (List Int)) (fr but:Int):List Bool:=(List.range nx.length).map fun k:Nat=>decide (Rch nx fr but (k:Int))
abbrev rB (l:List Bool):List (List V):=l.map fun n=>[.d (.bool n)]
def okNext (nx:List (List Int)):Prop:=nx.length≤8∧∀ l∈nx,l.length≤2∧∀ b∈l,0≤b∧b < nx.length
theorem okNext_get {nx:List (List Int)} (h:okNext nx) (i:Nat):(nx[i]?.getD default).length≤2∧∀ b∈nx[i]?.getD default,0≤b∧b < nx.length:=by
  cases e:nx[i]? with
  | none=>exact ⟨Nat.zero_le _,fun b hb=>absurd hb List.not_mem_nil⟩
  | some l=>exact h.2 l (List.mem_of_getElem? e)
structure RInv (nx:List (List Int)) (fr but:Int) (M:Nat) (out:List Bool) (td:List Int):Prop where
  len:out.length=nx.length
  sound:∀ k:Nat,out[k]? = some true→Rch nx fr but k
  start:out[fr.toNat]? = some true
  rng:∀ t∈td,0≤t∧t < nx.length∧out[t.toNat]? = some true
  closed:∀ a:Nat,out[a]? = some true→(a:Int)∈td∨∀ b∈nx[a]?.getD default,b ≠ but→out[b.toNat]? = some true
  cnt:td.length + out.count false≤M
open Classical in
theorem RInv.done {nx:List (List Int)} {fr but:Int} {M:Nat} {out:List Bool} (hn:okNext nx) (h0:0≤fr) (h:RInv nx fr but M out []):out=rchB nx fr but:=by
  have all:∀ k,Rch nx fr but k→0≤k∧out[k.toNat]? = some true:=by
    intro k hk
    induction hk with
    | base=>exact ⟨h0,h.start⟩
    | step hr hb hne ih =>
      rename_i a b
      obtain ⟨i0,i1⟩:=ih
      rcases h.closed a.toNat i1 with q | q
      · exact absurd q List.not_mem_nil
      · exact ⟨((okNext_get hn a.toNat).2 b hb).1,q b hb hne⟩
  refine List.ext_getElem (by simp [rchB,h.len]) fun k h1 h2=>?_
  simp only [rchB,List.getElem_map,List.getElem_range]
  cases hk:out[k] with
  | true=>exact (decide_eq_true (h.sound k (by rw [List.getElem?_eq_getElem h1,hk]))).symm
  | false =>
    refine (decide_eq_false fun hr=>?_).symm
    have:=(all k hr).2
    rw [Int.toNat_natCast,List.getElem?_eq_getElem h1,hk] at this
    cases this
@[simp] theorem renL_rows {α:Type} (σ:List Nat) (f:α→D):(renL σ ∘ fun n=>[V.d (f n)])=fun n=>[V.d (f n)]:=by
  funext n;simp [renL,V.ren]
end Go.Proofs.YtcgekblpbheikaaGreatDoor
end
