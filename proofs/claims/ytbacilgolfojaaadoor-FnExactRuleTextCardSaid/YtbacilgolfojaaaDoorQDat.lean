/- Data of Lean for the structures that the laws hand over. Written by a program. No condition. -/
import Derived.Test.YtbacilgolfojaaaDoorQE4
namespace Go.Proofs.YtbacilgolfojaaaDoor
set_option linter.unusedVariables false

class Sm (α:Type) where
  sm:α→Prop
class Dft (α:Type) [Enc α] [Sm α] [Inhabited α]:Prop where
  good:Enc.good (default:α)
  small:Sm.sm (default:α)
@[reducible] instance smInt:Sm Int:=⟨fun _=>True⟩
@[reducible] instance smList {α:Type} [Sm α]:Sm (List α):=⟨fun l=>l.length≤1048576∧∀ a∈l,Sm.sm a⟩
instance:Dft Int:=⟨by show -9223372036854775808≤(0:Int)∧(0:Int)≤9223372036854775807;decide,trivial⟩
instance {α:Type} [Enc α] [Sm α] [Inhabited α]:Dft (List α):=⟨⟨Nat.zero_le _,fun a h=>absurd h (List.not_mem_nil)⟩,⟨Nat.zero_le _,fun a h=>absurd h (List.not_mem_nil)⟩⟩
theorem good_get {α:Type} [Enc α] [Sm α] [Inhabited α] [Dft α] {l:List α} (h:Enc.good l) (i:Nat):Enc.good (l[i]?.getD default):=by
  cases e:l[i]? with
  | none=>exact Dft.good
  | some a=>exact h.2 a (List.mem_of_getElem? e)
theorem small_get {α:Type} [Enc α] [Sm α] [Inhabited α] [Dft α] {l:List α} (h:Sm.sm l) (i:Nat):Sm.sm (l[i]?.getD default):=by
  cases e:l[i]? with
  | none=>exact Dft.small
  | some a=>exact h.2 a (List.mem_of_getElem? e)
theorem good_len {α:Type} [Enc α] [Inhabited α] {l:List α} (h:Enc.good l):l.length≤9223372036854775807:=h.1
theorem small_len {α:Type} [Sm α] {l:List α} (h:Sm.sm l):l.length≤1048576:=h.1

theorem drop_cons {α:Type} [Inhabited α] {l:List α} {i:Nat} (h:i < l.length):l.drop i=l[i]?.getD default :: l.drop (i + 1):=by
  rw [List.drop_eq_getElem_cons h,List.getElem?_eq_getElem h];rfl
def chk (m:Int) (k:Int→Int):Int:=if m < 0 then -1 else k m
theorem chk_neg {m:Int} {k:Int→Int} (h:m < 0):chk m k = -1:=by simp [chk,h]
theorem chk_pos {m:Int} {k:Int→Int} (h:0≤m):chk m k=k m:=by simp [chk,Int.not_lt.2 h]

def fillR (n i:Nat) (f:Nat→List V) (z:List V):List (List V):=(List.range n).map fun j=>if j < i then f j else z
@[simp] theorem fillR_length (n i:Nat) (f:Nat→List V) (z:List V):(fillR n i f z).length=n:=by simp [fillR]
theorem fillR_zero (n:Nat) (f:Nat→List V) (z:List V):List.replicate n z=fillR n 0 f z:=by
  refine List.ext_getElem (by simp) fun i h1 h2=>by simp [fillR]
theorem fillR_get (n i:Nat) (f:Nat→List V) (z:List V) {j:Nat} (h:j < n):(fillR n i f z)[j]? = some (if j < i then f j else z):=by
  simp [fillR,h]
theorem fillR_at (n i:Nat) (f:Nat→List V) (z:List V) (h:i < n):(fillR n i f z)[i]? = some z:=by
  simp [fillR,h]
theorem fillR_done (n:Nat) (f:Nat→List V) (z:List V) {j:Nat} (h:j < n):(fillR n n f z)[j]? = some (f j):=by
  simp [fillR,h]
theorem fillR_set (n i:Nat) (f:Nat→List V) (z:List V) (h:i < n):(fillR n i f z).set i (f i)=fillR n (i + 1) f z:=by
  refine List.ext_getElem? fun j=>?_
  rw [List.getElem?_set]
  by_cases hj:j < n
  · rw [fillR_get _ _ _ _ hj,fillR_get _ _ _ _ hj]
    by_cases e:i=j
    · subst e;simp [h]
    · have:(j < i + 1)=(j < i):=by apply propext;omega
      simp [e,this]
  · simp [fillR,hj]
    omega
@[simp 2000] theorem setR_fillR {n i id e e' j size:Nat} {f:Nat→List V} {z l:List V} {H:Heap}:setR (fillR n i f z) id i e e' j size l H =
    guardR (i < n∧e'=e∧l.length=size∧j + size≤e∧ones l=true) (.ok (.tup []) (H.set id (.row e ((fillR n i f z).set i (setMany z j l))))):=by
  unfold setR
  refine guardR_congr (by rw [fillR_length]) fun h=>?_
  rw [fillR_at n i f z (by have:=h.1;rwa [fillR_length] at this)]
  rfl
@[simp 2000] theorem elR_fillR {n j i e e' k size:Nat} {agg:Bool} {f:Nat→List V} {z:List V} {H:Heap}:elR (fillR n i f z) j e e' k size agg H =
    guardR (j < n∧e'=e∧k + size≤e∧(agg=true∨size=1)) (.ok (asVal agg (((if j < i then f j else z).drop k).take size)) H):=by
  unfold elR
  refine guardR_congr (by rw [fillR_length]) fun h=>?_
  rw [fillR_get n i f z (by have:=h.1;rwa [fillR_length] at this)]
  rfl
theorem fillR_under {m n i:Nat} {f:Nat→List V} {z:List V} (hf:∀ j,∀ c∈f j,c.under m=true) (hz:∀ c∈z,c.under m=true):∀ x∈fillR n i f z,∀ c∈x,c.under m=true:=by
  intro x hx c hc
  simp only [fillR,List.mem_map] at hx
  obtain ⟨j,_,rfl⟩:=hx
  split at hc
  · exact hf j c hc
  · exact hz c hc

abbrev dIntS (l:List Int):D:=.ro 1 l.length fun i _=>.int .i64 (l[i]?.getD default)
abbrev dIntSS (l:List (List Int)):D:=.ro 1 l.length fun i _=>dIntS (l[i]?.getD default)
abbrev dBoolS (l:List Bool):D:=.ro 1 l.length fun i _=>.bool (l[i]?.getD default)
abbrev dBoolSS (l:List (List Bool)):D:=.ro 1 l.length fun i _=>dBoolS (l[i]?.getD default)
abbrev dStrS (l:List ByteArray):D:=.ro 1 l.length fun i _=>.str (l[i]?.getD default)
section
variable {H:Heap}
@[simp] theorem dec_dIntS {l:List Int}:Dec.dec (α:=List Int) H [.d (dIntS l)]=(True,l):=dec_ro (α:=Int) (l:=l)
@[simp] theorem dec_dBoolS {l:List Bool}:Dec.dec (α:=List Bool) H [.d (dBoolS l)]=(True,l):=dec_ro (α:=Bool) (l:=l)
@[simp] theorem dec_dStrS {l:List ByteArray}:Dec.dec (α:=List ByteArray) H [.d (dStrS l)]=(True,l):=dec_ro (α:=ByteArray) (l:=l)
@[simp] theorem dec_dIntSS {l:List (List Int)}:Dec.dec (α:=List (List Int)) H [.d (dIntSS l)]=(True,l):=dec_ro (α:=(List Int)) (l:=l)
@[simp] theorem dec_dBoolSS {l:List (List Bool)}:Dec.dec (α:=List (List Bool)) H [.d (dBoolSS l)]=(True,l):=dec_ro (α:=(List Bool)) (l:=l)
end

structure Node where
  op_:Int
  n_:Int
  deriving Inhabited,DecidableEq
def dNode (x:Node):Nat→D
  | 0=>.int .i64 x.op_
  | 1=>.int .i64 x.n_
  | _=>.undef
@[simp] theorem dNode_0 (x:Node):dNode x 0=.int .i64 x.op_:=rfl
@[simp] theorem dNode_1 (x:Node):dNode x 1=.int .i64 x.n_:=rfl
@[reducible] instance encNode:Enc Node where
  size:=2
  agg:=true
  cells:=dNode
  good x:=Enc.good x.op_∧Enc.good x.n_
  un f:=⟨Enc.un fun _=>f 0,Enc.un fun _=>f 1⟩
  un_of a f h:=by
    rw [h 0 (by omega),h 1 (by omega)]
    have e0:(Enc.un fun _=>dNode a 0)=a.op_:=Enc.un_of (α:=Int) _ _ fun j hj=>rfl
    have e1:(Enc.un fun _=>dNode a 1)=a.n_:=Enc.un_of (α:=Int) _ _ fun j hj=>rfl
    rw [e0,e1]
instance:Shaped Node:=⟨fun h=>by cases h⟩
@[reducible] instance smNode:Sm Node:=⟨fun x=>Sm.sm x.op_∧Sm.sm x.n_⟩
instance:Dft Node:=⟨⟨Dft.good (α:=Int),Dft.good (α:=Int)⟩,⟨Dft.small (α:=Int),Dft.small (α:=Int)⟩⟩
@[simp] theorem Node.eta (x:Node):Node.mk x.op_ x.n_=x:=rfl
abbrev dNodeS (l:List Node):D:=.ro 2 l.length fun i j=>dNode (l[i]?.getD default) j
abbrev vNode (x:Node):V:=.agg [.d (.int .i64 x.op_),.d (.int .i64 x.n_)]
@[reducible] instance decNode:Dec Node where
  dec H l:=match l with | [c0,c1]=>((Dec.dec (α:=Int) H [c0]).1∧(Dec.dec (α:=Int) H [c1]).1,⟨(Dec.dec (α:=Int) H [c0]).2,(Dec.dec (α:=Int) H [c1]).2⟩) | _=>(False,default)
  ok H l h X w φ xs hs hv:=by
    split at h
    · obtain ⟨h0,h1⟩:=h
      obtain ⟨v0,_,rfl,g0,hv⟩:=hv
      obtain ⟨v1,_,rfl,g1,hv⟩:=hv
      have e:_=[]:=hv
      subst e
      have q0:=Dec.ok (α:=Int) H _ h0 X w φ [v0] hs ⟨v0,[],rfl,g0,rfl⟩
      have q1:=Dec.ok (α:=Int) H _ h1 X w φ [v1] hs ⟨v1,[],rfl,g1,rfl⟩
      refine ⟨rfl,fun j u hu=>?_⟩
      match j,hu with
      | 0,hu=>simp at hu;subst hu;exact q0.2 0 _ rfl
      | 1,hu=>simp at hu;subst hu;exact q1.2 0 _ rfl
    · exact h.elim
@[simp] theorem dec_Node {H:Heap} {c0 c1:V}:Dec.dec (α:=Node) H [c0,c1]=((Dec.dec (α:=Int) H [c0]).1∧(Dec.dec (α:=Int) H [c1]).1,⟨(Dec.dec (α:=Int) H [c0]).2,(Dec.dec (α:=Int) H [c1]).2⟩):=rfl
@[simp] theorem dec_dNodeS {H:Heap} {l:List Node}:Dec.dec (α:=List Node) H [.d (dNodeS l)]=(True,l):=dec_ro (α:=Node) (l:=l)
@[simp] theorem dec_rpNode {H:Heap} {x:Node}:Dec.dec (α:=Ptr Node) H [.d (.rp 2 (dNode x))]=(True,⟨x⟩):=dec_rp (α:=Node) (p:=⟨x⟩)
@[simp] theorem agg_Node:Enc.agg Node=true:=rfl
@[simp] theorem size_Node:Enc.size Node=2:=rfl

structure Rule where
  left_:List Node
  right_:List Node
  deriving Inhabited,DecidableEq
def dRule (x:Rule):Nat→D
  | 0=>dNodeS x.left_
  | 1=>dNodeS x.right_
  | _=>.undef
@[simp] theorem dRule_0 (x:Rule):dRule x 0=dNodeS x.left_:=rfl
@[simp] theorem dRule_1 (x:Rule):dRule x 1=dNodeS x.right_:=rfl
@[reducible] instance encRule:Enc Rule where
  size:=2
  agg:=true
  cells:=dRule
  good x:=Enc.good x.left_∧Enc.good x.right_
  un f:=⟨Enc.un fun _=>f 0,Enc.un fun _=>f 1⟩
  un_of a f h:=by
    rw [h 0 (by omega),h 1 (by omega)]
    have e0:(Enc.un fun _=>dRule a 0)=a.left_:=Enc.un_of (α:=List Node) _ _ fun j hj=>rfl
    have e1:(Enc.un fun _=>dRule a 1)=a.right_:=Enc.un_of (α:=List Node) _ _ fun j hj=>rfl
    rw [e0,e1]
instance:Shaped Rule:=⟨fun h=>by cases h⟩
@[reducible] instance smRule:Sm Rule:=⟨fun x=>Sm.sm x.left_∧Sm.sm x.right_⟩
instance:Dft Rule:=⟨⟨Dft.good (α:=List Node),Dft.good (α:=List Node)⟩,⟨Dft.small (α:=List Node),Dft.small (α:=List Node)⟩⟩
@[simp] theorem Rule.eta (x:Rule):Rule.mk x.left_ x.right_=x:=rfl
abbrev dRuleS (l:List Rule):D:=.ro 2 l.length fun i j=>dRule (l[i]?.getD default) j
abbrev vRule (x:Rule):V:=.agg [.d (dNodeS x.left_),.d (dNodeS x.right_)]
@[reducible] instance decRule:Dec Rule where
  dec H l:=match l with | [c0,c1]=>((Dec.dec (α:=List Node) H [c0]).1∧(Dec.dec (α:=List Node) H [c1]).1,⟨(Dec.dec (α:=List Node) H [c0]).2,(Dec.dec (α:=List Node) H [c1]).2⟩) | _=>(False,default)
  ok H l h X w φ xs hs hv:=by
    split at h
    · obtain ⟨h0,h1⟩:=h
      obtain ⟨v0,_,rfl,g0,hv⟩:=hv
      obtain ⟨v1,_,rfl,g1,hv⟩:=hv
      have e:_=[]:=hv
      subst e
      have q0:=Dec.ok (α:=List Node) H _ h0 X w φ [v0] hs ⟨v0,[],rfl,g0,rfl⟩
      have q1:=Dec.ok (α:=List Node) H _ h1 X w φ [v1] hs ⟨v1,[],rfl,g1,rfl⟩
      refine ⟨rfl,fun j u hu=>?_⟩
      match j,hu with
      | 0,hu=>simp at hu;subst hu;exact q0.2 0 _ rfl
      | 1,hu=>simp at hu;subst hu;exact q1.2 0 _ rfl
    · exact h.elim
@[simp] theorem dec_Rule {H:Heap} {c0 c1:V}:Dec.dec (α:=Rule) H [c0,c1]=((Dec.dec (α:=List Node) H [c0]).1∧(Dec.dec (α:=List Node) H [c1]).1,⟨(Dec.dec (α:=List Node) H [c0]).2,(Dec.dec (α:=List Node) H [c1]).2⟩):=rfl
@[simp] theorem dec_dRuleS {H:Heap} {l:List Rule}:Dec.dec (α:=List Rule) H [.d (dRuleS l)]=(True,l):=dec_ro (α:=Rule) (l:=l)
@[simp] theorem dec_rpRule {H:Heap} {x:Rule}:Dec.dec (α:=Ptr Rule) H [.d (.rp 2 (dRule x))]=(True,⟨x⟩):=dec_rp (α:=Rule) (p:=⟨x⟩)
@[simp] theorem agg_Rule:Enc.agg Rule=true:=rfl
@[simp] theorem size_Rule:Enc.size Rule=2:=rfl

end Go.Proofs.YtbacilgolfojaaaDoor
