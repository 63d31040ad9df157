/- Data of Lean for the structures that the laws hand over. Written by a program. No condition. -/
import Derived.Test.YtcgekblpbheikaaGreatDoorQE4
namespace Go.Proofs.YtcgekblpbheikaaGreatDoor
set_option linter.unusedVariables false

class Sm (α:Type) where
  sm:α→Prop
class Dft (α:Type) [Enc α] [Sm α] [Inhabited α]:Prop where
  good:Enc.good (default:α)
  small:Sm.sm (default:α)
@[reducible] instance smInt:Sm Int:=⟨fun _=>True⟩
@[reducible] instance smList {α:Type} [Sm α]:Sm (List α):=⟨fun l=>l.length≤1048576∧∀ a∈l,Sm.sm a⟩
instance:Dft Int:=⟨by show -9223372036854775808≤(0:Int)∧(0:Int)≤9223372036854775807;decide,trivial⟩
instance {α:Type} [Enc α] [Sm α] [Inhabited α]:Dft (List α):=⟨⟨Nat.zero_le _,fun a h=>absurd h (List.not_mem_nil)⟩,⟨Nat.zero_le _,fun a h=>absurd h (List.not_mem_nil)⟩⟩
theorem good_get {α:Type} [Enc α] [Sm α] [Inhabited α] [Dft α] {l:List α} (h:Enc.good l) (i:Nat):Enc.good (l[i]?.getD default):=by
  cases e:l[i]? with
  | none=>exact Dft.good
  | some a=>exact h.2 a (List.mem_of_getElem? e)
theorem small_get {α:Type} [Enc α] [Sm α] [Inhabited α] [Dft α] {l:List α} (h:Sm.sm l) (i:Nat):Sm.sm (l[i]?.getD default):=by
  cases e:l[i]? with
  | none=>exact Dft.small
  | some a=>exact h.2 a (List.mem_of_getElem? e)
theorem good_len {α:Type} [Enc α] [Inhabited α] {l:List α} (h:Enc.good l):l.length≤9223372036854775807:=h.1
theorem small_len {α:Type} [Sm α] {l:List α} (h:Sm.sm l):l.length≤1048576:=h.1

theorem drop_cons {α:Type} [Inhabited α] {l:List α} {i:Nat} (h:i < l.length):l.drop i=l[i]?.getD default :: l.drop (i + 1):=by
  rw [List.drop_eq_getElem_cons h,List.getElem?_eq_getElem h];rfl
def chk (m:Int) (k:Int→Int):Int:=if m < 0 then -1 else k m
theorem chk_neg {m:Int} {k:Int→Int} (h:m < 0):chk m k = -1:=by simp [chk,h]
theorem chk_pos {m:Int} {k:Int→Int} (h:0≤m):chk m k=k m:=by simp [chk,Int.not_lt.2 h]

def fillR (n i:Nat) (f:Nat→List V) (z:List V):List (List V):=(List.range n).map fun j=>if j < i then f j else z
@[simp] theorem fillR_length (n i:Nat) (f:Nat→List V) (z:List V):(fillR n i f z).length=n:=by simp [fillR]
theorem fillR_zero (n:Nat) (f:Nat→List V) (z:List V):List.replicate n z=fillR n 0 f z:=by
  refine List.ext_getElem (by simp) fun i h1 h2=>by simp [fillR]
theorem fillR_get (n i:Nat) (f:Nat→List V) (z:List V) {j:Nat} (h:j < n):(fillR n i f z)[j]? = some (if j < i then f j else z):=by
  simp [fillR,h]
theorem fillR_at (n i:Nat) (f:Nat→List V) (z:List V) (h:i < n):(fillR n i f z)[i]? = some z:=by
  simp [fillR,h]
theorem fillR_done (n:Nat) (f:Nat→List V) (z:List V) {j:Nat} (h:j < n):(fillR n n f z)[j]? = some (f j):=by
  simp [fillR,h]
theorem fillR_set (n i:Nat) (f:Nat→List V) (z:List V) (h:i < n):(fillR n i f z).set i (f i)=fillR n (i + 1) f z:=by
  refine List.ext_getElem? fun j=>?_
  rw [List.getElem?_set]
  by_cases hj:j < n
  · rw [fillR_get _ _ _ _ hj,fillR_get _ _ _ _ hj]
    by_cases e:i=j
    · subst e;simp [h]
    · have:(j < i + 1)=(j < i):=by apply propext;omega
      simp [e,this]
  · simp [fillR,hj]
    omega
@[simp 2000] theorem setR_fillR {n i id e e' j size:Nat} {f:Nat→List V} {z l:List V} {H:Heap}:setR (fillR n i f z) id i e e' j size l H =
    guardR (i < n∧e'=e∧l.length=size∧j + size≤e∧ones l=true) (.ok (.tup []) (H.set id (.row e ((fillR n i f z).set i (setMany z j l))))):=by
  unfold setR
  refine guardR_congr (by rw [fillR_length]) fun h=>?_
  rw [fillR_at n i f z (by have:=h.1;rwa [fillR_length] at this)]
  rfl
@[simp 2000] theorem elR_fillR {n j i e e' k size:Nat} {agg:Bool} {f:Nat→List V} {z:List V} {H:Heap}:elR (fillR n i f z) j e e' k size agg H =
    guardR (j < n∧e'=e∧k + size≤e∧(agg=true∨size=1)) (.ok (asVal agg (((if j < i then f j else z).drop k).take size)) H):=by
  unfold elR
  refine guardR_congr (by rw [fillR_length]) fun h=>?_
  rw [fillR_get n i f z (by have:=h.1;rwa [fillR_length] at this)]
  rfl
theorem fillR_under {m n i:Nat} {f:Nat→List V} {z:List V} (hf:∀ j,∀ c∈f j,c.under m=true) (hz:∀ c∈z,c.under m=true):∀ x∈fillR n i f z,∀ c∈x,c.under m=true:=by
  intro x hx c hc
  simp only [fillR,List.mem_map] at hx
  obtain ⟨j,_,rfl⟩:=hx
  split at hc
  · exact hf j c hc
  · exact hz c hc

abbrev dIntS (l:List Int):D:=.ro 1 l.length fun i _=>.int .i64 (l[i]?.getD default)
abbrev dIntSS (l:List (List Int)):D:=.ro 1 l.length fun i _=>dIntS (l[i]?.getD default)
abbrev dBoolS (l:List Bool):D:=.ro 1 l.length fun i _=>.bool (l[i]?.getD default)
abbrev dBoolSS (l:List (List Bool)):D:=.ro 1 l.length fun i _=>dBoolS (l[i]?.getD default)
abbrev dStrS (l:List ByteArray):D:=.ro 1 l.length fun i _=>.str (l[i]?.getD default)
section
variable {H:Heap}
@[simp] theorem dec_dIntS {l:List Int}:Dec.dec (α:=List Int) H [.d (dIntS l)]=(True,l):=dec_ro (α:=Int) (l:=l)
@[simp] theorem dec_dBoolS {l:List Bool}:Dec.dec (α:=List Bool) H [.d (dBoolS l)]=(True,l):=dec_ro (α:=Bool) (l:=l)
@[simp] theorem dec_dStrS {l:List ByteArray}:Dec.dec (α:=List ByteArray) H [.d (dStrS l)]=(True,l):=dec_ro (α:=ByteArray) (l:=l)
@[simp] theorem dec_dIntSS {l:List (List Int)}:Dec.dec (α:=List (List Int)) H [.d (dIntSS l)]=(True,l):=dec_ro (α:=(List Int)) (l:=l)
@[simp] theorem dec_dBoolSS {l:List (List Bool)}:Dec.dec (α:=List (List Bool)) H [.d (dBoolSS l)]=(True,l):=dec_ro (α:=(List Bool)) (l:=l)
end

structure Inst where
  op_:Int
  n_:Int
  args_:List Int
  deriving Inhabited,DecidableEq
def dInst (x:Inst):Nat→D
  | 0=>.int .i64 x.op_
  | 1=>.int .i64 x.n_
  | 2=>dIntS x.args_
  | _=>.undef
@[simp] theorem dInst_0 (x:Inst):dInst x 0=.int .i64 x.op_:=rfl
@[simp] theorem dInst_1 (x:Inst):dInst x 1=.int .i64 x.n_:=rfl
@[simp] theorem dInst_2 (x:Inst):dInst x 2=dIntS x.args_:=rfl
@[reducible] instance encInst:Enc Inst where
  size:=3
  agg:=true
  cells:=dInst
  good x:=Enc.good x.op_∧Enc.good x.n_∧Enc.good x.args_
  un f:=⟨Enc.un fun _=>f 0,Enc.un fun _=>f 1,Enc.un fun _=>f 2⟩
  un_of a f h:=by
    rw [h 0 (by omega),h 1 (by omega),h 2 (by omega)]
    have e0:(Enc.un fun _=>dInst a 0)=a.op_:=Enc.un_of (α:=Int) _ _ fun j hj=>rfl
    have e1:(Enc.un fun _=>dInst a 1)=a.n_:=Enc.un_of (α:=Int) _ _ fun j hj=>rfl
    have e2:(Enc.un fun _=>dInst a 2)=a.args_:=Enc.un_of (α:=List Int) _ _ fun j hj=>rfl
    rw [e0,e1,e2]
instance:Shaped Inst:=⟨fun h=>by cases h⟩
@[reducible] instance smInst:Sm Inst:=⟨fun x=>Sm.sm x.op_∧Sm.sm x.n_∧Sm.sm x.args_⟩
instance:Dft Inst:=⟨⟨Dft.good (α:=Int),Dft.good (α:=Int),Dft.good (α:=List Int)⟩,⟨Dft.small (α:=Int),Dft.small (α:=Int),Dft.small (α:=List Int)⟩⟩
@[simp] theorem Inst.eta (x:Inst):Inst.mk x.op_ x.n_ x.args_=x:=rfl
abbrev dInstS (l:List Inst):D:=.ro 3 l.length fun i j=>dInst (l[i]?.getD default) j
abbrev vInst (x:Inst):V:=.agg [.d (.int .i64 x.op_),.d (.int .i64 x.n_),.d (dIntS x.args_)]
@[reducible] instance decInst:Dec Inst where
  dec H l:=match l with | [c0,c1,c2]=>((Dec.dec (α:=Int) H [c0]).1∧(Dec.dec (α:=Int) H [c1]).1∧(Dec.dec (α:=List Int) H [c2]).1,⟨(Dec.dec (α:=Int) H [c0]).2,(Dec.dec (α:=Int) H [c1]).2,(Dec.dec (α:=List Int) H [c2]).2⟩) | _=>(False,default)
  ok H l h X w φ xs hs hv:=by
    split at h
    · obtain ⟨h0,h1,h2⟩:=h
      obtain ⟨v0,_,rfl,g0,hv⟩:=hv
      obtain ⟨v1,_,rfl,g1,hv⟩:=hv
      obtain ⟨v2,_,rfl,g2,hv⟩:=hv
      have e:_=[]:=hv
      subst e
      have q0:=Dec.ok (α:=Int) H _ h0 X w φ [v0] hs ⟨v0,[],rfl,g0,rfl⟩
      have q1:=Dec.ok (α:=Int) H _ h1 X w φ [v1] hs ⟨v1,[],rfl,g1,rfl⟩
      have q2:=Dec.ok (α:=List Int) H _ h2 X w φ [v2] hs ⟨v2,[],rfl,g2,rfl⟩
      refine ⟨rfl,fun j u hu=>?_⟩
      match j,hu with
      | 0,hu=>simp at hu;subst hu;exact q0.2 0 _ rfl
      | 1,hu=>simp at hu;subst hu;exact q1.2 0 _ rfl
      | 2,hu=>simp at hu;subst hu;exact q2.2 0 _ rfl
    · exact h.elim
@[simp] theorem dec_Inst {H:Heap} {c0 c1 c2:V}:Dec.dec (α:=Inst) H [c0,c1,c2]=((Dec.dec (α:=Int) H [c0]).1∧(Dec.dec (α:=Int) H [c1]).1∧(Dec.dec (α:=List Int) H [c2]).1,⟨(Dec.dec (α:=Int) H [c0]).2,(Dec.dec (α:=Int) H [c1]).2,(Dec.dec (α:=List Int) H [c2]).2⟩):=rfl
@[simp] theorem dec_dInstS {H:Heap} {l:List Inst}:Dec.dec (α:=List Inst) H [.d (dInstS l)]=(True,l):=dec_ro (α:=Inst) (l:=l)
@[simp] theorem dec_rpInst {H:Heap} {x:Inst}:Dec.dec (α:=Ptr Inst) H [.d (.rp 3 (dInst x))]=(True,⟨x⟩):=dec_rp (α:=Inst) (p:=⟨x⟩)
@[simp] theorem agg_Inst:Enc.agg Inst=true:=rfl
@[simp] theorem size_Inst:Enc.size Inst=3:=rfl

structure Jump where
  to_:Int
  args_:List Int
  deriving Inhabited,DecidableEq
def dJump (x:Jump):Nat→D
  | 0=>.int .i64 x.to_
  | 1=>dIntS x.args_
  | _=>.undef
@[simp] theorem dJump_0 (x:Jump):dJump x 0=.int .i64 x.to_:=rfl
@[simp] theorem dJump_1 (x:Jump):dJump x 1=dIntS x.args_:=rfl
@[reducible] instance encJump:Enc Jump where
  size:=2
  agg:=true
  cells:=dJump
  good x:=Enc.good x.to_∧Enc.good x.args_
  un f:=⟨Enc.un fun _=>f 0,Enc.un fun _=>f 1⟩
  un_of a f h:=by
    rw [h 0 (by omega),h 1 (by omega)]
    have e0:(Enc.un fun _=>dJump a 0)=a.to_:=Enc.un_of (α:=Int) _ _ fun j hj=>rfl
    have e1:(Enc.un fun _=>dJump a 1)=a.args_:=Enc.un_of (α:=List Int) _ _ fun j hj=>rfl
    rw [e0,e1]
instance:Shaped Jump:=⟨fun h=>by cases h⟩
@[reducible] instance smJump:Sm Jump:=⟨fun x=>Sm.sm x.to_∧Sm.sm x.args_⟩
instance:Dft Jump:=⟨⟨Dft.good (α:=Int),Dft.good (α:=List Int)⟩,⟨Dft.small (α:=Int),Dft.small (α:=List Int)⟩⟩
@[simp] theorem Jump.eta (x:Jump):Jump.mk x.to_ x.args_=x:=rfl
abbrev dJumpS (l:List Jump):D:=.ro 2 l.length fun i j=>dJump (l[i]?.getD default) j
abbrev vJump (x:Jump):V:=.agg [.d (.int .i64 x.to_),.d (dIntS x.args_)]
@[reducible] instance decJump:Dec Jump where
  dec H l:=match l with | [c0,c1]=>((Dec.dec (α:=Int) H [c0]).1∧(Dec.dec (α:=List Int) H [c1]).1,⟨(Dec.dec (α:=Int) H [c0]).2,(Dec.dec (α:=List Int) H [c1]).2⟩) | _=>(False,default)
  ok H l h X w φ xs hs hv:=by
    split at h
    · obtain ⟨h0,h1⟩:=h
      obtain ⟨v0,_,rfl,g0,hv⟩:=hv
      obtain ⟨v1,_,rfl,g1,hv⟩:=hv
      have e:_=[]:=hv
      subst e
      have q0:=Dec.ok (α:=Int) H _ h0 X w φ [v0] hs ⟨v0,[],rfl,g0,rfl⟩
      have q1:=Dec.ok (α:=List Int) H _ h1 X w φ [v1] hs ⟨v1,[],rfl,g1,rfl⟩
      refine ⟨rfl,fun j u hu=>?_⟩
      match j,hu with
      | 0,hu=>simp at hu;subst hu;exact q0.2 0 _ rfl
      | 1,hu=>simp at hu;subst hu;exact q1.2 0 _ rfl
    · exact h.elim
@[simp] theorem dec_Jump {H:Heap} {c0 c1:V}:Dec.dec (α:=Jump) H [c0,c1]=((Dec.dec (α:=Int) H [c0]).1∧(Dec.dec (α:=List Int) H [c1]).1,⟨(Dec.dec (α:=Int) H [c0]).2,(Dec.dec (α:=List Int) H [c1]).2⟩):=rfl
@[simp] theorem dec_dJumpS {H:Heap} {l:List Jump}:Dec.dec (α:=List Jump) H [.d (dJumpS l)]=(True,l):=dec_ro (α:=Jump) (l:=l)
@[simp] theorem dec_rpJump {H:Heap} {x:Jump}:Dec.dec (α:=Ptr Jump) H [.d (.rp 2 (dJump x))]=(True,⟨x⟩):=dec_rp (α:=Jump) (p:=⟨x⟩)
@[simp] theorem agg_Jump:Enc.agg Jump=true:=rfl
@[simp] theorem size_Jump:Enc.size Jump=2:=rfl

structure Block where
  params_:Int
  insts_:List Inst
  end_:Int
  value_:Int
  jumps_:List Jump
  deriving Inhabited,DecidableEq
def dBlock (x:Block):Nat→D
  | 0=>.int .i64 x.params_
  | 1=>dInstS x.insts_
  | 2=>.int .i64 x.end_
  | 3=>.int .i64 x.value_
  | 4=>dJumpS x.jumps_
  | _=>.undef
@[simp] theorem dBlock_0 (x:Block):dBlock x 0=.int .i64 x.params_:=rfl
@[simp] theorem dBlock_1 (x:Block):dBlock x 1=dInstS x.insts_:=rfl
@[simp] theorem dBlock_2 (x:Block):dBlock x 2=.int .i64 x.end_:=rfl
@[simp] theorem dBlock_3 (x:Block):dBlock x 3=.int .i64 x.value_:=rfl
@[simp] theorem dBlock_4 (x:Block):dBlock x 4=dJumpS x.jumps_:=rfl
@[reducible] instance encBlock:Enc Block where
  size:=5
  agg:=true
  cells:=dBlock
  good x:=Enc.good x.params_∧Enc.good x.insts_∧Enc.good x.end_∧Enc.good x.value_∧Enc.good x.jumps_
  un f:=⟨Enc.un fun _=>f 0,Enc.un fun _=>f 1,Enc.un fun _=>f 2,Enc.un fun _=>f 3,Enc.un fun _=>f 4⟩
  un_of a f h:=by
    rw [h 0 (by omega),h 1 (by omega),h 2 (by omega),h 3 (by omega),h 4 (by omega)]
    have e0:(Enc.un fun _=>dBlock a 0)=a.params_:=Enc.un_of (α:=Int) _ _ fun j hj=>rfl
    have e1:(Enc.un fun _=>dBlock a 1)=a.insts_:=Enc.un_of (α:=List Inst) _ _ fun j hj=>rfl
    have e2:(Enc.un fun _=>dBlock a 2)=a.end_:=Enc.un_of (α:=Int) _ _ fun j hj=>rfl
    have e3:(Enc.un fun _=>dBlock a 3)=a.value_:=Enc.un_of (α:=Int) _ _ fun j hj=>rfl
    have e4:(Enc.un fun _=>dBlock a 4)=a.jumps_:=Enc.un_of (α:=List Jump) _ _ fun j hj=>rfl
    rw [e0,e1,e2,e3,e4]
instance:Shaped Block:=⟨fun h=>by cases h⟩
@[reducible] instance smBlock:Sm Block:=⟨fun x=>Sm.sm x.params_∧Sm.sm x.insts_∧Sm.sm x.end_∧Sm.sm x.value_∧Sm.sm x.jumps_⟩
instance:Dft Block:=⟨⟨Dft.good (α:=Int),Dft.good (α:=List Inst),Dft.good (α:=Int),Dft.good (α:=Int),Dft.good (α:=List Jump)⟩,⟨Dft.small (α:=Int),Dft.small (α:=List Inst),Dft.small (α:=Int),Dft.small (α:=Int),Dft.small (α:=List Jump)⟩⟩
@[simp] theorem Block.eta (x:Block):Block.mk x.params_ x.insts_ x.end_ x.value_ x.jumps_=x:=rfl
abbrev dBlockS (l:List Block):D:=.ro 5 l.length fun i j=>dBlock (l[i]?.getD default) j
abbrev vBlock (x:Block):V:=.agg [.d (.int .i64 x.params_),.d (dInstS x.insts_),.d (.int .i64 x.end_),.d (.int .i64 x.value_),.d (dJumpS x.jumps_)]
@[reducible] instance decBlock:Dec Block where
  dec H l:=match l with | [c0,c1,c2,c3,c4]=>((Dec.dec (α:=Int) H [c0]).1∧(Dec.dec (α:=List Inst) H [c1]).1∧(Dec.dec (α:=Int) H [c2]).1∧(Dec.dec (α:=Int) H [c3]).1∧(Dec.dec (α:=List Jump) H [c4]).1,⟨(Dec.dec (α:=Int) H [c0]).2,(Dec.dec (α:=List Inst) H [c1]).2,(Dec.dec (α:=Int) H [c2]).2,(Dec.dec (α:=Int) H [c3]).2,(Dec.dec (α:=List Jump) H [c4]).2⟩) | _=>(False,default)
  ok H l h X w φ xs hs hv:=by
    split at h
    · obtain ⟨h0,h1,h2,h3,h4⟩:=h
      obtain ⟨v0,_,rfl,g0,hv⟩:=hv
      obtain ⟨v1,_,rfl,g1,hv⟩:=hv
      obtain ⟨v2,_,rfl,g2,hv⟩:=hv
      obtain ⟨v3,_,rfl,g3,hv⟩:=hv
      obtain ⟨v4,_,rfl,g4,hv⟩:=hv
      have e:_=[]:=hv
      subst e
      have q0:=Dec.ok (α:=Int) H _ h0 X w φ [v0] hs ⟨v0,[],rfl,g0,rfl⟩
      have q1:=Dec.ok (α:=List Inst) H _ h1 X w φ [v1] hs ⟨v1,[],rfl,g1,rfl⟩
      have q2:=Dec.ok (α:=Int) H _ h2 X w φ [v2] hs ⟨v2,[],rfl,g2,rfl⟩
      have q3:=Dec.ok (α:=Int) H _ h3 X w φ [v3] hs ⟨v3,[],rfl,g3,rfl⟩
      have q4:=Dec.ok (α:=List Jump) H _ h4 X w φ [v4] hs ⟨v4,[],rfl,g4,rfl⟩
      refine ⟨rfl,fun j u hu=>?_⟩
      match j,hu with
      | 0,hu=>simp at hu;subst hu;exact q0.2 0 _ rfl
      | 1,hu=>simp at hu;subst hu;exact q1.2 0 _ rfl
      | 2,hu=>simp at hu;subst hu;exact q2.2 0 _ rfl
      | 3,hu=>simp at hu;subst hu;exact q3.2 0 _ rfl
      | 4,hu=>simp at hu;subst hu;exact q4.2 0 _ rfl
    · exact h.elim
@[simp] theorem dec_Block {H:Heap} {c0 c1 c2 c3 c4:V}:Dec.dec (α:=Block) H [c0,c1,c2,c3,c4]=((Dec.dec (α:=Int) H [c0]).1∧(Dec.dec (α:=List Inst) H [c1]).1∧(Dec.dec (α:=Int) H [c2]).1∧(Dec.dec (α:=Int) H [c3]).1∧(Dec.dec (α:=List Jump) H [c4]).1,⟨(Dec.dec (α:=Int) H [c0]).2,(Dec.dec (α:=List Inst) H [c1]).2,(Dec.dec (α:=Int) H [c2]).2,(Dec.dec (α:=Int) H [c3]).2,(Dec.dec (α:=List Jump) H [c4]).2⟩):=rfl
@[simp] theorem dec_dBlockS {H:Heap} {l:List Block}:Dec.dec (α:=List Block) H [.d (dBlockS l)]=(True,l):=dec_ro (α:=Block) (l:=l)
@[simp] theorem dec_rpBlock {H:Heap} {x:Block}:Dec.dec (α:=Ptr Block) H [.d (.rp 5 (dBlock x))]=(True,⟨x⟩):=dec_rp (α:=Block) (p:=⟨x⟩)
@[simp] theorem agg_Block:Enc.agg Block=true:=rfl
@[simp] theorem size_Block:Enc.size Block=5:=rfl

structure Func where
  params_:Int
  blocks_:List Block
  deriving Inhabited,DecidableEq
def dFunc (x:Func):Nat→D
  | 0=>.int .i64 x.params_
  | 1=>dBlockS x.blocks_
  | _=>.undef
@[simp] theorem dFunc_0 (x:Func):dFunc x 0=.int .i64 x.params_:=rfl
@[simp] theorem dFunc_1 (x:Func):dFunc x 1=dBlockS x.blocks_:=rfl
@[reducible] instance encFunc:Enc Func where
  size:=2
  agg:=true
  cells:=dFunc
  good x:=Enc.good x.params_∧Enc.good x.blocks_
  un f:=⟨Enc.un fun _=>f 0,Enc.un fun _=>f 1⟩
  un_of a f h:=by
    rw [h 0 (by omega),h 1 (by omega)]
    have e0:(Enc.un fun _=>dFunc a 0)=a.params_:=Enc.un_of (α:=Int) _ _ fun j hj=>rfl
    have e1:(Enc.un fun _=>dFunc a 1)=a.blocks_:=Enc.un_of (α:=List Block) _ _ fun j hj=>rfl
    rw [e0,e1]
instance:Shaped Func:=⟨fun h=>by cases h⟩
@[reducible] instance smFunc:Sm Func:=⟨fun x=>Sm.sm x.params_∧Sm.sm x.blocks_⟩
instance:Dft Func:=⟨⟨Dft.good (α:=Int),Dft.good (α:=List Block)⟩,⟨Dft.small (α:=Int),Dft.small (α:=List Block)⟩⟩
@[simp] theorem Func.eta (x:Func):Func.mk x.params_ x.blocks_=x:=rfl
abbrev dFuncS (l:List Func):D:=.ro 2 l.length fun i j=>dFunc (l[i]?.getD default) j
abbrev vFunc (x:Func):V:=.agg [.d (.int .i64 x.params_),.d (dBlockS x.blocks_)]
@[reducible] instance decFunc:Dec Func where
  dec H l:=match l with | [c0,c1]=>((Dec.dec (α:=Int) H [c0]).1∧(Dec.dec (α:=List Block) H [c1]).1,⟨(Dec.dec (α:=Int) H [c0]).2,(Dec.dec (α:=List Block) H [c1]).2⟩) | _=>(False,default)
  ok H l h X w φ xs hs hv:=by
    split at h
    · obtain ⟨h0,h1⟩:=h
      obtain ⟨v0,_,rfl,g0,hv⟩:=hv
      obtain ⟨v1,_,rfl,g1,hv⟩:=hv
      have e:_=[]:=hv
      subst e
      have q0:=Dec.ok (α:=Int) H _ h0 X w φ [v0] hs ⟨v0,[],rfl,g0,rfl⟩
      have q1:=Dec.ok (α:=List Block) H _ h1 X w φ [v1] hs ⟨v1,[],rfl,g1,rfl⟩
      refine ⟨rfl,fun j u hu=>?_⟩
      match j,hu with
      | 0,hu=>simp at hu;subst hu;exact q0.2 0 _ rfl
      | 1,hu=>simp at hu;subst hu;exact q1.2 0 _ rfl
    · exact h.elim
@[simp] theorem dec_Func {H:Heap} {c0 c1:V}:Dec.dec (α:=Func) H [c0,c1]=((Dec.dec (α:=Int) H [c0]).1∧(Dec.dec (α:=List Block) H [c1]).1,⟨(Dec.dec (α:=Int) H [c0]).2,(Dec.dec (α:=List Block) H [c1]).2⟩):=rfl
@[simp] theorem dec_dFuncS {H:Heap} {l:List Func}:Dec.dec (α:=List Func) H [.d (dFuncS l)]=(True,l):=dec_ro (α:=Func) (l:=l)
@[simp] theorem dec_rpFunc {H:Heap} {x:Func}:Dec.dec (α:=Ptr Func) H [.d (.rp 2 (dFunc x))]=(True,⟨x⟩):=dec_rp (α:=Func) (p:=⟨x⟩)
@[simp] theorem agg_Func:Enc.agg Func=true:=rfl
@[simp] theorem size_Func:Enc.size Func=2:=rfl

end Go.Proofs.YtcgekblpbheikaaGreatDoor
