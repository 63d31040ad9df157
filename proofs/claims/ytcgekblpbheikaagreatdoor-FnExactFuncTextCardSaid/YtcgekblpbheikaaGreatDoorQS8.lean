/- What both programs tell of a value's place is the same: plain law. No condition. -/
import Derived.Test.YtcgekblpbheikaaGreatDoorQS6
section
namespace Go.Proofs.YtcgekblpbheikaaGreatDoor
set_option maxRecDepth 100000
set_option linter.unusedSimpArgs false
set_option linter.unusedVariables false
def bk (v:View) (n:Int):Int:=v.block_[n.toNat]?.getD 0
def blkAt (v:View) (n:Int):Block:=v.blocks_[(bk v n).toNat]?.getD default
def atV (v:View) (n:Int):Int:=IntKind.i64.wrap (IntKind.i64.wrap (n - (v.first_[(bk v n).toNat]?.getD 0)) - (blkAt v n).params_)
def instI (v:View) (n:Int):Inst:=(blkAt v n).insts_[(atV v n).toNat]?.getD default
def okV (v:View) (n:Int):Prop:=(0≤n∧n < v.block_.length)∧(0≤bk v n→bk v n < v.first_.length∧bk v n < v.blocks_.length∧(0≤atV v n→atV v n < (blkAt v n).insts_.length))
def pureOp (op:Int):Bool:=!decide (op=8) && (!decide (op=12) && !decide (op=13))
def pureV (v:View) (n:Int):Bool:=decide (0≤bk v n) && (decide (0≤atV v n) && pureOp (instI v n).op_)
end Go.Proofs.YtcgekblpbheikaaGreatDoor
end

section
namespace Go.Proofs.YtcgekblpbheikaaGreatDoor
set_option linter.unusedSimpArgs false
set_option linter.unusedVariables false
def szI (b:Block):Int:=b.params_ + b.insts_.length
def sumI:List Block→Int
  | []=>0
  | b :: bs=>szI b + sumI bs
theorem headOk_sz {b:Block} (h:headOk b=true):0≤b.params_∧b.params_≤4∧(b.insts_.length:Int)≤80∧IntKind.i64.wrap (b.params_ + b.insts_.length)=szI b∧0≤szI b∧szI b≤84:=by
  simp only [headOk,Bool.and_eq_true,decide_eq_true_eq] at h
  have:=inR_t.1 h.1
  refine ⟨this.1,this.2,by omega,wrap_id (by omega) (by omega), ?_, ?_⟩ <;> unfold szI <;> omega
theorem cntB_sum:∀ (bs:List Block) (m:Int),bs.all headOk=true→0≤m→m + 84 * bs.length≤9223372036854775807→cntB bs m=m + sumI bs∧0≤sumI bs∧sumI bs≤84 * bs.length
  | [],m,_,_,_=>by simp [cntB,sumI]
  | b :: bs,m,h,h0,h1=>by
    simp only [List.all_cons,Bool.and_eq_true] at h
    obtain ⟨_,_,_,e,e1,e2⟩:=headOk_sz h.1
    simp only [List.length_cons] at h1
    have hw:IntKind.i64.wrap (m + szI b)=m + szI b:=wrap_id (by omega) (by omega)
    obtain ⟨q1,q2,q3⟩:=cntB_sum bs (m + szI b) h.2 (by omega) (by omega)
    rw [cntB_cons,e,hw,q1]
    simp only [sumI,List.length_cons]
    omega
theorem wrap_sub {a b:Int} (h1:-1000000≤a - b) (h2:a - b≤1000000):IntKind.i64.wrap (a - b)=a - b:=wrap_id (by omega) (by omega)
end Go.Proofs.YtcgekblpbheikaaGreatDoor
end
