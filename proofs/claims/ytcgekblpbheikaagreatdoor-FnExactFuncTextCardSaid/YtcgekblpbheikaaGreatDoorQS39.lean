/- All places of a function at which values are used: uses, over trees. No condition. -/
import Derived.Test.YtcgekblpbheikaaGreatDoorQS31
section
namespace Go.Proofs.YtcgekblpbheikaaGreatDoor
set_option maxRecDepth 100000
set_option linter.unusedSimpArgs false
set_option linter.unusedVariables false
abbrev zBlock:List V:=[.d (.int .i64 0),.d .nilsl,.d (.int .i64 0),.d (.int .i64 0),.d .nilsl]
end Go.Proofs.YtcgekblpbheikaaGreatDoor
end

section
namespace Go.Proofs.YtcgekblpbheikaaGreatDoor
set_option maxRecDepth 100000
set_option linter.unusedSimpArgs false
set_option linter.unusedVariables false
theorem era_AS_ints (s:AS Int):Tr.era s=s.l:=era_ints s.l
end Go.Proofs.YtcgekblpbheikaaGreatDoor
end

section
namespace Go.Proofs.YtcgekblpbheikaaGreatDoor
set_option maxRecDepth 100000
set_option linter.unusedSimpArgs false
set_option linter.unusedVariables false
def mpI (g:Int→Int) (x:Inst):Inst:=⟨x.op_,x.n_,x.args_.map g⟩
def mpJ (g:Int→Int) (x:Jump):Jump:=⟨x.to_,x.args_.map g⟩
def mpB (g:Int→Int) (b:Block):Block:=⟨b.params_,b.insts_.map (mpI g),b.end_,if b.end_=2 then b.value_ else g b.value_,b.jumps_.map (mpJ g)⟩
structure Wr (fn:Nat) (caps:List V) (E:Heap→Prop) (K:List Nat) (U:Int→Prop) (g:Int→Int):Prop where
  call:∀ H id e es i j x c,E H→H[id]? = some (.row e es)→es[i]? = some c→c[j]? = some (.d (.int .i64 x))→c.length=e→U x→id ∉ K →
    CallsD Tryz.prog fn (.ptr id e i j :: caps) H fun r H'=>r=.tup []∧H'=H.set id (.row e (es.set i (c.set j (.d (.int .i64 (g x))))))
  keep:∀ H H',(∀ k∈K,H'[k]? = H[k]?)→E H→E H'
section
variable {fn:Nat} {caps:List V} {E:Heap→Prop} {K:List Nat} {U:Int→Prop} {g:Int→Int}
theorem Wr.only (w:Wr fn caps E K U g) {H H':Heap} {S:List Nat} (ho:Only S H H') (hE:E H) (hK:∀ k∈K,k ∉ S∧k < H.length):E H' :=
  w.keep H H' (fun k hk=>ho.at_ k (hK k hk).2 (hK k hk).1) hE
end
end Go.Proofs.YtcgekblpbheikaaGreatDoor
end

section
namespace Go.Proofs.YtcgekblpbheikaaGreatDoor
set_option maxRecDepth 100000
set_option linter.unusedSimpArgs false
set_option linter.unusedVariables false
section
variable {fn:Nat} {caps:List V} {E:Heap→Prop} {K:List Nat} {U:Int→Prop} {g:Int→Int}
end
end Go.Proofs.YtcgekblpbheikaaGreatDoor
end
