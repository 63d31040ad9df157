/- Closed contracts of ArgsOf, FirstOf, CountValues and CostOfFunc of both programs, and of the law's helpers. No condition. -/
import Derived.Test.YtcgekblpbheikaaGreatDoorQE4
import Derived.Test.YtcgekblpbheikaaGreatDoorQTy
import Derived.Test.YtcgekblpbheikaaGreatDoorQS37
import Derived.Test.YtcgekblpbheikaaGreatDoorQS49
section
namespace Go.Proofs.YtcgekblpbheikaaGreatDoor
set_option linter.unusedVariables false
structure Byt where
  n:Int
  deriving Inhabited
@[reducible] instance encByt:Enc Byt where
  size:=1
  agg:=false
  cells x _:=.int .u8 x.n
  good x:=0≤x.n∧x.n≤255
  un f:=⟨match f 0 with | .int _ n=>n | _=>0⟩
  un_of a f h:=by rw [h 0 (by omega)]
end Go.Proofs.YtcgekblpbheikaaGreatDoor
end

section
namespace Go.Proofs.YtcgekblpbheikaaGreatDoor
set_option maxRecDepth 100000
set_option linter.unusedSimpArgs false
set_option linter.unusedVariables false
theorem goodI_c (F:Func) (hF:Enc.good F):PureP Tryz.prog 43 [vFunc F] (· = .d (.bool (goodF F))):=by
  cases hg:goodF F with
  | false => refine pure_of Tryz.func43 en_43 rfl rfl (W_run mixed ⟨[K_77], [K_77h], [], 6, 0, [0, 1, 2], []⟩ (fun _ => []) (by kernel_rfl) ?_)
             simp only [Tryz.f43,stripX,stripOps,pickOps]
             simp [K_77_f,K_77_e,K_77h_f,K_77h_e,K_77h_g,hF,viewV_f hg]
  | true => refine pure_of Tryz.func43 en_43 rfl rfl (W_run mixed ⟨[K_77], [K_77h], [], 6, 0, [0, 1, 2], []⟩ (fun _ => []) (by kernel_rfl) ?_)
            simp only [Tryz.f43,stripX,stripOps,pickOps]
            simp [K_77_f,K_77_e,K_77h_f,K_77h_e,K_77h_g,hF,viewV_t hg]
noncomputable def K_43:Ent Tryz.prog:=Ent.p1 (α:=Func) 43 (fun F=>Enc.good F) (fun F=>.d (.bool (goodF F))) (fun F hc=>goodI_c F hc)
theorem K_43_f:K_43.f=43:=rfl
theorem K_43_e (F0:Int) (F1:List Block):K_43.e [.agg [.d (.int .i64 F0),.d (dBlockS F1)]]=some (Enc.good (Func.mk F0 F1),.d (.bool (goodF (Func.mk F0 F1))),[]):=by unfold K_43;exact Ent.p1_eq (α:=Func) (Func.mk F0 F1)
noncomputable def K_43h:EntH Tryz.prog:=EntH.pk1 (α:=Func) 43 (fun F=>Enc.good F) (fun F=>.d (.bool (goodF F))) (fun F=>[]) (fun F hc=>PureP.ans (goodI_c F hc))
theorem K_43h_f:K_43h.f=43:=rfl
theorem K_43h_g:K_43h.gro=true:=rfl
theorem K_43h_e {x1:V} {H:Heap}:K_43h.e [x1] H=guardR ((decA (α:=Func) H x1).1) (peekR (Enc.good (decA (α:=Func) H x1).2) (.d (.bool (goodF (decA (α:=Func) H x1).2))) ([]) H):=rfl
@[reducible] instance decByt:Dec Byt where
  dec _ l:=match l with | [.d (.int .u8 n)]=>(True,⟨n⟩) | _=>(False,default)
  ok H l h X w φ xs hs hv:=by
    split at h
    · obtain ⟨v,vs',rfl,h2,h3⟩:=hv
      have:vs'=[]:=h3
      subst this
      refine ⟨rfl,fun j u hu=>?_⟩
      match j,hu with
      | 0,hu=>simp at hu;subst hu;exact h2
    · exact h.elim
end Go.Proofs.YtcgekblpbheikaaGreatDoor
end
