/- Closed contracts of ArgsOf, FirstOf, CountValues and CostOfFunc of both programs, and of the law's helpers. No condition. -/
import Derived.Test.YthafdegfjadijaaGreatQE4
import Derived.Test.YthafdegfjadijaaGreatQTy
import Derived.Test.YthafdegfjadijaaGreatQS23
import Derived.Test.YthafdegfjadijaaGreatQE6
import Derived.Test.YthafdegfjadijaaGreatQS41
section
namespace Go.Proofs.YthafdegfjadijaaGreat
set_option linter.unusedVariables false
structure Byt where
  n:Int
  deriving Inhabited
@[reducible] instance encByt:Enc Byt where
  size:=1
  agg:=false
  cells x _:=.int .u8 x.n
  good x:=0≤x.n∧x.n≤255
  un f:=⟨match f 0 with | .int _ n=>n | _=>0⟩
  un_of a f h:=by rw [h 0 (by omega)]
abbrev dBytS (l:List Byt):D:=.ro 1 l.length fun i _=>.int .u8 (l[i]?.getD default).n
theorem reads_byt {P:Program} {t:TypeId} (ht:P.underlying t=some (.int .u8)) (hc:P.cellsOf t=1):Reads P t Byt:=by
  refine ⟨hc,by rw [ht];exact ⟨rfl,rfl⟩,fun H enc w fuel cs x h=>?_⟩
  obtain ⟨n,rfl,_,hw⟩:=DataW.trod_int ht h
  have hb:0≤n∧n≤255:=by
    simp only [Lit.wf,Bool.and_eq_true,decide_eq_true_eq] at hw
    exact ⟨hw.1,hw.2⟩
  refine ⟨rfl,⟨n⟩,hb,fun j v hv=>?_⟩
  match j,hv with
  | 0,hv=>simp at hv;subst hv;rfl
theorem rd_LByt:Reads Tryz.prog 22 (List Byt):=reads_list (by kernel_rfl) (by kernel_rfl) (reads_byt (t:=5) (by kernel_rfl) (by kernel_rfl))
end Go.Proofs.YthafdegfjadijaaGreat
end

section
namespace Go.Proofs.YthafdegfjadijaaGreat
set_option linter.unusedVariables false
set_option linter.unusedSimpArgs false
def isBS:Op→Bool
  | .buildSlice ..=>true
  | _=>false
def sideZ (i0:Nat) (env:Env) (H:Heap) (o:Op):Prop:=sideA i0 env o∧(isBS o=true→i0 < H.length)
def opZ (P:Program) (Γ:Table) (own:List FuncId) (i0:Nat) (env:Env) (H:Heap) (o:Op) (k:V→Heap→Prop):Prop:=sideZ i0 env H o∧opT P Γ own env H o k
def stepZ (P:Program) (Γ:Table) (own:List FuncId) (i0:Nat) (all:List (Option Nat)) (o:SOp) (env:Env) (H:Heap) (K:Env→Heap→Prop):Prop :=
  match o.guard with
  | none=>opZ P Γ own i0 env H o.op fun v H'=>K (updO env o.dst v) H'
  | some _=>False
def opsZ (P:Program) (Γ:Table) (own:List FuncId) (i0:Nat) (all:List (Option Nat)):List SOp→Env→Heap→(Env→Heap→Prop)→Prop
  | [],env,H,k=>k env H
  | o :: rest,env,H,k=>stepZ P Γ own i0 all o env H fun e h=>opsZ P Γ own i0 all rest e h k
section
variable {P:Program} {Γ:Table} {own:List FuncId} {i0:Nat} {all:List (Option Nat)}
end
section
variable {P:Program} {Γ:Table} {own:List FuncId} {x:Ctx} {N i0:Nat}
end
attribute [simp] isBS sideZ opZ stepZ opsZ
end Go.Proofs.YthafdegfjadijaaGreat
end

section
namespace Go.Proofs.YthafdegfjadijaaGreat
set_option maxRecDepth 100000
set_option linter.unusedSimpArgs false
set_option linter.unusedVariables false
structure VW (n0:Nat) (A:AFunc) (F:Func) (w f b:Nat) (G:Heap):Prop where
  view:G[w]? = some (.row 5 [[.d (.int .i64 A.params_),.sl A.blocks_.id 5 0 A.blocks_.l.length,.sl f 1 0 (viewD F).first_.length,.sl b 1 0 (viewD F).block_.length,.d (.int .i64 (many F))]])
  fr:G[f]? = some (.row 1 (rI (viewD F).first_))
  br:G[b]? = some (.row 1 (rI (viewD F).block_))
  ge:n0≤w∧n0≤f∧n0≤b
structure NV (H:Heap) (A:AFunc) (F:Func) (i:Nat) (fl bl:List Int) (tot:Int) (vf:V) (b:Nat) (H1:Heap):Prop where
  view:H1[H.length + 3]? = some (.row 5 [[.d (.int .i64 A.params_),.sl A.blocks_.id 5 0 A.blocks_.l.length,vf,.sl b 1 0 bl.length,.d (.int .i64 tot)]])
  gf:Gr (H.length + 4) fl vf H1
  gb:H1[b]? = some (.row 1 (rI bl))
  hb:H.length + 2≤b∧b ≠ H.length + 3
  ne:0 < fl.length→vf.slId ≠ b
  old:Only [] H H1
  le:i≤A.blocks_.l.length
  lf:fl.length=i
  lb:bl.length≤1000 * (i + 1)
  ef:fl++firsts (F.blocks_.drop i) tot=firsts F.blocks_ F.params_
  eb:bl++blkOf (F.blocks_.drop i) i=List.replicate F.params_.toNat (-1)++blkOf F.blocks_ 0
  ec:cntB (F.blocks_.drop i) tot=many F
end Go.Proofs.YthafdegfjadijaaGreat
end

section
namespace Go.Proofs.YthafdegfjadijaaGreat
set_option maxRecDepth 100000
set_option linter.unusedSimpArgs false
set_option linter.unusedVariables false
end Go.Proofs.YthafdegfjadijaaGreat
end

section
namespace Go.Proofs.YthafdegfjadijaaGreat
set_option maxRecDepth 100000
set_option linter.unusedSimpArgs false
set_option linter.unusedVariables false
def nuB (F:Func) (n:Int):Bool:=decide (0≤(instS F n F.blocks_ 0).1) && decide ((insAt F n).op_=1)
def nuN (F:Func) (n:Int):Int:=if nuB F n=true then (insAt F n).n_ else 0
end Go.Proofs.YthafdegfjadijaaGreat
end

section
namespace Go.Proofs.YthafdegfjadijaaGreat
set_option maxRecDepth 100000
set_option linter.unusedSimpArgs false
set_option linter.unusedVariables false
def foldB (F:Func) (b:Block):Block :=
  if b.end_=3∧nuB F b.value_=true then ⟨b.params_,b.insts_,2,0,[b.jumps_[if nuN F b.value_=0 then 1 else 0]?.getD default]⟩ else b
def foldK (F:Func) (b:Block):Int:=if b.end_=3∧nuB F b.value_=true then 1 else 0
theorem Rd1.tup {H:Heap} {l l':List V} (h:Rds H l l'):Rd1 H (.tup l) (.tup l'):=fun X w φ v hs hv=>by
  simp only [VS] at hv ⊢
  obtain ⟨cs,rfl,h2⟩:=hv
  exact ⟨cs,rfl,Rd1.list h X w φ _ hs h2⟩
end Go.Proofs.YthafdegfjadijaaGreat
end

section
namespace Go.Proofs.YthafdegfjadijaaGreat
set_option maxRecDepth 100000
set_option linter.unusedSimpArgs false
set_option linter.unusedVariables false
theorem PureP.of_ownQ {P:Program} {f:FuncId} {vs:List V} {Q0:V→Prop} (h:CallsD P f vs [] fun r H'=>∃ r0,Q0 r0∧Rd1 H' r r0):PureP P f vs Q0:=by
  refine ⟨h.1,fun X w φ args hX hs hv=>(h.2 X w φ args hX hs hv).mono ?_⟩
  rintro e w' ⟨v,r,φ',H',rfl,⟨r0,q0,hq⟩,hs',hv',hfr,hext,hlen,hnew⟩
  have hφ:φ=[]:=List.length_eq_zero_iff.1 hs.len
  subst hφ
  have ho:owned X [] []=X:=owned_nil X
  refine ⟨v,r0,[],[],rfl,⟨rfl,q0⟩,HS.nil _ _,by rw [ho];exact hq X w' φ' v hs' hv',hfr,fun id hid=>absurd hid (by simp),Nat.le_refl _, ?_⟩
  rintro g hg ⟨id,e,es,o,h1,_⟩
  simp at h1
theorem isBlk_n {F:Func} {k:Int} (hF:Enc.good F) (h:isBlk F k=true):goodF F=true∧0≤k∧k.toNat < F.blocks_.length:=by
  obtain ⟨h1,h2,h3⟩:=isBlk_t hF h
  exact ⟨h1,h2,by omega⟩
@[reducible] instance decByt:Dec Byt where
  dec _ l:=match l with | [.d (.int .u8 n)]=>(True,⟨n⟩) | _=>(False,default)
  ok H l h X w φ xs hs hv:=by
    split at h
    · obtain ⟨v,vs',rfl,h2,h3⟩:=hv
      have:vs'=[]:=h3
      subst this
      refine ⟨rfl,fun j u hu=>?_⟩
      match j,hu with
      | 0,hu=>simp at hu;subst hu;exact h2
    · exact h.elim
def bigB (a b:List Byt):Bool:=decide (1048576 < (a.length:Int)) || decide (IntKind.i64.wrap (1048576 - (a.length:Int)) < (b.length:Int))
theorem big_c (a b:List Byt):PureP Tryz.prog 5 [.d (dBytS a),.d (dBytS b)] (· = .d (.bool (bigB a b))):=by
  refine pure_of Tryz.func5 en_5 rfl rfl (W_run mixed ⟨[],[],[],16,0,[0,1,4],[8]⟩ (fun _=>[]) (by kernel_rfl) ?_)
  simp only [Tryz.f5,stripX,stripOps,pickOps]
  simp []
  unfold bigB
  exact ⟨fun h=>by simp [h],fun h=>by simp [show ¬ (1048576:Int) < a.length by omega]⟩
noncomputable def K_5:Ent Tryz.prog:=Ent.p2 (α:=List Byt) (β:=List Byt) 5 (fun a b=>True) (fun a b=>.d (.bool (bigB a b))) (fun a b hc=>big_c a b)
theorem K_5_f:K_5.f=5:=rfl
theorem K_5_e (a:List Byt) (b:List Byt):K_5.e [.d (dBytS a),.d (dBytS b)]=some (True,.d (.bool (bigB a b)),[]):=by unfold K_5;exact Ent.p2_eq (α:=List Byt) (β:=List Byt) a b
noncomputable def K_5h:EntH Tryz.prog:=EntH.pk2 (α:=List Byt) (β:=List Byt) 5 (fun a b=>True) (fun a b=>.d (.bool (bigB a b))) (fun a b=>[]) (fun a b hc=>PureP.ans (big_c a b))
theorem K_5h_f:K_5h.f=5:=rfl
theorem K_5h_g:K_5h.gro=true:=rfl
theorem K_5h_e {x1 x2:V} {H:Heap}:K_5h.e [x1,x2] H=guardR ((decA (α:=List Byt) H x1).1∧(decA (α:=List Byt) H x2).1) (peekR (True) (.d (.bool (bigB (decA (α:=List Byt) H x1).2 (decA (α:=List Byt) H x2).2))) ([]) H):=rfl
theorem sameInts_c (a b:List Int) (ha:a.length≤1000):PureP Tryz.prog 14 [.d (dIntS a),.d (dIntS b)] (· = .d (.bool (decide (a=b)))):=by
  refine pure_of Tryz.func14 en_14 rfl rfl (W_run mixed ⟨[],[],[],26,0,[0,1,4,5,10,12,13,14,24],[10,14,24]⟩ (fun | 6=>[0,1,2,4,5,6,3,7,8] | _=>[]) (by kernel_rfl) ?_)
  simp only [Tryz.f14,stripX,stripOps,pickOps]
  simp []
  refine ⟨fun h=>?_,fun h=>?_⟩
  · intro e;exact h (by rw [e])
  refine W_loopA (fun i:Nat=>[(0,.d (dIntS a)),(1,.d (dIntS b)),(12,.d (.int .i64 a.length)),(13,.d (.int .i64 i))]) (fun _=>[]) (fun i=>i≤a.length∧(a.drop i=b.drop i ↔ a=b)) (fun i=>a.length - i) 0 ?_ ?_ ?_
  · simp
  · simp
  rintro i ⟨hi,hm⟩
  refine W_run mixed ⟨[],[],[],26,0,[0,1,4,5,10,12,13,14,24],[10,14,24]⟩ (fun | 6=>[0,1,2,4,5,6,3,7,8] | _=>[]) (by kernel_rfl) ?_
  simp only [stripX,stripOps,pickOps]
  simp []
  refine ⟨fun h3=>?_,fun h3=>?_⟩
  · rw [drop_cons h3,drop_cons (show i < b.length by omega)] at hm
    refine ⟨h3,by omega,fun q e=>q (by rw [e]),fun q=>⟨i + 1,⟨by omega, ?_⟩,by omega,by rw [wrap_id] <;> omega⟩⟩
    rw [← hm]
    constructor
    · intro e
      rw [e]
      exact congrArg (· :: _) q
    · intro e
      exact (List.cons.inj e).2
  · rw [List.drop_eq_nil_of_le h3,List.drop_eq_nil_of_le (show b.length≤i by omega)] at hm
    exact hm.1 rfl
noncomputable def K_14:Ent Tryz.prog:=Ent.p2 (α:=List Int) (β:=List Int) 14 (fun a b=>a.length≤1000) (fun a b=>.d (.bool (decide (a=b)))) (fun a b hc=>sameInts_c a b hc)
theorem K_14_f:K_14.f=14:=rfl
theorem K_14_e (a:List Int) (b:List Int):K_14.e [.d (dIntS a),.d (dIntS b)]=some (a.length≤1000,.d (.bool (decide (a=b))),[]):=by unfold K_14;exact Ent.p2_eq (α:=List Int) (β:=List Int) a b
noncomputable def K_14h:EntH Tryz.prog:=EntH.pk2 (α:=List Int) (β:=List Int) 14 (fun a b=>a.length≤1000) (fun a b=>.d (.bool (decide (a=b)))) (fun a b=>[]) (fun a b hc=>PureP.ans (sameInts_c a b hc))
theorem K_14h_f:K_14h.f=14:=rfl
theorem K_14h_g:K_14h.gro=true:=rfl
theorem K_14h_e {x1 x2:V} {H:Heap}:K_14h.e [x1,x2] H=guardR ((decA (α:=List Int) H x1).1∧(decA (α:=List Int) H x2).1) (peekR ((decA (α:=List Int) H x1).2.length≤1000) (.d (.bool (decide ((decA (α:=List Int) H x1).2=(decA (α:=List Int) H x2).2)))) ([]) H):=rfl
end Go.Proofs.YthafdegfjadijaaGreat
end
