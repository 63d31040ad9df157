/- Closed contracts of ArgsOf, FirstOf, CountValues and CostOfFunc of both programs, and of the law's helpers. No condition. -/
import Derived.Test.YtnomiclfiijniaaGreatQE4
import Derived.Test.YtnomiclfiijniaaGreatQTy
import Derived.Test.YtnomiclfiijniaaGreatQS34
import Derived.Test.YtnomiclfiijniaaGreatQS61
section
namespace Go.Proofs.YtnomiclfiijniaaGreat
set_option linter.unusedVariables false
structure Byt where
  n:Int
  deriving Inhabited
@[reducible] instance encByt:Enc Byt where
  size:=1
  agg:=false
  cells x _:=.int .u8 x.n
  good x:=0≤x.n∧x.n≤255
  un f:=⟨match f 0 with | .int _ n=>n | _=>0⟩
  un_of a f h:=by rw [h 0 (by omega)]
abbrev dBytS (l:List Byt):D:=.ro 1 l.length fun i _=>.int .u8 (l[i]?.getD default).n
theorem reads_byt {P:Program} {t:TypeId} (ht:P.underlying t=some (.int .u8)) (hc:P.cellsOf t=1):Reads P t Byt:=by
  refine ⟨hc,by rw [ht];exact ⟨rfl,rfl⟩,fun H enc w fuel cs x h=>?_⟩
  obtain ⟨n,rfl,_,hw⟩:=DataW.trod_int ht h
  have hb:0≤n∧n≤255:=by
    simp only [Lit.wf,Bool.and_eq_true,decide_eq_true_eq] at hw
    exact ⟨hw.1,hw.2⟩
  refine ⟨rfl,⟨n⟩,hb,fun j v hv=>?_⟩
  match j,hv with
  | 0,hv=>simp at hv;subst hv;rfl
theorem rd_LByt:Reads Tryz.prog 22 (List Byt):=reads_list (by kernel_rfl) (by kernel_rfl) (reads_byt (t:=5) (by kernel_rfl) (by kernel_rfl))
end Go.Proofs.YtnomiclfiijniaaGreat
end

section
namespace Go.Proofs.YtnomiclfiijniaaGreat
set_option maxRecDepth 100000
set_option linter.unusedSimpArgs false
set_option linter.unusedVariables false
theorem PureP.of_ownQ {P:Program} {f:FuncId} {vs:List V} {Q0:V→Prop} (h:CallsD P f vs [] fun r H'=>∃ r0,Q0 r0∧Rd1 H' r r0):PureP P f vs Q0:=by
  refine ⟨h.1,fun X w φ args hX hs hv=>(h.2 X w φ args hX hs hv).mono ?_⟩
  rintro e w' ⟨v,r,φ',H',rfl,⟨r0,q0,hq⟩,hs',hv',hfr,hext,hlen,hnew⟩
  have hφ:φ=[]:=List.length_eq_zero_iff.1 hs.len
  subst hφ
  have ho:owned X [] []=X:=owned_nil X
  refine ⟨v,r0,[],[],rfl,⟨rfl,q0⟩,HS.nil _ _,by rw [ho];exact hq X w' φ' v hs' hv',hfr,fun id hid=>absurd hid (by simp),Nat.le_refl _, ?_⟩
  rintro g hg ⟨id,e,es,o,h1,_⟩
  simp at h1
theorem argsI_c (F:Func) (n:Int) (hF:Enc.good F) (hn:Enc.good n):PureP Tryz.prog 15 [vFunc F,.d (.int .i64 n)] (· = .tup [.d (dIntS (argL F n)),.d (.bool (isVal F n))]):=by
  refine PureP.of_own ((argsI_own [] F n hF hn).mono ?_)
  rintro r H' ⟨s,rfl,e,hn⟩
  have:=Rd1.slice hn.own
  have e2:Tr.era s=argL F n:=by rw [← e];exact era_ints s.l
  rw [e2] at this
  exact Rd1.tup ⟨this,Rd1.d,trivial⟩
noncomputable def K_15:Ent Tryz.prog:=Ent.p2 (α:=Func) (β:=Int) 15 (fun F n=>Enc.good F∧Enc.good n) (fun F n=>.tup [.d (dIntS (argL F n)),.d (.bool (isVal F n))]) (fun F n hc=>argsI_c F n hc.1 hc.2)
theorem K_15_f:K_15.f=15:=rfl
theorem K_15_e (F0:Int) (F1:List Block) (n:Int):K_15.e [.agg [.d (.int .i64 F0),.d (dBlockS F1)],.d (.int .i64 n)]=some (Enc.good (Func.mk F0 F1)∧Enc.good n,.tup [.d (dIntS (argL (Func.mk F0 F1) n)),.d (.bool (isVal (Func.mk F0 F1) n))],[]):=by unfold K_15;exact Ent.p2_eq (α:=Func) (β:=Int) (Func.mk F0 F1) n
noncomputable def K_15h:EntH Tryz.prog:=EntH.pk2 (α:=Func) (β:=Int) 15 (fun F n=>Enc.good F∧Enc.good n) (fun F n=>.tup [.d (dIntS (argL F n)),.d (.bool (isVal F n))]) (fun F n=>[]) (fun F n hc=>PureP.ans (argsI_c F n hc.1 hc.2))
theorem K_15h_f:K_15h.f=15:=rfl
theorem K_15h_g:K_15h.gro=true:=rfl
theorem K_15h_e {x1 x2:V} {H:Heap}:K_15h.e [x1,x2] H=guardR ((decA (α:=Func) H x1).1∧(decA (α:=Int) H x2).1) (peekR (Enc.good (decA (α:=Func) H x1).2∧Enc.good (decA (α:=Int) H x2).2) (.tup [.d (dIntS (argL (decA (α:=Func) H x1).2 (decA (α:=Int) H x2).2)),.d (.bool (isVal (decA (α:=Func) H x1).2 (decA (α:=Int) H x2).2))]) ([]) H):=rfl
theorem isBlk_n {F:Func} {k:Int} (hF:Enc.good F) (h:isBlk F k=true):goodF F=true∧0≤k∧k.toNat < F.blocks_.length:=by
  obtain ⟨h1,h2,h3⟩:=isBlk_t hF h
  exact ⟨h1,h2,by omega⟩
def firstV (F:Func) (k:Int):Int:=if isBlk F k=true then cntB (F.blocks_.take k.toNat) F.params_ else 0
def firstR (F:Func) (k:Int):V:=.tup [.d (.int .i64 (firstV F k)),.d (.bool (isBlk F k))]
theorem firstI_c (F:Func) (k:Int) (hF:Enc.good F):PureP Tryz.prog 16 [vFunc F,.d (.int .i64 k)] (· = firstR F k):=by
  cases hg:goodF F with
  | false =>
    have hb:isBlk F k=false:=by simp [isBlk,hg]
    refine pure_of Tryz.func16 en_16 rfl rfl (W_run mixed ⟨[K_48,K_59],[K_48h,K_59h],[],27,0,[0,1,2,4,5,6,19],[11,19]⟩ (fun _=>[]) (by kernel_rfl) ?_)
    simp only [Tryz.f16,stripX,stripOps,pickOps]
    simp [K_48_f,K_48_e,K_59_f,K_59_e,K_48h_f,K_48h_e,K_59h_f,K_59h_e,K_48h_g,K_59h_g,hF,viewV_f hg]
    simp [firstR,firstV,hb]
  | true =>
    cases hv:inR k 0 (IntKind.i64.wrap (F.blocks_.length - 1)) with
    | false =>
      have hb:isBlk F k=false:=by simp [isBlk,hg,hv]
      refine pure_of Tryz.func16 en_16 rfl rfl (W_run mixed ⟨[K_48,K_59],[K_48h,K_59h],[],27,0,[0,1,2,4,5,6,19],[11,19]⟩ (fun _=>[]) (by kernel_rfl) ?_)
      simp only [Tryz.f16,stripX,stripOps,pickOps]
      simp [K_48_f,K_48_e,K_59_f,K_59_e,K_48h_f,K_48h_e,K_59h_f,K_59h_e,K_48h_g,K_59h_g,hF,viewV_t hg,hv]
      simp [firstR,firstV,hb]
    | true =>
      have hb:isBlk F k=true:=by simp [isBlk,hg,hv]
      obtain ⟨_,h0,h1⟩:=isBlk_n hF hb
      have hf:(viewD F).first_=firsts F.blocks_ F.params_:=rfl
      have hlen:(viewD F).first_.length=F.blocks_.length:=firsts_len _ _
      have hget:(viewD F).first_[k.toNat]?.getD 0=cntB (F.blocks_.take k.toNat) F.params_:=by rw [hf,firsts_get _ _ _ h1];rfl
      refine pure_of Tryz.func16 en_16 rfl rfl (W_run mixed ⟨[K_48,K_59],[K_48h,K_59h],[],27,0,[0,1,2,4,5,6,19],[11,19]⟩ (fun _=>[]) (by kernel_rfl) ?_)
      simp only [Tryz.f16,stripX,stripOps,pickOps]
      simp [K_48_f,K_48_e,K_59_f,K_59_e,K_48h_f,K_48h_e,K_59h_f,K_59h_e,K_48h_g,K_59h_g,hF,viewV_t hg,hv,h0,h1]
      exact ⟨by rw [hlen];omega,by rw [hget];simp [firstR,firstV,hb]⟩
noncomputable def K_16:Ent Tryz.prog:=Ent.p2 (α:=Func) (β:=Int) 16 (fun F k=>Enc.good F) (fun F k=>firstR F k) (fun F k hc=>firstI_c F k hc)
theorem K_16_f:K_16.f=16:=rfl
theorem K_16_e (F0:Int) (F1:List Block) (k:Int):K_16.e [.agg [.d (.int .i64 F0),.d (dBlockS F1)],.d (.int .i64 k)]=some (Enc.good (Func.mk F0 F1),firstR (Func.mk F0 F1) k,[]):=by unfold K_16;exact Ent.p2_eq (α:=Func) (β:=Int) (Func.mk F0 F1) k
noncomputable def K_16h:EntH Tryz.prog:=EntH.pk2 (α:=Func) (β:=Int) 16 (fun F k=>Enc.good F) (fun F k=>firstR F k) (fun F k=>[]) (fun F k hc=>PureP.ans (firstI_c F k hc))
theorem K_16h_f:K_16h.f=16:=rfl
theorem K_16h_g:K_16h.gro=true:=rfl
theorem K_16h_e {x1 x2:V} {H:Heap}:K_16h.e [x1,x2] H=guardR ((decA (α:=Func) H x1).1∧(decA (α:=Int) H x2).1) (peekR (Enc.good (decA (α:=Func) H x1).2) (firstR (decA (α:=Func) H x1).2 (decA (α:=Int) H x2).2) ([]) H):=rfl
def countR (F:Func):V:=.tup [.d (.int .i64 (if goodF F=true then many F else 0)),.d (.bool (goodF F))]
theorem countI_c (F:Func) (hF:Enc.good F):PureP Tryz.prog 14 [vFunc F] (· = countR F):=by
  cases hg:goodF F with
  | false =>
    refine pure_of Tryz.func14 en_14 rfl rfl (W_run mixed ⟨[K_48],[K_48h],[],13,0,[0,1,2,3,4,8],[8]⟩ (fun _=>[]) (by kernel_rfl) ?_)
    simp only [Tryz.f14,stripX,stripOps,pickOps]
    simp [K_48_f,K_48_e,K_48h_f,K_48h_e,K_48h_g,hF,viewV_f hg]
    simp [countR,hg]
  | true =>
    refine pure_of Tryz.func14 en_14 rfl rfl (W_run mixed ⟨[K_48],[K_48h],[],13,0,[0,1,2,3,4,8],[8]⟩ (fun _=>[]) (by kernel_rfl) ?_)
    simp only [Tryz.f14,stripX,stripOps,pickOps]
    simp [K_48_f,K_48_e,K_48h_f,K_48h_e,K_48h_g,hF,viewV_t hg,viewD_total]
    simp [countR,hg]
noncomputable def K_14:Ent Tryz.prog:=Ent.p1 (α:=Func) 14 (fun F=>Enc.good F) (fun F=>countR F) (fun F hc=>countI_c F hc)
theorem K_14_f:K_14.f=14:=rfl
theorem K_14_e (F0:Int) (F1:List Block):K_14.e [.agg [.d (.int .i64 F0),.d (dBlockS F1)]]=some (Enc.good (Func.mk F0 F1),countR (Func.mk F0 F1),[]):=by unfold K_14;exact Ent.p1_eq (α:=Func) (Func.mk F0 F1)
noncomputable def K_14h:EntH Tryz.prog:=EntH.pk1 (α:=Func) 14 (fun F=>Enc.good F) (fun F=>countR F) (fun F=>[]) (fun F hc=>PureP.ans (countI_c F hc))
theorem K_14h_f:K_14h.f=14:=rfl
theorem K_14h_g:K_14h.gro=true:=rfl
theorem K_14h_e {x1:V} {H:Heap}:K_14h.e [x1] H=guardR ((decA (α:=Func) H x1).1) (peekR (Enc.good (decA (α:=Func) H x1).2) (countR (decA (α:=Func) H x1).2) ([]) H):=rfl
@[reducible] instance decByt:Dec Byt where
  dec _ l:=match l with | [.d (.int .u8 n)]=>(True,⟨n⟩) | _=>(False,default)
  ok H l h X w φ xs hs hv:=by
    split at h
    · obtain ⟨v,vs',rfl,h2,h3⟩:=hv
      have:vs'=[]:=h3
      subst this
      refine ⟨rfl,fun j u hu=>?_⟩
      match j,hu with
      | 0,hu=>simp at hu;subst hu;exact h2
    · exact h.elim
def bigB (a b:List Byt):Bool:=decide (1048576 < (a.length:Int)) || decide (IntKind.i64.wrap (1048576 - (a.length:Int)) < (b.length:Int))
theorem big_c (a b:List Byt):PureP Tryz.prog 6 [.d (dBytS a),.d (dBytS b)] (· = .d (.bool (bigB a b))):=by
  refine pure_of Tryz.func6 en_6 rfl rfl (W_run mixed ⟨[],[],[],16,0,[0,1,4],[8]⟩ (fun _=>[]) (by kernel_rfl) ?_)
  simp only [Tryz.f6,stripX,stripOps,pickOps]
  simp []
  unfold bigB
  exact ⟨fun h=>by simp [h],fun h=>by simp [show ¬ (1048576:Int) < a.length by omega]⟩
noncomputable def K_6:Ent Tryz.prog:=Ent.p2 (α:=List Byt) (β:=List Byt) 6 (fun a b=>True) (fun a b=>.d (.bool (bigB a b))) (fun a b hc=>big_c a b)
theorem K_6_f:K_6.f=6:=rfl
theorem K_6_e (a:List Byt) (b:List Byt):K_6.e [.d (dBytS a),.d (dBytS b)]=some (True,.d (.bool (bigB a b)),[]):=by unfold K_6;exact Ent.p2_eq (α:=List Byt) (β:=List Byt) a b
noncomputable def K_6h:EntH Tryz.prog:=EntH.pk2 (α:=List Byt) (β:=List Byt) 6 (fun a b=>True) (fun a b=>.d (.bool (bigB a b))) (fun a b=>[]) (fun a b hc=>PureP.ans (big_c a b))
theorem K_6h_f:K_6h.f=6:=rfl
theorem K_6h_g:K_6h.gro=true:=rfl
theorem K_6h_e {x1 x2:V} {H:Heap}:K_6h.e [x1,x2] H=guardR ((decA (α:=List Byt) H x1).1∧(decA (α:=List Byt) H x2).1) (peekR (True) (.d (.bool (bigB (decA (α:=List Byt) H x1).2 (decA (α:=List Byt) H x2).2))) ([]) H):=rfl
theorem sameInts_c (a b:List Int) (ha:a.length≤1000):PureP Tryz.prog 29 [.d (dIntS a),.d (dIntS b)] (· = .d (.bool (decide (a=b)))):=by
  refine pure_of Tryz.func29 en_29 rfl rfl (W_run mixed ⟨[],[],[],26,0,[0,1,4,5,10,12,13,14,24],[10,14,24]⟩ (fun | 6=>[0,1,2,4,5,6,3,7,8] | _=>[]) (by kernel_rfl) ?_)
  simp only [Tryz.f29,stripX,stripOps,pickOps]
  simp []
  refine ⟨fun h=>?_,fun h=>?_⟩
  · intro e;exact h (by rw [e])
  refine W_loopA (fun i:Nat=>[(0,.d (dIntS a)),(1,.d (dIntS b)),(12,.d (.int .i64 a.length)),(13,.d (.int .i64 i))]) (fun _=>[]) (fun i=>i≤a.length∧(a.drop i=b.drop i ↔ a=b)) (fun i=>a.length - i) 0 ?_ ?_ ?_
  · simp
  · simp
  rintro i ⟨hi,hm⟩
  refine W_run mixed ⟨[],[],[],26,0,[0,1,4,5,10,12,13,14,24],[10,14,24]⟩ (fun | 6=>[0,1,2,4,5,6,3,7,8] | _=>[]) (by kernel_rfl) ?_
  simp only [stripX,stripOps,pickOps]
  simp []
  refine ⟨fun h3=>?_,fun h3=>?_⟩
  · rw [drop_cons h3,drop_cons (show i < b.length by omega)] at hm
    refine ⟨h3,by omega,fun q e=>q (by rw [e]),fun q=>⟨i + 1,⟨by omega, ?_⟩,by omega,by rw [wrap_id] <;> omega⟩⟩
    rw [← hm]
    constructor
    · intro e
      rw [e]
      exact congrArg (· :: _) q
    · intro e
      exact (List.cons.inj e).2
  · rw [List.drop_eq_nil_of_le h3,List.drop_eq_nil_of_le (show b.length≤i by omega)] at hm
    exact hm.1 rfl
noncomputable def K_29:Ent Tryz.prog:=Ent.p2 (α:=List Int) (β:=List Int) 29 (fun a b=>a.length≤1000) (fun a b=>.d (.bool (decide (a=b)))) (fun a b hc=>sameInts_c a b hc)
theorem K_29_f:K_29.f=29:=rfl
theorem K_29_e (a:List Int) (b:List Int):K_29.e [.d (dIntS a),.d (dIntS b)]=some (a.length≤1000,.d (.bool (decide (a=b))),[]):=by unfold K_29;exact Ent.p2_eq (α:=List Int) (β:=List Int) a b
noncomputable def K_29h:EntH Tryz.prog:=EntH.pk2 (α:=List Int) (β:=List Int) 29 (fun a b=>a.length≤1000) (fun a b=>.d (.bool (decide (a=b)))) (fun a b=>[]) (fun a b hc=>PureP.ans (sameInts_c a b hc))
theorem K_29h_f:K_29h.f=29:=rfl
theorem K_29h_g:K_29h.gro=true:=rfl
theorem K_29h_e {x1 x2:V} {H:Heap}:K_29h.e [x1,x2] H=guardR ((decA (α:=List Int) H x1).1∧(decA (α:=List Int) H x2).1) (peekR ((decA (α:=List Int) H x1).2.length≤1000) (.d (.bool (decide ((decA (α:=List Int) H x1).2=(decA (α:=List Int) H x2).2)))) ([]) H):=rfl
end Go.Proofs.YtnomiclfiijniaaGreat
end
