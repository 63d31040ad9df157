/- Closed contracts of ArgsOf, FirstOf, CountValues and CostOfFunc of both programs, and of the law's helpers. No condition. -/
import Derived.Test.YtnomiclfiijniaaQS34
import Derived.Test.YtnomiclfiijniaaQS49
import Derived.Test.YtnomiclfiijniaaQS101
namespace Go.Proofs.Ytnomiclfiijniaa
set_option maxRecDepth 100000
set_option linter.unusedSimpArgs false
set_option linter.unusedVariables false
theorem PureP.of_ownQ {P:Program} {f:FuncId} {vs:List V} {Q0:V→Prop} (h:CallsD P f vs [] fun r H'=>∃ r0,Q0 r0∧Rd1 H' r r0):PureP P f vs Q0:=by
  refine ⟨h.1,fun X w φ args hX hs hv=>(h.2 X w φ args hX hs hv).mono ?_⟩
  rintro e w' ⟨v,r,φ',H',rfl,⟨r0,q0,hq⟩,hs',hv',hfr,hext,hlen,hnew⟩
  have hφ:φ=[]:=List.length_eq_zero_iff.1 hs.len
  subst hφ
  have ho:owned X [] []=X:=owned_nil X
  refine ⟨v,r0,[],[],rfl,⟨rfl,q0⟩,HS.nil _ _,by rw [ho];exact hq X w' φ' v hs' hv',hfr,fun id hid=>absurd hid (by simp),Nat.le_refl _, ?_⟩
  rintro g hg ⟨id,e,es,o,h1,_⟩
  simp at h1
theorem argsI_c (F:Func) (n:Int) (hF:Enc.good F) (hn:Enc.good n):PureP Try.prog 8 [vFunc F,.d (.int .i64 n)] (· = .tup [.d (dIntS (argL F n)),.d (.bool (isVal F n))]):=by
  refine PureP.of_own ((argsI_own [] F n hF hn).mono ?_)
  rintro r H' ⟨s,rfl,e,hn⟩
  have:=Rd1.slice hn.own
  have e2:Tr.era s=argL F n:=by rw [← e];exact era_ints s.l
  rw [e2] at this
  exact Rd1.tup ⟨this,Rd1.d,trivial⟩
noncomputable def K_8:Ent Try.prog:=Ent.p2 (α:=Func) (β:=Int) 8 (fun F n=>Enc.good F∧Enc.good n) (fun F n=>.tup [.d (dIntS (argL F n)),.d (.bool (isVal F n))]) (fun F n hc=>argsI_c F n hc.1 hc.2)
theorem K_8_f:K_8.f=8:=rfl
theorem K_8_e (F0:Int) (F1:List Block) (n:Int):K_8.e [.agg [.d (.int .i64 F0),.d (dBlockS F1)],.d (.int .i64 n)]=some (Enc.good (Func.mk F0 F1)∧Enc.good n,.tup [.d (dIntS (argL (Func.mk F0 F1) n)),.d (.bool (isVal (Func.mk F0 F1) n))],[]):=by unfold K_8;exact Ent.p2_eq (α:=Func) (β:=Int) (Func.mk F0 F1) n
noncomputable def K_8h:EntH Try.prog:=EntH.pk2 (α:=Func) (β:=Int) 8 (fun F n=>Enc.good F∧Enc.good n) (fun F n=>.tup [.d (dIntS (argL F n)),.d (.bool (isVal F n))]) (fun F n=>[]) (fun F n hc=>PureP.ans (argsI_c F n hc.1 hc.2))
theorem K_8h_f:K_8h.f=8:=rfl
theorem K_8h_g:K_8h.gro=true:=rfl
theorem K_8h_e {x1 x2:V} {H:Heap}:K_8h.e [x1,x2] H=guardR ((decA (α:=Func) H x1).1∧(decA (α:=Int) H x2).1) (peekR (Enc.good (decA (α:=Func) H x1).2∧Enc.good (decA (α:=Int) H x2).2) (.tup [.d (dIntS (argL (decA (α:=Func) H x1).2 (decA (α:=Int) H x2).2)),.d (.bool (isVal (decA (α:=Func) H x1).2 (decA (α:=Int) H x2).2))]) ([]) H):=rfl
theorem isBlk_n {F:Func} {k:Int} (hF:Enc.good F) (h:isBlk F k=true):goodF F=true∧0≤k∧k.toNat < F.blocks_.length:=by
  obtain ⟨h1,h2,h3⟩:=isBlk_t hF h
  exact ⟨h1,h2,by omega⟩
def firstV (F:Func) (k:Int):Int:=if isBlk F k=true then cntB (F.blocks_.take k.toNat) F.params_ else 0
def firstR (F:Func) (k:Int):V:=.tup [.d (.int .i64 (firstV F k)),.d (.bool (isBlk F k))]
theorem firstS_c (F:Func) (k:Int) (hF:Enc.good F):PureP Try.prog 13 [vFunc F,.d (.int .i64 k)] (· = firstR F k):=by
  cases hg:goodF F with
  | false =>
    have hb:isBlk F k=false:=by simp [isBlk,hg]
    refine pure_of Try.func13 en_13 rfl rfl (W_run mixed ⟨[K_23,K_44,K_48],[K_23h,K_44h,K_48h],[],21,0,[0,1,2,4,5,17],[9,17]⟩ (fun _=>[]) (by kernel_rfl) ?_)
    simp only [Try.f13,stripX,stripOps,pickOps]
    simp [K_23_f,K_23_e,K_44_f,K_44_e,K_48_f,K_48_e,K_23h_f,K_23h_e,K_44h_f,K_44h_e,K_48h_f,K_48h_e,K_23h_g,K_44h_g,K_48h_g,hF,hg]
    simp [firstR,firstV,hb]
  | true =>
    cases hv:inR k 0 (IntKind.i64.wrap (F.blocks_.length - 1)) with
    | false =>
      have hb:isBlk F k=false:=by simp [isBlk,hg,hv]
      refine pure_of Try.func13 en_13 rfl rfl (W_run mixed ⟨[K_23,K_44,K_48],[K_23h,K_44h,K_48h],[],21,0,[0,1,2,4,5,17],[9,17]⟩ (fun _=>[]) (by kernel_rfl) ?_)
      simp only [Try.f13,stripX,stripOps,pickOps]
      simp [K_23_f,K_23_e,K_44_f,K_44_e,K_48_f,K_48_e,K_23h_f,K_23h_e,K_44h_f,K_44h_e,K_48h_f,K_48h_e,K_23h_g,K_44h_g,K_48h_g,hF,hg,hv]
      simp [firstR,firstV,hb]
    | true =>
      have hb:isBlk F k=true:=by simp [isBlk,hg,hv]
      obtain ⟨_,h0,h1⟩:=isBlk_n hF hb
      refine pure_of Try.func13 en_13 rfl rfl (W_run mixed ⟨[K_23,K_44,K_48],[K_23h,K_44h,K_48h],[],21,0,[0,1,2,4,5,17],[9,17]⟩ (fun _=>[]) (by kernel_rfl) ?_)
      simp only [Try.f13,stripX,stripOps,pickOps]
      simp [K_23_f,K_23_e,K_44_f,K_44_e,K_48_f,K_48_e,K_23h_f,K_23h_e,K_44h_f,K_44h_e,K_48h_f,K_48h_e,K_23h_g,K_44h_g,K_48h_g,hF,hg,hv,h0,h1]
      exact ⟨by omega,by simp [firstR,firstV,hb]⟩
noncomputable def K_13:Ent Try.prog:=Ent.p2 (α:=Func) (β:=Int) 13 (fun F k=>Enc.good F) (fun F k=>firstR F k) (fun F k hc=>firstS_c F k hc)
theorem K_13_f:K_13.f=13:=rfl
theorem K_13_e (F0:Int) (F1:List Block) (k:Int):K_13.e [.agg [.d (.int .i64 F0),.d (dBlockS F1)],.d (.int .i64 k)]=some (Enc.good (Func.mk F0 F1),firstR (Func.mk F0 F1) k,[]):=by unfold K_13;exact Ent.p2_eq (α:=Func) (β:=Int) (Func.mk F0 F1) k
noncomputable def K_13h:EntH Try.prog:=EntH.pk2 (α:=Func) (β:=Int) 13 (fun F k=>Enc.good F) (fun F k=>firstR F k) (fun F k=>[]) (fun F k hc=>PureP.ans (firstS_c F k hc))
theorem K_13h_f:K_13h.f=13:=rfl
theorem K_13h_g:K_13h.gro=true:=rfl
theorem K_13h_e {x1 x2:V} {H:Heap}:K_13h.e [x1,x2] H=guardR ((decA (α:=Func) H x1).1∧(decA (α:=Int) H x2).1) (peekR (Enc.good (decA (α:=Func) H x1).2) (firstR (decA (α:=Func) H x1).2 (decA (α:=Int) H x2).2) ([]) H):=rfl
theorem firstI_c (F:Func) (k:Int) (hF:Enc.good F):PureP Try.prog 12 [vFunc F,.d (.int .i64 k)] (· = firstR F k):=by
  cases hg:goodF F with
  | false =>
    have hb:isBlk F k=false:=by simp [isBlk,hg]
    refine pure_of Try.func12 en_12 rfl rfl (W_run mixed ⟨[K_40,K_47],[K_40h,K_47h],[],27,0,[0,1,2,4,5,6,19],[11,19]⟩ (fun _=>[]) (by kernel_rfl) ?_)
    simp only [Try.f12,stripX,stripOps,pickOps]
    simp [K_40_f,K_40_e,K_47_f,K_47_e,K_40h_f,K_40h_e,K_47h_f,K_47h_e,K_40h_g,K_47h_g,hF,viewV_f hg]
    simp [firstR,firstV,hb]
  | true =>
    cases hv:inR k 0 (IntKind.i64.wrap (F.blocks_.length - 1)) with
    | false =>
      have hb:isBlk F k=false:=by simp [isBlk,hg,hv]
      refine pure_of Try.func12 en_12 rfl rfl (W_run mixed ⟨[K_40,K_47],[K_40h,K_47h],[],27,0,[0,1,2,4,5,6,19],[11,19]⟩ (fun _=>[]) (by kernel_rfl) ?_)
      simp only [Try.f12,stripX,stripOps,pickOps]
      simp [K_40_f,K_40_e,K_47_f,K_47_e,K_40h_f,K_40h_e,K_47h_f,K_47h_e,K_40h_g,K_47h_g,hF,viewV_t hg,hv]
      simp [firstR,firstV,hb]
    | true =>
      have hb:isBlk F k=true:=by simp [isBlk,hg,hv]
      obtain ⟨_,h0,h1⟩:=isBlk_n hF hb
      have hf:(viewD F).first_=firsts F.blocks_ F.params_:=rfl
      have hlen:(viewD F).first_.length=F.blocks_.length:=firsts_len _ _
      have hget:(viewD F).first_[k.toNat]?.getD 0=cntB (F.blocks_.take k.toNat) F.params_:=by rw [hf,firsts_get _ _ _ h1];rfl
      refine pure_of Try.func12 en_12 rfl rfl (W_run mixed ⟨[K_40,K_47],[K_40h,K_47h],[],27,0,[0,1,2,4,5,6,19],[11,19]⟩ (fun _=>[]) (by kernel_rfl) ?_)
      simp only [Try.f12,stripX,stripOps,pickOps]
      simp [K_40_f,K_40_e,K_47_f,K_47_e,K_40h_f,K_40h_e,K_47h_f,K_47h_e,K_40h_g,K_47h_g,hF,viewV_t hg,hv,h0,h1]
      exact ⟨by rw [hlen];omega,by rw [hget];simp [firstR,firstV,hb]⟩
noncomputable def K_12:Ent Try.prog:=Ent.p2 (α:=Func) (β:=Int) 12 (fun F k=>Enc.good F) (fun F k=>firstR F k) (fun F k hc=>firstI_c F k hc)
theorem K_12_f:K_12.f=12:=rfl
theorem K_12_e (F0:Int) (F1:List Block) (k:Int):K_12.e [.agg [.d (.int .i64 F0),.d (dBlockS F1)],.d (.int .i64 k)]=some (Enc.good (Func.mk F0 F1),firstR (Func.mk F0 F1) k,[]):=by unfold K_12;exact Ent.p2_eq (α:=Func) (β:=Int) (Func.mk F0 F1) k
noncomputable def K_12h:EntH Try.prog:=EntH.pk2 (α:=Func) (β:=Int) 12 (fun F k=>Enc.good F) (fun F k=>firstR F k) (fun F k=>[]) (fun F k hc=>PureP.ans (firstI_c F k hc))
theorem K_12h_f:K_12h.f=12:=rfl
theorem K_12h_g:K_12h.gro=true:=rfl
theorem K_12h_e {x1 x2:V} {H:Heap}:K_12h.e [x1,x2] H=guardR ((decA (α:=Func) H x1).1∧(decA (α:=Int) H x2).1) (peekR (Enc.good (decA (α:=Func) H x1).2) (firstR (decA (α:=Func) H x1).2 (decA (α:=Int) H x2).2) ([]) H):=rfl
def countR (F:Func):V:=.tup [.d (.int .i64 (if goodF F=true then many F else 0)),.d (.bool (goodF F))]
theorem countS_c (F:Func) (hF:Enc.good F):PureP Try.prog 15 [vFunc F] (· = countR F):=by
  cases hg:goodF F with
  | false =>
    refine pure_of Try.func15 en_15 rfl rfl (W_run mixed ⟨[K_23,K_39],[K_23h,K_39h],[],9,0,[0,1,2,3,6],[6]⟩ (fun _=>[]) (by kernel_rfl) ?_)
    simp only [Try.f15,stripX,stripOps,pickOps]
    simp [K_23_f,K_23_e,K_39_f,K_39_e,K_23h_f,K_23h_e,K_39h_f,K_39h_e,K_23h_g,K_39h_g,hF,hg]
    simp [countR,hg]
  | true =>
    refine pure_of Try.func15 en_15 rfl rfl (W_run mixed ⟨[K_23,K_39],[K_23h,K_39h],[],9,0,[0,1,2,3,6],[6]⟩ (fun _=>[]) (by kernel_rfl) ?_)
    simp only [Try.f15,stripX,stripOps,pickOps]
    simp [K_23_f,K_23_e,K_39_f,K_39_e,K_23h_f,K_23h_e,K_39h_f,K_39h_e,K_23h_g,K_39h_g,hF,hg]
    simp [countR,hg,many]
noncomputable def K_15:Ent Try.prog:=Ent.p1 (α:=Func) 15 (fun F=>Enc.good F) (fun F=>countR F) (fun F hc=>countS_c F hc)
theorem K_15_f:K_15.f=15:=rfl
theorem K_15_e (F0:Int) (F1:List Block):K_15.e [.agg [.d (.int .i64 F0),.d (dBlockS F1)]]=some (Enc.good (Func.mk F0 F1),countR (Func.mk F0 F1),[]):=by unfold K_15;exact Ent.p1_eq (α:=Func) (Func.mk F0 F1)
noncomputable def K_15h:EntH Try.prog:=EntH.pk1 (α:=Func) 15 (fun F=>Enc.good F) (fun F=>countR F) (fun F=>[]) (fun F hc=>PureP.ans (countS_c F hc))
theorem K_15h_f:K_15h.f=15:=rfl
theorem K_15h_g:K_15h.gro=true:=rfl
theorem K_15h_e {x1:V} {H:Heap}:K_15h.e [x1] H=guardR ((decA (α:=Func) H x1).1) (peekR (Enc.good (decA (α:=Func) H x1).2) (countR (decA (α:=Func) H x1).2) ([]) H):=rfl
theorem countI_c (F:Func) (hF:Enc.good F):PureP Try.prog 14 [vFunc F] (· = countR F):=by
  cases hg:goodF F with
  | false =>
    refine pure_of Try.func14 en_14 rfl rfl (W_run mixed ⟨[K_40],[K_40h],[],13,0,[0,1,2,3,4,8],[8]⟩ (fun _=>[]) (by kernel_rfl) ?_)
    simp only [Try.f14,stripX,stripOps,pickOps]
    simp [K_40_f,K_40_e,K_40h_f,K_40h_e,K_40h_g,hF,viewV_f hg]
    simp [countR,hg]
  | true =>
    refine pure_of Try.func14 en_14 rfl rfl (W_run mixed ⟨[K_40],[K_40h],[],13,0,[0,1,2,3,4,8],[8]⟩ (fun _=>[]) (by kernel_rfl) ?_)
    simp only [Try.f14,stripX,stripOps,pickOps]
    simp [K_40_f,K_40_e,K_40h_f,K_40h_e,K_40h_g,hF,viewV_t hg,viewD_total]
    simp [countR,hg]
noncomputable def K_14:Ent Try.prog:=Ent.p1 (α:=Func) 14 (fun F=>Enc.good F) (fun F=>countR F) (fun F hc=>countI_c F hc)
theorem K_14_f:K_14.f=14:=rfl
theorem K_14_e (F0:Int) (F1:List Block):K_14.e [.agg [.d (.int .i64 F0),.d (dBlockS F1)]]=some (Enc.good (Func.mk F0 F1),countR (Func.mk F0 F1),[]):=by unfold K_14;exact Ent.p1_eq (α:=Func) (Func.mk F0 F1)
noncomputable def K_14h:EntH Try.prog:=EntH.pk1 (α:=Func) 14 (fun F=>Enc.good F) (fun F=>countR F) (fun F=>[]) (fun F hc=>PureP.ans (countI_c F hc))
theorem K_14h_f:K_14h.f=14:=rfl
theorem K_14h_g:K_14h.gro=true:=rfl
theorem K_14h_e {x1:V} {H:Heap}:K_14h.e [x1] H=guardR ((decA (α:=Func) H x1).1) (peekR (Enc.good (decA (α:=Func) H x1).2) (countR (decA (α:=Func) H x1).2) ([]) H):=rfl
theorem goodI_c (F:Func) (hF:Enc.good F):PureP Try.prog 22 [vFunc F] (· = .d (.bool (goodF F))):=by
  cases hg:goodF F with
  | false => refine pure_of Try.func22 en_22 rfl rfl (W_run mixed ⟨[K_40], [K_40h], [], 6, 0, [0, 1, 2], []⟩ (fun _ => []) (by kernel_rfl) ?_)
             simp only [Try.f22,stripX,stripOps,pickOps]
             simp [K_40_f,K_40_e,K_40h_f,K_40h_e,K_40h_g,hF,viewV_f hg]
  | true => refine pure_of Try.func22 en_22 rfl rfl (W_run mixed ⟨[K_40], [K_40h], [], 6, 0, [0, 1, 2], []⟩ (fun _ => []) (by kernel_rfl) ?_)
            simp only [Try.f22,stripX,stripOps,pickOps]
            simp [K_40_f,K_40_e,K_40h_f,K_40h_e,K_40h_g,hF,viewV_t hg]
noncomputable def K_22:Ent Try.prog:=Ent.p1 (α:=Func) 22 (fun F=>Enc.good F) (fun F=>.d (.bool (goodF F))) (fun F hc=>goodI_c F hc)
theorem K_22_f:K_22.f=22:=rfl
theorem K_22_e (F0:Int) (F1:List Block):K_22.e [.agg [.d (.int .i64 F0),.d (dBlockS F1)]]=some (Enc.good (Func.mk F0 F1),.d (.bool (goodF (Func.mk F0 F1))),[]):=by unfold K_22;exact Ent.p1_eq (α:=Func) (Func.mk F0 F1)
noncomputable def K_22h:EntH Try.prog:=EntH.pk1 (α:=Func) 22 (fun F=>Enc.good F) (fun F=>.d (.bool (goodF F))) (fun F=>[]) (fun F hc=>PureP.ans (goodI_c F hc))
theorem K_22h_f:K_22h.f=22:=rfl
theorem K_22h_g:K_22h.gro=true:=rfl
theorem K_22h_e {x1:V} {H:Heap}:K_22h.e [x1] H=guardR ((decA (α:=Func) H x1).1) (peekR (Enc.good (decA (α:=Func) H x1).2) (.d (.bool (goodF (decA (α:=Func) H x1).2))) ([]) H):=rfl
def opCost (n:Int):Int:=if n=1∨n=2 then 1 else if n=11 then 3 else if n=6 then 4 else if n=8 then 20 else 2
theorem costI_c (n:Int):PureP Try.prog 91 [.d (.int .i64 n)] (· = .d (.int .i64 (opCost n))):=by
  unfold opCost
  by_cases h1:n=1
  · subst h1
    refine pure_of Try.func91 en_91 rfl rfl (W_run mixed ⟨[],[],[],13,0,[0,2,3,4,7,9,11],[4,7,9,11]⟩ (fun _=>[]) (by kernel_rfl) ?_)
    simp only [Try.f91,stripX,stripOps,pickOps]
    simp []
  by_cases h2:n=2
  · subst h2
    refine pure_of Try.func91 en_91 rfl rfl (W_run mixed ⟨[],[],[],13,0,[0,2,3,4,7,9,11],[4,7,9,11]⟩ (fun _=>[]) (by kernel_rfl) ?_)
    simp only [Try.f91,stripX,stripOps,pickOps]
    simp []
  by_cases h3:n=11
  · subst h3
    refine pure_of Try.func91 en_91 rfl rfl (W_run mixed ⟨[],[],[],13,0,[0,2,3,4,7,9,11],[4,7,9,11]⟩ (fun _=>[]) (by kernel_rfl) ?_)
    simp only [Try.f91,stripX,stripOps,pickOps]
    simp []
  by_cases h4:n=6
  · subst h4
    refine pure_of Try.func91 en_91 rfl rfl (W_run mixed ⟨[],[],[],13,0,[0,2,3,4,7,9,11],[4,7,9,11]⟩ (fun _=>[]) (by kernel_rfl) ?_)
    simp only [Try.f91,stripX,stripOps,pickOps]
    simp []
  by_cases h5:n=8
  · subst h5
    refine pure_of Try.func91 en_91 rfl rfl (W_run mixed ⟨[],[],[],13,0,[0,2,3,4,7,9,11],[4,7,9,11]⟩ (fun _=>[]) (by kernel_rfl) ?_)
    simp only [Try.f91,stripX,stripOps,pickOps]
    simp []
  refine pure_of Try.func91 en_91 rfl rfl (W_run mixed ⟨[],[],[],13,0,[0,2,3,4,7,9,11],[4,7,9,11]⟩ (fun _=>[]) (by kernel_rfl) ?_)
  simp only [Try.f91,stripX,stripOps,pickOps]
  simp [h1,h2,h3,h4,h5]
noncomputable def K_91:Ent Try.prog:=Ent.p1 (α:=Int) 91 (fun n=>True) (fun n=>.d (.int .i64 (opCost n))) (fun n hc=>costI_c n)
theorem K_91_f:K_91.f=91:=rfl
theorem K_91_e (n:Int):K_91.e [.d (.int .i64 n)]=some (True,.d (.int .i64 (opCost n)),[]):=by unfold K_91;exact Ent.p1_eq (α:=Int) n
noncomputable def K_91h:EntH Try.prog:=EntH.pk1 (α:=Int) 91 (fun n=>True) (fun n=>.d (.int .i64 (opCost n))) (fun n=>[]) (fun n hc=>PureP.ans (costI_c n))
theorem K_91h_f:K_91h.f=91:=rfl
theorem K_91h_g:K_91h.gro=true:=rfl
theorem K_91h_e {x1:V} {H:Heap}:K_91h.e [x1] H=guardR ((decA (α:=Int) H x1).1) (peekR (True) (.d (.int .i64 (opCost (decA (α:=Int) H x1).2))) ([]) H):=rfl
theorem costS_c (n:Int):PureP Try.prog 92 [.d (.int .i64 n)] (· = .d (.int .i64 (opCost n))):=by
  unfold opCost
  by_cases h1:n=1
  · subst h1
    refine pure_of Try.func92 en_92 rfl rfl (W_run mixed ⟨[],[],[],13,0,[0,2,3,4,7,9,11],[4,7,9,11]⟩ (fun _=>[]) (by kernel_rfl) ?_)
    simp only [Try.f92,stripX,stripOps,pickOps]
    simp []
  by_cases h2:n=2
  · subst h2
    refine pure_of Try.func92 en_92 rfl rfl (W_run mixed ⟨[],[],[],13,0,[0,2,3,4,7,9,11],[4,7,9,11]⟩ (fun _=>[]) (by kernel_rfl) ?_)
    simp only [Try.f92,stripX,stripOps,pickOps]
    simp []
  by_cases h3:n=11
  · subst h3
    refine pure_of Try.func92 en_92 rfl rfl (W_run mixed ⟨[],[],[],13,0,[0,2,3,4,7,9,11],[4,7,9,11]⟩ (fun _=>[]) (by kernel_rfl) ?_)
    simp only [Try.f92,stripX,stripOps,pickOps]
    simp []
  by_cases h4:n=6
  · subst h4
    refine pure_of Try.func92 en_92 rfl rfl (W_run mixed ⟨[],[],[],13,0,[0,2,3,4,7,9,11],[4,7,9,11]⟩ (fun _=>[]) (by kernel_rfl) ?_)
    simp only [Try.f92,stripX,stripOps,pickOps]
    simp []
  by_cases h5:n=8
  · subst h5
    refine pure_of Try.func92 en_92 rfl rfl (W_run mixed ⟨[],[],[],13,0,[0,2,3,4,7,9,11],[4,7,9,11]⟩ (fun _=>[]) (by kernel_rfl) ?_)
    simp only [Try.f92,stripX,stripOps,pickOps]
    simp []
  refine pure_of Try.func92 en_92 rfl rfl (W_run mixed ⟨[],[],[],13,0,[0,2,3,4,7,9,11],[4,7,9,11]⟩ (fun _=>[]) (by kernel_rfl) ?_)
  simp only [Try.f92,stripX,stripOps,pickOps]
  simp [h1,h2,h3,h4,h5]
noncomputable def K_92:Ent Try.prog:=Ent.p1 (α:=Int) 92 (fun n=>True) (fun n=>.d (.int .i64 (opCost n))) (fun n hc=>costS_c n)
theorem K_92_f:K_92.f=92:=rfl
theorem K_92_e (n:Int):K_92.e [.d (.int .i64 n)]=some (True,.d (.int .i64 (opCost n)),[]):=by unfold K_92;exact Ent.p1_eq (α:=Int) n
noncomputable def K_92h:EntH Try.prog:=EntH.pk1 (α:=Int) 92 (fun n=>True) (fun n=>.d (.int .i64 (opCost n))) (fun n=>[]) (fun n hc=>PureP.ans (costS_c n))
theorem K_92h_f:K_92h.f=92:=rfl
theorem K_92h_g:K_92h.gro=true:=rfl
theorem K_92h_e {x1:V} {H:Heap}:K_92h.e [x1] H=guardR ((decA (α:=Int) H x1).1) (peekR (True) (.d (.int .i64 (opCost (decA (α:=Int) H x1).2))) ([]) H):=rfl
def instCost (x:Inst):Int:=if x.op_=12∨x.op_=13 then 5 else opCost x.op_
def costL (l:List Inst) (n:Int):Int:=l.foldl (fun n x=>IntKind.i64.wrap (n + instCost x)) n
def costB (bs:List Block) (n:Int):Int:=bs.foldl (fun n b=>costL b.insts_ n) n
theorem costL_cons (x:Inst) (l:List Inst) (n:Int):costL (x :: l) n=costL l (IntKind.i64.wrap (n + instCost x)):=rfl
theorem costB_cons (b:Block) (bs:List Block) (n:Int):costB (b :: bs) n=costB bs (costL b.insts_ n):=rfl
theorem costFI_c (F:Func) (hF:Enc.good F):PureP Try.prog 49 [vFunc F] (· = .d (.int .i64 (costB F.blocks_ 0))):=by
  have hbs:Enc.good F.blocks_:=hF.2
  have hlb:=good_len hbs
  have hgi:∀ i:Nat,Enc.good (F.blocks_[i]?.getD default).insts_:=fun i=>(good_get hbs i).2.1
  refine pure_of Try.func49 en_49 rfl rfl (W_run mixed ⟨[K_91],[K_91h],[],40,0,[0,1,2,3,5,7,9,10,11,12,16,17,18,19,29],[12,19,25,29]⟩ (fun _=>[]) (by kernel_rfl) ?_)
  simp only [Try.f49,stripX,stripOps,pickOps]
  simp [K_91_f,K_91_e,K_91h_f,K_91h_e,K_91h_g]
  refine W_loopA (fun a:Nat × Int=>[(3,.d (.int .i64 a.2)),(9,.d (dBlockS F.blocks_)),(10,.d (.int .i64 F.blocks_.length)),(11,.d (.int .i64 a.1))]) (fun _=>[]) (fun a=>a.1≤F.blocks_.length∧costB (F.blocks_.drop a.1) a.2=costB F.blocks_ 0) (fun a=>F.blocks_.length - a.1) (0,0) ?_ ?_ ?_
  · simp
  · simp
  rintro ⟨i,m⟩ ⟨hi,hm⟩
  simp only [] at hi hm
  refine W_run mixed ⟨[K_91],[K_91h],[],40,0,[0,1,2,3,5,7,9,10,11,12,16,17,18,19,29],[12,19,25,29]⟩ (fun _=>[]) (by kernel_rfl) ?_
  simp only [stripX,stripOps,pickOps]
  simp [K_91_f,K_91_e,K_91h_f,K_91h_e,K_91h_g]
  refine ⟨fun h=>⟨h, ?_⟩,fun h=>?_⟩
  · rw [drop_cons h,costB_cons] at hm
    have hil:=good_len (hgi i)
    refine W_loopA (fun a:Nat × Int=>[(3,.d (.int .i64 a.2)),(9,.d (dBlockS F.blocks_)),(10,.d (.int .i64 F.blocks_.length)),(11,.d (.int .i64 i)),(16,.d (dInstS (F.blocks_[i]?.getD default).insts_)),(17,.d (.int .i64 (F.blocks_[i]?.getD default).insts_.length)),(18,.d (.int .i64 a.1))]) (fun _=>[]) (fun a=>a.1≤(F.blocks_[i]?.getD default).insts_.length∧costL ((F.blocks_[i]?.getD default).insts_.drop a.1) a.2=costL (F.blocks_[i]?.getD default).insts_ m) (fun a=>(F.blocks_[i]?.getD default).insts_.length - a.1) (0,m) ?_ ?_ ?_
    · simp
    · simp
    rintro ⟨j,n⟩ ⟨hj,hn⟩
    simp only [] at hj hn
    refine W_run mixed ⟨[K_91],[K_91h],[],40,0,[0,1,2,3,5,7,9,10,11,12,16,17,18,19,29],[12,19,25,29]⟩ (fun _=>[]) (by kernel_rfl) ?_
    simp only [stripX,stripOps,pickOps]
    simp [K_91_f,K_91_e,K_91h_f,K_91h_e,K_91h_g]
    refine ⟨fun h3=>?_,fun h3=>?_⟩
    · rw [drop_cons h3,costL_cons] at hn
      refine ⟨h3,fun q=>⟨j + 1,_,⟨by omega, ?_⟩,by omega,rfl,by rw [wrap_id] <;> omega⟩,fun q=>⟨fun q2=>⟨j + 1,_,⟨by omega, ?_⟩,by omega,rfl,by rw [wrap_id] <;> omega⟩,fun q2=>⟨j + 1,_,⟨by omega, ?_⟩,by omega,rfl,by rw [wrap_id] <;> omega⟩⟩⟩
      · rw [← hn,instCost,if_pos (.inl q)]
      · rw [← hn,instCost,if_pos (.inr q2)]
      · rw [← hn,instCost,if_neg (fun h=>h.elim q q2)]
    · rw [List.drop_eq_nil_of_le h3] at hn
      exact ⟨i + 1,n,⟨by omega,by rw [← hm,← hn];rfl⟩,by omega,rfl,by rw [wrap_id] <;> omega⟩
  · rw [List.drop_eq_nil_of_le h] at hm;exact hm
noncomputable def K_49:Ent Try.prog:=Ent.p1 (α:=Func) 49 (fun F=>Enc.good F) (fun F=>.d (.int .i64 (costB F.blocks_ 0))) (fun F hc=>costFI_c F hc)
theorem K_49_f:K_49.f=49:=rfl
theorem K_49_e (F0:Int) (F1:List Block):K_49.e [.agg [.d (.int .i64 F0),.d (dBlockS F1)]]=some (Enc.good (Func.mk F0 F1),.d (.int .i64 (costB (Func.mk F0 F1).blocks_ 0)),[]):=by unfold K_49;exact Ent.p1_eq (α:=Func) (Func.mk F0 F1)
noncomputable def K_49h:EntH Try.prog:=EntH.pk1 (α:=Func) 49 (fun F=>Enc.good F) (fun F=>.d (.int .i64 (costB F.blocks_ 0))) (fun F=>[]) (fun F hc=>PureP.ans (costFI_c F hc))
theorem K_49h_f:K_49h.f=49:=rfl
theorem K_49h_g:K_49h.gro=true:=rfl
theorem K_49h_e {x1:V} {H:Heap}:K_49h.e [x1] H=guardR ((decA (α:=Func) H x1).1) (peekR (Enc.good (decA (α:=Func) H x1).2) (.d (.int .i64 (costB (decA (α:=Func) H x1).2.blocks_ 0))) ([]) H):=rfl
theorem costFS_c (F:Func) (hF:Enc.good F):PureP Try.prog 50 [vFunc F] (· = .d (.int .i64 (costB F.blocks_ 0))):=by
  have hbs:Enc.good F.blocks_:=hF.2
  have hlb:=good_len hbs
  have hgi:∀ i:Nat,Enc.good (F.blocks_[i]?.getD default).insts_:=fun i=>(good_get hbs i).2.1
  refine pure_of Try.func50 en_50 rfl rfl (W_run mixed ⟨[K_92],[K_92h],[],40,0,[0,1,2,3,5,7,9,10,11,12,16,17,18,19,29],[12,19,25,29]⟩ (fun _=>[]) (by kernel_rfl) ?_)
  simp only [Try.f50,stripX,stripOps,pickOps]
  simp [K_92_f,K_92_e,K_92h_f,K_92h_e,K_92h_g]
  refine W_loopA (fun a:Nat × Int=>[(3,.d (.int .i64 a.2)),(9,.d (dBlockS F.blocks_)),(10,.d (.int .i64 F.blocks_.length)),(11,.d (.int .i64 a.1))]) (fun _=>[]) (fun a=>a.1≤F.blocks_.length∧costB (F.blocks_.drop a.1) a.2=costB F.blocks_ 0) (fun a=>F.blocks_.length - a.1) (0,0) ?_ ?_ ?_
  · simp
  · simp
  rintro ⟨i,m⟩ ⟨hi,hm⟩
  simp only [] at hi hm
  refine W_run mixed ⟨[K_92],[K_92h],[],40,0,[0,1,2,3,5,7,9,10,11,12,16,17,18,19,29],[12,19,25,29]⟩ (fun _=>[]) (by kernel_rfl) ?_
  simp only [stripX,stripOps,pickOps]
  simp [K_92_f,K_92_e,K_92h_f,K_92h_e,K_92h_g]
  refine ⟨fun h=>⟨h, ?_⟩,fun h=>?_⟩
  · rw [drop_cons h,costB_cons] at hm
    have hil:=good_len (hgi i)
    refine W_loopA (fun a:Nat × Int=>[(3,.d (.int .i64 a.2)),(9,.d (dBlockS F.blocks_)),(10,.d (.int .i64 F.blocks_.length)),(11,.d (.int .i64 i)),(16,.d (dInstS (F.blocks_[i]?.getD default).insts_)),(17,.d (.int .i64 (F.blocks_[i]?.getD default).insts_.length)),(18,.d (.int .i64 a.1))]) (fun _=>[]) (fun a=>a.1≤(F.blocks_[i]?.getD default).insts_.length∧costL ((F.blocks_[i]?.getD default).insts_.drop a.1) a.2=costL (F.blocks_[i]?.getD default).insts_ m) (fun a=>(F.blocks_[i]?.getD default).insts_.length - a.1) (0,m) ?_ ?_ ?_
    · simp
    · simp
    rintro ⟨j,n⟩ ⟨hj,hn⟩
    simp only [] at hj hn
    refine W_run mixed ⟨[K_92],[K_92h],[],40,0,[0,1,2,3,5,7,9,10,11,12,16,17,18,19,29],[12,19,25,29]⟩ (fun _=>[]) (by kernel_rfl) ?_
    simp only [stripX,stripOps,pickOps]
    simp [K_92_f,K_92_e,K_92h_f,K_92h_e,K_92h_g]
    refine ⟨fun h3=>?_,fun h3=>?_⟩
    · rw [drop_cons h3,costL_cons] at hn
      refine ⟨h3,fun q=>⟨j + 1,_,⟨by omega, ?_⟩,by omega,rfl,by rw [wrap_id] <;> omega⟩,fun q=>⟨fun q2=>⟨j + 1,_,⟨by omega, ?_⟩,by omega,rfl,by rw [wrap_id] <;> omega⟩,fun q2=>⟨j + 1,_,⟨by omega, ?_⟩,by omega,rfl,by rw [wrap_id] <;> omega⟩⟩⟩
      · rw [← hn,instCost,if_pos (.inl q)]
      · rw [← hn,instCost,if_pos (.inr q2)]
      · rw [← hn,instCost,if_neg (fun h=>h.elim q q2)]
    · rw [List.drop_eq_nil_of_le h3] at hn
      exact ⟨i + 1,n,⟨by omega,by rw [← hm,← hn];rfl⟩,by omega,rfl,by rw [wrap_id] <;> omega⟩
  · rw [List.drop_eq_nil_of_le h] at hm;exact hm
noncomputable def K_50:Ent Try.prog:=Ent.p1 (α:=Func) 50 (fun F=>Enc.good F) (fun F=>.d (.int .i64 (costB F.blocks_ 0))) (fun F hc=>costFS_c F hc)
theorem K_50_f:K_50.f=50:=rfl
theorem K_50_e (F0:Int) (F1:List Block):K_50.e [.agg [.d (.int .i64 F0),.d (dBlockS F1)]]=some (Enc.good (Func.mk F0 F1),.d (.int .i64 (costB (Func.mk F0 F1).blocks_ 0)),[]):=by unfold K_50;exact Ent.p1_eq (α:=Func) (Func.mk F0 F1)
noncomputable def K_50h:EntH Try.prog:=EntH.pk1 (α:=Func) 50 (fun F=>Enc.good F) (fun F=>.d (.int .i64 (costB F.blocks_ 0))) (fun F=>[]) (fun F hc=>PureP.ans (costFS_c F hc))
theorem K_50h_f:K_50h.f=50:=rfl
theorem K_50h_g:K_50h.gro=true:=rfl
theorem K_50h_e {x1:V} {H:Heap}:K_50h.e [x1] H=guardR ((decA (α:=Func) H x1).1) (peekR (Enc.good (decA (α:=Func) H x1).2) (.d (.int .i64 (costB (decA (α:=Func) H x1).2.blocks_ 0))) ([]) H):=rfl
def costR (F:Func):V:=.tup [.d (.int .i64 (if goodF F=true then costB F.blocks_ 0 else 0)),.d (.bool (goodF F))]
theorem costOfI_c (F:Func) (hF:Enc.good F):PureP Try.prog 16 [vFunc F] (· = costR F):=by
  cases hg:goodF F with
  | false =>
    refine pure_of Try.func16 en_16 rfl rfl (W_run mixed ⟨[K_22,K_49],[K_22h,K_49h],[],9,0,[0,1,2,3,6],[6]⟩ (fun _=>[]) (by kernel_rfl) ?_)
    simp only [Try.f16,stripX,stripOps,pickOps]
    simp [K_22_f,K_22_e,K_49_f,K_49_e,K_22h_f,K_22h_e,K_49h_f,K_49h_e,K_22h_g,K_49h_g,hF,hg]
    simp [costR,hg]
  | true =>
    refine pure_of Try.func16 en_16 rfl rfl (W_run mixed ⟨[K_22,K_49],[K_22h,K_49h],[],9,0,[0,1,2,3,6],[6]⟩ (fun _=>[]) (by kernel_rfl) ?_)
    simp only [Try.f16,stripX,stripOps,pickOps]
    simp [K_22_f,K_22_e,K_49_f,K_49_e,K_22h_f,K_22h_e,K_49h_f,K_49h_e,K_22h_g,K_49h_g,hF,hg]
    simp [costR,hg]
noncomputable def K_16:Ent Try.prog:=Ent.p1 (α:=Func) 16 (fun F=>Enc.good F) (fun F=>costR F) (fun F hc=>costOfI_c F hc)
theorem K_16_f:K_16.f=16:=rfl
theorem K_16_e (F0:Int) (F1:List Block):K_16.e [.agg [.d (.int .i64 F0),.d (dBlockS F1)]]=some (Enc.good (Func.mk F0 F1),costR (Func.mk F0 F1),[]):=by unfold K_16;exact Ent.p1_eq (α:=Func) (Func.mk F0 F1)
noncomputable def K_16h:EntH Try.prog:=EntH.pk1 (α:=Func) 16 (fun F=>Enc.good F) (fun F=>costR F) (fun F=>[]) (fun F hc=>PureP.ans (costOfI_c F hc))
theorem K_16h_f:K_16h.f=16:=rfl
theorem K_16h_g:K_16h.gro=true:=rfl
theorem K_16h_e {x1:V} {H:Heap}:K_16h.e [x1] H=guardR ((decA (α:=Func) H x1).1) (peekR (Enc.good (decA (α:=Func) H x1).2) (costR (decA (α:=Func) H x1).2) ([]) H):=rfl
theorem costOfS_c (F:Func) (hF:Enc.good F):PureP Try.prog 17 [vFunc F] (· = costR F):=by
  cases hg:goodF F with
  | false =>
    refine pure_of Try.func17 en_17 rfl rfl (W_run mixed ⟨[K_23,K_50],[K_23h,K_50h],[],9,0,[0,1,2,3,6],[6]⟩ (fun _=>[]) (by kernel_rfl) ?_)
    simp only [Try.f17,stripX,stripOps,pickOps]
    simp [K_23_f,K_23_e,K_50_f,K_50_e,K_23h_f,K_23h_e,K_50h_f,K_50h_e,K_23h_g,K_50h_g,hF,hg]
    simp [costR,hg]
  | true =>
    refine pure_of Try.func17 en_17 rfl rfl (W_run mixed ⟨[K_23,K_50],[K_23h,K_50h],[],9,0,[0,1,2,3,6],[6]⟩ (fun _=>[]) (by kernel_rfl) ?_)
    simp only [Try.f17,stripX,stripOps,pickOps]
    simp [K_23_f,K_23_e,K_50_f,K_50_e,K_23h_f,K_23h_e,K_50h_f,K_50h_e,K_23h_g,K_50h_g,hF,hg]
    simp [costR,hg]
noncomputable def K_17:Ent Try.prog:=Ent.p1 (α:=Func) 17 (fun F=>Enc.good F) (fun F=>costR F) (fun F hc=>costOfS_c F hc)
theorem K_17_f:K_17.f=17:=rfl
theorem K_17_e (F0:Int) (F1:List Block):K_17.e [.agg [.d (.int .i64 F0),.d (dBlockS F1)]]=some (Enc.good (Func.mk F0 F1),costR (Func.mk F0 F1),[]):=by unfold K_17;exact Ent.p1_eq (α:=Func) (Func.mk F0 F1)
noncomputable def K_17h:EntH Try.prog:=EntH.pk1 (α:=Func) 17 (fun F=>Enc.good F) (fun F=>costR F) (fun F=>[]) (fun F hc=>PureP.ans (costOfS_c F hc))
theorem K_17h_f:K_17h.f=17:=rfl
theorem K_17h_g:K_17h.gro=true:=rfl
theorem K_17h_e {x1:V} {H:Heap}:K_17h.e [x1] H=guardR ((decA (α:=Func) H x1).1) (peekR (Enc.good (decA (α:=Func) H x1).2) (costR (decA (α:=Func) H x1).2) ([]) H):=rfl
@[reducible] instance decByt:Dec Byt where
  dec _ l:=match l with | [.d (.int .u8 n)]=>(True,⟨n⟩) | _=>(False,default)
  ok H l h X w φ xs hs hv:=by
    split at h
    · obtain ⟨v,vs',rfl,h2,h3⟩:=hv
      have:vs'=[]:=h3
      subst this
      refine ⟨rfl,fun j u hu=>?_⟩
      match j,hu with
      | 0,hu=>simp at hu;subst hu;exact h2
    · exact h.elim
def bigB (a b:List Byt):Bool:=decide (1048576 < (a.length:Int)) || decide (IntKind.i64.wrap (1048576 - (a.length:Int)) < (b.length:Int))
theorem big_c (a b:List Byt):PureP Try.prog 6 [.d (dBytS a),.d (dBytS b)] (· = .d (.bool (bigB a b))):=by
  refine pure_of Try.func6 en_6 rfl rfl (W_run mixed ⟨[],[],[],16,0,[0,1,4],[8]⟩ (fun _=>[]) (by kernel_rfl) ?_)
  simp only [Try.f6,stripX,stripOps,pickOps]
  simp []
  unfold bigB
  exact ⟨fun h=>by simp [h],fun h=>by simp [show ¬ (1048576:Int) < a.length by omega]⟩
noncomputable def K_6:Ent Try.prog:=Ent.p2 (α:=List Byt) (β:=List Byt) 6 (fun a b=>True) (fun a b=>.d (.bool (bigB a b))) (fun a b hc=>big_c a b)
theorem K_6_f:K_6.f=6:=rfl
theorem K_6_e (a:List Byt) (b:List Byt):K_6.e [.d (dBytS a),.d (dBytS b)]=some (True,.d (.bool (bigB a b)),[]):=by unfold K_6;exact Ent.p2_eq (α:=List Byt) (β:=List Byt) a b
noncomputable def K_6h:EntH Try.prog:=EntH.pk2 (α:=List Byt) (β:=List Byt) 6 (fun a b=>True) (fun a b=>.d (.bool (bigB a b))) (fun a b=>[]) (fun a b hc=>PureP.ans (big_c a b))
theorem K_6h_f:K_6h.f=6:=rfl
theorem K_6h_g:K_6h.gro=true:=rfl
theorem K_6h_e {x1 x2:V} {H:Heap}:K_6h.e [x1,x2] H=guardR ((decA (α:=List Byt) H x1).1∧(decA (α:=List Byt) H x2).1) (peekR (True) (.d (.bool (bigB (decA (α:=List Byt) H x1).2 (decA (α:=List Byt) H x2).2))) ([]) H):=rfl
theorem sameInts_c (a b:List Int) (ha:a.length≤1000):PureP Try.prog 10 [.d (dIntS a),.d (dIntS b)] (· = .d (.bool (decide (a=b)))):=by
  refine pure_of Try.func10 en_10 rfl rfl (W_run mixed ⟨[],[],[],26,0,[0,1,4,5,10,12,13,14,24],[10,14,24]⟩ (fun | 6=>[0,1,2,4,5,6,3,7,8] | _=>[]) (by kernel_rfl) ?_)
  simp only [Try.f10,stripX,stripOps,pickOps]
  simp []
  refine ⟨fun h=>?_,fun h=>?_⟩
  · intro e;exact h (by rw [e])
  refine W_loopA (fun i:Nat=>[(0,.d (dIntS a)),(1,.d (dIntS b)),(12,.d (.int .i64 a.length)),(13,.d (.int .i64 i))]) (fun _=>[]) (fun i=>i≤a.length∧(a.drop i=b.drop i ↔ a=b)) (fun i=>a.length - i) 0 ?_ ?_ ?_
  · simp
  · simp
  rintro i ⟨hi,hm⟩
  refine W_run mixed ⟨[],[],[],26,0,[0,1,4,5,10,12,13,14,24],[10,14,24]⟩ (fun | 6=>[0,1,2,4,5,6,3,7,8] | _=>[]) (by kernel_rfl) ?_
  simp only [stripX,stripOps,pickOps]
  simp []
  refine ⟨fun h3=>?_,fun h3=>?_⟩
  · rw [drop_cons h3,drop_cons (show i < b.length by omega)] at hm
    refine ⟨h3,by omega,fun q e=>q (by rw [e]),fun q=>⟨i + 1,⟨by omega, ?_⟩,by omega,by rw [wrap_id] <;> omega⟩⟩
    rw [← hm]
    constructor
    · intro e
      rw [e]
      exact congrArg (· :: _) q
    · intro e
      exact (List.cons.inj e).2
  · rw [List.drop_eq_nil_of_le h3,List.drop_eq_nil_of_le (show b.length≤i by omega)] at hm
    exact hm.1 rfl
noncomputable def K_10:Ent Try.prog:=Ent.p2 (α:=List Int) (β:=List Int) 10 (fun a b=>a.length≤1000) (fun a b=>.d (.bool (decide (a=b)))) (fun a b hc=>sameInts_c a b hc)
theorem K_10_f:K_10.f=10:=rfl
theorem K_10_e (a:List Int) (b:List Int):K_10.e [.d (dIntS a),.d (dIntS b)]=some (a.length≤1000,.d (.bool (decide (a=b))),[]):=by unfold K_10;exact Ent.p2_eq (α:=List Int) (β:=List Int) a b
noncomputable def K_10h:EntH Try.prog:=EntH.pk2 (α:=List Int) (β:=List Int) 10 (fun a b=>a.length≤1000) (fun a b=>.d (.bool (decide (a=b)))) (fun a b=>[]) (fun a b hc=>PureP.ans (sameInts_c a b hc))
theorem K_10h_f:K_10h.f=10:=rfl
theorem K_10h_g:K_10h.gro=true:=rfl
theorem K_10h_e {x1 x2:V} {H:Heap}:K_10h.e [x1,x2] H=guardR ((decA (α:=List Int) H x1).1∧(decA (α:=List Int) H x2).1) (peekR ((decA (α:=List Int) H x1).2.length≤1000) (.d (.bool (decide ((decA (α:=List Int) H x1).2=(decA (α:=List Int) H x2).2)))) ([]) H):=rfl
end Go.Proofs.Ytnomiclfiijniaa
