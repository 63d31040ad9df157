/- Closed contracts of LiveAt and ReachedBlocks of both programs. No condition. -/
import Derived.Test.YtnomiclfiijniaaQS42
import Derived.Test.YtnomiclfiijniaaQS92
import Derived.Test.YtnomiclfiijniaaQS101
import Derived.Test.YtnomiclfiijniaaQS128
import Derived.Test.YtnomiclfiijniaaQS130
section
namespace Go.Proofs.Ytnomiclfiijniaa
set_option maxRecDepth 100000
set_option linter.unusedSimpArgs false
set_option linter.unusedVariables false
theorem PureP.of_ownQ {P:Program} {f:FuncId} {vs:List V} {Q0:V→Prop} (h:CallsD P f vs [] fun r H'=>∃ r0,Q0 r0∧Rd1 H' r r0):PureP P f vs Q0:=by
  refine ⟨h.1,fun X w φ args hX hs hv=>(h.2 X w φ args hX hs hv).mono ?_⟩
  rintro e w' ⟨v,r,φ',H',rfl,⟨r0,q0,hq⟩,hs',hv',hfr,hext,hlen,hnew⟩
  have hφ:φ=[]:=List.length_eq_zero_iff.1 hs.len
  subst hφ
  have ho:owned X [] []=X:=owned_nil X
  refine ⟨v,r0,[],[],rfl,⟨rfl,q0⟩,HS.nil _ _,by rw [ho];exact hq X w' φ' v hs' hv',hfr,fun id hid=>absurd hid (by simp),Nat.le_refl _, ?_⟩
  rintro g hg ⟨id,e,es,o,h1,_⟩
  simp at h1
theorem isBlk_n {F:Func} {k:Int} (hF:Enc.good F) (h:isBlk F k=true):goodF F=true∧0≤k∧k.toNat < F.blocks_.length:=by
  obtain ⟨h1,h2,h3⟩:=isBlk_t hF h
  exact ⟨h1,h2,by omega⟩
@[reducible] instance decByt:Dec Byt where
  dec _ l:=match l with | [.d (.int .u8 n)]=>(True,⟨n⟩) | _=>(False,default)
  ok H l h X w φ xs hs hv:=by
    split at h
    · obtain ⟨v,vs',rfl,h2,h3⟩:=hv
      have:vs'=[]:=h3
      subst this
      refine ⟨rfl,fun j u hu=>?_⟩
      match j,hu with
      | 0,hu=>simp at hu;subst hu;exact h2
    · exact h.elim
def bigB (a b:List Byt):Bool:=decide (1048576 < (a.length:Int)) || decide (IntKind.i64.wrap (1048576 - (a.length:Int)) < (b.length:Int))
theorem big_c (a b:List Byt):PureP Try.prog 6 [.d (dBytS a),.d (dBytS b)] (· = .d (.bool (bigB a b))):=by
  refine pure_of Try.func6 en_6 rfl rfl (W_run mixed ⟨[],[],[],16,0,[0,1,4],[8]⟩ (fun _=>[]) (by kernel_rfl) ?_)
  simp only [Try.f6,stripX,stripOps,pickOps]
  simp []
  unfold bigB
  exact ⟨fun h=>by simp [h],fun h=>by simp [show ¬ (1048576:Int) < a.length by omega]⟩
noncomputable def K_6:Ent Try.prog:=Ent.p2 (α:=List Byt) (β:=List Byt) 6 (fun a b=>True) (fun a b=>.d (.bool (bigB a b))) (fun a b hc=>big_c a b)
theorem K_6_f:K_6.f=6:=rfl
theorem K_6_e (a:List Byt) (b:List Byt):K_6.e [.d (dBytS a),.d (dBytS b)]=some (True,.d (.bool (bigB a b)),[]):=by unfold K_6;exact Ent.p2_eq (α:=List Byt) (β:=List Byt) a b
noncomputable def K_6h:EntH Try.prog:=EntH.pk2 (α:=List Byt) (β:=List Byt) 6 (fun a b=>True) (fun a b=>.d (.bool (bigB a b))) (fun a b=>[]) (fun a b hc=>PureP.ans (big_c a b))
theorem K_6h_f:K_6h.f=6:=rfl
theorem K_6h_g:K_6h.gro=true:=rfl
theorem K_6h_e {x1 x2:V} {H:Heap}:K_6h.e [x1,x2] H=guardR ((decA (α:=List Byt) H x1).1∧(decA (α:=List Byt) H x2).1) (peekR (True) (.d (.bool (bigB (decA (α:=List Byt) H x1).2 (decA (α:=List Byt) H x2).2))) ([]) H):=rfl
theorem sameInts_c (a b:List Int) (ha:a.length≤1000):PureP Try.prog 10 [.d (dIntS a),.d (dIntS b)] (· = .d (.bool (decide (a=b)))):=by
  refine pure_of Try.func10 en_10 rfl rfl (W_run mixed ⟨[],[],[],26,0,[0,1,4,5,10,12,13,14,24],[10,14,24]⟩ (fun | 6=>[0,1,2,4,5,6,3,7,8] | _=>[]) (by kernel_rfl) ?_)
  simp only [Try.f10,stripX,stripOps,pickOps]
  simp []
  refine ⟨fun h=>?_,fun h=>?_⟩
  · intro e;exact h (by rw [e])
  refine W_loopA (fun i:Nat=>[(0,.d (dIntS a)),(1,.d (dIntS b)),(12,.d (.int .i64 a.length)),(13,.d (.int .i64 i))]) (fun _=>[]) (fun i=>i≤a.length∧(a.drop i=b.drop i ↔ a=b)) (fun i=>a.length - i) 0 ?_ ?_ ?_
  · simp
  · simp
  rintro i ⟨hi,hm⟩
  refine W_run mixed ⟨[],[],[],26,0,[0,1,4,5,10,12,13,14,24],[10,14,24]⟩ (fun | 6=>[0,1,2,4,5,6,3,7,8] | _=>[]) (by kernel_rfl) ?_
  simp only [stripX,stripOps,pickOps]
  simp []
  refine ⟨fun h3=>?_,fun h3=>?_⟩
  · rw [drop_cons h3,drop_cons (show i < b.length by omega)] at hm
    refine ⟨h3,by omega,fun q e=>q (by rw [e]),fun q=>⟨i + 1,⟨by omega, ?_⟩,by omega,by rw [wrap_id] <;> omega⟩⟩
    rw [← hm]
    constructor
    · intro e
      rw [e]
      exact congrArg (· :: _) q
    · intro e
      exact (List.cons.inj e).2
  · rw [List.drop_eq_nil_of_le h3,List.drop_eq_nil_of_le (show b.length≤i by omega)] at hm
    exact hm.1 rfl
noncomputable def K_10:Ent Try.prog:=Ent.p2 (α:=List Int) (β:=List Int) 10 (fun a b=>a.length≤1000) (fun a b=>.d (.bool (decide (a=b)))) (fun a b hc=>sameInts_c a b hc)
theorem K_10_f:K_10.f=10:=rfl
theorem K_10_e (a:List Int) (b:List Int):K_10.e [.d (dIntS a),.d (dIntS b)]=some (a.length≤1000,.d (.bool (decide (a=b))),[]):=by unfold K_10;exact Ent.p2_eq (α:=List Int) (β:=List Int) a b
noncomputable def K_10h:EntH Try.prog:=EntH.pk2 (α:=List Int) (β:=List Int) 10 (fun a b=>a.length≤1000) (fun a b=>.d (.bool (decide (a=b)))) (fun a b=>[]) (fun a b hc=>PureP.ans (sameInts_c a b hc))
theorem K_10h_f:K_10h.f=10:=rfl
theorem K_10h_g:K_10h.gro=true:=rfl
theorem K_10h_e {x1 x2:V} {H:Heap}:K_10h.e [x1,x2] H=guardR ((decA (α:=List Int) H x1).1∧(decA (α:=List Int) H x2).1) (peekR ((decA (α:=List Int) H x1).2.length≤1000) (.d (.bool (decide ((decA (α:=List Int) H x1).2=(decA (α:=List Int) H x2).2)))) ([]) H):=rfl
end Go.Proofs.Ytnomiclfiijniaa
end

section
namespace Go.Proofs.Ytnomiclfiijniaa
set_option maxRecDepth 100000
set_option linter.unusedSimpArgs false
set_option linter.unusedVariables false
noncomputable def liveV (F:Func) (k:Int):List Int:=if isBlk F k=true then liveL F k.toNat else []
noncomputable def liveR (F:Func) (k:Int):V:=.tup [.d (dIntS (liveV F k)),.d (.bool (isBlk F k))]
theorem Rd1.nilI {H:Heap}:Rd1 H (.d .nilsl) (.d (dIntS [])):=Rd1.dec (α:=List Int) (by rw [decA_nil];exact ⟨trivial,rfl⟩)
theorem liveI_c (F:Func) (k:Int) (hF:Enc.good F):PureP Try.prog 31 [vFunc F,.d (.int .i64 k)] (· = liveR F k):=by
  refine PureP.of_own ?_
  cases hg:goodF F with
  | false =>
    have hb:isBlk F k=false:=by simp [isBlk,hg]
    refine calls_of Try.func31 en_31 rfl (of_decide_eq_true rfl) (W_runCut mixed 3 ⟨[K_40,K_71,K_70],[K_40h,K_71h,K_70h],[73,68],156,0,[0,1,2,4,5,6,7,8,9,10,11,12,13,14,15,16,18,20,30,41,42,43,65,66,67,77,78,79,99,100,101,102,103,107,108,109,110,117,118,119,120,141],[25,30,43,67,79,99,103,110,120,132,141]⟩ (fun | 4=>[0,1,2,3,4,5,7,8,6,9,10,11] | 8=>[0,1,2,3,4,5,6,7,8] | 10=>[0,1,2,3,4,5,6,7] | _=>[]) (by kernel_rfl) ?_)
    simp only [Try.f31,stripCut,stripX,stripOps,pickOps]
    simp [K_40_f,K_40_e,K_71_f,K_71_e,K_70_f,K_70_e,K_40h_f,K_40h_e,K_71h_f,K_71h_e,K_70h_f,K_70h_e,K_40h_g,K_71h_g,K_70h_g,-V.flat,-V.one,one_int,one_bool,one_str,one_nilp,one_rp,one_nilsl,one_ro,one_cl,one_nilf,one_nili,one_ifc,one_ptr,one_sl,one_clo,flat_d,flat_ptr,flat_sl,flat_clo,flat_agg,hF,viewV_f hg,retQ]
    exact ⟨_,_,Fin.same (Nat.zero_le _),by simp only [liveR,liveV,hb];exact Rd1.tup ⟨Rd1.nilI,Rd1.d,trivial⟩⟩
  | true =>
    cases hv:inR k 0 (IntKind.i64.wrap (F.blocks_.length - 1)) with
    | false =>
      have hb:isBlk F k=false:=by simp [isBlk,hg,hv]
      refine calls_of Try.func31 en_31 rfl (of_decide_eq_true rfl) (W_runCut mixed 3 ⟨[K_40,K_71,K_70],[K_40h,K_71h,K_70h],[73,68],156,0,[0,1,2,4,5,6,7,8,9,10,11,12,13,14,15,16,18,20,30,41,42,43,65,66,67,77,78,79,99,100,101,102,103,107,108,109,110,117,118,119,120,141],[25,30,43,67,79,99,103,110,120,132,141]⟩ (fun | 4=>[0,1,2,3,4,5,7,8,6,9,10,11] | 8=>[0,1,2,3,4,5,6,7,8] | 10=>[0,1,2,3,4,5,6,7] | _=>[]) (by kernel_rfl) ?_)
      simp only [Try.f31,stripCut,stripX,stripOps,pickOps]
      simp [K_40_f,K_40_e,K_71_f,K_71_e,K_70_f,K_70_e,K_40h_f,K_40h_e,K_71h_f,K_71h_e,K_70h_f,K_70h_e,K_40h_g,K_71h_g,K_70h_g,-V.flat,-V.one,one_int,one_bool,one_str,one_nilp,one_rp,one_nilsl,one_ro,one_cl,one_nilf,one_nili,one_ifc,one_ptr,one_sl,one_clo,flat_d,flat_ptr,flat_sl,flat_clo,flat_agg,hF,viewV_t hg,viewD_blocks,hv,retQ]
      exact ⟨_,_,Fin.same (Nat.zero_le _),by simp only [liveR,liveV,hb];exact Rd1.tup ⟨Rd1.nilI,Rd1.d,trivial⟩⟩
    | true =>
      have hb:isBlk F k=true:=by simp [isBlk,hg,hv]
      refine (liveI_own F k hF hg hb).mono ?_
      rintro r H' rfl
      simp only [liveR,liveV,hb,if_true]
      exact Rd1.tup ⟨Rd1.d,Rd1.d,trivial⟩
noncomputable def K_31:Ent Try.prog:=Ent.p2 (α:=Func) (β:=Int) 31 (fun F k=>Enc.good F) (fun F k=>liveR F k) (fun F k hc=>liveI_c F k hc)
theorem K_31_f:K_31.f=31:=rfl
theorem K_31_e (F0:Int) (F1:List Block) (k:Int):K_31.e [.agg [.d (.int .i64 F0),.d (dBlockS F1)],.d (.int .i64 k)]=some (Enc.good (Func.mk F0 F1),liveR (Func.mk F0 F1) k,[]):=by unfold K_31;exact Ent.p2_eq (α:=Func) (β:=Int) (Func.mk F0 F1) k
noncomputable def K_31h:EntH Try.prog:=EntH.pk2 (α:=Func) (β:=Int) 31 (fun F k=>Enc.good F) (fun F k=>liveR F k) (fun F k=>[]) (fun F k hc=>PureP.ans (liveI_c F k hc))
theorem K_31h_f:K_31h.f=31:=rfl
theorem K_31h_g:K_31h.gro=true:=rfl
theorem K_31h_e {x1 x2:V} {H:Heap}:K_31h.e [x1,x2] H=guardR ((decA (α:=Func) H x1).1∧(decA (α:=Int) H x2).1) (peekR (Enc.good (decA (α:=Func) H x1).2) (liveR (decA (α:=Func) H x1).2 (decA (α:=Int) H x2).2) ([]) H):=rfl
theorem liveS_c (F : Func) (hF : Enc.good F) (hg : goodF F = true) : PureP Try.prog 82 [vFunc F] (· = .d (dIntSS ((List.range F.blocks_.length).map (liveL F)))) := by
  refine PureP.of_own ((liveS_own F hF hg).mono ?_)
  rintro r H' ⟨o,rfl,ho⟩
  have hd:decA (α:=List (List Int)) H' (.sl o 1 0 F.blocks_.length)=(True,(List.range F.blocks_.length).map (liveL F)):=by
    have e:((((List.range F.blocks_.length).map fun k=>[V.d (nz (liveL F k))]).drop 0).take F.blocks_.length)=(List.range F.blocks_.length).map fun k=>[V.d (nz (liveL F k))]:=by rw [List.drop_zero,List.take_of_length_le (by simp)]
    have en:∀ l:List Int,Dec.dec (α:=List Int) H' [V.d (nz l)]=(True,l):=fun l=>by
      by_cases h:l=[]
      · subst h;exact dec_nilsl (α:=Int)
      · rw [nz_ne h];exact dec_ro (α:=Int) (H:=H') (l:=l)
    have hd:(Dec.dec (α:=List (List Int)) H' [.sl o 1 0 F.blocks_.length]).1∧(Dec.dec (α:=List (List Int)) H' [.sl o 1 0 F.blocks_.length]).2=(List.range F.blocks_.length).map (liveL F):=by
      rw [dec_sl,ho]
      simp only [e]
      refine ⟨⟨⟨rfl,trivial⟩,by simp,fun r hr=>?_⟩, ?_⟩
      · obtain ⟨x,hx,rfl⟩:=List.mem_map.1 hr
        rw [en];trivial
      · rw [List.map_map]
        exact List.map_congr_left fun x _=>by rw [Function.comp,en]
    exact Prod.ext (eq_true ⟨rfl,hd.1⟩) hd.2
  exact Rd1.dec (α:=List (List Int)) (by rw [hd];exact ⟨trivial,rfl⟩)
noncomputable def K_82:Ent Try.prog:=Ent.p1 (α:=Func) 82 (fun F=>Enc.good F∧goodF F=true) (fun F=>.d (dIntSS ((List.range F.blocks_.length).map (liveL F)))) (fun F hc=>liveS_c F hc.1 hc.2)
theorem K_82_f:K_82.f=82:=rfl
theorem K_82_e (F0:Int) (F1:List Block):K_82.e [.agg [.d (.int .i64 F0),.d (dBlockS F1)]]=some (Enc.good (Func.mk F0 F1)∧goodF (Func.mk F0 F1)=true,.d (dIntSS ((List.range (Func.mk F0 F1).blocks_.length).map (liveL (Func.mk F0 F1)))),[]):=by unfold K_82;exact Ent.p1_eq (α:=Func) (Func.mk F0 F1)
noncomputable def K_82h:EntH Try.prog:=EntH.pk1 (α:=Func) 82 (fun F=>Enc.good F∧goodF F=true) (fun F=>.d (dIntSS ((List.range F.blocks_.length).map (liveL F)))) (fun F=>[]) (fun F hc=>PureP.ans (liveS_c F hc.1 hc.2))
theorem K_82h_f:K_82h.f=82:=rfl
theorem K_82h_g:K_82h.gro=true:=rfl
theorem K_82h_e {x1:V} {H:Heap}:K_82h.e [x1] H=guardR ((decA (α:=Func) H x1).1) (peekR (Enc.good (decA (α:=Func) H x1).2∧goodF (decA (α:=Func) H x1).2=true) (.d (dIntSS ((List.range (decA (α:=Func) H x1).2.blocks_.length).map (liveL (decA (α:=Func) H x1).2)))) ([]) H):=rfl
theorem liveS2_c (F:Func) (k:Int) (hF:Enc.good F):PureP Try.prog 36 [vFunc F,.d (.int .i64 k)] (· = liveR F k):=by
  cases hb:isBlk F k with
  | false =>
    have h:PureP Try.prog 36 [vFunc F,.d (.int .i64 k)] (· = .tup [.d .nilsl,.d (.bool false)]):=by
      refine pure_of Try.func36 en_36 rfl rfl (W_run mixed ⟨[K_77,K_82],[K_77h,K_82h],[],15,0,[0,1,2,4,5,9],[9]⟩ (fun _=>[]) (by kernel_rfl) ?_)
      simp only [Try.f36,stripX,stripOps,pickOps]
      simp [K_77_f,K_77_e,K_82_f,K_82_e,K_77h_f,K_77h_e,K_82h_f,K_82h_e,K_77h_g,K_82h_g,hF,hb]
    refine PureP.of_own (h.ans.mono ?_)
    rintro r H' ⟨rfl,rfl⟩
    simp only [liveR,liveV,hb]
    exact Rd1.tup ⟨Rd1.nilI,Rd1.d,trivial⟩
  | true =>
    obtain ⟨hg,h0,h1⟩:=isBlk_n hF hb
    have hget:((List.range F.blocks_.length).map (liveL F))[k.toNat]?.getD default=liveL F k.toNat:=by simp [h1]
    have h1':k < F.blocks_.length:=by omega
    refine pure_of Try.func36 en_36 rfl rfl (W_run mixed ⟨[K_77,K_82],[K_77h,K_82h],[],15,0,[0,1,2,4,5,9],[9]⟩ (fun _=>[]) (by kernel_rfl) ?_)
    simp only [Try.f36,stripX,stripOps,pickOps]
    simp [K_77_f,K_77_e,K_82_f,K_82_e,K_77h_f,K_77h_e,K_82h_f,K_82h_e,K_77h_g,K_82h_g,hF,hb,hg,h0,h1,h1',hget]
    simp [liveR,liveV,hb,h1']
noncomputable def K_36:Ent Try.prog:=Ent.p2 (α:=Func) (β:=Int) 36 (fun F k=>Enc.good F) (fun F k=>liveR F k) (fun F k hc=>liveS2_c F k hc)
theorem K_36_f:K_36.f=36:=rfl
theorem K_36_e (F0:Int) (F1:List Block) (k:Int):K_36.e [.agg [.d (.int .i64 F0),.d (dBlockS F1)],.d (.int .i64 k)]=some (Enc.good (Func.mk F0 F1),liveR (Func.mk F0 F1) k,[]):=by unfold K_36;exact Ent.p2_eq (α:=Func) (β:=Int) (Func.mk F0 F1) k
noncomputable def K_36h:EntH Try.prog:=EntH.pk2 (α:=Func) (β:=Int) 36 (fun F k=>Enc.good F) (fun F k=>liveR F k) (fun F k=>[]) (fun F k hc=>PureP.ans (liveS2_c F k hc))
theorem K_36h_f:K_36h.f=36:=rfl
theorem K_36h_g:K_36h.gro=true:=rfl
theorem K_36h_e {x1 x2:V} {H:Heap}:K_36h.e [x1,x2] H=guardR ((decA (α:=Func) H x1).1∧(decA (α:=Int) H x2).1) (peekR (Enc.good (decA (α:=Func) H x1).2) (liveR (decA (α:=Func) H x1).2 (decA (α:=Int) H x2).2) ([]) H):=rfl
noncomputable def reachedV (F:Func):List Int:=if goodF F=true then allR F else []
noncomputable def reachedR (F:Func):V:=.tup [.d (dIntS (reachedV F)),.d (.bool (goodF F))]
theorem reachedI_c (F:Func) (hF:Enc.good F):PureP Try.prog 30 [vFunc F] (· = reachedR F):=by
  cases hg:goodF F with
  | false =>
    have h:PureP Try.prog 30 [vFunc F] (· = .tup [.d .nilsl,.d (.bool false)]):=by
      refine pure_of Try.func30 en_30 rfl rfl (W_run mixed ⟨[K_40,K_70,K_69,K_68],[K_40h,K_70h,K_69h,K_68h],[],13,0,[0,1,2,3,4,8],[8]⟩ (fun _=>[]) (by kernel_rfl) ?_)
      simp only [Try.f30,stripX,stripOps,pickOps]
      simp [K_40_f,K_40_e,K_70_f,K_70_e,K_69_f,K_69_e,K_68_f,K_68_e,K_40h_f,K_40h_e,K_70h_f,K_70h_e,K_69h_f,K_69h_e,K_68h_f,K_68h_e,K_40h_g,K_70h_g,K_69h_g,K_68h_g,hF,viewV_f hg]
    refine PureP.of_own (h.ans.mono ?_)
    rintro r H' ⟨rfl,rfl⟩
    simp only [reachedR,reachedV,hg]
    exact Rd1.tup ⟨Rd1.nilI,Rd1.d,trivial⟩
  | true =>
    obtain ⟨hv1,hn1,hp1⟩:=good_flow hg
    have hp2:0 < (nextL F.blocks_).length:=by simpa [nextL] using hp1
    refine pure_of Try.func30 en_30 rfl rfl (W_run mixed ⟨[K_40,K_70,K_69,K_68],[K_40h,K_70h,K_69h,K_68h],[],13,0,[0,1,2,3,4,8],[8]⟩ (fun _=>[]) (by kernel_rfl) ?_)
    simp only [Try.f30,stripX,stripOps,pickOps]
    simp [K_40_f,K_40_e,K_70_f,K_70_e,K_69_f,K_69_e,K_68_f,K_68_e,K_40h_f,K_40h_e,K_70h_f,K_70h_e,K_69h_f,K_69h_e,K_68h_f,K_68h_e,K_40h_g,K_70h_g,K_69h_g,K_68h_g,hF,viewV_t hg,viewD_blocks,hv1,hn1,hp2]
    have hl:(rchB (nextL F.blocks_) 0 (-1)).length=F.blocks_.length:=by simp [rchB,nextL]
    have:=hv1.1
    refine ⟨by omega, ?_⟩
    have e:allR F=listB (rchB (nextL F.blocks_) 0 (-1)):=rfl
    simp [reachedR,reachedV,hg,e]
noncomputable def K_30:Ent Try.prog:=Ent.p1 (α:=Func) 30 (fun F=>Enc.good F) (fun F=>reachedR F) (fun F hc=>reachedI_c F hc)
theorem K_30_f:K_30.f=30:=rfl
theorem K_30_e (F0:Int) (F1:List Block):K_30.e [.agg [.d (.int .i64 F0),.d (dBlockS F1)]]=some (Enc.good (Func.mk F0 F1),reachedR (Func.mk F0 F1),[]):=by unfold K_30;exact Ent.p1_eq (α:=Func) (Func.mk F0 F1)
noncomputable def K_30h:EntH Try.prog:=EntH.pk1 (α:=Func) 30 (fun F=>Enc.good F) (fun F=>reachedR F) (fun F=>[]) (fun F hc=>PureP.ans (reachedI_c F hc))
theorem K_30h_f:K_30h.f=30:=rfl
theorem K_30h_g:K_30h.gro=true:=rfl
theorem K_30h_e {x1:V} {H:Heap}:K_30h.e [x1] H=guardR ((decA (α:=Func) H x1).1) (peekR (Enc.good (decA (α:=Func) H x1).2) (reachedR (decA (α:=Func) H x1).2) ([]) H):=rfl
end Go.Proofs.Ytnomiclfiijniaa
end
