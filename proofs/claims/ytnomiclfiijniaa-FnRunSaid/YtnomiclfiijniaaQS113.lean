/- How a run ends: outcomes, and contracts of what compares them. No condition. -/
import Derived.Test.YtnomiclfiijniaaQS46
import Derived.Test.YtnomiclfiijniaaQS103
import Derived.Test.YtnomiclfiijniaaQS101
import Derived.Test.YtnomiclfiijniaaQS59
section
namespace Go.Proofs.Ytnomiclfiijniaa
set_option maxRecDepth 100000
set_option linter.unusedSimpArgs false
set_option linter.unusedVariables false
theorem PureP.of_ownQ {P:Program} {f:FuncId} {vs:List V} {Q0:V→Prop} (h:CallsD P f vs [] fun r H'=>∃ r0,Q0 r0∧Rd1 H' r r0):PureP P f vs Q0:=by
  refine ⟨h.1,fun X w φ args hX hs hv=>(h.2 X w φ args hX hs hv).mono ?_⟩
  rintro e w' ⟨v,r,φ',H',rfl,⟨r0,q0,hq⟩,hs',hv',hfr,hext,hlen,hnew⟩
  have hφ:φ=[]:=List.length_eq_zero_iff.1 hs.len
  subst hφ
  have ho:owned X [] []=X:=owned_nil X
  refine ⟨v,r0,[],[],rfl,⟨rfl,q0⟩,HS.nil _ _,by rw [ho];exact hq X w' φ' v hs' hv',hfr,fun id hid=>absurd hid (by simp),Nat.le_refl _, ?_⟩
  rintro g hg ⟨id,e,es,o,h1,_⟩
  simp at h1
theorem goodI_c (F:Func) (hF:Enc.good F):PureP Try.prog 22 [vFunc F] (· = .d (.bool (goodF F))):=by
  cases hg:goodF F with
  | false => refine pure_of Try.func22 en_22 rfl rfl (W_run mixed ⟨[K_40], [K_40h], [], 6, 0, [0, 1, 2], []⟩ (fun _ => []) (by kernel_rfl) ?_)
             simp only [Try.f22,stripX,stripOps,pickOps]
             simp [K_40_f,K_40_e,K_40h_f,K_40h_e,K_40h_g,hF,viewV_f hg]
  | true => refine pure_of Try.func22 en_22 rfl rfl (W_run mixed ⟨[K_40], [K_40h], [], 6, 0, [0, 1, 2], []⟩ (fun _ => []) (by kernel_rfl) ?_)
            simp only [Try.f22,stripX,stripOps,pickOps]
            simp [K_40_f,K_40_e,K_40h_f,K_40h_e,K_40h_g,hF,viewV_t hg]
noncomputable def K_22:Ent Try.prog:=Ent.p1 (α:=Func) 22 (fun F=>Enc.good F) (fun F=>.d (.bool (goodF F))) (fun F hc=>goodI_c F hc)
theorem K_22_f:K_22.f=22:=rfl
theorem K_22_e (F0:Int) (F1:List Block):K_22.e [.agg [.d (.int .i64 F0),.d (dBlockS F1)]]=some (Enc.good (Func.mk F0 F1),.d (.bool (goodF (Func.mk F0 F1))),[]):=by unfold K_22;exact Ent.p1_eq (α:=Func) (Func.mk F0 F1)
noncomputable def K_22h:EntH Try.prog:=EntH.pk1 (α:=Func) 22 (fun F=>Enc.good F) (fun F=>.d (.bool (goodF F))) (fun F=>[]) (fun F hc=>PureP.ans (goodI_c F hc))
theorem K_22h_f:K_22h.f=22:=rfl
theorem K_22h_g:K_22h.gro=true:=rfl
theorem K_22h_e {x1:V} {H:Heap}:K_22h.e [x1] H=guardR ((decA (α:=Func) H x1).1) (peekR (Enc.good (decA (α:=Func) H x1).2) (.d (.bool (goodF (decA (α:=Func) H x1).2))) ([]) H):=rfl
@[reducible] instance decByt:Dec Byt where
  dec _ l:=match l with | [.d (.int .u8 n)]=>(True,⟨n⟩) | _=>(False,default)
  ok H l h X w φ xs hs hv:=by
    split at h
    · obtain ⟨v,vs',rfl,h2,h3⟩:=hv
      have:vs'=[]:=h3
      subst this
      refine ⟨rfl,fun j u hu=>?_⟩
      match j,hu with
      | 0,hu=>simp at hu;subst hu;exact h2
    · exact h.elim
def bigB (a b:List Byt):Bool:=decide (1048576 < (a.length:Int)) || decide (IntKind.i64.wrap (1048576 - (a.length:Int)) < (b.length:Int))
theorem big_c (a b:List Byt):PureP Try.prog 6 [.d (dBytS a),.d (dBytS b)] (· = .d (.bool (bigB a b))):=by
  refine pure_of Try.func6 en_6 rfl rfl (W_run mixed ⟨[],[],[],16,0,[0,1,4],[8]⟩ (fun _=>[]) (by kernel_rfl) ?_)
  simp only [Try.f6,stripX,stripOps,pickOps]
  simp []
  unfold bigB
  exact ⟨fun h=>by simp [h],fun h=>by simp [show ¬ (1048576:Int) < a.length by omega]⟩
noncomputable def K_6:Ent Try.prog:=Ent.p2 (α:=List Byt) (β:=List Byt) 6 (fun a b=>True) (fun a b=>.d (.bool (bigB a b))) (fun a b hc=>big_c a b)
theorem K_6_f:K_6.f=6:=rfl
theorem K_6_e (a:List Byt) (b:List Byt):K_6.e [.d (dBytS a),.d (dBytS b)]=some (True,.d (.bool (bigB a b)),[]):=by unfold K_6;exact Ent.p2_eq (α:=List Byt) (β:=List Byt) a b
noncomputable def K_6h:EntH Try.prog:=EntH.pk2 (α:=List Byt) (β:=List Byt) 6 (fun a b=>True) (fun a b=>.d (.bool (bigB a b))) (fun a b=>[]) (fun a b hc=>PureP.ans (big_c a b))
theorem K_6h_f:K_6h.f=6:=rfl
theorem K_6h_g:K_6h.gro=true:=rfl
theorem K_6h_e {x1 x2:V} {H:Heap}:K_6h.e [x1,x2] H=guardR ((decA (α:=List Byt) H x1).1∧(decA (α:=List Byt) H x2).1) (peekR (True) (.d (.bool (bigB (decA (α:=List Byt) H x1).2 (decA (α:=List Byt) H x2).2))) ([]) H):=rfl
end Go.Proofs.Ytnomiclfiijniaa
end

section
namespace Go.Proofs.Ytnomiclfiijniaa
set_option maxRecDepth 100000
set_option linter.unusedSimpArgs false
set_option linter.unusedVariables false
theorem sameLongs_c (a b:List Int) (ha:a.length≤1000):PureP Try.prog 57 [.d (dIntS a),.d (dIntS b)] (· = .d (.bool (decide (a=b)))):=by
  refine pure_of Try.func57 en_57 rfl rfl (W_run mixed ⟨[],[],[],26,0,[0,1,4,5,10,12,13,14,24],[10,14,24]⟩ (fun | 6=>[0,1,2,4,5,6,3,7,8] | _=>[]) (by kernel_rfl) ?_)
  simp only [Try.f57,stripX,stripOps,pickOps]
  simp []
  refine ⟨fun h=>?_,fun h=>?_⟩
  · intro e;exact h (by rw [e])
  refine W_loopA (fun i:Nat=>[(0,.d (dIntS a)),(1,.d (dIntS b)),(12,.d (.int .i64 a.length)),(13,.d (.int .i64 i))]) (fun _=>[]) (fun i=>i≤a.length∧(a.drop i=b.drop i ↔ a=b)) (fun i=>a.length - i) 0 ?_ ?_ ?_
  · simp
  · simp
  rintro i ⟨hi,hm⟩
  refine W_run mixed ⟨[],[],[],26,0,[0,1,4,5,10,12,13,14,24],[10,14,24]⟩ (fun | 6=>[0,1,2,4,5,6,3,7,8] | _=>[]) (by kernel_rfl) ?_
  simp only [stripX,stripOps,pickOps]
  simp []
  refine ⟨fun h3=>?_,fun h3=>?_⟩
  · rw [drop_cons h3,drop_cons (show i < b.length by omega)] at hm
    refine ⟨h3,by omega,fun q e=>q (by rw [e]),fun q=>⟨i + 1,⟨by omega, ?_⟩,by omega,by rw [wrap_id] <;> omega⟩⟩
    rw [← hm]
    constructor
    · intro e
      rw [e]
      exact congrArg (· :: _) q
    · intro e
      exact (List.cons.inj e).2
  · rw [List.drop_eq_nil_of_le h3,List.drop_eq_nil_of_le (show b.length≤i by omega)] at hm
    exact hm.1 rfl
noncomputable def K_57:Ent Try.prog:=Ent.p2 (α:=List Int) (β:=List Int) 57 (fun a b=>a.length≤1000) (fun a b=>.d (.bool (decide (a=b)))) (fun a b hc=>sameLongs_c a b hc)
theorem K_57_f:K_57.f=57:=rfl
theorem K_57_e (a:List Int) (b:List Int):K_57.e [.d (dIntS a),.d (dIntS b)]=some (a.length≤1000,.d (.bool (decide (a=b))),[]):=by unfold K_57;exact Ent.p2_eq (α:=List Int) (β:=List Int) a b
noncomputable def K_57h:EntH Try.prog:=EntH.pk2 (α:=List Int) (β:=List Int) 57 (fun a b=>a.length≤1000) (fun a b=>.d (.bool (decide (a=b)))) (fun a b=>[]) (fun a b hc=>PureP.ans (sameLongs_c a b hc))
theorem K_57h_f:K_57h.f=57:=rfl
theorem K_57h_g:K_57h.gro=true:=rfl
theorem K_57h_e {x1 x2:V} {H:Heap}:K_57h.e [x1,x2] H=guardR ((decA (α:=List Int) H x1).1∧(decA (α:=List Int) H x2).1) (peekR ((decA (α:=List Int) H x1).2.length≤1000) (.d (.bool (decide ((decA (α:=List Int) H x1).2=(decA (α:=List Int) H x2).2)))) ([]) H):=rfl
theorem equal64_c (a b:List Int) (ha:a.length≤1000):PureP Try.prog 62 [.d (dIntS a),.d (dIntS b)] (· = .d (.bool (decide (a=b)))):=by
  refine pure_of Try.func62 en_62 rfl rfl (W_run mixed ⟨[],[],[],26,0,[0,1,4,5,10,12,13,14,24],[10,14,24]⟩ (fun | 6=>[0,1,2,4,5,6,3,7,8] | _=>[]) (by kernel_rfl) ?_)
  simp only [Try.f62,stripX,stripOps,pickOps]
  simp []
  refine ⟨fun h=>?_,fun h=>?_⟩
  · intro e;exact h (by rw [e])
  refine W_loopA (fun i:Nat=>[(0,.d (dIntS a)),(1,.d (dIntS b)),(12,.d (.int .i64 a.length)),(13,.d (.int .i64 i))]) (fun _=>[]) (fun i=>i≤a.length∧(a.drop i=b.drop i ↔ a=b)) (fun i=>a.length - i) 0 ?_ ?_ ?_
  · simp
  · simp
  rintro i ⟨hi,hm⟩
  refine W_run mixed ⟨[],[],[],26,0,[0,1,4,5,10,12,13,14,24],[10,14,24]⟩ (fun | 6=>[0,1,2,4,5,6,3,7,8] | _=>[]) (by kernel_rfl) ?_
  simp only [stripX,stripOps,pickOps]
  simp []
  refine ⟨fun h3=>?_,fun h3=>?_⟩
  · rw [drop_cons h3,drop_cons (show i < b.length by omega)] at hm
    refine ⟨h3,by omega,fun q e=>q (by rw [e]),fun q=>⟨i + 1,⟨by omega, ?_⟩,by omega,by rw [wrap_id] <;> omega⟩⟩
    rw [← hm]
    constructor
    · intro e
      rw [e]
      exact congrArg (· :: _) q
    · intro e
      exact (List.cons.inj e).2
  · rw [List.drop_eq_nil_of_le h3,List.drop_eq_nil_of_le (show b.length≤i by omega)] at hm
    exact hm.1 rfl
noncomputable def K_62:Ent Try.prog:=Ent.p2 (α:=List Int) (β:=List Int) 62 (fun a b=>a.length≤1000) (fun a b=>.d (.bool (decide (a=b)))) (fun a b hc=>equal64_c a b hc)
theorem K_62_f:K_62.f=62:=rfl
theorem K_62_e (a:List Int) (b:List Int):K_62.e [.d (dIntS a),.d (dIntS b)]=some (a.length≤1000,.d (.bool (decide (a=b))),[]):=by unfold K_62;exact Ent.p2_eq (α:=List Int) (β:=List Int) a b
noncomputable def K_62h:EntH Try.prog:=EntH.pk2 (α:=List Int) (β:=List Int) 62 (fun a b=>a.length≤1000) (fun a b=>.d (.bool (decide (a=b)))) (fun a b=>[]) (fun a b hc=>PureP.ans (equal64_c a b hc))
theorem K_62h_f:K_62h.f=62:=rfl
theorem K_62h_g:K_62h.gro=true:=rfl
theorem K_62h_e {x1 x2:V} {H:Heap}:K_62h.e [x1,x2] H=guardR ((decA (α:=List Int) H x1).1∧(decA (α:=List Int) H x2).1) (peekR ((decA (α:=List Int) H x1).2.length≤1000) (.d (.bool (decide ((decA (α:=List Int) H x1).2=(decA (α:=List Int) H x2).2)))) ([]) H):=rfl
def okOut (a:Outcome):Bool:=inR a.code_ 1 3 && decide ((a.mem_.length:Int)=8)
theorem outI_c (a:Outcome):PureP Try.prog 61 [vOutcome a] (· = .d (.bool (okOut a))):=by
  refine pure_of Try.func61 en_61 rfl rfl (W_run mixed ⟨[K_47],[K_47h],[],12,0,[0,1,2],[6]⟩ (fun _=>[]) (by kernel_rfl) ?_)
  simp only [Try.f61,stripX,stripOps,pickOps]
  simp [K_47_f,K_47_e,K_47h_f,K_47h_e,K_47h_g]
  exact ⟨fun h=>by simp [okOut,h],fun h=>by simp [okOut,h]⟩
noncomputable def K_61:Ent Try.prog:=Ent.p1 (α:=Outcome) 61 (fun a=>True) (fun a=>.d (.bool (okOut a))) (fun a hc=>outI_c a)
theorem K_61_f:K_61.f=61:=rfl
theorem K_61_e (a0:Int) (a1:Int) (a2:List Int) (a3:Int):K_61.e [.agg [.d (.int .i64 a0),.d (.int .i64 a1),.d (dIntS a2),.d (.int .i64 a3)]]=some (True,.d (.bool (okOut (Outcome.mk a0 a1 a2 a3))),[]):=by unfold K_61;exact Ent.p1_eq (α:=Outcome) (Outcome.mk a0 a1 a2 a3)
noncomputable def K_61h:EntH Try.prog:=EntH.pk1 (α:=Outcome) 61 (fun a=>True) (fun a=>.d (.bool (okOut a))) (fun a=>[]) (fun a hc=>PureP.ans (outI_c a))
theorem K_61h_f:K_61h.f=61:=rfl
theorem K_61h_g:K_61h.gro=true:=rfl
theorem K_61h_e {x1:V} {H:Heap}:K_61h.e [x1] H=guardR ((decA (α:=Outcome) H x1).1) (peekR (True) (.d (.bool (okOut (decA (α:=Outcome) H x1).2))) ([]) H):=rfl
theorem outS_c (a:Outcome):PureP Try.prog 64 [vOutcome a] (· = .d (.bool (okOut a))):=by
  refine pure_of Try.func64 en_64 rfl rfl (W_run mixed ⟨[K_44],[K_44h],[],12,0,[0,1,2],[6]⟩ (fun _=>[]) (by kernel_rfl) ?_)
  simp only [Try.f64,stripX,stripOps,pickOps]
  simp [K_44_f,K_44_e,K_44h_f,K_44h_e,K_44h_g]
  exact ⟨fun h=>by simp [okOut,h],fun h=>by simp [okOut,h]⟩
noncomputable def K_64:Ent Try.prog:=Ent.p1 (α:=Outcome) 64 (fun a=>True) (fun a=>.d (.bool (okOut a))) (fun a hc=>outS_c a)
theorem K_64_f:K_64.f=64:=rfl
theorem K_64_e (a0:Int) (a1:Int) (a2:List Int) (a3:Int):K_64.e [.agg [.d (.int .i64 a0),.d (.int .i64 a1),.d (dIntS a2),.d (.int .i64 a3)]]=some (True,.d (.bool (okOut (Outcome.mk a0 a1 a2 a3))),[]):=by unfold K_64;exact Ent.p1_eq (α:=Outcome) (Outcome.mk a0 a1 a2 a3)
noncomputable def K_64h:EntH Try.prog:=EntH.pk1 (α:=Outcome) 64 (fun a=>True) (fun a=>.d (.bool (okOut a))) (fun a=>[]) (fun a hc=>PureP.ans (outS_c a))
theorem K_64h_f:K_64h.f=64:=rfl
theorem K_64h_g:K_64h.gro=true:=rfl
theorem K_64h_e {x1:V} {H:Heap}:K_64h.e [x1] H=guardR ((decA (α:=Outcome) H x1).1) (peekR (True) (.d (.bool (okOut (decA (α:=Outcome) H x1).2))) ([]) H):=rfl
def sameO (a b:Outcome):Bool:=decide (a.code_=b.code_) && (decide (a.value_=b.value_) && decide (a.mem_=b.mem_))
theorem sameOut_c (a b:Outcome) (h:a.mem_.length≤1000):PureP Try.prog 21 [vOutcome a,vOutcome b] (· = .d (.bool (sameO a b))):=by
  refine pure_of Try.func21 en_21 rfl rfl (W_run mixed ⟨[K_57],[K_57h],[],24,0,[0,1,2,3,4],[10,17]⟩ (fun _=>[]) (by kernel_rfl) ?_)
  simp only [Try.f21,stripX,stripOps,pickOps]
  simp [K_57_f,K_57_e,K_57h_f,K_57h_e,K_57h_g,h]
  exact ⟨fun q=>⟨fun q2=>by simp [sameO,q,q2],fun q2=>by simp [sameO,q2]⟩,fun q=>by simp [sameO,q]⟩
noncomputable def K_21:Ent Try.prog:=Ent.p2 (α:=Outcome) (β:=Outcome) 21 (fun a b=>a.mem_.length≤1000) (fun a b=>.d (.bool (sameO a b))) (fun a b hc=>sameOut_c a b hc)
theorem K_21_f:K_21.f=21:=rfl
theorem K_21_e (a0:Int) (a1:Int) (a2:List Int) (a3:Int) (b0:Int) (b1:Int) (b2:List Int) (b3:Int):K_21.e [.agg [.d (.int .i64 a0),.d (.int .i64 a1),.d (dIntS a2),.d (.int .i64 a3)],.agg [.d (.int .i64 b0),.d (.int .i64 b1),.d (dIntS b2),.d (.int .i64 b3)]]=some ((Outcome.mk a0 a1 a2 a3).mem_.length≤1000,.d (.bool (sameO (Outcome.mk a0 a1 a2 a3) (Outcome.mk b0 b1 b2 b3))),[]):=by unfold K_21;exact Ent.p2_eq (α:=Outcome) (β:=Outcome) (Outcome.mk a0 a1 a2 a3) (Outcome.mk b0 b1 b2 b3)
noncomputable def K_21h:EntH Try.prog:=EntH.pk2 (α:=Outcome) (β:=Outcome) 21 (fun a b=>a.mem_.length≤1000) (fun a b=>.d (.bool (sameO a b))) (fun a b=>[]) (fun a b hc=>PureP.ans (sameOut_c a b hc))
theorem K_21h_f:K_21h.f=21:=rfl
theorem K_21h_g:K_21h.gro=true:=rfl
theorem K_21h_e {x1 x2:V} {H:Heap}:K_21h.e [x1,x2] H=guardR ((decA (α:=Outcome) H x1).1∧(decA (α:=Outcome) H x2).1) (peekR ((decA (α:=Outcome) H x1).2.mem_.length≤1000) (.d (.bool (sameO (decA (α:=Outcome) H x1).2 (decA (α:=Outcome) H x2).2))) ([]) H):=rfl
def sameOR (a b:Outcome):V:=.tup [.d (.bool (okOut a && (okOut b && sameO a b))),.d (.bool (okOut a && okOut b))]
theorem sameI_c (a b:Outcome):PureP Try.prog 24 [vOutcome a,vOutcome b] (· = sameOR a b):=by
  cases ha:okOut a with
  | false =>
    refine pure_of Try.func24 en_24 rfl rfl (W_run mixed ⟨[K_61,K_62],[K_61h,K_62h],[],33,0,[0,1,2,3,4,5,13],[9,13,19,26]⟩ (fun _=>[]) (by kernel_rfl) ?_)
    simp only [Try.f24,stripX,stripOps,pickOps]
    simp [K_61_f,K_61_e,K_62_f,K_62_e,K_61h_f,K_61h_e,K_62h_f,K_62h_e,K_61h_g,K_62h_g,ha]
    simp [sameOR,ha]
  | true =>
    cases hb:okOut b with
    | false =>
      refine pure_of Try.func24 en_24 rfl rfl (W_run mixed ⟨[K_61,K_62],[K_61h,K_62h],[],33,0,[0,1,2,3,4,5,13],[9,13,19,26]⟩ (fun _=>[]) (by kernel_rfl) ?_)
      simp only [Try.f24,stripX,stripOps,pickOps]
      simp [K_61_f,K_61_e,K_62_f,K_62_e,K_61h_f,K_61h_e,K_62h_f,K_62h_e,K_61h_g,K_62h_g,ha,hb]
      simp [sameOR,ha,hb]
    | true =>
      have hl:a.mem_.length≤1000:=by simp only [okOut,Bool.and_eq_true,decide_eq_true_eq] at ha;omega
      refine pure_of Try.func24 en_24 rfl rfl (W_run mixed ⟨[K_61,K_62],[K_61h,K_62h],[],33,0,[0,1,2,3,4,5,13],[9,13,19,26]⟩ (fun _=>[]) (by kernel_rfl) ?_)
      simp only [Try.f24,stripX,stripOps,pickOps]
      simp [K_61_f,K_61_e,K_62_f,K_62_e,K_61h_f,K_61h_e,K_62h_f,K_62h_e,K_61h_g,K_62h_g,ha,hb,hl]
      exact ⟨fun q=>⟨fun q2=>by simp [sameOR,ha,hb,sameO,q,q2],fun q2=>by simp [sameOR,ha,hb,sameO,q2]⟩,fun q=>by simp [sameOR,ha,hb,sameO,q]⟩
noncomputable def K_24:Ent Try.prog:=Ent.p2 (α:=Outcome) (β:=Outcome) 24 (fun a b=>True) (fun a b=>sameOR a b) (fun a b hc=>sameI_c a b)
theorem K_24_f:K_24.f=24:=rfl
theorem K_24_e (a0:Int) (a1:Int) (a2:List Int) (a3:Int) (b0:Int) (b1:Int) (b2:List Int) (b3:Int):K_24.e [.agg [.d (.int .i64 a0),.d (.int .i64 a1),.d (dIntS a2),.d (.int .i64 a3)],.agg [.d (.int .i64 b0),.d (.int .i64 b1),.d (dIntS b2),.d (.int .i64 b3)]]=some (True,sameOR (Outcome.mk a0 a1 a2 a3) (Outcome.mk b0 b1 b2 b3),[]):=by unfold K_24;exact Ent.p2_eq (α:=Outcome) (β:=Outcome) (Outcome.mk a0 a1 a2 a3) (Outcome.mk b0 b1 b2 b3)
noncomputable def K_24h:EntH Try.prog:=EntH.pk2 (α:=Outcome) (β:=Outcome) 24 (fun a b=>True) (fun a b=>sameOR a b) (fun a b=>[]) (fun a b hc=>PureP.ans (sameI_c a b))
theorem K_24h_f:K_24h.f=24:=rfl
theorem K_24h_g:K_24h.gro=true:=rfl
theorem K_24h_e {x1 x2:V} {H:Heap}:K_24h.e [x1,x2] H=guardR ((decA (α:=Outcome) H x1).1∧(decA (α:=Outcome) H x2).1) (peekR (True) (sameOR (decA (α:=Outcome) H x1).2 (decA (α:=Outcome) H x2).2) ([]) H):=rfl
theorem sameS_c (a b : Outcome) : PureP Try.prog 26 [vOutcome a, vOutcome b] (· = sameOR a b) := by
  cases ha:okOut a with
  | false =>
    refine pure_of Try.func26 en_26 rfl rfl (W_run mixed ⟨[K_64],[K_64h],[],45,0,[0,1,2,3,4,5,6,14,17,18,19,31],[10,14,19,31,38]⟩ (fun | 6=>[0,2,5,7,1,3,4,6,8,9,10] | _=>[]) (by kernel_rfl) ?_)
    simp only [Try.f26,stripX,stripOps,pickOps]
    simp [K_64_f,K_64_e,K_64h_f,K_64h_e,K_64h_g,ha]
    simp [sameOR,ha]
  | true =>
    cases hb:okOut b with
    | false =>
      refine pure_of Try.func26 en_26 rfl rfl (W_run mixed ⟨[K_64],[K_64h],[],45,0,[0,1,2,3,4,5,6,14,17,18,19,31],[10,14,19,31,38]⟩ (fun | 6=>[0,2,5,7,1,3,4,6,8,9,10] | _=>[]) (by kernel_rfl) ?_)
      simp only [Try.f26,stripX,stripOps,pickOps]
      simp [K_64_f,K_64_e,K_64h_f,K_64h_e,K_64h_g,ha,hb]
      simp [sameOR,ha,hb]
    | true =>
      have hl:a.mem_.length=8:=by simp only [okOut,Bool.and_eq_true,decide_eq_true_eq] at ha;omega
      have hl2:b.mem_.length=8:=by simp only [okOut,Bool.and_eq_true,decide_eq_true_eq] at hb;omega
      refine pure_of Try.func26 en_26 rfl rfl (W_run mixed ⟨[K_64],[K_64h],[],45,0,[0,1,2,3,4,5,6,14,17,18,19,31],[10,14,19,31,38]⟩ (fun | 6=>[0,2,5,7,1,3,4,6,8,9,10] | _=>[]) (by kernel_rfl) ?_)
      simp only [Try.f26,stripX,stripOps,pickOps]
      simp [K_64_f,K_64_e,K_64h_f,K_64h_e,K_64h_g,ha,hb]
      refine W_loopA (fun i:Nat=>[(2,.ptr 0 4 0 0),(3,.ptr 1 4 0 0),(17,.d (.int .i64 a.mem_.length)),(18,.d (.int .i64 i))]) (fun _=>[.row 4 [[.d (.int .i64 a.code_),.d (.int .i64 a.value_),.d (dIntS a.mem_),.d (.int .i64 a.fuel_)]],.row 4 [[.d (.int .i64 b.code_),.d (.int .i64 b.value_),.d (dIntS b.mem_),.d (.int .i64 b.fuel_)]]]) (fun i=>i≤a.mem_.length∧(a.mem_.drop i=b.mem_.drop i ↔ a.mem_=b.mem_)) (fun i=>a.mem_.length - i) 0 ?_ ?_ ?_
      · simp
      · simp
      rintro i ⟨hi,hm⟩
      refine W_run mixed ⟨[K_64],[K_64h],[],45,0,[0,1,2,3,4,5,6,14,17,18,19,31],[10,14,19,31,38]⟩ (fun | 6=>[0,2,5,7,1,3,4,6,8,9,10] | _=>[]) (by kernel_rfl) ?_
      simp only [stripX,stripOps,pickOps]
      simp [K_64_f,K_64_e,K_64h_f,K_64h_e,K_64h_g]
      refine ⟨fun h3=>?_,fun h3=>?_⟩
      · rw [drop_cons h3,drop_cons (show i < b.mem_.length by omega)] at hm
        refine ⟨h3,by omega,fun q=>?_,fun q=>⟨i + 1,⟨by omega, ?_⟩,by omega,by rw [wrap_id] <;> omega⟩⟩
        · have:a.mem_ ≠ b.mem_:=fun e=>q (by rw [e])
          simp [sameOR,ha,hb,sameO,this]
        · rw [← hm]
          constructor
          · intro e
            rw [e]
            exact congrArg (· :: _) q
          · intro e
            exact (List.cons.inj e).2
      · rw [List.drop_eq_nil_of_le h3,List.drop_eq_nil_of_le (show b.mem_.length≤i by omega)] at hm
        have e:=hm.1 rfl
        exact ⟨fun q=>by simp [sameOR,ha,hb,sameO,q,e],fun q=>by simp [sameOR,sameO,ha,hb,q]⟩
noncomputable def K_26:Ent Try.prog:=Ent.p2 (α:=Outcome) (β:=Outcome) 26 (fun a b=>True) (fun a b=>sameOR a b) (fun a b hc=>sameS_c a b)
theorem K_26_f:K_26.f=26:=rfl
theorem K_26_e (a0:Int) (a1:Int) (a2:List Int) (a3:Int) (b0:Int) (b1:Int) (b2:List Int) (b3:Int):K_26.e [.agg [.d (.int .i64 a0),.d (.int .i64 a1),.d (dIntS a2),.d (.int .i64 a3)],.agg [.d (.int .i64 b0),.d (.int .i64 b1),.d (dIntS b2),.d (.int .i64 b3)]]=some (True,sameOR (Outcome.mk a0 a1 a2 a3) (Outcome.mk b0 b1 b2 b3),[]):=by unfold K_26;exact Ent.p2_eq (α:=Outcome) (β:=Outcome) (Outcome.mk a0 a1 a2 a3) (Outcome.mk b0 b1 b2 b3)
noncomputable def K_26h:EntH Try.prog:=EntH.pk2 (α:=Outcome) (β:=Outcome) 26 (fun a b=>True) (fun a b=>sameOR a b) (fun a b=>[]) (fun a b hc=>PureP.ans (sameS_c a b))
theorem K_26h_f:K_26h.f=26:=rfl
theorem K_26h_g:K_26h.gro=true:=rfl
theorem K_26h_e {x1 x2:V} {H:Heap}:K_26h.e [x1,x2] H=guardR ((decA (α:=Outcome) H x1).1∧(decA (α:=Outcome) H x2).1) (peekR (True) (sameOR (decA (α:=Outcome) H x1).2 (decA (α:=Outcome) H x2).2) ([]) H):=rfl
def takeV (vs l:List Int):List Int:=l.map (mapL vs)
def doV (x:Inst) (vs ms:List Int):Int × Bool × List Int :=
  if x.op_=1 then (x.n_,false,ms)
  else if x.op_=12∨x.op_=13 then
    (if mapL (takeV vs x.args_) 0 < 0∨8≤mapL (takeV vs x.args_) 0 then (0,true,ms)
     else if x.op_=13 then (mapL (ms.set (mapL (takeV vs x.args_) 0).toNat (mapL (takeV vs x.args_) 1)) (mapL (takeV vs x.args_) 0),false,ms.set (mapL (takeV vs x.args_) 0).toNat (mapL (takeV vs x.args_) 1))
     else (mapL ms (mapL (takeV vs x.args_) 0),false,ms))
  else (opNr x.op_ (takeV vs x.args_),opTr x.op_ (takeV vs x.args_),ms)
theorem doV_len (x:Inst) (vs ms:List Int):(doV x vs ms).2.2.length=ms.length:=by
  unfold doV
  split
  · rfl
  split
  · split
    · rfl
    split
    · simp
    · rfl
  · rfl
def instsV:List Inst→Nat→List Int→List Int→Bool × List Int × List Int
  | [],_,vs,ms=>(false,vs,ms)
  | x :: l,k,vs,ms=>if (doV x vs ms).2.1=true then (true,vs,(doV x vs ms).2.2) else instsV l (k + 1) (vs.set k (doV x vs ms).1) (doV x vs ms).2.2
theorem instsV_len:∀ (l:List Inst) (k:Nat) (vs ms:List Int),(instsV l k vs ms).2.1.length=vs.length∧(instsV l k vs ms).2.2.length=ms.length
  | [],k,vs,ms=>⟨rfl,rfl⟩
  | x :: l, k, vs, ms => by
    unfold instsV
    split
    · exact ⟨rfl,doV_len x vs ms⟩
    · have:=instsV_len l (k + 1) (vs.set k (doV x vs ms).1) (doV x vs ms).2.2
      rw [List.length_set,doV_len] at this
      exact this
def putV (vs:List Int) (k:Nat) (l:List Int):List Int:=vs.take k++(l.take (vs.length - k)++vs.drop (k + min l.length (vs.length - k)))
theorem putV_len {vs:List Int} {k:Nat} {l:List Int} (h:k≤vs.length):(putV vs k l).length=vs.length:=by
  unfold putV
  simp only [List.length_append,List.length_take,List.length_drop]
  omega
def firstN (F:Func) (k:Nat):Nat:=(cntB (F.blocks_.take k) F.params_).toNat
def blkN (F:Func) (k:Nat):Block:=F.blocks_[k]?.getD default
def jmpN (b:Block) (vs:List Int):Jump:=if b.end_=3∧mapL vs b.value_=0 then b.jumps_[1]?.getD default else b.jumps_[0]?.getD default
def instsF (F:Func) (k:Nat) (vs ms:List Int):Bool × List Int × List Int:=instsV (blkN F k).insts_ (firstN F k + (blkN F k).params_.toNat) vs ms
def runV (F:Func):Nat→Nat→List Int→List Int→Outcome
  | 0,_,_,ms=>⟨3,0,ms,0⟩
  | n + 1,k,vs,ms =>
    if (instsF F k vs ms).1=true then ⟨2,0,(instsF F k vs ms).2.2,n⟩
    else if (blkN F k).end_=1 then ⟨1,mapL (instsF F k vs ms).2.1 (blkN F k).value_,(instsF F k vs ms).2.2,n⟩
    else runV F n (jmpN (blkN F k) (instsF F k vs ms).2.1).to_.toNat (putV (instsF F k vs ms).2.1 (firstN F (jmpN (blkN F k) (instsF F k vs ms).2.1).to_.toNat) (takeV (instsF F k vs ms).2.1 (jmpN (blkN F k) (instsF F k vs ms).2.1).args_)) (instsF F k vs ms).2.2
theorem runV_code (F:Func):∀ (n k:Nat) (vs ms:List Int),inR (runV F n k vs ms).code_ 1 3=true∧(runV F n k vs ms).mem_.length=ms.length∧0≤(runV F n k vs ms).fuel_∧(runV F n k vs ms).fuel_≤n
  | 0,k,vs,ms=>⟨show inR 3 1 3=true by decide,rfl,Int.le_refl _,Int.le_refl _⟩
  | n + 1, k, vs, ms => by
    have hi:=instsV_len (blkN F k).insts_ (firstN F k + (blkN F k).params_.toNat) vs ms
    unfold runV
    split
    · exact ⟨show inR 2 1 3=true by decide,hi.2,by show (0:Int)≤(n:Int);omega,by show (n:Int)≤((n + 1:Nat):Int);omega⟩
    split
    · exact ⟨show inR 1 1 3=true by decide,hi.2,by show (0:Int)≤(n:Int);omega,by show (n:Int)≤((n + 1:Nat):Int);omega⟩
    · have:=runV_code F n (jmpN (blkN F k) (instsF F k vs ms).2.1).to_.toNat (putV (instsF F k vs ms).2.1 (firstN F (jmpN (blkN F k) (instsF F k vs ms).2.1).to_.toNat) (takeV (instsF F k vs ms).2.1 (jmpN (blkN F k) (instsF F k vs ms).2.1).args_)) (instsF F k vs ms).2.2
      exact ⟨this.1,this.2.1.trans hi.2,this.2.2.1,by have:=this.2.2.2;omega⟩
theorem runV_more (F:Func) (d:Nat):∀ (n k:Nat) (vs ms:List Int),((runV F n k vs ms).code_=3→(runV F n k vs ms).fuel_=0) ∧
    ((runV F n k vs ms).code_ ≠ 3→runV F (n + d) k vs ms=⟨(runV F n k vs ms).code_,(runV F n k vs ms).value_,(runV F n k vs ms).mem_,(runV F n k vs ms).fuel_ + d⟩)
  | 0,k,vs,ms=>⟨fun _=>rfl,fun h=>absurd rfl h⟩
  | n + 1,k,vs,ms=>by
    have e:n + 1 + d=(n + d) + 1:=by omega
    rw [e]
    unfold runV
    split
    · exact ⟨fun h=>absurd (show (2:Int)=3 from h) (by decide),fun _=>by simp⟩
    split
    · exact ⟨fun h=>absurd (show (1:Int)=3 from h) (by decide),fun _=>by simp⟩
    · exact runV_more F d n _ _ _
end Go.Proofs.Ytnomiclfiijniaa
end
