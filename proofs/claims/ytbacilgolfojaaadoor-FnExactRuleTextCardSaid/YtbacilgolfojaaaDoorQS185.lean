/- The law FnExactRuleText. No condition. -/
import Derived.Test.YtbacilgolfojaaaDoorRows
import Derived.LaidByTextLater
import Derived.SevenTiedAt
import Derived.LaidSub
import Derived.LaidOnce
import GoSem.ClaimSeven
import Derived.Lib.LaidTab
import Derived.Stop.LaidErr
import Derived.ChangeSame
import Derived.ChangeVars
import Derived.ChangeMaps5
import Derived.JoinedOf
import Derived.JoinedAt
import Derived.RowKit
import Derived.RowKit3
import Derived.RowKitTokens
import Derived.LaidLaws
import Derived.Test.YtbacilgolfojaaaDoorQS183
section
namespace Go.Proofs.YtbacilgolfojaaaDoor
open Go
set_option maxRecDepth 100000
theorem seatTie1 : Tryd.prog.laidByTextLater [("math/bits.deBruijn32tab", Rows.laid_math_bits_deBruijn32tab), ("math/bits.deBruijn64tab", Rows.laid_math_bits_deBruijn64tab), ("internal/strconv.uint64pow10", Rows.laid_internal_strconv_uint64pow10)] [.data, .data, .data] true :=
  Program.laidByTextLater_by_one 24 8 65 (by kernel_rfl) (by kernel_rfl) (by kernel_rfl) (by kernel_rfl) (by kernel_rfl) (by kernel_rfl) (fun _ _=>by kernel_rfl)
theorem noOwnUnsafe : Tryd.pinned.checked.prog.headLifts.contains "ownunsafe" = false := by kernel_rfl
theorem tie : Tryd.prog.laidByTextLater [("math/bits.deBruijn32tab", Rows.laid_math_bits_deBruijn32tab), ("math/bits.deBruijn64tab", Rows.laid_math_bits_deBruijn64tab), ("internal/strconv.uint64pow10", Rows.laid_internal_strconv_uint64pow10)] [.data, .data, .data] true :=
  Program.laidByTextLater.sub seatTie1 ["math/bits.deBruijn32tab", "math/bits.deBruijn64tab", "internal/strconv.uint64pow10"] (by kernel_rfl) (by kernel_rfl)
theorem fnExactRuleText_row_tie:Rows.fnExactRuleTextRow.laidByTextAt .later Tryd.pinned [.data,.data,.data] true :=
  OpenClaim.laidByTextAt_later rfl rfl tie noOwnUnsafe
end Go.Proofs.YtbacilgolfojaaaDoor
end

section
namespace Go.Proofs.YtbacilgolfojaaaDoor
namespace Rows

def fnExactRuleTextCard : Claim7 := { stood := { row := fnExactRuleTextRow, standIns := [], harness := (true, "053b3b0413ad809b4747301b0ffc2ca7cddefab70989da6fede06d757640ba95"), looks := false }, kinds := [], alts := [], laidByText := true, laidKinds := [.data, .data, .data], laidTests := true, laidLooks := .later }
def FnExactRuleTextCardSaid:Prop:=Claim7.holds Tryd.pinned (.plain (OpenSpec.ofChange fnExactRuleTextSpec)) fnExactRuleTextCard

end Rows
end Go.Proofs.YtbacilgolfojaaaDoor
end

section
namespace Go.Proofs.YtbacilgolfojaaaDoor
set_option maxRecDepth 100000
set_option linter.unusedSimpArgs false
set_option linter.unusedVariables false
theorem goodP_out {l:List Node} (hg:Enc.good l) (h:goodP l=true):∃ t,treeO l=some t∧termB l=textB t∧treeV l=.d (encT t)∧t.ok∧t.nodes≤1000∧IntKind.i64.wrap ((l.length:Int) - 1)=((l.length - 1:Nat):Int)∧trL l ((l.length - 1:Nat):Int)=t∧l.length≤1000000∧Rep l 0 (l.length - 1 + 1) t:=by
  have h1:goodT l=true:=by
    have:goodT l=true∧l.length≤7:=by simpa [goodP] using h
    exact this.1
  obtain ⟨t,ht,q1,q2,q3⟩:=goodT_out h1
  obtain ⟨hr,ho,hl⟩:=treeO_rep hg ht
  have hn:=hr.span.1
  have hr':Rep l 0 (l.length - 1 + 1) t:=by rw [show l.length - 1 + 1=l.length by omega];exact hr
  exact ⟨t,ht,by unfold termB;rw [ht],by unfold treeV;rw [ht],ho,by omega,by rw [wrap_id] <;> omega,trL_eq hr',by omega,hr'⟩
theorem ruleS_c (r:Rule) (hg:Enc.good r):PureP Tryd.prog 11 [vRule r] (· = .tup [.d (.str (ruleB r)),.d (.bool (goodRu r))]):=by
  have h1:Enc.good r.left_:=hg.1
  have h2:Enc.good r.right_:=hg.2
  have hg':Enc.good (Rule.mk r.left_ r.right_):=hg
  cases hb:goodRu r with
  | false =>
    have e:ruleB r=⟨#[]⟩:=by unfold ruleB;rw [hb];rfl
    refine pure_of Tryd.func11 en_11 rfl rfl (W_run mixed ⟨[K_21,K_16],[K_21h,K_16h],[],23,0,[0,1,2,3,6],[6]⟩ (fun | 3=>[0,2,8,10,1,3,4,5,6,7,9,11,12,13,14,15,16,17] | _=>[]) (by kernel_rfl) ?_)
    simp only [Tryd.f11,stripX,stripOps,pickOps]
    simp [K_21_f,K_21_e,K_16_f,K_16_e,K_21h_f,K_21h_e,K_16h_f,K_16h_e,K_21h_g,K_16h_g,hg',hb,e,h1,h2]
  | true =>
    have hp:goodP r.left_=true∧goodP r.right_=true:=by simpa [goodRu] using hb
    obtain ⟨t,a1,a2,a3,a4,a5,a6,a7,a8,a9⟩:=goodP_out h1 hp.1
    obtain ⟨u,b1,b2,b3,b4,b5,b6,b7,b8,b9⟩:=goodP_out h2 hp.2
    have e:ruleB r=textB t++⟨#[61,62]⟩++textB u:=by unfold ruleB;rw [hb,a2,b2];rfl
    have l1:=textB_len t a4
    have l2:=textB_len u b4
    refine pure_of Tryd.func11 en_11 rfl rfl (W_run mixed ⟨[K_21,K_16],[K_21h,K_16h],[],23,0,[0,1,2,3,6],[6]⟩ (fun | 3=>[0,2,8,10,1,3,4,5,6,7,9,11,12,13,14,15,16,17] | _=>[]) (by kernel_rfl) ?_)
    simp only [Tryd.f11,stripX,stripOps,pickOps]
    simp [K_21_f,K_21_e,K_16_f,K_16_e,K_21h_f,K_21h_e,K_16h_f,K_16h_e,K_21h_g,K_16h_g,hg',hb,e,h1,h2,a6,a7,b6,b7]
    refine ⟨⟨a8,0,t,a9,a4⟩, ?_,⟨b8,0,u,b9,b4⟩, ?_⟩
    · show _ + 2≤_;omega
    · show _ + 2 + _≤_;omega
noncomputable def K_11:Ent Tryd.prog:=Ent.p1 (α:=Rule) 11 (fun r=>Enc.good r) (fun r=>.tup [.d (.str (ruleB r)),.d (.bool (goodRu r))]) (fun r hc=>ruleS_c r hc)
theorem K_11_f:K_11.f=11:=rfl
theorem K_11_e (r0:List Node) (r1:List Node):K_11.e [.agg [.d (dNodeS r0),.d (dNodeS r1)]]=some (Enc.good (Rule.mk r0 r1),.tup [.d (.str (ruleB (Rule.mk r0 r1))),.d (.bool (goodRu (Rule.mk r0 r1)))],[]):=by unfold K_11;exact Ent.p1_eq (α:=Rule) (Rule.mk r0 r1)
noncomputable def K_11h:EntH Tryd.prog:=EntH.pk1 (α:=Rule) 11 (fun r=>Enc.good r) (fun r=>.tup [.d (.str (ruleB r)),.d (.bool (goodRu r))]) (fun r=>[]) (fun r hc=>PureP.ans (ruleS_c r hc))
theorem K_11h_f:K_11h.f=11:=rfl
theorem K_11h_g:K_11h.gro=true:=rfl
theorem K_11h_e {x1:V} {H:Heap}:K_11h.e [x1] H=guardR ((decA (α:=Rule) H x1).1) (peekR (Enc.good (decA (α:=Rule) H x1).2) (.tup [.d (.str (ruleB (decA (α:=Rule) H x1).2)),.d (.bool (goodRu (decA (α:=Rule) H x1).2))]) ([]) H):=rfl
theorem ruleI_c (r:Rule) (hg:Enc.good r):PureP Tryd.prog 13 [vRule r] (· = .tup [.d (.str (ruleB r)),.d (.bool (goodRu r))]):=by
  have h1:Enc.good r.left_:=hg.1
  have h2:Enc.good r.right_:=hg.2
  have hg':Enc.good (Rule.mk r.left_ r.right_):=hg
  cases hb:goodRu r with
  | false =>
    have e:ruleB r=⟨#[]⟩:=by unfold ruleB;rw [hb];rfl
    refine pure_of Tryd.func13 en_13 rfl rfl (W_run mixed ⟨[K_22,K_18,K_19],[K_22h,K_18h,K_19h],[],17,0,[0,1,2,3,6],[6]⟩ (fun | 3=>[0,5,1,2,3,4,6,7,8,9,10,11] | _=>[]) (by kernel_rfl) ?_)
    simp only [Tryd.f13,stripX,stripOps,pickOps]
    simp [K_22_f,K_22_e,K_18_f,K_18_e,K_19_f,K_19_e,K_22h_f,K_22h_e,K_18h_f,K_18h_e,K_19h_f,K_19h_e,K_22h_g,K_18h_g,K_19h_g,hg',hb,e,h1,h2]
  | true =>
    have hp:goodP r.left_=true∧goodP r.right_=true:=by simpa [goodRu] using hb
    obtain ⟨t,a1,a2,a3,a4,a5,a6,a7,a8,a9⟩:=goodP_out h1 hp.1
    obtain ⟨u,b1,b2,b3,b4,b5,b6,b7,b8,b9⟩:=goodP_out h2 hp.2
    have e:ruleB r=textB t++⟨#[61,62]⟩++textB u:=by unfold ruleB;rw [hb,a2,b2];rfl
    have l1:=textB_len t a4
    have l2:=textB_len u b4
    refine pure_of Tryd.func13 en_13 rfl rfl (W_run mixed ⟨[K_22,K_18,K_19],[K_22h,K_18h,K_19h],[],17,0,[0,1,2,3,6],[6]⟩ (fun | 3=>[0,5,1,2,3,4,6,7,8,9,10,11] | _=>[]) (by kernel_rfl) ?_)
    simp only [Tryd.f13,stripX,stripOps,pickOps]
    simp [K_22_f,K_22_e,K_18_f,K_18_e,K_19_f,K_19_e,K_22h_f,K_22h_e,K_18h_f,K_18h_e,K_19h_f,K_19h_e,K_22h_g,K_18h_g,K_19h_g,hg',hb,e,h1,h2,a3,b3]
    refine ⟨⟨a4,by omega⟩, ?_,⟨b4,by omega⟩, ?_⟩
    · show _ + 2≤_;omega
    · show _ + 2 + _≤_;omega
noncomputable def K_13:Ent Tryd.prog:=Ent.p1 (α:=Rule) 13 (fun r=>Enc.good r) (fun r=>.tup [.d (.str (ruleB r)),.d (.bool (goodRu r))]) (fun r hc=>ruleI_c r hc)
theorem K_13_f:K_13.f=13:=rfl
theorem K_13_e (r0:List Node) (r1:List Node):K_13.e [.agg [.d (dNodeS r0),.d (dNodeS r1)]]=some (Enc.good (Rule.mk r0 r1),.tup [.d (.str (ruleB (Rule.mk r0 r1))),.d (.bool (goodRu (Rule.mk r0 r1)))],[]):=by unfold K_13;exact Ent.p1_eq (α:=Rule) (Rule.mk r0 r1)
noncomputable def K_13h:EntH Tryd.prog:=EntH.pk1 (α:=Rule) 13 (fun r=>Enc.good r) (fun r=>.tup [.d (.str (ruleB r)),.d (.bool (goodRu r))]) (fun r=>[]) (fun r hc=>PureP.ans (ruleI_c r hc))
theorem K_13h_f:K_13h.f=13:=rfl
theorem K_13h_g:K_13h.gro=true:=rfl
theorem K_13h_e {x1:V} {H:Heap}:K_13h.e [x1] H=guardR ((decA (α:=Rule) H x1).1) (peekR (Enc.good (decA (α:=Rule) H x1).2) (.tup [.d (.str (ruleB (decA (α:=Rule) H x1).2)),.d (.bool (goodRu (decA (α:=Rule) H x1).2))]) ([]) H):=rfl
theorem law_RuleText (r:Rule) (hg:Enc.good r):PureP Tryd.prog 4 [vRule r] (· = .d (.bool true)):=by
  have hg':Enc.good (Rule.mk r.left_ r.right_):=hg
  refine pure_of Tryd.func4 en_4 rfl rfl (W_run mixed ⟨[K_10,K_12,K_11,K_13,K_14],[K_10h,K_12h,K_11h,K_13h,K_14h],[],40,0,[0,1,2,3,4,5,6,7,8,13,34,39],[13,30,34,39]⟩ (fun | 10=>[0,1,2,3,4] | _=>[]) (by kernel_rfl) ?_)
  simp only [Tryd.f4,stripX,stripOps,pickOps]
  simp [K_10_f,K_10_e,K_12_f,K_12_e,K_11_f,K_11_e,K_13_f,K_13_e,K_14_f,K_14_e,K_10h_f,K_10h_e,K_12h_f,K_12h_e,K_11h_f,K_11h_e,K_13h_f,K_13h_e,K_14h_f,K_14h_e,K_10h_g,K_12h_g,K_11h_g,K_13h_g,K_14h_g,hg']
  exact fun h=>(szok_Rule r _ hg (by decide) (by decide) h).1
end Go.Proofs.YtbacilgolfojaaaDoor
end

section
namespace Go.Proofs.YtbacilgolfojaaaDoor
set_option maxRecDepth 100000
set_option linter.unusedSimpArgs false
set_option linter.unusedVariables false
def cellsOfR:DataW Unit→Array Value
  | .agg ds=>(ds.map fun | .lit (.int k z)=>Value.int k z | _=>Go.undef).toArray
  | _=>#[]
noncomputable def tabWorldR (os:Os):World :=
  let w0:=World.holding Tryd.prog os ⟨#[],#[],[]⟩
  let put:=fun (d:DataW Unit) (o:Obj)=>match o with
    | .cells _ t frozen=>.cells (cellsOfR d) t frozen
    | o=>o
  { w0 with heap:=((w0.heap.modify 0 (put Rows.laid_internal_strconv_uint64pow10)).modify 1 (put Rows.laid_math_bits_deBruijn32tab)).modify 2 (put Rows.laid_math_bits_deBruijn64tab) }
theorem tabWorldR_met (os:Os) (args:Array Value):laidMet Tryd.prog Rows.fnExactRuleTextRow.laid ((tabWorldR os).forCall (fun _ _=>0) ⟨#[],args,[]⟩).memory :=
  laidMet_of_run' 8 (by kernel_rfl) (by kernel_rfl)
theorem base_of_laidR {W:World} (h:laidMet Tryd.prog Rows.fnExactRuleTextRow.laid W):base W fun _=>False:=by
  have h2 : laidMet Tryd.prog [("internal/strconv.uint64pow10", Lib.tabData .u64 Lib.pow10Tab)] W := h.tail.tail
  have h3 : Lib.TabIs Tryd.prog W "internal/strconv.uint64pow10" .u64 Lib.pow10Tab :=
    Lib.tabIs_of_head (g:=0) (t:=74) (e:=62) (n:=20) (by kernel_rfl) (by kernel_rfl) (by kernel_rfl) (by kernel_rfl) (by kernel_rfl) (by kernel_rfl) h2
  intro g cs e
  cases e
  refine ⟨id, ?_⟩
  unfold Lib.TabIs World.var? at h3
  rw [show Tryd.prog.globalNamed "internal/strconv.uint64pow10" = some 0 by kernel_rfl] at h3
  simp only [Option.bind_some] at h3
  split at h3
  · rename_i cs t fr hh
    cases h3
    exact ⟨t,fr,hh⟩
  · cases h3
namespace fnExactRuleText
open Go.ChangeShapes Go.WideShapes Go.RowKit
theorem own:ownKnob Tryd.prog.godebug=none:=by kernel_rfl
theorem lifted (os:Os) (started:os.Started) (H:Type) (enc:TypeId × Value→H) :
    ReturnsInHanded {} Tryd.checked os 4 .any (fun w args=>(Rows.fnExactRuleTextSpec.pre enc Tryd.prog Tryd.f4 Rows.fnExactRuleTextRow.domain false w args∧laidMet Tryd.prog Rows.fnExactRuleTextRow.laid w)∧sizedMet enc Tryd.prog Tryd.f4 (OpenSpec.ofChange Rows.fnExactRuleTextSpec) false w args)
      (Rows.fnExactRuleTextSpec.post enc Tryd.prog Tryd.f4 false true false false):=by
  refine returnsInHanded_of_change_and (C:=Tryd.checked) (X:=fun w _=>laidMet Tryd.prog Rows.fnExactRuleTextRow.laid w) (fun _ _ _ hh h=>h.of_heap hh) own started (by kernel_rfl) Tryd.func4
    (ChangeSpec.witness_at (enc:=enc) (C:=Tryd.checked) (os:=os) (X:=fun w _=>laidMet Tryd.prog Rows.fnExactRuleTextRow.laid w) false (tabWorldR os) #[.agg #[.slice none 0 0,.slice none 0 0]] 8 rfl (by kernel_rfl) (by kernel_rfl) (by kernel_rfl) (by kernel_rfl) (by kernel_rfl) (tabWorldR_met os _)) ?_
  intro W base args ds gs before hval hW hcnd _ hL _
  have hW':=hW
  obtain ⟨p,q,hA,hV,_,_,_⟩:=hW
  rw [Tryd.params4] at hA hval
  obtain ⟨v0,vs0,d0,ds0,p0,q0,hargs,rfl,rfl,h0,r0⟩:=trodAll_cons hA
  obtain ⟨rfl,rfl,rfl⟩:=trodAll_nil r0
  obtain rfl:args=#[v0]:=by cases args;simp_all
  obtain ⟨l,hl,hv0⟩:=arg_of rd_Rule (hval 0 _ v0 rfl rfl) h0
  obtain ⟨rfl,rfl⟩:=trodVars_none hV
  exact row_end (by kernel_rfl) (by kernel_rfl) (by kernel_rfl) Tryd.underlying4 hW' rfl rfl rfl rfl (vs:=[argV l]) (by exact ⟨v0,_,rfl,hv0,rfl⟩) (law_RuleText l hl) (base_of_laidR hL)
theorem over:Rows.fnExactRuleTextRow.holds Tryd.pinned (OpenSpec.ofChange Rows.fnExactRuleTextSpec) :=
  OpenClaim.holds_of_wide 4 Tryd.f4 rfl rfl rfl rfl rfl rfl rfl ⟨rfl,rfl,rfl,rfl,rfl⟩ rfl rfl rfl rfl rfl (by kernel_rfl) Tryd.func4 (by kernel_rfl)
    (of_decide_eq_true (by kernel_rfl)) (by unfold Func.isWrapper;first | (rw [if_pos (by decide +kernel)];kernel_rfl) | (rw [if_neg (by decide +kernel)];exact ⟨rfl,rfl⟩))
    (fun os started H enc _=>lifted os started H enc)
end fnExactRuleText
theorem fnExactRuleTextCard_holds : Rows.FnExactRuleTextCardSaid :=
  Claim7.holds_tied_plain_at .later [] [.data, .data, .data] true (true, "053b3b0413ad809b4747301b0ffc2ca7cddefab70989da6fede06d757640ba95") false
    fnExactRuleText.over (fun _ h=>by cases h) (by kernel_rfl) (fun _ h=>by cases h) fnExactRuleText_row_tie rfl ⟨rfl,rfl⟩ (by kernel_rfl) rfl
    (fun f fn hf hfn=>by
      obtain rfl : f = 4 := Option.some.inj ((show Tryd.prog.funcNamed "loop.example/g00694/laws.FnExactRuleText" = some 4 by kernel_rfl).symm.trans hf) |>.symm
      obtain rfl:fn=Tryd.f4:=(Option.some.inj (Tryd.func4.symm.trans hfn)).symm
      exact ⟨by kernel_rfl,fun j t ht=>by
        rw [Tryd.params4] at ht
        have h3:t=31:=by
          rcases j with _ | j
          · simpa using ht.symm
          · simp at ht
        subst h3
        exact (show Tryd.prog.wantsStandIn 31=false by kernel_rfl)⟩)
    (by kernel_rfl)
end Go.Proofs.YtbacilgolfojaaaDoor
end
