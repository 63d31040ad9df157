/- The law FnExactTermText. No condition. -/
import Derived.Test.YtbacilgolfojaaaDoorRows
import Derived.LaidByTextLater
import Derived.SevenTiedAt
import Derived.LaidSub
import Derived.LaidOnce
import GoSem.ClaimSeven
import Derived.Lib.LaidTab
import Derived.Stop.LaidErr
import Derived.ChangeSame
import Derived.ChangeVars
import Derived.ChangeMaps5
import Derived.JoinedOf
import Derived.JoinedAt
import Derived.RowKit
import Derived.RowKit3
import Derived.RowKitTokens
import Derived.LaidLaws
import Derived.Test.YtbacilgolfojaaaDoorQE3
import Derived.Test.YtbacilgolfojaaaDoorQCpy
import Derived.Test.YtbacilgolfojaaaDoorQS180
section
namespace Go.Proofs.YtbacilgolfojaaaDoor
open Go
set_option maxRecDepth 100000
theorem seatTie1 : Tryd.prog.laidByTextLater [("math/bits.deBruijn32tab", Rows.laid_math_bits_deBruijn32tab), ("math/bits.deBruijn64tab", Rows.laid_math_bits_deBruijn64tab), ("internal/strconv.uint64pow10", Rows.laid_internal_strconv_uint64pow10)] [.data, .data, .data] true :=
  Program.laidByTextLater_by_one 24 8 65 (by kernel_rfl) (by kernel_rfl) (by kernel_rfl) (by kernel_rfl) (by kernel_rfl) (by kernel_rfl) (fun _ _=>by kernel_rfl)
theorem noOwnUnsafe : Tryd.pinned.checked.prog.headLifts.contains "ownunsafe" = false := by kernel_rfl
theorem tie : Tryd.prog.laidByTextLater [("math/bits.deBruijn32tab", Rows.laid_math_bits_deBruijn32tab), ("math/bits.deBruijn64tab", Rows.laid_math_bits_deBruijn64tab), ("internal/strconv.uint64pow10", Rows.laid_internal_strconv_uint64pow10)] [.data, .data, .data] true :=
  Program.laidByTextLater.sub seatTie1 ["math/bits.deBruijn32tab", "math/bits.deBruijn64tab", "internal/strconv.uint64pow10"] (by kernel_rfl) (by kernel_rfl)
theorem fnExactTermText_row_tie:Rows.fnExactTermTextRow.laidByTextAt .later Tryd.pinned [.data,.data,.data] true :=
  OpenClaim.laidByTextAt_later rfl rfl tie noOwnUnsafe
end Go.Proofs.YtbacilgolfojaaaDoor
end

section
namespace Go.Proofs.YtbacilgolfojaaaDoor
namespace Rows

def fnExactTermTextCard : Claim7 := { stood := { row := fnExactTermTextRow, standIns := [], harness := (true, "053b3b0413ad809b4747301b0ffc2ca7cddefab70989da6fede06d757640ba95"), looks := false }, kinds := [], alts := [], laidByText := true, laidKinds := [.data, .data, .data], laidTests := true, laidLooks := .later }
def FnExactTermTextCardSaid:Prop:=Claim7.holds Tryd.pinned (.plain (OpenSpec.ofChange fnExactTermTextSpec)) fnExactTermTextCard

end Rows
end Go.Proofs.YtbacilgolfojaaaDoor
end

section
namespace Go.Proofs.YtbacilgolfojaaaDoor
set_option linter.unusedSimpArgs false
set_option linter.unusedVariables false
def SzOk {α:Type} [Enc α] [Sm α] (sz:α→Int→Int):Prop:=∀ x left,Enc.good x→0≤left→left≤1048576→0≤sz x left→Sm.sm x∧sz x left≤left
theorem chk_ok {m:Int} {k:Int→Int} (h:0≤chk m k):0≤m∧0≤k m∧chk m k=k m:=by
  by_cases hm:m < 0
  · rw [chk_neg hm] at h;exact absurd h (by decide)
  · have e:=chk_pos (k:=k) (Int.not_lt.1 hm);exact ⟨Int.not_lt.1 hm,by rw [← e];exact h,e⟩
theorem szok_NodeS:SzOk szNodeS:=fun l left hg h0 h1 h=>by
  have hl:=good_len hg
  unfold szNodeS at h ⊢
  rw [wrap_id (by omega) (by omega)] at h ⊢
  obtain ⟨a,b,c⟩:=chk_ok h
  rw [c]
  exact ⟨⟨by omega,fun _ _=>⟨trivial,trivial⟩⟩,by omega⟩
theorem rd_int:Reads Tryd.prog 3 Int:=reads_int (by kernel_rfl) (by kernel_rfl)
theorem rd_int64:Reads Tryd.prog 2 Int:=reads_int (by kernel_rfl) (by kernel_rfl)
theorem rd_Node:Reads Tryd.prog 44 Node:=by
  refine ⟨by kernel_rfl,by rw [Tryd.underlying44];rfl,fun H enc w fuel cs x h=>?_⟩
  have hl:cs.length=2:=by
    obtain ⟨_,_,_,_,e,_⟩:=Go.DataW.trod_struct Tryd.underlying44 h
    rw [e];kernel_rfl
  obtain ⟨a0,g0,e0⟩:=field_read Tryd.underlying44 h 0 _ rfl rd_int
  obtain ⟨a1,g1,e1⟩:=field_read Tryd.underlying44 h 1 _ rfl rd_int64
  refine ⟨hl,⟨a0,a1⟩,⟨g0,g1⟩,fun j v hv=>?_⟩
  have hj:j < 2:=by rw [← hl];exact (List.getElem?_eq_some_iff.1 hv).1
  rcases (by omega:j=0∨j=1) with rfl | rfl
  · exact e0 0 v (by decide) hv
  · exact e1 0 v (by decide) hv
theorem rd_LNode:Reads Tryd.prog 22 (List Node):=reads_list (by kernel_rfl) (by kernel_rfl) rd_Node
end Go.Proofs.YtbacilgolfojaaaDoor
end

section
namespace Go.Proofs.YtbacilgolfojaaaDoor
set_option maxRecDepth 100000
set_option linter.unusedSimpArgs false
set_option linter.unusedVariables false
theorem textS_k (l:List Node) (k:Int) (h:l.length≤1000000∧0≤k∧∃ s t,Rep l s (k.toNat + 1) t∧t.ok):PureP Tryd.prog 16 [.d (dNodeS l),.d (.int .i64 k)] (· = .d (.str (textB (trL l k)))):=by
  obtain ⟨hl,h0,s,t,hr,ho⟩:=h
  have:=textS_c l hl t.nodes k.toNat s t rfl ho hr
  rw [← trL_eq hr,show ((k.toNat:Nat):Int)=k by omega] at this
  exact this
noncomputable def K_16:Ent Tryd.prog:=Ent.p2 (α:=List Node) (β:=Int) 16 (fun l k=>l.length≤1000000∧0≤k∧∃ s t,Rep l s (k.toNat + 1) t∧t.ok) (fun l k=>.d (.str (textB (trL l k)))) (fun l k hc=>textS_k l k hc)
theorem K_16_f:K_16.f=16:=rfl
theorem K_16_e (l:List Node) (k:Int):K_16.e [.d (dNodeS l),.d (.int .i64 k)]=some (l.length≤1000000∧0≤k∧∃ s t,Rep l s (k.toNat + 1) t∧t.ok,.d (.str (textB (trL l k))),[]):=by unfold K_16;exact Ent.p2_eq (α:=List Node) (β:=Int) l k
noncomputable def K_16h:EntH Tryd.prog:=EntH.pk2 (α:=List Node) (β:=Int) 16 (fun l k=>l.length≤1000000∧0≤k∧∃ s t,Rep l s (k.toNat + 1) t∧t.ok) (fun l k=>.d (.str (textB (trL l k)))) (fun l k=>[]) (fun l k hc=>PureP.ans (textS_k l k hc))
theorem K_16h_f:K_16h.f=16:=rfl
theorem K_16h_g:K_16h.gro=true:=rfl
theorem K_16h_e {x1 x2:V} {H:Heap}:K_16h.e [x1,x2] H=guardR ((decA (α:=List Node) H x1).1∧(decA (α:=Int) H x2).1) (peekR ((decA (α:=List Node) H x1).2.length≤1000000∧0≤(decA (α:=Int) H x2).2∧∃ s t,Rep (decA (α:=List Node) H x1).2 s ((decA (α:=Int) H x2).2.toNat + 1) t∧t.ok) (.d (.str (textB (trL (decA (α:=List Node) H x1).2 (decA (α:=Int) H x2).2)))) ([]) H):=rfl
def termB (l:List Node):ByteArray:=match treeO l with | some t=>textB t | none=>⟨#[]⟩
theorem good_none {l:List Node} (h:goodT l=false):treeO l=none:=by simpa [goodT] using h
theorem termS_c (l:List Node) (hg:Enc.good l):PureP Tryd.prog 6 [.d (dNodeS l)] (· = .tup [.d (.str (termB l)),.d (.bool (goodT l))]):=by
  cases hgd:goodT l with
  | false =>
    have e1:termB l=⟨#[]⟩:=by unfold termB;rw [good_none hgd]
    refine pure_of Tryd.func6 en_6 rfl rfl (W_run mixed ⟨[K_15,K_16],[K_15h,K_16h],[],12,0,[0,2,3,6],[6]⟩ (fun _=>[]) (by kernel_rfl) ?_)
    simp only [Tryd.f6,stripX,stripOps,pickOps]
    simp [K_15_f,K_15_e,K_16_f,K_16_e,K_15h_f,K_15h_e,K_16h_f,K_16h_e,K_15h_g,K_16h_g,hgd,hg,e1]
  | true =>
    obtain ⟨t,ht,q1,q2,q3⟩:=goodT_out hgd
    obtain ⟨hr,ho,hl⟩:=treeO_rep hg ht
    have e1:termB l=textB t:=by unfold termB;rw [ht]
    have e3:IntKind.i64.wrap ((l.length:Int) - 1)=((l.length - 1:Nat):Int):=by rw [wrap_id] <;> omega
    have hr':Rep l 0 (l.length - 1 + 1) t:=by rw [show l.length - 1 + 1=l.length by omega];exact hr
    have e4:trL l ((l.length - 1:Nat):Int)=t:=trL_eq hr'
    refine pure_of Tryd.func6 en_6 rfl rfl (W_run mixed ⟨[K_15,K_16],[K_15h,K_16h],[],12,0,[0,2,3,6],[6]⟩ (fun _=>[]) (by kernel_rfl) ?_)
    simp only [Tryd.f6,stripX,stripOps,pickOps]
    simp [K_15_f,K_15_e,K_16_f,K_16_e,K_15h_f,K_15h_e,K_16h_f,K_16h_e,K_15h_g,K_16h_g,hgd,hg,e1,e3,e4]
    exact ⟨by omega,0,t,hr',ho⟩
noncomputable def K_6:Ent Tryd.prog:=Ent.p1 (α:=List Node) 6 (fun l=>Enc.good l) (fun l=>.tup [.d (.str (termB l)),.d (.bool (goodT l))]) (fun l hc=>termS_c l hc)
theorem K_6_f:K_6.f=6:=rfl
theorem K_6_e (l:List Node):K_6.e [.d (dNodeS l)]=some (Enc.good l,.tup [.d (.str (termB l)),.d (.bool (goodT l))],[]):=by unfold K_6;exact Ent.p1_eq (α:=List Node) l
noncomputable def K_6h:EntH Tryd.prog:=EntH.pk1 (α:=List Node) 6 (fun l=>Enc.good l) (fun l=>.tup [.d (.str (termB l)),.d (.bool (goodT l))]) (fun l=>[]) (fun l hc=>PureP.ans (termS_c l hc))
theorem K_6h_f:K_6h.f=6:=rfl
theorem K_6h_g:K_6h.gro=true:=rfl
theorem K_6h_e {x1:V} {H:Heap}:K_6h.e [x1] H=guardR ((decA (α:=List Node) H x1).1) (peekR (Enc.good (decA (α:=List Node) H x1).2) (.tup [.d (.str (termB (decA (α:=List Node) H x1).2)),.d (.bool (goodT (decA (α:=List Node) H x1).2))]) ([]) H):=rfl
theorem termI_c (l:List Node) (hg:Enc.good l):PureP Tryd.prog 8 [.d (dNodeS l)] (· = .tup [.d (.str (termB l)),.d (.bool (goodT l))]):=by
  cases hgd:goodT l with
  | false =>
    have e1:termB l=⟨#[]⟩:=by unfold termB;rw [good_none hgd]
    have e2:treeV l=.d .nilp:=by unfold treeV;rw [good_none hgd]
    refine pure_of Tryd.func8 en_8 rfl rfl (W_run mixed ⟨[K_18,K_19],[K_18h,K_19h],[],11,0,[0,2,3,4,8],[8]⟩ (fun _=>[]) (by kernel_rfl) ?_)
    simp only [Tryd.f8,stripX,stripOps,pickOps]
    simp [K_18_f,K_18_e,K_19_f,K_19_e,K_18h_f,K_18h_e,K_19h_f,K_19h_e,K_18h_g,K_19h_g,e2,hg,e1]
  | true =>
    obtain ⟨t,ht,q1,q2,q3⟩:=goodT_out hgd
    obtain ⟨hr,ho,hl⟩:=treeO_rep hg ht
    have e1:termB l=textB t:=by unfold termB;rw [ht]
    obtain ⟨f,hf⟩:∃ f,encT t=.rp 3 f:=by cases t <;> exact ⟨_,rfl⟩
    have e2:treeV l=.d (.rp 3 f):=by unfold treeV;rw [ht,← hf]
    have hn:=hr.span.1
    have hK:∀ a:T,a=t→PureP Tryd.prog 19 [argV a] (· = .d (.str (textB a))):=fun a h=>by subst h;exact text_c a.nodes a rfl ⟨ho,by omega⟩
    obtain ⟨KT,KT_f,KT_e⟩:∃ K:Ent Tryd.prog,K.f=19∧K.e [.d (.rp 3 f)]=some (t=t,.d (.str (textB t)),[]) :=
      ⟨Ent.p1 (α:=T) 19 (fun a=>a=t) (fun a=>.d (.str (textB a))) hK,rfl,by rw [← hf];exact Ent.p1_eq (α:=T) t⟩
    refine pure_of Tryd.func8 en_8 rfl rfl (W_run mixed ⟨[K_18,KT],[K_18h],[],11,0,[0,2,3,4,8],[8]⟩ (fun _=>[]) (by kernel_rfl) ?_)
    simp only [Tryd.f8,stripX,stripOps,pickOps]
    simp [K_18_f,K_18_e,KT_f,KT_e,K_18h_f,K_18h_e,K_18h_g,e2,hg,e1]
noncomputable def K_8:Ent Tryd.prog:=Ent.p1 (α:=List Node) 8 (fun l=>Enc.good l) (fun l=>.tup [.d (.str (termB l)),.d (.bool (goodT l))]) (fun l hc=>termI_c l hc)
theorem K_8_f:K_8.f=8:=rfl
theorem K_8_e (l:List Node):K_8.e [.d (dNodeS l)]=some (Enc.good l,.tup [.d (.str (termB l)),.d (.bool (goodT l))],[]):=by unfold K_8;exact Ent.p1_eq (α:=List Node) l
noncomputable def K_8h:EntH Tryd.prog:=EntH.pk1 (α:=List Node) 8 (fun l=>Enc.good l) (fun l=>.tup [.d (.str (termB l)),.d (.bool (goodT l))]) (fun l=>[]) (fun l hc=>PureP.ans (termI_c l hc))
theorem K_8h_f:K_8h.f=8:=rfl
theorem K_8h_g:K_8h.gro=true:=rfl
theorem K_8h_e {x1:V} {H:Heap}:K_8h.e [x1] H=guardR ((decA (α:=List Node) H x1).1) (peekR (Enc.good (decA (α:=List Node) H x1).2) (.tup [.d (.str (termB (decA (α:=List Node) H x1).2)),.d (.bool (goodT (decA (α:=List Node) H x1).2))]) ([]) H):=rfl
theorem law_TermText (l:List Node) (hg:Enc.good l):PureP Tryd.prog 3 [.d (dNodeS l)] (· = .d (.bool true)):=by
  refine pure_of Tryd.func3 en_3 rfl rfl (W_run mixed ⟨[K_5,K_7,K_6,K_8,K_9],[K_5h,K_7h,K_6h,K_8h,K_9h],[],40,0,[0,2,3,4,5,6,7,8,13,34,39],[13,30,34,39]⟩ (fun _=>[]) (by kernel_rfl) ?_)
  simp only [Tryd.f3,stripX,stripOps,pickOps]
  simp [K_5_f,K_5_e,K_7_f,K_7_e,K_6_f,K_6_e,K_8_f,K_8_e,K_9_f,K_9_e,K_5h_f,K_5h_e,K_7h_f,K_7h_e,K_6h_f,K_6h_e,K_8h_f,K_8h_e,K_9h_f,K_9h_e,K_5h_g,K_7h_g,K_6h_g,K_8h_g,K_9h_g,hg]
  exact fun h=>(szok_NodeS l _ hg (by decide) (by decide) h).1
end Go.Proofs.YtbacilgolfojaaaDoor
end

section
namespace Go.Proofs.YtbacilgolfojaaaDoor
set_option maxRecDepth 100000
set_option linter.unusedSimpArgs false
set_option linter.unusedVariables false
def cellsOf:DataW Unit→Array Value
  | .agg ds=>(ds.map fun | .lit (.int k z)=>Value.int k z | _=>Go.undef).toArray
  | _=>#[]
noncomputable def tabWorld (os:Os):World :=
  let w0:=World.holding Tryd.prog os ⟨#[],#[],[]⟩
  let put:=fun (d:DataW Unit) (o:Obj)=>match o with
    | .cells _ t frozen=>.cells (cellsOf d) t frozen
    | o=>o
  { w0 with heap:=((w0.heap.modify 0 (put Rows.laid_internal_strconv_uint64pow10)).modify 1 (put Rows.laid_math_bits_deBruijn32tab)).modify 2 (put Rows.laid_math_bits_deBruijn64tab) }
theorem tabWorld_met (os:Os) (args:Array Value):laidMet Tryd.prog Rows.fnExactTermTextRow.laid ((tabWorld os).forCall (fun _ _=>0) ⟨#[],args,[]⟩).memory :=
  laidMet_of_run' 8 (by kernel_rfl) (by kernel_rfl)
theorem base_of_laid {W:World} (h:laidMet Tryd.prog Rows.fnExactTermTextRow.laid W):base W fun _=>False:=by
  have h2 : laidMet Tryd.prog [("internal/strconv.uint64pow10", Lib.tabData .u64 Lib.pow10Tab)] W := h.tail.tail
  have h3 : Lib.TabIs Tryd.prog W "internal/strconv.uint64pow10" .u64 Lib.pow10Tab :=
    Lib.tabIs_of_head (g:=0) (t:=74) (e:=62) (n:=20) (by kernel_rfl) (by kernel_rfl) (by kernel_rfl) (by kernel_rfl) (by kernel_rfl) (by kernel_rfl) h2
  intro g cs e
  cases e
  refine ⟨id, ?_⟩
  unfold Lib.TabIs World.var? at h3
  rw [show Tryd.prog.globalNamed "internal/strconv.uint64pow10" = some 0 by kernel_rfl] at h3
  simp only [Option.bind_some] at h3
  split at h3
  · rename_i cs t fr hh
    cases h3
    exact ⟨t,fr,hh⟩
  · cases h3
namespace fnExactTermText
open Go.ChangeShapes Go.WideShapes Go.RowKit
theorem own:ownKnob Tryd.prog.godebug=none:=by kernel_rfl
theorem lifted (os:Os) (started:os.Started) (H:Type) (enc:TypeId × Value→H) :
    ReturnsInHanded {} Tryd.checked os 3 .any (fun w args=>(Rows.fnExactTermTextSpec.pre enc Tryd.prog Tryd.f3 Rows.fnExactTermTextRow.domain false w args∧laidMet Tryd.prog Rows.fnExactTermTextRow.laid w)∧sizedMet enc Tryd.prog Tryd.f3 (OpenSpec.ofChange Rows.fnExactTermTextSpec) false w args)
      (Rows.fnExactTermTextSpec.post enc Tryd.prog Tryd.f3 false true false false):=by
  refine returnsInHanded_of_change_and (C:=Tryd.checked) (X:=fun w _=>laidMet Tryd.prog Rows.fnExactTermTextRow.laid w) (fun _ _ _ hh h=>h.of_heap hh) own started (by kernel_rfl) Tryd.func3
    (ChangeSpec.witness_at (enc:=enc) (C:=Tryd.checked) (os:=os) (X:=fun w _=>laidMet Tryd.prog Rows.fnExactTermTextRow.laid w) false (tabWorld os) #[.slice none 0 0] 8 rfl (by kernel_rfl) (by kernel_rfl) (by kernel_rfl) (by kernel_rfl) (by kernel_rfl) (tabWorld_met os _)) ?_
  intro W base args ds gs before hval hW hcnd _ hL _
  have hW':=hW
  obtain ⟨p,q,hA,hV,_,_,_⟩:=hW
  rw [Tryd.params3] at hA hval
  obtain ⟨v0,vs0,d0,ds0,p0,q0,hargs,rfl,rfl,h0,r0⟩:=trodAll_cons hA
  obtain ⟨rfl,rfl,rfl⟩:=trodAll_nil r0
  obtain rfl:args=#[v0]:=by cases args;simp_all
  obtain ⟨l,hl,hv0⟩:=arg_of rd_LNode (hval 0 _ v0 rfl rfl) h0
  obtain ⟨rfl,rfl⟩:=trodVars_none hV
  exact row_end (by kernel_rfl) (by kernel_rfl) (by kernel_rfl) Tryd.underlying4 hW' rfl rfl rfl rfl (vs:=[argV l]) (by exact ⟨v0,_,rfl,hv0,rfl⟩) (law_TermText l hl) (base_of_laid hL)
theorem over:Rows.fnExactTermTextRow.holds Tryd.pinned (OpenSpec.ofChange Rows.fnExactTermTextSpec) :=
  OpenClaim.holds_of_wide 3 Tryd.f3 rfl rfl rfl rfl rfl rfl rfl ⟨rfl,rfl,rfl,rfl,rfl⟩ rfl rfl rfl rfl rfl (by kernel_rfl) Tryd.func3 (by kernel_rfl)
    (of_decide_eq_true (by kernel_rfl)) (by unfold Func.isWrapper;first | (rw [if_pos (by decide +kernel)];kernel_rfl) | (rw [if_neg (by decide +kernel)];exact ⟨rfl,rfl⟩))
    (fun os started H enc _=>lifted os started H enc)
end fnExactTermText
theorem fnExactTermTextCard_holds : Rows.FnExactTermTextCardSaid :=
  Claim7.holds_tied_plain_at .later [] [.data, .data, .data] true (true, "053b3b0413ad809b4747301b0ffc2ca7cddefab70989da6fede06d757640ba95") false
    fnExactTermText.over (fun _ h=>by cases h) (by kernel_rfl) (fun _ h=>by cases h) fnExactTermText_row_tie rfl ⟨rfl,rfl⟩ (by kernel_rfl) rfl
    (fun f fn hf hfn=>by
      obtain rfl : f = 3 := Option.some.inj ((show Tryd.prog.funcNamed "loop.example/g00694/laws.FnExactTermText" = some 3 by kernel_rfl).symm.trans hf) |>.symm
      obtain rfl:fn=Tryd.f3:=(Option.some.inj (Tryd.func3.symm.trans hfn)).symm
      exact ⟨by kernel_rfl,fun j t ht=>by
        rw [Tryd.params3] at ht
        have h3:t=22:=by
          rcases j with _ | j
          · simpa using ht.symm
          · simp at ht
        subst h3
        exact (show Tryd.prog.wantsStandIn 22=false by kernel_rfl)⟩)
    (by kernel_rfl)
end Go.Proofs.YtbacilgolfojaaaDoor
end
