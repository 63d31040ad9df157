/- What ops make of numbers, in both programs, and what an instruction makes of numbers that are known. No condition. -/
import Derived.Test.YtnomiclfiijniaaQS46
import Derived.Test.YtnomiclfiijniaaQS103
import Derived.Test.YtnomiclfiijniaaQE9
section
namespace Go.Proofs.Ytnomiclfiijniaa
set_option maxRecDepth 100000
set_option linter.unusedSimpArgs false
set_option linter.unusedVariables false
theorem goodF_body {F:Func} (h:goodF F=true) {b:Block} (hb:b∈F.blocks_):b.insts_.all (instOk (many F))=true∧endsOk F.blocks_ b (many F)=true:=by
  obtain ⟨_,_,_,_,_,_,hbo⟩:=goodF_spec h
  have h1:=List.all_eq_true.1 hbo _ hb
  simp only [bodyOk,Bool.and_eq_true] at h1
  exact h1
def opTr (op:Int) (x:List Int):Bool:=decide (op=8) && decide (x[1]?.getD 0=0)
def opNr (op:Int) (x:List Int):Int :=
  let a:=x[0]?.getD 0
  let b:=x[1]?.getD 0
  if op=3 then IntKind.i64.wrap (-a) else if op=4 then IntKind.i64.wrap (a + b) else if op=5 then IntKind.i64.wrap (a - b) else if op=6 then IntKind.i64.wrap (a * b)
  else if op=7 then IntKind.i64.wrap (a * 2 ^ (b % 64).toNat) else if op=8 then (if b=0 then 0 else IntKind.i64.wrap (a.tdiv b)) else if op=9 then (if a=b then 1 else 0)
  else if op=10 then (if a < b then 1 else 0) else if a=0 then x[2]?.getD 0 else b
end Go.Proofs.Ytnomiclfiijniaa
end

section
namespace Go.Proofs.Ytnomiclfiijniaa
set_option maxRecDepth 100000
set_option linter.unusedSimpArgs false
set_option linter.unusedVariables false
theorem u64_wrap (b:Int):IntKind.u64.wrap b=b % 18446744073709551616:=rfl
theorem u64_mod (b:Int):(IntKind.u64.wrap b).tmod 64=b % 64:=by
  rw [u64_wrap,Int.tmod_eq_emod_of_nonneg (Int.emod_nonneg _ (by decide)),Int.emod_emod_of_dvd _ (by decide)]
theorem and63 (b:Int):IntKind.u64.wrap (IntKind.i64.wrap (((b % 2 ^ IntKind.i64.bits).toNat &&& 63 % 2 ^ IntKind.i64.bits:Nat):Int))=b % 64:=by
  have h:((b % 2 ^ IntKind.i64.bits).toNat &&& 63 % 2 ^ IntKind.i64.bits:Nat)=(b % 64).toNat:=by
    rw [show (63 % 2 ^ IntKind.i64.bits:Nat)=2 ^ 6 - 1 from rfl,Nat.and_two_pow_sub_one_eq_mod,show (2:Int) ^ IntKind.i64.bits=18446744073709551616 from rfl]
    omega
  rw [h,wrap_id (by omega) (by omega),u64_wrap]
  omega
theorem oneIf_c (b:Bool):PureP Try.prog 127 [.d (.bool b)] (· = .d (.int .i64 (if b=true then 1 else 0))):=by
  cases b
  · refine pure_of Try.func127 en_127 rfl rfl (W_run mixed ⟨[],[],[],4,0,[0,2,3],[3]⟩ (fun _=>[]) (by kernel_rfl) ?_)
    simp only [Try.f127,stripX,stripOps,pickOps]
    simp []
  · refine pure_of Try.func127 en_127 rfl rfl (W_run mixed ⟨[],[],[],4,0,[0,2,3],[3]⟩ (fun _=>[]) (by kernel_rfl) ?_)
    simp only [Try.f127,stripX,stripOps,pickOps]
    simp []
noncomputable def K_127:Ent Try.prog:=Ent.p1 (α:=Bool) 127 (fun b=>True) (fun b=>.d (.int .i64 (if b=true then 1 else 0))) (fun b hc=>oneIf_c b)
theorem K_127_f:K_127.f=127:=rfl
theorem K_127_e (b:Bool):K_127.e [.d (.bool b)]=some (True,.d (.int .i64 (if b=true then 1 else 0)),[]):=by unfold K_127;exact Ent.p1_eq (α:=Bool) b
noncomputable def K_127h:EntH Try.prog:=EntH.pk1 (α:=Bool) 127 (fun b=>True) (fun b=>.d (.int .i64 (if b=true then 1 else 0))) (fun b=>[]) (fun b hc=>PureP.ans (oneIf_c b))
theorem K_127h_f:K_127h.f=127:=rfl
theorem K_127h_g:K_127h.gro=true:=rfl
theorem K_127h_e {x1:V} {H:Heap}:K_127h.e [x1] H=guardR ((decA (α:=Bool) H x1).1) (peekR (True) (.d (.int .i64 (if (decA (α:=Bool) H x1).2=true then 1 else 0))) ([]) H):=rfl
theorem l1Bool_c (b:Bool):PureP Try.prog 129 [.d (.bool b)] (· = .d (.int .i64 (if b=true then 1 else 0))):=by
  cases b
  · refine pure_of Try.func129 en_129 rfl rfl (W_run mixed ⟨[],[],[],4,0,[0,2,3],[3]⟩ (fun _=>[]) (by kernel_rfl) ?_)
    simp only [Try.f129,stripX,stripOps,pickOps]
    simp []
  · refine pure_of Try.func129 en_129 rfl rfl (W_run mixed ⟨[],[],[],4,0,[0,2,3],[3]⟩ (fun _=>[]) (by kernel_rfl) ?_)
    simp only [Try.f129,stripX,stripOps,pickOps]
    simp []
noncomputable def K_129:Ent Try.prog:=Ent.p1 (α:=Bool) 129 (fun b=>True) (fun b=>.d (.int .i64 (if b=true then 1 else 0))) (fun b hc=>l1Bool_c b)
theorem K_129_f:K_129.f=129:=rfl
theorem K_129_e (b:Bool):K_129.e [.d (.bool b)]=some (True,.d (.int .i64 (if b=true then 1 else 0)),[]):=by unfold K_129;exact Ent.p1_eq (α:=Bool) b
noncomputable def K_129h:EntH Try.prog:=EntH.pk1 (α:=Bool) 129 (fun b=>True) (fun b=>.d (.int .i64 (if b=true then 1 else 0))) (fun b=>[]) (fun b hc=>PureP.ans (l1Bool_c b))
theorem K_129h_f:K_129h.f=129:=rfl
theorem K_129h_g:K_129h.gro=true:=rfl
theorem K_129h_e {x1:V} {H:Heap}:K_129h.e [x1] H=guardR ((decA (α:=Bool) H x1).1) (peekR (True) (.d (.int .i64 (if (decA (α:=Bool) H x1).2=true then 1 else 0))) ([]) H):=rfl
theorem l1Div_c (a b:Int) (h:b ≠ 0):PureP Try.prog 128 [.d (.int .i64 a),.d (.int .i64 b)] (· = .d (.int .i64 (IntKind.i64.wrap (a.tdiv b)))):=by
  by_cases h1:b = -1
  · subst h1
    refine pure_of Try.func128 en_128 rfl rfl (W_run mixed ⟨[],[],[],12,0,[0,1,4,6],[6]⟩ (fun _=>[]) (by kernel_rfl) ?_)
    simp only [Try.f128,stripX,stripOps,pickOps]
    simp []
  · refine pure_of Try.func128 en_128 rfl rfl (W_run mixed ⟨[],[],[],12,0,[0,1,4,6],[6]⟩ (fun _=>[]) (by kernel_rfl) ?_)
    simp only [Try.f128,stripX,stripOps,pickOps]
    simp [h,h1]
noncomputable def K_128:Ent Try.prog:=Ent.p2 (α:=Int) (β:=Int) 128 (fun a b=>b ≠ 0) (fun a b=>.d (.int .i64 (IntKind.i64.wrap (a.tdiv b)))) (fun a b hc=>l1Div_c a b hc)
theorem K_128_f:K_128.f=128:=rfl
theorem K_128_e (a:Int) (b:Int):K_128.e [.d (.int .i64 a),.d (.int .i64 b)]=some (b ≠ 0,.d (.int .i64 (IntKind.i64.wrap (a.tdiv b))),[]):=by unfold K_128;exact Ent.p2_eq (α:=Int) (β:=Int) a b
noncomputable def K_128h:EntH Try.prog:=EntH.pk2 (α:=Int) (β:=Int) 128 (fun a b=>b ≠ 0) (fun a b=>.d (.int .i64 (IntKind.i64.wrap (a.tdiv b)))) (fun a b=>[]) (fun a b hc=>PureP.ans (l1Div_c a b hc))
theorem K_128h_f:K_128h.f=128:=rfl
theorem K_128h_g:K_128h.gro=true:=rfl
theorem K_128h_e {x1 x2:V} {H:Heap}:K_128h.e [x1,x2] H=guardR ((decA (α:=Int) H x1).1∧(decA (α:=Int) H x2).1) (peekR ((decA (α:=Int) H x2).2 ≠ 0) (.d (.int .i64 (IntKind.i64.wrap ((decA (α:=Int) H x1).2.tdiv (decA (α:=Int) H x2).2)))) ([]) H):=rfl
def okOp (op:Int) (x:List Int):Prop:=(op=3∧x.length=1)∨((op=4∨op=5∨op=6∨op=7∨op=8∨op=9∨op=10)∧x.length=2)∨(op=11∧x.length=3)
theorem len2 {x:List Int} (h:x.length=2):∃ a b,x=[a,b]:=by
  match x,h with
  | [a,b],_=>exact ⟨a,b,rfl⟩
theorem len3 {x:List Int} (h:x.length=3):∃ a b c,x=[a,b,c]:=by
  match x,h with
  | [a,b,c],_=>exact ⟨a,b,c,rfl⟩
theorem doOp_c (op : Int) (x : List Int) (h : okOp op x) : PureP Try.prog 121 [.d (.int .i64 op), .d (dIntS x)] (· = .tup [.d (.int .i64 (opNr op x)), .d (.bool (opTr op x))]) := by
  rcases h with ⟨rfl,hx⟩ | ⟨ho,hx⟩ | ⟨rfl,hx⟩
  · obtain ⟨a,rfl⟩:=List.length_eq_one_iff.1 hx
    refine pure_of Try.func121 en_121 rfl rfl (W_run mixed ⟨[K_127],[K_127h],[],94,0,[0,1,4,5,6,7,13,22,31,40,51,56,64,74,87],[7,13,22,31,40,51,56,64,74,87]⟩ (fun | 5=>[0,1,3,4,2,5,6,7,8] | 7=>[0,1,3,4,2,5,6,7,8] | 9=>[0,1,3,4,2,5,6,7,8] | 11=>[0,1,3,4,2,5,6,7,8,9,10] | 15=>[0,1,3,4,2,5,6,7,8] | 17=>[0,1,3,4,2,5,6,7,8,9] | 19=>[0,1,3,4,2,5,6,7,8,9] | _=>[]) (by kernel_rfl) ?_)
    simp only [Try.f121,stripX,stripOps,pickOps]
    simp [K_127_f,K_127_e,K_127h_f,K_127h_e,K_127h_g]
    simp [opNr,opTr]
  · obtain ⟨a,b,rfl⟩:=len2 hx
    rcases ho with rfl | rfl | rfl | rfl | rfl | rfl | rfl
    · refine pure_of Try.func121 en_121 rfl rfl (W_run mixed ⟨[K_127],[K_127h],[],94,0,[0,1,4,5,6,7,13,22,31,40,51,56,64,74,87],[7,13,22,31,40,51,56,64,74,87]⟩ (fun | 5=>[0,1,3,4,2,5,6,7,8] | 7=>[0,1,3,4,2,5,6,7,8] | 9=>[0,1,3,4,2,5,6,7,8] | 11=>[0,1,3,4,2,5,6,7,8,9,10] | 15=>[0,1,3,4,2,5,6,7,8] | 17=>[0,1,3,4,2,5,6,7,8,9] | 19=>[0,1,3,4,2,5,6,7,8,9] | _=>[]) (by kernel_rfl) ?_)
      simp only [Try.f121,stripX,stripOps,pickOps]
      simp [K_127_f,K_127_e,K_127h_f,K_127h_e,K_127h_g]
      simp [opNr,opTr]
    · refine pure_of Try.func121 en_121 rfl rfl (W_run mixed ⟨[K_127],[K_127h],[],94,0,[0,1,4,5,6,7,13,22,31,40,51,56,64,74,87],[7,13,22,31,40,51,56,64,74,87]⟩ (fun | 5=>[0,1,3,4,2,5,6,7,8] | 7=>[0,1,3,4,2,5,6,7,8] | 9=>[0,1,3,4,2,5,6,7,8] | 11=>[0,1,3,4,2,5,6,7,8,9,10] | 15=>[0,1,3,4,2,5,6,7,8] | 17=>[0,1,3,4,2,5,6,7,8,9] | 19=>[0,1,3,4,2,5,6,7,8,9] | _=>[]) (by kernel_rfl) ?_)
      simp only [Try.f121,stripX,stripOps,pickOps]
      simp [K_127_f,K_127_e,K_127h_f,K_127h_e,K_127h_g]
      simp [opNr,opTr]
    · refine pure_of Try.func121 en_121 rfl rfl (W_run mixed ⟨[K_127],[K_127h],[],94,0,[0,1,4,5,6,7,13,22,31,40,51,56,64,74,87],[7,13,22,31,40,51,56,64,74,87]⟩ (fun | 5=>[0,1,3,4,2,5,6,7,8] | 7=>[0,1,3,4,2,5,6,7,8] | 9=>[0,1,3,4,2,5,6,7,8] | 11=>[0,1,3,4,2,5,6,7,8,9,10] | 15=>[0,1,3,4,2,5,6,7,8] | 17=>[0,1,3,4,2,5,6,7,8,9] | 19=>[0,1,3,4,2,5,6,7,8,9] | _=>[]) (by kernel_rfl) ?_)
      simp only [Try.f121,stripX,stripOps,pickOps]
      simp [K_127_f,K_127_e,K_127h_f,K_127h_e,K_127h_g]
      simp [opNr,opTr]
    · have h0:¬ b % 64 < 0:=by omega
      have h1:min (b % 64).toNat IntKind.i64.bits=(b % 64).toNat:=by show min _ 64=_;omega
      refine pure_of Try.func121 en_121 rfl rfl (W_run mixed ⟨[K_127],[K_127h],[],94,0,[0,1,4,5,6,7,13,22,31,40,51,56,64,74,87],[7,13,22,31,40,51,56,64,74,87]⟩ (fun | 5=>[0,1,3,4,2,5,6,7,8] | 7=>[0,1,3,4,2,5,6,7,8] | 9=>[0,1,3,4,2,5,6,7,8] | 11=>[0,1,3,4,2,5,6,7,8,9,10] | 15=>[0,1,3,4,2,5,6,7,8] | 17=>[0,1,3,4,2,5,6,7,8,9] | 19=>[0,1,3,4,2,5,6,7,8,9] | _=>[]) (by kernel_rfl) ?_)
      simp only [Try.f121,stripX,stripOps,pickOps]
      simp [K_127_f,K_127_e,K_127h_f,K_127h_e,K_127h_g,u64_mod,and63,h0,h1]
      simp [opNr,opTr]
    · by_cases hb:b=0
      · refine pure_of Try.func121 en_121 rfl rfl (W_run mixed ⟨[K_127],[K_127h],[],94,0,[0,1,4,5,6,7,13,22,31,40,51,56,64,74,87],[7,13,22,31,40,51,56,64,74,87]⟩ (fun | 5=>[0,1,3,4,2,5,6,7,8] | 7=>[0,1,3,4,2,5,6,7,8] | 9=>[0,1,3,4,2,5,6,7,8] | 11=>[0,1,3,4,2,5,6,7,8,9,10] | 15=>[0,1,3,4,2,5,6,7,8] | 17=>[0,1,3,4,2,5,6,7,8,9] | 19=>[0,1,3,4,2,5,6,7,8,9] | _=>[]) (by kernel_rfl) ?_)
        simp only [Try.f121,stripX,stripOps,pickOps]
        simp [K_127_f,K_127_e,K_127h_f,K_127h_e,K_127h_g,hb]
        simp [opNr,opTr,hb]
      · refine pure_of Try.func121 en_121 rfl rfl (W_run mixed ⟨[K_127],[K_127h],[],94,0,[0,1,4,5,6,7,13,22,31,40,51,56,64,74,87],[7,13,22,31,40,51,56,64,74,87]⟩ (fun | 5=>[0,1,3,4,2,5,6,7,8] | 7=>[0,1,3,4,2,5,6,7,8] | 9=>[0,1,3,4,2,5,6,7,8] | 11=>[0,1,3,4,2,5,6,7,8,9,10] | 15=>[0,1,3,4,2,5,6,7,8] | 17=>[0,1,3,4,2,5,6,7,8,9] | 19=>[0,1,3,4,2,5,6,7,8,9] | _=>[]) (by kernel_rfl) ?_)
        simp only [Try.f121,stripX,stripOps,pickOps]
        simp [K_127_f,K_127_e,K_127h_f,K_127h_e,K_127h_g,hb]
        simp [opNr,opTr,hb]
    · by_cases hb:a=b
      · refine pure_of Try.func121 en_121 rfl rfl (W_run mixed ⟨[K_127],[K_127h],[],94,0,[0,1,4,5,6,7,13,22,31,40,51,56,64,74,87],[7,13,22,31,40,51,56,64,74,87]⟩ (fun | 5=>[0,1,3,4,2,5,6,7,8] | 7=>[0,1,3,4,2,5,6,7,8] | 9=>[0,1,3,4,2,5,6,7,8] | 11=>[0,1,3,4,2,5,6,7,8,9,10] | 15=>[0,1,3,4,2,5,6,7,8] | 17=>[0,1,3,4,2,5,6,7,8,9] | 19=>[0,1,3,4,2,5,6,7,8,9] | _=>[]) (by kernel_rfl) ?_)
        simp only [Try.f121,stripX,stripOps,pickOps]
        simp [K_127_f,K_127_e,K_127h_f,K_127h_e,K_127h_g,hb]
        simp [opNr,opTr,hb]
      · refine pure_of Try.func121 en_121 rfl rfl (W_run mixed ⟨[K_127],[K_127h],[],94,0,[0,1,4,5,6,7,13,22,31,40,51,56,64,74,87],[7,13,22,31,40,51,56,64,74,87]⟩ (fun | 5=>[0,1,3,4,2,5,6,7,8] | 7=>[0,1,3,4,2,5,6,7,8] | 9=>[0,1,3,4,2,5,6,7,8] | 11=>[0,1,3,4,2,5,6,7,8,9,10] | 15=>[0,1,3,4,2,5,6,7,8] | 17=>[0,1,3,4,2,5,6,7,8,9] | 19=>[0,1,3,4,2,5,6,7,8,9] | _=>[]) (by kernel_rfl) ?_)
        simp only [Try.f121,stripX,stripOps,pickOps]
        simp [K_127_f,K_127_e,K_127h_f,K_127h_e,K_127h_g,hb]
        simp [opNr,opTr,hb]
    · by_cases hb:a < b
      · refine pure_of Try.func121 en_121 rfl rfl (W_run mixed ⟨[K_127],[K_127h],[],94,0,[0,1,4,5,6,7,13,22,31,40,51,56,64,74,87],[7,13,22,31,40,51,56,64,74,87]⟩ (fun | 5=>[0,1,3,4,2,5,6,7,8] | 7=>[0,1,3,4,2,5,6,7,8] | 9=>[0,1,3,4,2,5,6,7,8] | 11=>[0,1,3,4,2,5,6,7,8,9,10] | 15=>[0,1,3,4,2,5,6,7,8] | 17=>[0,1,3,4,2,5,6,7,8,9] | 19=>[0,1,3,4,2,5,6,7,8,9] | _=>[]) (by kernel_rfl) ?_)
        simp only [Try.f121,stripX,stripOps,pickOps]
        simp [K_127_f,K_127_e,K_127h_f,K_127h_e,K_127h_g,hb]
        simp [opNr,opTr,hb]
      · refine pure_of Try.func121 en_121 rfl rfl (W_run mixed ⟨[K_127],[K_127h],[],94,0,[0,1,4,5,6,7,13,22,31,40,51,56,64,74,87],[7,13,22,31,40,51,56,64,74,87]⟩ (fun | 5=>[0,1,3,4,2,5,6,7,8] | 7=>[0,1,3,4,2,5,6,7,8] | 9=>[0,1,3,4,2,5,6,7,8] | 11=>[0,1,3,4,2,5,6,7,8,9,10] | 15=>[0,1,3,4,2,5,6,7,8] | 17=>[0,1,3,4,2,5,6,7,8,9] | 19=>[0,1,3,4,2,5,6,7,8,9] | _=>[]) (by kernel_rfl) ?_)
        simp only [Try.f121,stripX,stripOps,pickOps]
        simp [K_127_f,K_127_e,K_127h_f,K_127h_e,K_127h_g,hb]
        simp [opNr,opTr,hb]
  · obtain ⟨a,b,c,rfl⟩:=len3 hx
    by_cases ha:a=0
    · refine pure_of Try.func121 en_121 rfl rfl (W_run mixed ⟨[K_127],[K_127h],[],94,0,[0,1,4,5,6,7,13,22,31,40,51,56,64,74,87],[7,13,22,31,40,51,56,64,74,87]⟩ (fun | 5=>[0,1,3,4,2,5,6,7,8] | 7=>[0,1,3,4,2,5,6,7,8] | 9=>[0,1,3,4,2,5,6,7,8] | 11=>[0,1,3,4,2,5,6,7,8,9,10] | 15=>[0,1,3,4,2,5,6,7,8] | 17=>[0,1,3,4,2,5,6,7,8,9] | 19=>[0,1,3,4,2,5,6,7,8,9] | _=>[]) (by kernel_rfl) ?_)
      simp only [Try.f121,stripX,stripOps,pickOps]
      simp [K_127_f,K_127_e,K_127h_f,K_127h_e,K_127h_g,ha]
      simp [opNr,opTr,ha]
    · refine pure_of Try.func121 en_121 rfl rfl (W_run mixed ⟨[K_127],[K_127h],[],94,0,[0,1,4,5,6,7,13,22,31,40,51,56,64,74,87],[7,13,22,31,40,51,56,64,74,87]⟩ (fun | 5=>[0,1,3,4,2,5,6,7,8] | 7=>[0,1,3,4,2,5,6,7,8] | 9=>[0,1,3,4,2,5,6,7,8] | 11=>[0,1,3,4,2,5,6,7,8,9,10] | 15=>[0,1,3,4,2,5,6,7,8] | 17=>[0,1,3,4,2,5,6,7,8,9] | 19=>[0,1,3,4,2,5,6,7,8,9] | _=>[]) (by kernel_rfl) ?_)
      simp only [Try.f121,stripX,stripOps,pickOps]
      simp [K_127_f,K_127_e,K_127h_f,K_127h_e,K_127h_g,ha]
      simp [opNr,opTr,ha]
noncomputable def K_121:Ent Try.prog:=Ent.p2 (α:=Int) (β:=List Int) 121 (fun op x=>okOp op x) (fun op x=>.tup [.d (.int .i64 (opNr op x)),.d (.bool (opTr op x))]) (fun op x hc=>doOp_c op x hc)
theorem K_121_f:K_121.f=121:=rfl
theorem K_121_e (op:Int) (x:List Int):K_121.e [.d (.int .i64 op),.d (dIntS x)]=some (okOp op x,.tup [.d (.int .i64 (opNr op x)),.d (.bool (opTr op x))],[]):=by unfold K_121;exact Ent.p2_eq (α:=Int) (β:=List Int) op x
noncomputable def K_121h:EntH Try.prog:=EntH.pk2 (α:=Int) (β:=List Int) 121 (fun op x=>okOp op x) (fun op x=>.tup [.d (.int .i64 (opNr op x)),.d (.bool (opTr op x))]) (fun op x=>[]) (fun op x hc=>PureP.ans (doOp_c op x hc))
theorem K_121h_f:K_121h.f=121:=rfl
theorem K_121h_g:K_121h.gro=true:=rfl
theorem K_121h_e {x1 x2:V} {H:Heap}:K_121h.e [x1,x2] H=guardR ((decA (α:=Int) H x1).1∧(decA (α:=List Int) H x2).1) (peekR (okOp (decA (α:=Int) H x1).2 (decA (α:=List Int) H x2).2) (.tup [.d (.int .i64 (opNr (decA (α:=Int) H x1).2 (decA (α:=List Int) H x2).2)),.d (.bool (opTr (decA (α:=Int) H x1).2 (decA (α:=List Int) H x2).2))]) ([]) H):=rfl
theorem l1Do_c (op : Int) (x : List Int) (h : okOp op x) : PureP Try.prog 122 [.d (.int .i64 op), .d (dIntS x)] (· = .tup [.d (.int .i64 (opNr op x)), .d (.bool (opTr op x))]) := by
  rcases h with ⟨rfl,hx⟩ | ⟨ho,hx⟩ | ⟨rfl,hx⟩
  · obtain ⟨a,rfl⟩:=List.length_eq_one_iff.1 hx
    refine pure_of Try.func122 en_122 rfl rfl (W_run mixed ⟨[K_128,K_129],[K_128h,K_129h],[],94,0,[0,1,4,5,6,7,13,22,31,40,51,56,64,74,87],[7,13,22,31,40,51,56,64,74,87]⟩ (fun | 5=>[0,1,3,4,2,5,6,7,8] | 7=>[0,1,3,4,2,5,6,7,8] | 9=>[0,1,3,4,2,5,6,7,8] | 11=>[0,1,3,4,2,5,6,7,8,9,10] | 15=>[0,1,3,4,2,5,6,7,8] | 17=>[0,1,3,4,2,5,6,7,8,9] | 19=>[0,1,3,4,2,5,6,7,8,9] | _=>[]) (by kernel_rfl) ?_)
    simp only [Try.f122,stripX,stripOps,pickOps]
    simp [K_128_f,K_128_e,K_129_f,K_129_e,K_128h_f,K_128h_e,K_129h_f,K_129h_e,K_128h_g,K_129h_g]
    simp [opNr,opTr]
  · obtain ⟨a,b,rfl⟩:=len2 hx
    rcases ho with rfl | rfl | rfl | rfl | rfl | rfl | rfl
    · refine pure_of Try.func122 en_122 rfl rfl (W_run mixed ⟨[K_128,K_129],[K_128h,K_129h],[],94,0,[0,1,4,5,6,7,13,22,31,40,51,56,64,74,87],[7,13,22,31,40,51,56,64,74,87]⟩ (fun | 5=>[0,1,3,4,2,5,6,7,8] | 7=>[0,1,3,4,2,5,6,7,8] | 9=>[0,1,3,4,2,5,6,7,8] | 11=>[0,1,3,4,2,5,6,7,8,9,10] | 15=>[0,1,3,4,2,5,6,7,8] | 17=>[0,1,3,4,2,5,6,7,8,9] | 19=>[0,1,3,4,2,5,6,7,8,9] | _=>[]) (by kernel_rfl) ?_)
      simp only [Try.f122,stripX,stripOps,pickOps]
      simp [K_128_f,K_128_e,K_129_f,K_129_e,K_128h_f,K_128h_e,K_129h_f,K_129h_e,K_128h_g,K_129h_g]
      simp [opNr,opTr]
    · refine pure_of Try.func122 en_122 rfl rfl (W_run mixed ⟨[K_128,K_129],[K_128h,K_129h],[],94,0,[0,1,4,5,6,7,13,22,31,40,51,56,64,74,87],[7,13,22,31,40,51,56,64,74,87]⟩ (fun | 5=>[0,1,3,4,2,5,6,7,8] | 7=>[0,1,3,4,2,5,6,7,8] | 9=>[0,1,3,4,2,5,6,7,8] | 11=>[0,1,3,4,2,5,6,7,8,9,10] | 15=>[0,1,3,4,2,5,6,7,8] | 17=>[0,1,3,4,2,5,6,7,8,9] | 19=>[0,1,3,4,2,5,6,7,8,9] | _=>[]) (by kernel_rfl) ?_)
      simp only [Try.f122,stripX,stripOps,pickOps]
      simp [K_128_f,K_128_e,K_129_f,K_129_e,K_128h_f,K_128h_e,K_129h_f,K_129h_e,K_128h_g,K_129h_g]
      simp [opNr,opTr]
    · refine pure_of Try.func122 en_122 rfl rfl (W_run mixed ⟨[K_128,K_129],[K_128h,K_129h],[],94,0,[0,1,4,5,6,7,13,22,31,40,51,56,64,74,87],[7,13,22,31,40,51,56,64,74,87]⟩ (fun | 5=>[0,1,3,4,2,5,6,7,8] | 7=>[0,1,3,4,2,5,6,7,8] | 9=>[0,1,3,4,2,5,6,7,8] | 11=>[0,1,3,4,2,5,6,7,8,9,10] | 15=>[0,1,3,4,2,5,6,7,8] | 17=>[0,1,3,4,2,5,6,7,8,9] | 19=>[0,1,3,4,2,5,6,7,8,9] | _=>[]) (by kernel_rfl) ?_)
      simp only [Try.f122,stripX,stripOps,pickOps]
      simp [K_128_f,K_128_e,K_129_f,K_129_e,K_128h_f,K_128h_e,K_129h_f,K_129h_e,K_128h_g,K_129h_g]
      simp [opNr,opTr]
    · have h0:¬ b % 64 < 0:=by omega
      have h1:min (b % 64).toNat IntKind.i64.bits=(b % 64).toNat:=by show min _ 64=_;omega
      refine pure_of Try.func122 en_122 rfl rfl (W_run mixed ⟨[K_128,K_129],[K_128h,K_129h],[],94,0,[0,1,4,5,6,7,13,22,31,40,51,56,64,74,87],[7,13,22,31,40,51,56,64,74,87]⟩ (fun | 5=>[0,1,3,4,2,5,6,7,8] | 7=>[0,1,3,4,2,5,6,7,8] | 9=>[0,1,3,4,2,5,6,7,8] | 11=>[0,1,3,4,2,5,6,7,8,9,10] | 15=>[0,1,3,4,2,5,6,7,8] | 17=>[0,1,3,4,2,5,6,7,8,9] | 19=>[0,1,3,4,2,5,6,7,8,9] | _=>[]) (by kernel_rfl) ?_)
      simp only [Try.f122,stripX,stripOps,pickOps]
      simp [K_128_f,K_128_e,K_129_f,K_129_e,K_128h_f,K_128h_e,K_129h_f,K_129h_e,K_128h_g,K_129h_g,u64_mod,and63,h0,h1]
      simp [opNr,opTr]
    · by_cases hb:b=0
      · refine pure_of Try.func122 en_122 rfl rfl (W_run mixed ⟨[K_128,K_129],[K_128h,K_129h],[],94,0,[0,1,4,5,6,7,13,22,31,40,51,56,64,74,87],[7,13,22,31,40,51,56,64,74,87]⟩ (fun | 5=>[0,1,3,4,2,5,6,7,8] | 7=>[0,1,3,4,2,5,6,7,8] | 9=>[0,1,3,4,2,5,6,7,8] | 11=>[0,1,3,4,2,5,6,7,8,9,10] | 15=>[0,1,3,4,2,5,6,7,8] | 17=>[0,1,3,4,2,5,6,7,8,9] | 19=>[0,1,3,4,2,5,6,7,8,9] | _=>[]) (by kernel_rfl) ?_)
        simp only [Try.f122,stripX,stripOps,pickOps]
        simp [K_128_f,K_128_e,K_129_f,K_129_e,K_128h_f,K_128h_e,K_129h_f,K_129h_e,K_128h_g,K_129h_g,hb]
        simp [opNr,opTr,hb]
      · refine pure_of Try.func122 en_122 rfl rfl (W_run mixed ⟨[K_128,K_129],[K_128h,K_129h],[],94,0,[0,1,4,5,6,7,13,22,31,40,51,56,64,74,87],[7,13,22,31,40,51,56,64,74,87]⟩ (fun | 5=>[0,1,3,4,2,5,6,7,8] | 7=>[0,1,3,4,2,5,6,7,8] | 9=>[0,1,3,4,2,5,6,7,8] | 11=>[0,1,3,4,2,5,6,7,8,9,10] | 15=>[0,1,3,4,2,5,6,7,8] | 17=>[0,1,3,4,2,5,6,7,8,9] | 19=>[0,1,3,4,2,5,6,7,8,9] | _=>[]) (by kernel_rfl) ?_)
        simp only [Try.f122,stripX,stripOps,pickOps]
        simp [K_128_f,K_128_e,K_129_f,K_129_e,K_128h_f,K_128h_e,K_129h_f,K_129h_e,K_128h_g,K_129h_g,hb]
        simp [opNr,opTr,hb]
    · by_cases hb:a=b
      · refine pure_of Try.func122 en_122 rfl rfl (W_run mixed ⟨[K_128,K_129],[K_128h,K_129h],[],94,0,[0,1,4,5,6,7,13,22,31,40,51,56,64,74,87],[7,13,22,31,40,51,56,64,74,87]⟩ (fun | 5=>[0,1,3,4,2,5,6,7,8] | 7=>[0,1,3,4,2,5,6,7,8] | 9=>[0,1,3,4,2,5,6,7,8] | 11=>[0,1,3,4,2,5,6,7,8,9,10] | 15=>[0,1,3,4,2,5,6,7,8] | 17=>[0,1,3,4,2,5,6,7,8,9] | 19=>[0,1,3,4,2,5,6,7,8,9] | _=>[]) (by kernel_rfl) ?_)
        simp only [Try.f122,stripX,stripOps,pickOps]
        simp [K_128_f,K_128_e,K_129_f,K_129_e,K_128h_f,K_128h_e,K_129h_f,K_129h_e,K_128h_g,K_129h_g,hb]
        simp [opNr,opTr,hb]
      · refine pure_of Try.func122 en_122 rfl rfl (W_run mixed ⟨[K_128,K_129],[K_128h,K_129h],[],94,0,[0,1,4,5,6,7,13,22,31,40,51,56,64,74,87],[7,13,22,31,40,51,56,64,74,87]⟩ (fun | 5=>[0,1,3,4,2,5,6,7,8] | 7=>[0,1,3,4,2,5,6,7,8] | 9=>[0,1,3,4,2,5,6,7,8] | 11=>[0,1,3,4,2,5,6,7,8,9,10] | 15=>[0,1,3,4,2,5,6,7,8] | 17=>[0,1,3,4,2,5,6,7,8,9] | 19=>[0,1,3,4,2,5,6,7,8,9] | _=>[]) (by kernel_rfl) ?_)
        simp only [Try.f122,stripX,stripOps,pickOps]
        simp [K_128_f,K_128_e,K_129_f,K_129_e,K_128h_f,K_128h_e,K_129h_f,K_129h_e,K_128h_g,K_129h_g,hb]
        simp [opNr,opTr,hb]
    · by_cases hb:a < b
      · refine pure_of Try.func122 en_122 rfl rfl (W_run mixed ⟨[K_128,K_129],[K_128h,K_129h],[],94,0,[0,1,4,5,6,7,13,22,31,40,51,56,64,74,87],[7,13,22,31,40,51,56,64,74,87]⟩ (fun | 5=>[0,1,3,4,2,5,6,7,8] | 7=>[0,1,3,4,2,5,6,7,8] | 9=>[0,1,3,4,2,5,6,7,8] | 11=>[0,1,3,4,2,5,6,7,8,9,10] | 15=>[0,1,3,4,2,5,6,7,8] | 17=>[0,1,3,4,2,5,6,7,8,9] | 19=>[0,1,3,4,2,5,6,7,8,9] | _=>[]) (by kernel_rfl) ?_)
        simp only [Try.f122,stripX,stripOps,pickOps]
        simp [K_128_f,K_128_e,K_129_f,K_129_e,K_128h_f,K_128h_e,K_129h_f,K_129h_e,K_128h_g,K_129h_g,hb]
        simp [opNr,opTr,hb]
      · refine pure_of Try.func122 en_122 rfl rfl (W_run mixed ⟨[K_128,K_129],[K_128h,K_129h],[],94,0,[0,1,4,5,6,7,13,22,31,40,51,56,64,74,87],[7,13,22,31,40,51,56,64,74,87]⟩ (fun | 5=>[0,1,3,4,2,5,6,7,8] | 7=>[0,1,3,4,2,5,6,7,8] | 9=>[0,1,3,4,2,5,6,7,8] | 11=>[0,1,3,4,2,5,6,7,8,9,10] | 15=>[0,1,3,4,2,5,6,7,8] | 17=>[0,1,3,4,2,5,6,7,8,9] | 19=>[0,1,3,4,2,5,6,7,8,9] | _=>[]) (by kernel_rfl) ?_)
        simp only [Try.f122,stripX,stripOps,pickOps]
        simp [K_128_f,K_128_e,K_129_f,K_129_e,K_128h_f,K_128h_e,K_129h_f,K_129h_e,K_128h_g,K_129h_g,hb]
        simp [opNr,opTr,hb]
  · obtain ⟨a,b,c,rfl⟩:=len3 hx
    by_cases ha:a=0
    · refine pure_of Try.func122 en_122 rfl rfl (W_run mixed ⟨[K_128,K_129],[K_128h,K_129h],[],94,0,[0,1,4,5,6,7,13,22,31,40,51,56,64,74,87],[7,13,22,31,40,51,56,64,74,87]⟩ (fun | 5=>[0,1,3,4,2,5,6,7,8] | 7=>[0,1,3,4,2,5,6,7,8] | 9=>[0,1,3,4,2,5,6,7,8] | 11=>[0,1,3,4,2,5,6,7,8,9,10] | 15=>[0,1,3,4,2,5,6,7,8] | 17=>[0,1,3,4,2,5,6,7,8,9] | 19=>[0,1,3,4,2,5,6,7,8,9] | _=>[]) (by kernel_rfl) ?_)
      simp only [Try.f122,stripX,stripOps,pickOps]
      simp [K_128_f,K_128_e,K_129_f,K_129_e,K_128h_f,K_128h_e,K_129h_f,K_129h_e,K_128h_g,K_129h_g,ha]
      simp [opNr,opTr,ha]
    · refine pure_of Try.func122 en_122 rfl rfl (W_run mixed ⟨[K_128,K_129],[K_128h,K_129h],[],94,0,[0,1,4,5,6,7,13,22,31,40,51,56,64,74,87],[7,13,22,31,40,51,56,64,74,87]⟩ (fun | 5=>[0,1,3,4,2,5,6,7,8] | 7=>[0,1,3,4,2,5,6,7,8] | 9=>[0,1,3,4,2,5,6,7,8] | 11=>[0,1,3,4,2,5,6,7,8,9,10] | 15=>[0,1,3,4,2,5,6,7,8] | 17=>[0,1,3,4,2,5,6,7,8,9] | 19=>[0,1,3,4,2,5,6,7,8,9] | _=>[]) (by kernel_rfl) ?_)
      simp only [Try.f122,stripX,stripOps,pickOps]
      simp [K_128_f,K_128_e,K_129_f,K_129_e,K_128h_f,K_128h_e,K_129h_f,K_129h_e,K_128h_g,K_129h_g,ha]
      simp [opNr,opTr,ha]
noncomputable def K_122:Ent Try.prog:=Ent.p2 (α:=Int) (β:=List Int) 122 (fun op x=>okOp op x) (fun op x=>.tup [.d (.int .i64 (opNr op x)),.d (.bool (opTr op x))]) (fun op x hc=>l1Do_c op x hc)
theorem K_122_f:K_122.f=122:=rfl
theorem K_122_e (op:Int) (x:List Int):K_122.e [.d (.int .i64 op),.d (dIntS x)]=some (okOp op x,.tup [.d (.int .i64 (opNr op x)),.d (.bool (opTr op x))],[]):=by unfold K_122;exact Ent.p2_eq (α:=Int) (β:=List Int) op x
noncomputable def K_122h:EntH Try.prog:=EntH.pk2 (α:=Int) (β:=List Int) 122 (fun op x=>okOp op x) (fun op x=>.tup [.d (.int .i64 (opNr op x)),.d (.bool (opTr op x))]) (fun op x=>[]) (fun op x hc=>PureP.ans (l1Do_c op x hc))
theorem K_122h_f:K_122h.f=122:=rfl
theorem K_122h_g:K_122h.gro=true:=rfl
theorem K_122h_e {x1 x2:V} {H:Heap}:K_122h.e [x1,x2] H=guardR ((decA (α:=Int) H x1).1∧(decA (α:=List Int) H x2).1) (peekR (okOp (decA (α:=Int) H x1).2 (decA (α:=List Int) H x2).2) (.tup [.d (.int .i64 (opNr (decA (α:=Int) H x1).2 (decA (α:=List Int) H x2).2)),.d (.bool (opTr (decA (α:=Int) H x1).2 (decA (α:=List Int) H x2).2))]) ([]) H):=rfl
theorem good_inst {F:Func} (h:goodF F=true) {b:Block} (hb:b∈F.blocks_) {x:Inst} (hx:x∈b.insts_):(x.args_.length:Int)=arity x.op_∧∀ n∈x.args_,0≤n∧n < many F:=by
  have h1:=List.all_eq_true.1 (goodF_body h hb).1 x hx
  simp only [instOk,Bool.and_eq_true,decide_eq_true_eq] at h1
  exact ⟨h1.2.1,((good_vals h hb).2.1 x hx).2⟩
end Go.Proofs.Ytnomiclfiijniaa
end
