/- The program's text of a tree. No condition. -/
import Derived.Test.YtbacilgolfojaaaDoorQS171
section
namespace Go.Proofs.YtbacilgolfojaaaDoor
set_option maxRecDepth 100000
set_option linter.unusedSimpArgs false
set_option linter.unusedVariables false
inductive T where
  | leaf (op n:Int)
  | un (a:T)
  | bi (op:Int) (a b:T)
  | tri (a b c:T)
  deriving Inhabited
def ndF (op n:Int) (ks:List D):Nat→D
  | 0=>.int .i64 op
  | 1=>.int .i64 n
  | _=>.ro 1 ks.length fun i _=>(ks[i]?).getD .undef
@[simp] theorem ndF_0 (op n:Int) (ks:List D):ndF op n ks 0=.int .i64 op:=rfl
@[simp] theorem ndF_1 (op n:Int) (ks:List D):ndF op n ks 1=.int .i64 n:=rfl
@[simp] theorem ndF_2 (op n:Int) (ks:List D):ndF op n ks 2=.ro 1 ks.length fun i _=>(ks[i]?).getD .undef:=rfl
def ndD (op n:Int) (ks:List D):D:=.rp 3 (ndF op n ks)
def encT:T→D
  | .leaf op n=>ndD op n []
  | .un a=>ndD 3 0 [encT a]
  | .bi op a b=>ndD op 0 [encT a,encT b]
  | .tri a b c=>ndD 11 0 [encT a,encT b,encT c]
theorem ndD_inj {op n op' n':Int} {ks ks':List D} (h:ndD op n ks=ndD op' n' ks'):op=op'∧n=n'∧ks=ks':=by
  simp only [ndD,D.rp.injEq,true_and] at h
  have h0:=congrFun h 0
  have h1:=congrFun h 1
  have h2:=congrFun h 2
  simp only [ndF_0,ndF_1,ndF_2,D.int.injEq,D.ro.injEq,true_and] at h0 h1 h2
  refine ⟨h0,h1,List.ext_getElem? fun i=>?_⟩
  by_cases hi:i < ks.length
  · have q:=congrFun (congrFun h2.2 i) 0
    rw [List.getElem?_eq_getElem hi,List.getElem?_eq_getElem (by omega)] at q ⊢
    exact congrArg some q
  · rw [List.getElem?_eq_none (by omega),List.getElem?_eq_none (by omega)]
theorem encT_inj:∀ {a b:T},encT a=encT b→a=b
  | .leaf op n,b,h=>by
    cases b <;> simp only [encT] at h <;> obtain ⟨q1,q2,q3⟩:=ndD_inj h <;> simp at q3
    rw [q1,q2]
  | .un a,b,h=>by
    cases b <;> simp only [encT] at h <;> obtain ⟨q1,q2,q3⟩:=ndD_inj h <;> simp at q3
    rw [encT_inj q3]
  | .bi op a a2,b,h=>by
    cases b <;> simp only [encT] at h <;> obtain ⟨q1,q2,q3⟩:=ndD_inj h <;> simp at q3
    rw [q1,encT_inj q3.1,encT_inj q3.2]
  | .tri a a2 a3,b,h=>by
    cases b <;> simp only [encT] at h <;> obtain ⟨q1,q2,q3⟩:=ndD_inj h <;> simp at q3
    rw [encT_inj q3.1,encT_inj q3.2.1,encT_inj q3.2.2]
open Classical in
noncomputable def unT (x:D):T:=if h:∃ t,encT t=x then Classical.choose h else default
theorem unT_of (t:T):unT (encT t)=t:=by
  have h:∃ t',encT t'=encT t:=⟨t,rfl⟩
  unfold unT
  rw [dif_pos h]
  exact encT_inj (Classical.choose_spec h)
@[reducible] noncomputable instance encTI:Enc T where
  size:=1
  agg:=false
  cells t _:=encT t
  good t:=True
  un f:=unT (f 0)
  un_of a f h:=by rw [h 0 (by omega)];exact unT_of a
instance:Shaped T:=⟨fun _=>rfl⟩
instance:One T:=⟨rfl,rfl⟩
@[reducible] noncomputable instance decT:Dec T where
  dec _ l:=match l with
    | [.d x]=>(∃ t,encT t=x,unT x)
    | _=>(False,default)
  ok H l h X w φ xs hs hv:=by
    split at h
    · rename_i x
      obtain ⟨t,rfl⟩:=h
      obtain ⟨v,vs',rfl,h2,h3⟩:=hv
      have:vs'=[]:=h3
      subst this
      refine ⟨rfl,fun j u hu=>?_⟩
      match j,hu with
      | 0,hu =>
        simp at hu
        subst hu
        show DS w X (encT (unT (encT t))) v
        rw [unT_of]
        exact DS.keeps (w:=w) (own:=owned X φ H) (fun b _ hn=>⟨rfl,fun q=>hn (.inl q)⟩) _ _ h2
    · exact h.elim
def T.nodes:T→Nat
  | .leaf _ _=>1
  | .un a=>a.nodes + 1
  | .bi _ a b=>a.nodes + b.nodes + 1
  | .tri a b c=>a.nodes + b.nodes + c.nodes + 1
theorem T.nodes_pos:∀ t:T,0 < t.nodes
  | .leaf _ _=>by simp [T.nodes]
  | .un a=>by simp [T.nodes]
  | .bi _ a b=>by simp [T.nodes]
  | .tri a b c=>by simp [T.nodes]
def T.ok:T→Prop
  | .leaf op n=>(op=1∧Enc.good n)∨(op=2∧0≤n∧n < 4)
  | .un a=>a.ok
  | .bi op a b=>(4≤op∧op≤10)∧a.ok∧b.ok
  | .tri a b c=>a.ok∧b.ok∧c.ok
def signB (op:Int):ByteArray :=
  if op=4 then ⟨#[43]⟩ else if op=5 then ⟨#[45]⟩ else if op=6 then ⟨#[42]⟩ else if op=7 then ⟨#[60,60]⟩ else if op=8 then ⟨#[47]⟩ else if op=9 then ⟨#[61,61]⟩ else if op=10 then ⟨#[60]⟩ else ⟨#[]⟩
def textB:T→ByteArray
  | .leaf op n=>if op=1 then numB n else ⟨#[UInt8.ofNat (97 + n).toNat]⟩
  | .un a=>⟨#[126]⟩++textB a
  | .bi op a b=>(⟨#[40]⟩++textB a)++signB op++textB b++⟨#[41]⟩
  | .tri a b c=>(⟨#[40]⟩++textB a)++⟨#[63]⟩++textB b++⟨#[58]⟩++textB c++⟨#[41]⟩
theorem signB_len (op:Int):(signB op).size≤2:=by
  unfold signB
  repeat' split
  all_goals decide
theorem textB_len:∀ t:T,t.ok→(textB t).size≤24 * t.nodes
  | .leaf op n,h=>by
    unfold textB T.nodes
    split
    · rcases h with h | h
      · have:=numB_len h.2;omega
      · omega
    · show 1≤_;omega
  | .un a,h=>by
    have:=textB_len a h
    simp only [textB,ByteArray.size_append,T.nodes]
    show 1 + _≤_
    omega
  | .bi op a b,h=>by
    have h1:=textB_len a h.2.1
    have h2:=textB_len b h.2.2
    have h3:=signB_len op
    simp only [textB,ByteArray.size_append,T.nodes]
    show 1 + _ + _ + _ + 1≤_
    omega
  | .tri a b c,h=>by
    have h1:=textB_len a h.1
    have h2:=textB_len b h.2.1
    have h3:=textB_len c h.2.2
    simp only [textB,ByteArray.size_append,T.nodes]
    show 1 + _ + 1 + _ + 1 + _ + 1≤_
    omega
theorem signI_c (op:Int):PureP Tryd.prog 30 [.d (.int .i64 op)] (· = .d (.str (signB op))):=by
  refine pure_of Tryd.func30 en_30 rfl rfl (W_run mixed ⟨[],[],[],18,0,[0,2,3,4,6,8,10,12,14,16],[4,6,8,10,12,14,16]⟩ (fun _=>[]) (by kernel_rfl) ?_)
  simp only [Tryd.f30,stripX,stripOps,pickOps]
  simp []
  repeat' first | apply And.intro | intro _
  all_goals simp [signB, *]
noncomputable def K_30:Ent Tryd.prog:=Ent.p1 (α:=Int) 30 (fun a=>True) (fun a=>.d (.str (signB a))) (fun a hc=>signI_c a)
theorem K_30_f:K_30.f=30:=rfl
theorem K_30_e (a:Int):K_30.e [.d (.int .i64 a)]=some (True,.d (.str (signB a)),[]):=by unfold K_30;exact Ent.p1_eq (α:=Int) a
noncomputable def K_30h:EntH Tryd.prog:=EntH.pk1 (α:=Int) 30 (fun a=>True) (fun a=>.d (.str (signB a))) (fun a=>[]) (fun a hc=>PureP.ans (signI_c a))
theorem K_30h_f:K_30h.f=30:=rfl
theorem K_30h_g:K_30h.gro=true:=rfl
theorem K_30h_e {x1:V} {H:Heap}:K_30h.e [x1] H=guardR ((decA (α:=Int) H x1).1) (peekR (True) (.d (.str (signB (decA (α:=Int) H x1).2))) ([]) H):=rfl
theorem signS_c (op:Int):PureP Tryd.prog 27 [.d (.int .i64 op)] (· = .d (.str (signB op))):=by
  refine pure_of Tryd.func27 en_27 rfl rfl (W_run mixed ⟨[],[],[],18,0,[0,2,3,4,6,8,10,12,14,16],[4,6,8,10,12,14,16]⟩ (fun _=>[]) (by kernel_rfl) ?_)
  simp only [Tryd.f27,stripX,stripOps,pickOps]
  simp []
  repeat' first | apply And.intro | intro _
  all_goals simp [signB, *]
noncomputable def K_27:Ent Tryd.prog:=Ent.p1 (α:=Int) 27 (fun a=>True) (fun a=>.d (.str (signB a))) (fun a hc=>signS_c a)
theorem K_27_f:K_27.f=27:=rfl
theorem K_27_e (a:Int):K_27.e [.d (.int .i64 a)]=some (True,.d (.str (signB a)),[]):=by unfold K_27;exact Ent.p1_eq (α:=Int) a
noncomputable def K_27h:EntH Tryd.prog:=EntH.pk1 (α:=Int) 27 (fun a=>True) (fun a=>.d (.str (signB a))) (fun a=>[]) (fun a hc=>PureP.ans (signS_c a))
theorem K_27h_f:K_27h.f=27:=rfl
theorem K_27h_g:K_27h.gro=true:=rfl
theorem K_27h_e {x1:V} {H:Heap}:K_27h.e [x1] H=guardR ((decA (α:=Int) H x1).1) (peekR (True) (.d (.str (signB (decA (α:=Int) H x1).2))) ([]) H):=rfl
end Go.Proofs.YtbacilgolfojaaaDoor
end

section
namespace Go.Proofs.YtbacilgolfojaaaDoor
set_option maxRecDepth 100000
set_option linter.unusedSimpArgs false
set_option linter.unusedVariables false
theorem text_c : ∀ (k : Nat) (t : T), t.nodes = k → t.ok ∧ t.nodes ≤ 1000000 → PureP Tryd.prog 19 [.d (encT t)] (· = .d (.str (textB t))) := by
  intro k
  induction k using Nat.strongRecOn with
  | ind k ih =>
    intro t hk ho
    obtain ⟨KR,KR_f,KR_e⟩:∃ K:Ent Tryd.prog,K.f=19∧∀ a:T,K.e [.d (encT a)]=some ((a.ok∧a.nodes≤1000000)∧a.nodes < k,.d (.str (textB a)),[]) :=
      ⟨Ent.p1 (α:=T) 19 (fun a=>(a.ok∧a.nodes≤1000000)∧a.nodes < k) (fun a=>.d (.str (textB a))) (fun a h=>ih a.nodes h.2 a rfl h.1),rfl,fun a=>by exact Ent.p1_eq (α:=T) a⟩
    subst hk
    cases t with
    | leaf op n =>
      rcases ho.1 with ⟨rfl,hn⟩ | ⟨rfl,h0,h4⟩
      · refine pure_of Tryd.func19 en_19 rfl rfl (W_runS mixed [9,10] ⟨[K_29,KR,K_30],[K_29h,K_30h],[2000053],86,0,[0,2,6,7,14,24,34],[7,14,24,34]⟩ (fun | 9=>[0,1,2,9,10,11,18,19,20,3,4,5,12,13,14,21,22,23,6,7,8,15,16,17,24,25,26,27] | 10=>[0,1,2,8,9,10,14,15,16,3,4,5,11,17,18,19,6,7,12,13,20,21,22,23] | _=>[]) (by kernel_rfl) ?_)
        simp only [Tryd.f19,stripS,skip_cons,skip_nil,Nat.reduceBEq,Bool.or_false,Bool.or_self,Bool.or_true,Bool.true_or,cond_true,cond_false,stripX,stripOps,pickOps]
        simp [K_29_f,K_29_e,KR_f,KR_e,K_30_f,K_30_e,K_29h_f,K_29h_e,K_30h_f,K_30h_e,K_29h_g,K_30h_g,encT,ndD,hn]
        rfl
      · refine pure_of Tryd.func19 en_19 rfl rfl (W_runS mixed [9,10] ⟨[K_29,KR,K_30],[K_29h,K_30h],[2000053],86,0,[0,2,6,7,14,24,34],[7,14,24,34]⟩ (fun | 9=>[0,1,2,9,10,11,18,19,20,3,4,5,12,13,14,21,22,23,6,7,8,15,16,17,24,25,26,27] | 10=>[0,1,2,8,9,10,14,15,16,3,4,5,11,17,18,19,6,7,12,13,20,21,22,23] | _=>[]) (by kernel_rfl) ?_)
        simp only [Tryd.f19,stripS,skip_cons,skip_nil,Nat.reduceBEq,Bool.or_false,Bool.or_self,Bool.or_true,Bool.true_or,cond_true,cond_false,stripX,stripOps,pickOps]
        simp [K_29_f,K_29_e,KR_f,KR_e,K_30_f,K_30_e,K_29h_f,K_29h_e,K_30h_f,K_30h_e,K_29h_g,K_30h_g,encT,ndD]
        have e0:IntKind.u8.wrap (97 + IntKind.u8.wrap n)=97 + n:=by rw [IntKind.wrap_u8',IntKind.wrap_u8'];omega
        rw [e0]
        exact ⟨⟨by omega,by omega⟩,rfl⟩
    | un a =>
      refine pure_of Tryd.func19 en_19 rfl rfl (W_runS mixed [9,10] ⟨[K_29,KR,K_30],[K_29h,K_30h],[2000053],86,0,[0,2,6,7,14,24,34],[7,14,24,34]⟩ (fun | 9=>[0,1,2,9,10,11,18,19,20,3,4,5,12,13,14,21,22,23,6,7,8,15,16,17,24,25,26,27] | 10=>[0,1,2,8,9,10,14,15,16,3,4,5,11,17,18,19,6,7,12,13,20,21,22,23] | _=>[]) (by kernel_rfl) ?_)
      simp only [Tryd.f19,stripS,skip_cons,skip_nil,Nat.reduceBEq,Bool.or_false,Bool.or_self,Bool.or_true,Bool.true_or,cond_true,cond_false,stripX,stripOps,pickOps]
      simp [K_29_f,K_29_e,KR_f,KR_e,K_30_f,K_30_e,K_29h_f,K_29h_e,K_30h_f,K_30h_e,K_29h_g,K_30h_g,encT,ndD]
      have l1:=textB_len a ho.1
      have n0:=ho.2
      simp only [T.nodes] at n0 ⊢
      refine ⟨⟨⟨ho.1,by omega⟩,by omega⟩, ?_,rfl⟩
      show 1 + _≤_
      omega
    | tri a b c =>
      refine pure_of Tryd.func19 en_19 rfl rfl (W_run mixed ⟨[K_29,KR,K_30],[K_29h,K_30h],[2000053],86,0,[0,2,6,7,14,24,34],[7,14,24,34]⟩ (fun | 9=>[0,1,2,9,10,11,18,19,20,3,4,5,12,13,14,21,22,23,6,7,8,15,16,17,24,25,26,27] | 10=>[0,1,2,8,9,10,14,15,16,3,4,5,11,17,18,19,6,7,12,13,20,21,22,23] | _=>[]) (by kernel_rfl) ?_)
      simp only [Tryd.f19,stripX,stripOps,pickOps]
      simp [K_29_f,K_29_e,KR_f,KR_e,K_30_f,K_30_e,K_29h_f,K_29h_e,K_30h_f,K_30h_e,K_29h_g,K_30h_g,encT,ndD]
      have l1:=textB_len a ho.1.1
      have l2:=textB_len b ho.1.2.1
      have l3:=textB_len c ho.1.2.2
      have n0:=ho.2
      simp only [T.nodes] at n0 ⊢
      refine ⟨⟨⟨ho.1.1,by omega⟩,by omega⟩, ?_, ?_,⟨⟨ho.1.2.1,by omega⟩,by omega⟩, ?_, ?_,⟨⟨ho.1.2.2,by omega⟩,by omega⟩, ?_, ?_,rfl⟩
      · show 1 + _≤_;omega
      · show 1 + _ + 1≤_;omega
      · show 1 + _ + 1 + _≤_;omega
      · show 1 + _ + 1 + _ + 1≤_;omega
      · show 1 + _ + 1 + _ + 1 + _≤_;omega
      · show 1 + _ + 1 + _ + 1 + _ + 1≤_;omega
    | bi op a b =>
      have e1:(op=1)=False:=eq_false (by have:=ho.1.1;omega)
      have e2:(op=2)=False:=eq_false (by have:=ho.1.1;omega)
      have e3:(op=3)=False:=eq_false (by have:=ho.1.1;omega)
      have e4:(op=11)=False:=eq_false (by have:=ho.1.1;omega)
      refine pure_of Tryd.func19 en_19 rfl rfl (W_run mixed ⟨[K_29,KR,K_30],[K_29h,K_30h],[2000053],86,0,[0,2,6,7,14,24,34],[7,14,24,34]⟩ (fun | 9=>[0,1,2,9,10,11,18,19,20,3,4,5,12,13,14,21,22,23,6,7,8,15,16,17,24,25,26,27] | 10=>[0,1,2,8,9,10,14,15,16,3,4,5,11,17,18,19,6,7,12,13,20,21,22,23] | _=>[]) (by kernel_rfl) ?_)
      simp only [Tryd.f19,stripX,stripOps,pickOps]
      simp [K_29_f,K_29_e,KR_f,KR_e,K_30_f,K_30_e,K_29h_f,K_29h_e,K_30h_f,K_30h_e,K_29h_g,K_30h_g,encT,ndD,e1,e2,e3,e4]
      have l1:=textB_len a ho.1.2.1
      have l2:=textB_len b ho.1.2.2
      have l3:=signB_len op
      have n0:=ho.2
      simp only [T.nodes] at n0 ⊢
      refine ⟨⟨⟨ho.1.2.1,by omega⟩,by omega⟩, ?_, ?_,⟨⟨ho.1.2.2,by omega⟩,by omega⟩, ?_, ?_,rfl⟩
      · show 1 + _≤_;omega
      · show 1 + _ + _≤_;omega
      · show 1 + _ + _ + _≤_;omega
      · show 1 + _ + _ + _ + 1≤_;omega
noncomputable def K_19:Ent Tryd.prog:=Ent.p1 (α:=T) 19 (fun t=>t.ok∧t.nodes≤1000000) (fun t=>.d (.str (textB t))) (fun t hc=>text_c t.nodes t rfl hc)
theorem K_19_f:K_19.f=19:=rfl
theorem K_19_e (t:T):K_19.e [.d (encT t)]=some (t.ok∧t.nodes≤1000000,.d (.str (textB t)),[]):=by unfold K_19;exact Ent.p1_eq (α:=T) t
noncomputable def K_19h:EntH Tryd.prog:=EntH.pk1 (α:=T) 19 (fun t=>t.ok∧t.nodes≤1000000) (fun t=>.d (.str (textB t))) (fun t=>[]) (fun t hc=>PureP.ans (text_c t.nodes t rfl hc))
theorem K_19h_f:K_19h.f=19:=rfl
theorem K_19h_g:K_19h.gro=true:=rfl
theorem K_19h_e {x1:V} {H:Heap}:K_19h.e [x1] H=guardR ((decA (α:=T) H x1).1) (peekR ((decA (α:=T) H x1).2.ok∧(decA (α:=T) H x1).2.nodes≤1000000) (.d (.str (textB (decA (α:=T) H x1).2))) ([]) H):=rfl
end Go.Proofs.YtbacilgolfojaaaDoor
end
