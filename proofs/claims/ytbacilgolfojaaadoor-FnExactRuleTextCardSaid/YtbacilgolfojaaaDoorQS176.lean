/- The reference's text of a term. No condition. -/
import Derived.Test.YtbacilgolfojaaaDoorQS174
section
namespace Go.Proofs.YtbacilgolfojaaaDoor
set_option maxRecDepth 100000
set_option linter.unusedSimpArgs false
set_option linter.unusedVariables false
theorem from_k (l:List Node) (k:Int) (h:l.length≤1000000∧Roots l k):PureP Tryd.prog 34 [.d (dNodeS l),.d (.int .i64 k)] (· = .d (.int .i64 (stL l k))):=by
  obtain ⟨hl,h0,s,t,hr⟩:=h
  have:=from_c l hl t.nodes k.toNat s t rfl hr
  rw [← stL_eq hr,show ((k.toNat:Nat):Int)=k by omega] at this
  exact this
noncomputable def K_34:Ent Tryd.prog:=Ent.p2 (α:=List Node) (β:=Int) 34 (fun l k=>l.length≤1000000∧Roots l k) (fun l k=>.d (.int .i64 (stL l k))) (fun l k hc=>from_k l k hc)
theorem K_34_f:K_34.f=34:=rfl
theorem K_34_e (l:List Node) (k:Int):K_34.e [.d (dNodeS l),.d (.int .i64 k)]=some (l.length≤1000000∧Roots l k,.d (.int .i64 (stL l k)),[]):=by unfold K_34;exact Ent.p2_eq (α:=List Node) (β:=Int) l k
noncomputable def K_34h:EntH Tryd.prog:=EntH.pk2 (α:=List Node) (β:=Int) 34 (fun l k=>l.length≤1000000∧Roots l k) (fun l k=>.d (.int .i64 (stL l k))) (fun l k=>[]) (fun l k hc=>PureP.ans (from_k l k hc))
theorem K_34h_f:K_34h.f=34:=rfl
theorem K_34h_g:K_34h.gro=true:=rfl
theorem K_34h_e {x1 x2:V} {H:Heap}:K_34h.e [x1,x2] H=guardR ((decA (α:=List Node) H x1).1∧(decA (α:=Int) H x2).1) (peekR ((decA (α:=List Node) H x1).2.length≤1000000∧Roots (decA (α:=List Node) H x1).2 (decA (α:=Int) H x2).2) (.d (.int .i64 (stL (decA (α:=List Node) H x1).2 (decA (α:=Int) H x2).2))) ([]) H):=rfl
theorem Rep.root {l:List Node} {s e:Nat} {t:T} (h:Rep l s e t) (hl:l.length≤1000000):Roots l (IntKind.i64.wrap ((e:Int) - 1)):=by
  obtain ⟨h0,s,t,q,_⟩:=h.at_ hl (n:=t.nodes + 1) (by omega)
  exact ⟨h0,s,t,q⟩
theorem parts_un (l:List Node) (hl:l.length≤1000000) {s k:Nat} {nd:Node} {a:T} (h:l[k]? = some nd) (o:nd.op_=3) (r1:Rep l s k a) :
    PureP Tryd.prog 26 [.d (dNodeS l),.d (.int .i64 (k:Int))] (· = .d (dIntS [((k - 1:Nat):Int)])):=by
  have hle:=(List.getElem?_eq_some_iff.1 h).1
  have ha:arity1 (l[k]?.getD default).op_=1:=by rw [h];simp [arity1,o]
  have q1:=r1.st hl
  have e1:=r1.wr hl
  have w0:IntKind.i64.wrap 0=0:=by decide
  refine PureP.le (pure_of Tryd.func26 en_26 rfl rfl (W_run mixed ⟨[K_24,K_34],[K_24h,K_34h],[],29,0,[0,1,4,5,6,7,17],[17]⟩ (fun _=>[]) (by kernel_rfl) ?_))
  simp only [Tryd.f26,stripX,stripOps,pickOps]
  simp [K_24_f,K_24_e,K_34_f,K_34_e,K_24h_f,K_24h_e,K_34h_f,K_34h_e,K_24h_g,K_34h_g,ha]
  refine ⟨by omega,W_rounds 2 (WR_succ ?_)⟩
  refine W_run mixed ⟨[K_24,K_34],[K_24h,K_34h],[],29,0,[0,1,4,5,6,7,17],[17]⟩ (fun _=>[]) (by kernel_rfl) ?_
  simp only [stripX,stripOps,pickOps]
  simp [K_24_f,K_24_e,K_34_f,K_34_e,K_24h_f,K_24h_e,K_34h_f,K_34h_e,K_24h_g,K_34h_g,ha,q1,w0]
  refine ⟨⟨hl,r1.root hl⟩,WR_succ ?_⟩
  refine W_run mixed ⟨[K_24,K_34],[K_24h,K_34h],[],29,0,[0,1,4,5,6,7,17],[17]⟩ (fun _=>[]) (by kernel_rfl) ?_
  simp only [stripX,stripOps,pickOps]
  simp [K_24_f,K_24_e,K_34_f,K_34_e,K_24h_f,K_24h_e,K_34h_f,K_34h_e,K_24h_g,K_34h_g,ha,e1]
  refine ⟨rfl,rfl,fun i hi j hj=>?_⟩
  obtain rfl:j=0:=by omega
  obtain rfl:i=0:=by omega
  exact DLe.refl _
theorem parts_bi (l:List Node) (hl:l.length≤1000000) {s m k:Nat} {nd:Node} {a b:T} (h:l[k]? = some nd) (o:4≤nd.op_∧nd.op_≤10) (r1:Rep l s m a) (r2:Rep l m k b) :
    PureP Tryd.prog 26 [.d (dNodeS l),.d (.int .i64 (k:Int))] (· = .d (dIntS [((m - 1:Nat):Int),((k - 1:Nat):Int)])):=by
  have hle:=(List.getElem?_eq_some_iff.1 h).1
  have ha:arity1 (l[k]?.getD default).op_=2:=by rw [h];exact ar_two o
  have q1:=r1.st hl
  have q2:=r2.st hl
  have e1:=r1.wr hl
  have e2:=r2.wr hl
  have w0:IntKind.i64.wrap 0=0:=by decide
  have w1:IntKind.i64.wrap 1=1:=by decide
  refine PureP.le (pure_of Tryd.func26 en_26 rfl rfl (W_run mixed ⟨[K_24,K_34],[K_24h,K_34h],[],29,0,[0,1,4,5,6,7,17],[17]⟩ (fun _=>[]) (by kernel_rfl) ?_))
  simp only [Tryd.f26,stripX,stripOps,pickOps]
  simp [K_24_f,K_24_e,K_34_f,K_34_e,K_24h_f,K_24h_e,K_34h_f,K_34h_e,K_24h_g,K_34h_g,ha]
  refine ⟨by omega,W_rounds 3 (WR_succ ?_)⟩
  refine W_run mixed ⟨[K_24,K_34],[K_24h,K_34h],[],29,0,[0,1,4,5,6,7,17],[17]⟩ (fun _=>[]) (by kernel_rfl) ?_
  simp only [stripX,stripOps,pickOps]
  simp [K_24_f,K_24_e,K_34_f,K_34_e,K_24h_f,K_24h_e,K_34h_f,K_34h_e,K_24h_g,K_34h_g,ha,q1,q2,w0,w1]
  refine ⟨⟨hl,r2.root hl⟩,WR_succ ?_⟩
  refine W_run mixed ⟨[K_24,K_34],[K_24h,K_34h],[],29,0,[0,1,4,5,6,7,17],[17]⟩ (fun _=>[]) (by kernel_rfl) ?_
  simp only [stripX,stripOps,pickOps]
  simp [K_24_f,K_24_e,K_34_f,K_34_e,K_24h_f,K_24h_e,K_34h_f,K_34h_e,K_24h_g,K_34h_g,ha,q1,q2,w0,w1]
  refine ⟨⟨hl,r1.root hl⟩,WR_succ ?_⟩
  refine W_run mixed ⟨[K_24,K_34],[K_24h,K_34h],[],29,0,[0,1,4,5,6,7,17],[17]⟩ (fun _=>[]) (by kernel_rfl) ?_
  simp only [stripX,stripOps,pickOps]
  simp [K_24_f,K_24_e,K_34_f,K_34_e,K_24h_f,K_24h_e,K_34h_f,K_34h_e,K_24h_g,K_34h_g,ha,e1,e2]
  refine ⟨rfl,rfl,fun i hi j hj=>?_⟩
  obtain rfl:j=0:=by omega
  rcases (by omega:i=0∨i=1) with rfl | rfl <;> exact DLe.refl _
theorem parts_tri (l:List Node) (hl:l.length≤1000000) {s m m2 k:Nat} {nd:Node} {a b c:T} (h:l[k]? = some nd) (o:nd.op_=11) (r1:Rep l s m a) (r2:Rep l m m2 b) (r3:Rep l m2 k c) :
    PureP Tryd.prog 26 [.d (dNodeS l),.d (.int .i64 (k:Int))] (· = .d (dIntS [((m - 1:Nat):Int),((m2 - 1:Nat):Int),((k - 1:Nat):Int)])):=by
  have hle:=(List.getElem?_eq_some_iff.1 h).1
  have ha:arity1 (l[k]?.getD default).op_=3:=by rw [h];simp [arity1,o]
  have q1:=r1.st hl
  have q2:=r2.st hl
  have q3:=r3.st hl
  have e1:=r1.wr hl
  have e2:=r2.wr hl
  have e3:=r3.wr hl
  have w0:IntKind.i64.wrap 0=0:=by decide
  have w1:IntKind.i64.wrap 1=1:=by decide
  have w2:IntKind.i64.wrap 2=2:=by decide
  refine PureP.le (pure_of Tryd.func26 en_26 rfl rfl (W_run mixed ⟨[K_24,K_34],[K_24h,K_34h],[],29,0,[0,1,4,5,6,7,17],[17]⟩ (fun _=>[]) (by kernel_rfl) ?_))
  simp only [Tryd.f26,stripX,stripOps,pickOps]
  simp [K_24_f,K_24_e,K_34_f,K_34_e,K_24h_f,K_24h_e,K_34h_f,K_34h_e,K_24h_g,K_34h_g,ha]
  refine ⟨by omega,W_rounds 4 (WR_succ ?_)⟩
  refine W_run mixed ⟨[K_24,K_34],[K_24h,K_34h],[],29,0,[0,1,4,5,6,7,17],[17]⟩ (fun _=>[]) (by kernel_rfl) ?_
  simp only [stripX,stripOps,pickOps]
  simp [K_24_f,K_24_e,K_34_f,K_34_e,K_24h_f,K_24h_e,K_34h_f,K_34h_e,K_24h_g,K_34h_g,ha,q1,q2,q3,w0,w1,w2]
  refine ⟨⟨hl,r3.root hl⟩,WR_succ ?_⟩
  refine W_run mixed ⟨[K_24,K_34],[K_24h,K_34h],[],29,0,[0,1,4,5,6,7,17],[17]⟩ (fun _=>[]) (by kernel_rfl) ?_
  simp only [stripX,stripOps,pickOps]
  simp [K_24_f,K_24_e,K_34_f,K_34_e,K_24h_f,K_24h_e,K_34h_f,K_34h_e,K_24h_g,K_34h_g,ha,q1,q2,q3,w0,w1,w2]
  refine ⟨⟨hl,r2.root hl⟩,WR_succ ?_⟩
  refine W_run mixed ⟨[K_24,K_34],[K_24h,K_34h],[],29,0,[0,1,4,5,6,7,17],[17]⟩ (fun _=>[]) (by kernel_rfl) ?_
  simp only [stripX,stripOps,pickOps]
  simp [K_24_f,K_24_e,K_34_f,K_34_e,K_24h_f,K_24h_e,K_34h_f,K_34h_e,K_24h_g,K_34h_g,ha,q1,q2,q3,w0,w1,w2]
  refine ⟨⟨hl,r1.root hl⟩,WR_succ ?_⟩
  refine W_run mixed ⟨[K_24,K_34],[K_24h,K_34h],[],29,0,[0,1,4,5,6,7,17],[17]⟩ (fun _=>[]) (by kernel_rfl) ?_
  simp only [stripX,stripOps,pickOps]
  simp [K_24_f,K_24_e,K_34_f,K_34_e,K_24h_f,K_24h_e,K_34h_f,K_34h_e,K_24h_g,K_34h_g,ha,e1,e2,e3]
  refine ⟨rfl,rfl,fun i hi j hj=>?_⟩
  obtain rfl:j=0:=by omega
  rcases (by omega:i=0∨i=1∨i=2) with rfl | rfl | rfl <;> exact DLe.refl _
end Go.Proofs.YtbacilgolfojaaaDoor
end

section
namespace Go.Proofs.YtbacilgolfojaaaDoor
set_option maxRecDepth 100000
set_option linter.unusedSimpArgs false
set_option linter.unusedVariables false
theorem Rep.tr {l:List Node} {s e:Nat} {t:T} (h:Rep l s e t):trL l ((e - 1:Nat):Int)=t:=by
  have h1:=h.pos
  exact trL_eq (k:=e - 1) (by rw [show e - 1 + 1=e by omega];exact h)
theorem Rep.in_ {l:List Node} {s e:Nat} {t:T} (h:Rep l s e t) (ho:t.ok) {n:Nat} (hn:t.nodes < n):∃ s t,Rep l s (e - 1 + 1) t∧t.ok∧t.nodes < n:=by
  have h1:=h.pos
  refine ⟨s,t, ?_,ho,hn⟩
  rw [show e - 1 + 1=e by omega]
  exact h
set_option maxHeartbeats 2000000 in
theorem textS_c (l : List Node) (hl : l.length ≤ 1000000) : ∀ (n : Nat) (k : Nat) (s : Nat) (t : T), t.nodes = n → t.ok → Rep l s (k + 1) t → PureP Tryd.prog 16 [.d (dNodeS l), .d (.int .i64 (k : Int))] (· = .d (.str (textB t))) := by
  intro n
  induction n using Nat.strongRecOn with
  | ind n ih =>
    intro k s t hn ho hr
    obtain ⟨KR,KR_f,KR_e⟩:∃ K:Ent Tryd.prog,K.f=16∧∀ (m:List Node) (a:Int),K.e [.d (dNodeS m),.d (.int .i64 a)]=some (m=l∧0≤a∧∃ s t,Rep l s (a.toNat + 1) t∧t.ok∧t.nodes < n,.d (.str (textB (trL m a))),[]) :=
      ⟨Ent.p2 (α:=List Node) (β:=Int) 16 (fun m a=>m=l∧0≤a∧∃ s t,Rep l s (a.toNat + 1) t∧t.ok∧t.nodes < n) (fun m a=>.d (.str (textB (trL m a)))) (fun m a h=>by
        obtain ⟨rfl,h0,s',t',q1,q2,q3⟩:=h
        have:=ih t'.nodes q3 a.toNat s' t' rfl q2 q1
        rw [← trL_eq q1] at this
        rw [show ((a.toNat:Nat):Int)=a by omega] at this
        exact this),rfl,fun m a=>by exact Ent.p2_eq (α:=List Node) (β:=Int) m a⟩
    have parts:∀ (q:List Int),PureP Tryd.prog 26 [.d (dNodeS l),.d (.int .i64 (k:Int))] (· = .d (dIntS q)) →
        ∃ K:Ent Tryd.prog,K.f=26∧∀ (m:List Node) (a:Int),K.e [.d (dNodeS m),.d (.int .i64 a)]=some (m=l∧a=k,.d (dIntS q),[]):=fun q hq =>
      ⟨Ent.p2 (α:=List Node) (β:=Int) 26 (fun m a=>m=l∧a=k) (fun m a=>.d (dIntS q)) (fun m a h=>by obtain ⟨rfl,rfl⟩:=h;exact hq),rfl,fun m a=>by exact Ent.p2_eq (α:=List Node) (β:=Int) m a⟩
    subst hn
    obtain ⟨hsp,hle⟩:=hr.span
    cases hr with
    | @leaf _ nd h o =>
      have hk:k < l.length:=by omega
      have g1:l[k]=nd:=(List.getElem?_eq_some_iff.1 h).2
      rcases o with o | o
      · have hg:Enc.good nd.n_:=by
          rcases ho with ⟨_,q⟩ | ⟨q,_⟩
          · exact q
          · omega
        refine pure_of Tryd.func16 en_16 rfl rfl (W_runS mixed [12,13] ⟨[K_25,KR,K_27],[K_25h,K_27h],[26,2000053],79,0,[0,1,4,5,6,12,13,18,30,31,39],[13,18,31,39]⟩ (fun | 12=>[0,1,2,7,8,9,14,15,16,3,10,17,4,5,6,11,12,13,18,19,20,21] | 13=>[0,1,2,6,10,11,12,3,7,13,4,5,8,9,14,15,16,17] | _=>[]) (by kernel_rfl) ?_)
        simp only [Tryd.f16,stripS,skip_cons,skip_nil,Nat.reduceBEq,Bool.or_false,Bool.or_self,Bool.or_true,Bool.true_or,cond_true,cond_false,stripX,stripOps,pickOps]
        simp [K_25_f,K_25_e,KR_f,KR_e,K_27_f,K_27_e,K_25h_f,K_25h_e,K_27h_f,K_27h_e,K_25h_g,K_27h_g,g1,o,hg,hk]
        rfl
      · have hg:0≤nd.n_∧nd.n_ < 4:=by
          rcases ho with ⟨q,_⟩ | ⟨_,q⟩
          · omega
          · exact q
        refine pure_of Tryd.func16 en_16 rfl rfl (W_runS mixed [12,13] ⟨[K_25,KR,K_27],[K_25h,K_27h],[26,2000053],79,0,[0,1,4,5,6,12,13,18,30,31,39],[13,18,31,39]⟩ (fun | 12=>[0,1,2,7,8,9,14,15,16,3,10,17,4,5,6,11,12,13,18,19,20,21] | 13=>[0,1,2,6,10,11,12,3,7,13,4,5,8,9,14,15,16,17] | _=>[]) (by kernel_rfl) ?_)
        simp only [Tryd.f16,stripS,skip_cons,skip_nil,Nat.reduceBEq,Bool.or_false,Bool.or_self,Bool.or_true,Bool.true_or,cond_true,cond_false,stripX,stripOps,pickOps]
        simp [K_25_f,K_25_e,KR_f,KR_e,K_27_f,K_27_e,K_25h_f,K_25h_e,K_27h_f,K_27h_e,K_25h_g,K_27h_g,g1,o,hk]
        have e0:IntKind.u8.wrap (IntKind.i64.wrap (97 + nd.n_))=97 + nd.n_:=by rw [wrap_id (by omega) (by omega),IntKind.wrap_u8'];omega
        rw [e0]
        exact ⟨⟨by omega,by omega⟩,rfl⟩
    | @un _ _ nd a h o r1 =>
      obtain ⟨KP,KP_f,KP_e⟩:=parts _ (parts_un l hl h o r1)
      have hk:k < l.length:=by omega
      have g1:l[k]=nd:=(List.getElem?_eq_some_iff.1 h).2
      have t1:=r1.tr
      refine pure_of Tryd.func16 en_16 rfl rfl (W_runS mixed [12,13] ⟨[K_25,KP,KR,K_27],[K_25h,K_27h],[2000053],79,0,[0,1,4,5,6,12,13,18,30,31,39],[13,18,31,39]⟩ (fun | 12=>[0,1,2,7,8,9,14,15,16,3,10,17,4,5,6,11,12,13,18,19,20,21] | 13=>[0,1,2,6,10,11,12,3,7,13,4,5,8,9,14,15,16,17] | _=>[]) (by kernel_rfl) ?_)
      simp only [Tryd.f16,stripS,skip_cons,skip_nil,Nat.reduceBEq,Bool.or_false,Bool.or_self,Bool.or_true,Bool.true_or,cond_true,cond_false,stripX,stripOps,pickOps]
      simp [K_25_f,K_25_e,KP_f,KP_e,KR_f,KR_e,K_27_f,K_27_e,K_25h_f,K_25h_e,K_27h_f,K_27h_e,K_25h_g,K_27h_g,g1,o,hk,t1]
      have l1:=textB_len a ho
      simp only [T.nodes] at hsp ⊢
      refine ⟨r1.in_ ho (by omega), ?_,rfl⟩
      show 1 + _≤_
      omega
    | @bi _ _ _ nd a b h o r1 r2 =>
      obtain ⟨KP,KP_f,KP_e⟩:=parts _ (parts_bi l hl h o r1 r2)
      have hk:k < l.length:=by omega
      have g1:l[k]=nd:=(List.getElem?_eq_some_iff.1 h).2
      have t1:=r1.tr
      have t2:=r2.tr
      have e1:(nd.op_=1)=False:=eq_false (by omega)
      have e2:(nd.op_=2)=False:=eq_false (by omega)
      have e3:(nd.op_=3)=False:=eq_false (by omega)
      have e4:(nd.op_=11)=False:=eq_false (by omega)
      refine pure_of Tryd.func16 en_16 rfl rfl (W_run mixed ⟨[K_25,KP,KR,K_27],[K_25h,K_27h],[2000053],79,0,[0,1,4,5,6,12,13,18,30,31,39],[13,18,31,39]⟩ (fun | 12=>[0,1,2,7,8,9,14,15,16,3,10,17,4,5,6,11,12,13,18,19,20,21] | 13=>[0,1,2,6,10,11,12,3,7,13,4,5,8,9,14,15,16,17] | _=>[]) (by kernel_rfl) ?_)
      simp only [Tryd.f16,stripX,stripOps,pickOps]
      simp [K_25_f,K_25_e,KP_f,KP_e,KR_f,KR_e,K_27_f,K_27_e,K_25h_f,K_25h_e,K_27h_f,K_27h_e,K_25h_g,K_27h_g,g1,e1,e2,e3,e4,hk,t1,t2]
      have l1:=textB_len a ho.2.1
      have l2:=textB_len b ho.2.2
      have l3:=signB_len nd.op_
      simp only [T.nodes] at hsp ⊢
      refine ⟨r1.in_ ho.2.1 (by omega), ?_, ?_,r2.in_ ho.2.2 (by omega), ?_, ?_,rfl⟩
      · show 1 + _≤_;omega
      · show 1 + _ + _≤_;omega
      · show 1 + _ + _ + _≤_;omega
      · show 1 + _ + _ + _ + 1≤_;omega
    | @tri _ _ _ _ nd a b c h o r1 r2 r3 =>
      obtain ⟨KP,KP_f,KP_e⟩:=parts _ (parts_tri l hl h o r1 r2 r3)
      have hk:k < l.length:=by omega
      have g1:l[k]=nd:=(List.getElem?_eq_some_iff.1 h).2
      have t1:=r1.tr
      have t2:=r2.tr
      have t3:=r3.tr
      refine pure_of Tryd.func16 en_16 rfl rfl (W_run mixed ⟨[K_25,KP,KR,K_27],[K_25h,K_27h],[2000053],79,0,[0,1,4,5,6,12,13,18,30,31,39],[13,18,31,39]⟩ (fun | 12=>[0,1,2,7,8,9,14,15,16,3,10,17,4,5,6,11,12,13,18,19,20,21] | 13=>[0,1,2,6,10,11,12,3,7,13,4,5,8,9,14,15,16,17] | _=>[]) (by kernel_rfl) ?_)
      simp only [Tryd.f16,stripX,stripOps,pickOps]
      simp [K_25_f,K_25_e,KP_f,KP_e,KR_f,KR_e,K_27_f,K_27_e,K_25h_f,K_25h_e,K_27h_f,K_27h_e,K_25h_g,K_27h_g,g1,o,hk,t1,t2,t3]
      have l1:=textB_len a ho.1
      have l2:=textB_len b ho.2.1
      have l3:=textB_len c ho.2.2
      simp only [T.nodes] at hsp ⊢
      refine ⟨r1.in_ ho.1 (by omega), ?_, ?_,r2.in_ ho.2.1 (by omega), ?_, ?_,r3.in_ ho.2.2 (by omega), ?_, ?_,rfl⟩
      · show 1 + _≤_;omega
      · show 1 + _ + 1≤_;omega
      · show 1 + _ + 1 + _≤_;omega
      · show 1 + _ + 1 + _ + 1≤_;omega
      · show 1 + _ + 1 + _ + 1 + _≤_;omega
      · show 1 + _ + 1 + _ + 1 + _ + 1≤_;omega
end Go.Proofs.YtbacilgolfojaaaDoor
end
