/- Which tree stands at which place of a list of nodes; the reference's l2From and l2Parts. No condition. -/
import Derived.Test.YtbacilgolfojaaaDoorQS173
namespace Go.Proofs.YtbacilgolfojaaaDoor
set_option maxRecDepth 100000
set_option linter.unusedSimpArgs false
set_option linter.unusedVariables false
inductive Rep (l:List Node):Nat→Nat→T→Prop where
  | leaf {k:Nat} {nd:Node}:l[k]? = some nd→(nd.op_=1∨nd.op_=2)→Rep l k (k + 1) (.leaf nd.op_ nd.n_)
  | un {s k:Nat} {nd:Node} {a:T}:l[k]? = some nd→nd.op_=3→Rep l s k a→Rep l s (k + 1) (.un a)
  | bi {s m k:Nat} {nd:Node} {a b:T}:l[k]? = some nd→(4≤nd.op_∧nd.op_≤10)→Rep l s m a→Rep l m k b→Rep l s (k + 1) (.bi nd.op_ a b)
  | tri {s m m2 k:Nat} {nd:Node} {a b c:T}:l[k]? = some nd→nd.op_=11→Rep l s m a→Rep l m m2 b→Rep l m2 k c→Rep l s (k + 1) (.tri a b c)
theorem Rep.span {l:List Node} {s e:Nat} {t:T} (h:Rep l s e t):e=s + t.nodes∧e≤l.length:=by
  induction h with
  | leaf h _=>exact ⟨rfl,(List.getElem?_eq_some_iff.1 h).1⟩
  | un h _ _ ih=>exact ⟨by simp only [T.nodes];omega,(List.getElem?_eq_some_iff.1 h).1⟩
  | bi h _ _ _ i1 i2=>exact ⟨by simp only [T.nodes];omega,(List.getElem?_eq_some_iff.1 h).1⟩
  | tri h _ _ _ _ i1 i2 i3=>exact ⟨by simp only [T.nodes];omega,(List.getElem?_eq_some_iff.1 h).1⟩
theorem Rep.uniq {l:List Node} {s e:Nat} {t:T} (h:Rep l s e t):∀ {s':Nat} {t':T},Rep l s' e t'→s'=s∧t'=t:=by
  induction h with
  | leaf h o =>
    intro s' t' q
    cases q with
    | leaf h' o'=>rw [h] at h';cases h';exact ⟨rfl,rfl⟩
    | un h' o' _=>rw [h] at h';cases h';omega
    | bi h' o' _ _=>rw [h] at h';cases h';omega
    | tri h' o' _ _ _=>rw [h] at h';cases h';omega
  | un h o _ ih =>
    intro s' t' q
    cases q with
    | leaf h' o'=>rw [h] at h';cases h';omega
    | un h' o' q1=>obtain ⟨rfl,rfl⟩:=ih q1;exact ⟨rfl,rfl⟩
    | bi h' o' _ _=>rw [h] at h';cases h';omega
    | tri h' o' _ _ _=>rw [h] at h';cases h';omega
  | bi h o _ _ i1 i2 =>
    intro s' t' q
    cases q with
    | leaf h' o'=>rw [h] at h';cases h';omega
    | un h' o' q1=>rw [h] at h';cases h';omega
    | bi h' o' q1 q2 =>
      rw [h] at h';cases h'
      obtain ⟨rfl,rfl⟩:=i2 q2
      obtain ⟨rfl,rfl⟩:=i1 q1
      exact ⟨rfl,rfl⟩
    | tri h' o' _ _ _=>rw [h] at h';cases h';omega
  | tri h o _ _ _ i1 i2 i3 =>
    intro s' t' q
    cases q with
    | leaf h' o'=>rw [h] at h';cases h';omega
    | un h' o' q1=>rw [h] at h';cases h';omega
    | bi h' o' q1 q2=>rw [h] at h';cases h';omega
    | tri h' o' q1 q2 q3 =>
      obtain ⟨rfl,rfl⟩:=i3 q3
      obtain ⟨rfl,rfl⟩:=i2 q2
      obtain ⟨rfl,rfl⟩:=i1 q1
      exact ⟨rfl,rfl⟩
def Roots (l:List Node) (k:Int):Prop:=0≤k∧∃ s t,Rep l s (k.toNat + 1) t
open Classical in
noncomputable def stL (l:List Node) (k:Int):Int:=if h:∃ s t,Rep l s (k.toNat + 1) t then ((Classical.choose h:Nat):Int) else 0
open Classical in
noncomputable def trL (l:List Node) (k:Int):T:=if h:∃ t,∃ s,Rep l s (k.toNat + 1) t then Classical.choose h else default
theorem stL_eq {l:List Node} {s k:Nat} {t:T} (h:Rep l s (k + 1) t):stL l k=s:=by
  have hx:∃ s t,Rep l s ((k:Int).toNat + 1) t:=⟨s,t,by rw [Int.toNat_natCast];exact h⟩
  unfold stL
  rw [dif_pos hx]
  obtain ⟨t',q⟩:=Classical.choose_spec hx
  have q':Rep l (Classical.choose hx) (k + 1) t':=q
  exact congrArg Int.ofNat (h.uniq q').1
theorem trL_eq {l:List Node} {s k:Nat} {t:T} (h:Rep l s (k + 1) t):trL l k=t:=by
  have hx:∃ t,∃ s,Rep l s ((k:Int).toNat + 1) t:=⟨t,s,by rw [Int.toNat_natCast];exact h⟩
  unfold trL
  rw [dif_pos hx]
  obtain ⟨s',q⟩:=Classical.choose_spec hx
  have q':Rep l s' (k + 1) (Classical.choose hx):=q
  exact (h.uniq q').2
theorem ar_two {op:Int} (h:4≤op∧op≤10):arity1 op=2:=by
  unfold arity1
  rw [if_neg (by omega),if_neg (by omega),if_neg (by omega),if_pos (inR_t.2 h)]
theorem Rep.pos {l:List Node} {s e:Nat} {t:T} (h:Rep l s e t):0 < e:=by have:=h.span;have:=t.nodes_pos;omega
theorem Rep.wr {l:List Node} {s e:Nat} {t:T} (h:Rep l s e t) (hl:l.length≤1000000):IntKind.i64.wrap ((e:Int) - 1)=((e - 1:Nat):Int):=by
  have h1:=h.pos
  have h2:=h.span
  rw [wrap_id] <;> omega
theorem Rep.st {l:List Node} {s e:Nat} {t:T} (h:Rep l s e t) (hl:l.length≤1000000):stL l (IntKind.i64.wrap ((e:Int) - 1))=s:=by
  have h1:=h.pos
  rw [h.wr hl]
  exact stL_eq (k:=e - 1) (by rw [show e - 1 + 1=e by omega];exact h)
theorem Rep.at_ {l:List Node} {s e:Nat} {t:T} (h:Rep l s e t) (hl:l.length≤1000000) {n:Nat} (hn:t.nodes < n) :
    0≤IntKind.i64.wrap ((e:Int) - 1)∧∃ s t,Rep l s ((IntKind.i64.wrap ((e:Int) - 1)).toNat + 1) t∧t.nodes < n:=by
  have h1:=h.pos
  rw [h.wr hl]
  refine ⟨by omega,s,t, ?_,hn⟩
  rw [Int.toNat_natCast,show e - 1 + 1=e by omega]
  exact h
theorem from_c (l : List Node) (hl : l.length ≤ 1000000) : ∀ (n : Nat) (k : Nat) (s : Nat) (t : T), t.nodes = n → Rep l s (k + 1) t → PureP Tryd.prog 34 [.d (dNodeS l), .d (.int .i64 (k : Int))] (· = .d (.int .i64 (s : Int))) := by
  intro n
  induction n using Nat.strongRecOn with
  | ind n ih =>
    intro k s t hn hr
    obtain ⟨KR,KR_f,KR_e⟩:∃ K:Ent Tryd.prog,K.f=34∧∀ (m:List Node) (a:Int),K.e [.d (dNodeS m),.d (.int .i64 a)]=some (m=l∧0≤a∧∃ s t,Rep l s (a.toNat + 1) t∧t.nodes < n,.d (.int .i64 (stL m a)),[]) :=
      ⟨Ent.p2 (α:=List Node) (β:=Int) 34 (fun m a=>m=l∧0≤a∧∃ s t,Rep l s (a.toNat + 1) t∧t.nodes < n) (fun m a=>.d (.int .i64 (stL m a))) (fun m a h=>by
        obtain ⟨rfl,h0,s',t',q1,q2⟩:=h
        have:=ih t'.nodes q2 a.toNat s' t' rfl q1
        rw [← stL_eq q1] at this
        rw [show ((a.toNat:Nat):Int)=a by omega] at this
        exact this),rfl,fun m a=>by exact Ent.p2_eq (α:=List Node) (β:=Int) m a⟩
    subst hn
    obtain ⟨hsp,hle⟩:=hr.span
    cases hr with
    | leaf h o =>
      have ha:arity1 (l[k]?.getD default).op_=0:=by rw [h];simp [arity1,o]
      refine pure_of Tryd.func34 en_34 rfl rfl (W_run mixed ⟨[K_24,KR],[K_24h],[],23,0,[0,1,4,5,6,15],[15]⟩ (fun _=>[]) (by kernel_rfl) ?_)
      simp only [Tryd.f34,stripX,stripOps,pickOps]
      simp [K_24_f,K_24_e,KR_f,KR_e,K_24h_f,K_24h_e,K_24h_g,ha]
      refine ⟨by omega,W_rounds 1 (WR_succ ?_)⟩
      refine W_run mixed ⟨[K_24,KR],[K_24h],[],23,0,[0,1,4,5,6,15],[15]⟩ (fun _=>[]) (by kernel_rfl) ?_
      simp only [stripX,stripOps,pickOps]
      simp [K_24_f,K_24_e,KR_f,KR_e,K_24h_f,K_24h_e,K_24h_g,ha]
    | un h o r1 =>
      have ha:arity1 (l[k]?.getD default).op_=1:=by rw [h];simp [arity1,o]
      have q1:=r1.st hl
      have w0:IntKind.i64.wrap 0=0:=by decide
      refine pure_of Tryd.func34 en_34 rfl rfl (W_run mixed ⟨[K_24,KR],[K_24h],[],23,0,[0,1,4,5,6,15],[15]⟩ (fun _=>[]) (by kernel_rfl) ?_)
      simp only [Tryd.f34,stripX,stripOps,pickOps]
      simp [K_24_f,K_24_e,KR_f,KR_e,K_24h_f,K_24h_e,K_24h_g,ha]
      refine ⟨by omega,W_rounds 2 (WR_succ ?_)⟩
      refine W_run mixed ⟨[K_24,KR],[K_24h],[],23,0,[0,1,4,5,6,15],[15]⟩ (fun _=>[]) (by kernel_rfl) ?_
      simp only [stripX,stripOps,pickOps]
      simp [K_24_f,K_24_e,KR_f,KR_e,K_24h_f,K_24h_e,K_24h_g,ha,q1,w0]
      refine ⟨r1.at_ hl (by simp only [T.nodes];omega),WR_succ ?_⟩
      refine W_run mixed ⟨[K_24,KR],[K_24h],[],23,0,[0,1,4,5,6,15],[15]⟩ (fun _=>[]) (by kernel_rfl) ?_
      simp only [stripX,stripOps,pickOps]
      simp [K_24_f,K_24_e,KR_f,KR_e,K_24h_f,K_24h_e,K_24h_g,ha]
    | bi h o r1 r2 =>
      have ha:arity1 (l[k]?.getD default).op_=2:=by
        rw [h]
        exact ar_two o
      have q1:=r1.st hl
      have q2:=r2.st hl
      have w0:IntKind.i64.wrap 0=0:=by decide
      have w1:IntKind.i64.wrap 1=1:=by decide
      refine pure_of Tryd.func34 en_34 rfl rfl (W_run mixed ⟨[K_24,KR],[K_24h],[],23,0,[0,1,4,5,6,15],[15]⟩ (fun _=>[]) (by kernel_rfl) ?_)
      simp only [Tryd.f34,stripX,stripOps,pickOps]
      simp [K_24_f,K_24_e,KR_f,KR_e,K_24h_f,K_24h_e,K_24h_g,ha]
      refine ⟨by omega,W_rounds 3 (WR_succ ?_)⟩
      refine W_run mixed ⟨[K_24,KR],[K_24h],[],23,0,[0,1,4,5,6,15],[15]⟩ (fun _=>[]) (by kernel_rfl) ?_
      simp only [stripX,stripOps,pickOps]
      simp [K_24_f,K_24_e,KR_f,KR_e,K_24h_f,K_24h_e,K_24h_g,ha,q1,q2,w0,w1]
      refine ⟨r2.at_ hl (by simp only [T.nodes];omega),WR_succ ?_⟩
      refine W_run mixed ⟨[K_24,KR],[K_24h],[],23,0,[0,1,4,5,6,15],[15]⟩ (fun _=>[]) (by kernel_rfl) ?_
      simp only [stripX,stripOps,pickOps]
      simp [K_24_f,K_24_e,KR_f,KR_e,K_24h_f,K_24h_e,K_24h_g,ha,q1,q2,w0,w1]
      refine ⟨r1.at_ hl (by simp only [T.nodes];omega),WR_succ ?_⟩
      refine W_run mixed ⟨[K_24,KR],[K_24h],[],23,0,[0,1,4,5,6,15],[15]⟩ (fun _=>[]) (by kernel_rfl) ?_
      simp only [stripX,stripOps,pickOps]
      simp [K_24_f,K_24_e,KR_f,KR_e,K_24h_f,K_24h_e,K_24h_g,ha]
    | tri h o r1 r2 r3 =>
      have ha:arity1 (l[k]?.getD default).op_=3:=by rw [h];simp [arity1,o]
      have q1:=r1.st hl
      have q2:=r2.st hl
      have q3:=r3.st hl
      have w0:IntKind.i64.wrap 0=0:=by decide
      have w1:IntKind.i64.wrap 1=1:=by decide
      have w2:IntKind.i64.wrap 2=2:=by decide
      refine pure_of Tryd.func34 en_34 rfl rfl (W_run mixed ⟨[K_24,KR],[K_24h],[],23,0,[0,1,4,5,6,15],[15]⟩ (fun _=>[]) (by kernel_rfl) ?_)
      simp only [Tryd.f34,stripX,stripOps,pickOps]
      simp [K_24_f,K_24_e,KR_f,KR_e,K_24h_f,K_24h_e,K_24h_g,ha]
      refine ⟨by omega,W_rounds 4 (WR_succ ?_)⟩
      refine W_run mixed ⟨[K_24,KR],[K_24h],[],23,0,[0,1,4,5,6,15],[15]⟩ (fun _=>[]) (by kernel_rfl) ?_
      simp only [stripX,stripOps,pickOps]
      simp [K_24_f,K_24_e,KR_f,KR_e,K_24h_f,K_24h_e,K_24h_g,ha,q1,q2,q3,w0,w1,w2]
      refine ⟨r3.at_ hl (by simp only [T.nodes];omega),WR_succ ?_⟩
      refine W_run mixed ⟨[K_24,KR],[K_24h],[],23,0,[0,1,4,5,6,15],[15]⟩ (fun _=>[]) (by kernel_rfl) ?_
      simp only [stripX,stripOps,pickOps]
      simp [K_24_f,K_24_e,KR_f,KR_e,K_24h_f,K_24h_e,K_24h_g,ha,q1,q2,q3,w0,w1,w2]
      refine ⟨r2.at_ hl (by simp only [T.nodes];omega),WR_succ ?_⟩
      refine W_run mixed ⟨[K_24,KR],[K_24h],[],23,0,[0,1,4,5,6,15],[15]⟩ (fun _=>[]) (by kernel_rfl) ?_
      simp only [stripX,stripOps,pickOps]
      simp [K_24_f,K_24_e,KR_f,KR_e,K_24h_f,K_24h_e,K_24h_g,ha,q1,q2,q3,w0,w1,w2]
      refine ⟨r1.at_ hl (by simp only [T.nodes];omega),WR_succ ?_⟩
      refine W_run mixed ⟨[K_24,KR],[K_24h],[],23,0,[0,1,4,5,6,15],[15]⟩ (fun _=>[]) (by kernel_rfl) ?_
      simp only [stripX,stripOps,pickOps]
      simp [K_24_f,K_24_e,KR_f,KR_e,K_24h_f,K_24h_e,K_24h_g,ha]
end Go.Proofs.YtbacilgolfojaaaDoor
