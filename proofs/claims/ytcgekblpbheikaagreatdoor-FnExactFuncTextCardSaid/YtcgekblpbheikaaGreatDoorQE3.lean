/- The abstract machine: parts B3 B4 B5 B6 B7 C1 C2 C3 in one text. No condition. -/
import Derived.OpenShut
import Derived.RowKit3
import Derived.ChangeOld
import Derived.ProofKit
import Derived.Carry
import Derived.DataElems
import Derived.Laws.Wrap64
import Derived.Test.YtcgekblpbheikaaGreatDoorQE2
section
/- The abstract machine,part 13: the rules by which an abstract walk is reckoned;answers that are closed;loops. No condition. -/
namespace Go.Proofs.YtcgekblpbheikaaGreatDoor
set_option linter.unusedVariables false

@[simp] theorem upd_mk (l:List (Nat × V)) (t:Nat) (v:V):upd (mk l) t v=mk ((t,v) :: l):=by
  funext x
  simp [upd,mk]
@[simp] theorem mk_cons (k:Nat) (v:V) (l:List (Nat × V)) (t:Nat):mk ((k,v) :: l) t=if t=k then v else mk l t:=rfl
@[simp] theorem mk_nil (t:Nat):mk [] t=.d .undef:=rfl
def keepL (l:List (Nat × V)):List Nat→List (Nat × V)
  | []=>[]
  | k :: K=>(k,mk l k) :: keepL l K
theorem mk_keepL (l:List (Nat × V)) (K:List Nat) (t:Nat):mk (keepL l K) t=if t∈K then mk l t else .d .undef:=by
  induction K with
  | nil=>simp [keepL]
  | cons k K ih =>
    simp only [keepL,mk_cons,ih,List.mem_cons]
    by_cases h:t=k
    · subst h;simp
    · simp [h]
@[simp] theorem keep_mk (l:List (Nat × V)) (K:List Nat):keep K (mk l)=mk (keepL l K):=by
  funext t
  rw [mk_keepL]
  rfl

@[congr] theorem CallsD_congr {P:Program} {f:FuncId} {vs vs':List V} {H H':Heap} {Q:V→Heap→Prop} (h1:vs=vs') (h2:H=H'):CallsD P f vs H Q=CallsD P f vs' H' Q:=by rw [h1,h2]
@[congr] theorem W_congr {P:Program} {N n0:Nat} {c:Code} {Q:Exit→St→Prop} {s s':St} (h:s=s'):W P N n0 c Q s=W P N n0 c Q s':=by rw [h]

def closeD (H:Heap):Nat→V→D
  | _,.d x=>x
  | 0,_=>.undef
  | f + 1,.sl id e off n=>match H[id]? with
    | some (.row e' es)=>if e'=e∧off + n≤es.length then .ro e n fun i j=>closeD H f (((es[off + i]?).getD [])[j]?.getD (.d .undef)) else .undef
    | _=>.undef
  | f + 1,.ptr id e i j=>match H[id]? with
    | some (.row e' es)=>if e'=e∧i < es.length then .rp (e - j) fun m=>closeD H f (((es[i]?).getD [])[j + m]?.getD (.d .undef)) else .undef
    | _=>.undef
  | f + 1,.clo fn l=>.clo fn l.length fun j=>closeD H f ((l[j]?).getD (.d .undef))
  | _ + 1,_=>.undef
def closeA (H:Heap):V→V
  | .agg l=>.agg (l.map fun x=>.d (closeD H 4 x))
  | x=>.d (closeD H 4 x)
def closeV (H:Heap):V→V
  | .tup l=>.tup (l.map (closeA H))
  | x=>closeA H x

theorem closeD_spec {X : Nat → Prop} {w : World} {φ : List (Nat × Nat)} {H : Heap} (hs : HS X w φ H) : ∀ (f : Nat) (c : V) (v : Value), VS w (owned X φ H) φ c v → DS w X (closeD H f c) v := by
  have less:∀ {d:D} {v:Value},DS w (owned X φ H) d v→DS w X d v:=fun h=>DS.keeps (fun b _ hn=>⟨rfl,fun hx=>hn (.inl hx)⟩) _ _ h
  intro f
  induction f with
  | zero =>
    intro c v hv
    cases c with
    | d x=>simp only [closeD];simp only [VS] at hv;exact less hv
    | _=>simp only [closeD,DS]
  | succ f ih =>
    intro c v hv
    cases c with
    | d x=>simp only [closeD];simp only [VS] at hv;exact less hv
    | sl id e off n =>
      simp only [VS] at hv
      obtain ⟨g,o,A,cap,hφ,rfl,hcap,hA,hroom⟩:=hv
      simp only [closeD]
      split
      · rename_i e' es hid
        split
        · rename_i hc
          obtain ⟨rfl,hlen⟩:=hc
          obtain ⟨g',o',cs,t,h1,h2,h3,h4⟩:=hs.live id _ es hid
          rw [hφ] at h1
          obtain ⟨rfl,rfl⟩:=Prod.mk.inj (Option.some.inj h1)
          simp only [DS]
          refine ⟨_,_,rfl,hcap,fun i j hi hj=>⟨A,rfl, ?_, ?_⟩⟩
          · rw [hA.resolve_left (by omega)]
            exact fun hx=>hs.disj g ⟨id,e',es,o,hid,hφ⟩ hx
          · have hlt:off + i < es.length:=by omega
            obtain ⟨r1,r2⟩:=h4 (off + i) es[off + i] (List.getElem?_eq_getElem hlt)
            have hj':j < es[off + i].length:=by omega
            obtain ⟨_,y,hy,hyv⟩:=r2 j _ (List.getElem?_eq_getElem hj')
            refine ⟨y, ?_, ?_⟩
            · rw [hA.resolve_left (by omega),add_plain',cell_of_row w g _ cs t _ h2,← hy]
              congr 1
              rw [Nat.add_mul]
              omega
            · have:=ih _ _ hyv
              simpa [hlt,hj'] using this
        · simp only [DS]
      · simp only [DS]
    | ptr id e i j =>
      simp only [VS] at hv
      obtain ⟨g,o,hφ,rfl⟩:=hv
      simp only [closeD]
      split
      · rename_i e' es hid
        split
        · rename_i hc
          obtain ⟨rfl,hlen⟩:=hc
          obtain ⟨g',o',cs,t,h1,h2,h3,h4⟩:=hs.live id _ es hid
          rw [hφ] at h1
          obtain ⟨rfl,rfl⟩:=Prod.mk.inj (Option.some.inj h1)
          simp only [DS]
          refine ⟨_,rfl,fun m hm=>⟨fun hx=>hs.disj g ⟨id,e',es,o,hid,hφ⟩ hx, ?_⟩⟩
          obtain ⟨r1,r2⟩:=h4 i es[i] (List.getElem?_eq_getElem hlen)
          have hj':j + m < es[i].length:=by omega
          obtain ⟨_,y,hy,hyv⟩:=r2 (j + m) _ (List.getElem?_eq_getElem hj')
          refine ⟨y, ?_, ?_⟩
          · rw [add_plain',cell_of_row w g _ cs t _ h2,← hy]
            congr 1
            omega
          · have:=ih _ _ hyv
            simpa [hlen,hj'] using this
        · simp only [DS]
      · simp only [DS]
    | clo fn l =>
      simp only [VS] at hv
      obtain ⟨cs,rfl,hv⟩:=hv
      have hl:=VSs.length _ _ hv
      simp only [closeD,DS]
      refine ⟨cs,rfl,by simpa using hl.symm,fun j hj=>?_⟩
      obtain ⟨y,h1,h2⟩:=VSs.get _ _ hv j l[j] (List.getElem?_eq_getElem hj)
      refine ⟨y,by simpa using h1, ?_⟩
      have:=ih _ _ h2
      simpa [hj] using this
    | _=>simp only [closeD,DS]

theorem VSs.map {w:World} {own own':Nat→Prop} {φ φ':List (Nat × Nat)} {F:V→V} (hF:∀ c v,VS w own φ c v→VS w own' φ' (F c) v):∀ (l:List V) (cs:List Value),VSs w own φ l cs→VSs w own' φ' (l.map F) cs
  | [],cs,h=>by simpa [VSs] using h
  | c :: l,cs,h=>by
    simp only [VSs] at h
    obtain ⟨v,cs',rfl,h1,h2⟩:=h
    simp only [List.map_cons,VSs]
    exact ⟨v,cs',rfl,hF c v h1,VSs.map hF l cs' h2⟩
theorem closeA_spec {X:Nat→Prop} {w:World} {φ φ':List (Nat × Nat)} {H:Heap} (hs:HS X w φ H) (c:V) (v:Value) (hv:VS w (owned X φ H) φ c v):VS w X φ' (closeA H c) v:=by
  cases c with
  | agg l =>
    simp only [VS] at hv
    obtain ⟨cs,rfl,h⟩:=hv
    simp only [closeA,VS]
    exact ⟨cs,rfl,VSs.map (fun c v h=>by simp only [VS];exact closeD_spec hs 4 c v h) _ _ h⟩
  | _=>simp only [closeA,VS];exact closeD_spec hs 4 _ v hv
theorem closeV_spec {X:Nat→Prop} {w:World} {φ φ':List (Nat × Nat)} {H:Heap} (hs:HS X w φ H) (c:V) (v:Value) (hv:VS w (owned X φ H) φ c v):VS w X φ' (closeV H c) v:=by
  cases c with
  | tup l =>
    simp only [VS] at hv
    obtain ⟨cs,rfl,h⟩:=hv
    simp only [closeV,VS]
    exact ⟨cs,rfl,VSs.map (fun c v h=>closeA_spec hs c v h) _ _ h⟩
  | agg l=>exact closeA_spec hs _ v hv
  | _=>exact closeA_spec hs _ v hv

theorem HS.nil (X:Nat→Prop) (w:World):HS X w [] [] :=
  ⟨rfl,fun i j e es e' es' g o o' hi=>by simp at hi,fun g hg=>by obtain ⟨id,e,es,o,h,_⟩:=hg;simp at h,fun id e es h=>by simp at h⟩
theorem owned_nil (X:Nat→Prop):owned X [] []=X:=by
  funext g
  apply propext
  constructor
  · rintro (h | ⟨id,e,es,o,h,_⟩)
    · exact h
    · simp at h
  · exact .inl
theorem Fin.close {H:Heap} {r:V}:Fin 0 H r [] (closeV H r):=fun X w φ v hs hv =>
  ⟨[],HS.nil X w,by rw [owned_nil];exact closeV_spec hs r v hv,fun id h=>by omega,Nat.zero_le _,fun g hg=>by obtain ⟨id,e,es,o,h,_⟩:=hg;simp at h⟩

def retC (P:Program) (rs:List ResultVar) (Q:V→Prop):Exit→St→Prop
  | .normal,s | .ret,s=>resD P rs s.env s.H fun l=>Q (closeV s.H (oneOf l))
  | _,_=>False
theorem resD_mono {P : Program} : ∀ (rs : List ResultVar) {env : Env} {H : Heap} {k k' : List V → Prop}, (∀ l, k l → k' l) → resD P rs env H k → resD P rs env H k'
  | [],env,H,k,k',h,hk=>h _ hk
  | .tmp t :: rest,env,H,k,k',h,hk=>resD_mono rest (fun l q=>h _ q) hk
  | .cell a ty :: rest, env, H, k, k', h, hk => by
    simp only [resD] at hk ⊢
    have:∀ {k k':V→Prop},(∀ v,k v→k' v)→loadD (tinfo P ty) (env a) H k→loadD (tinfo P ty) (env a) H k':=by
      intro k k' h hk
      unfold loadD at hk ⊢
      split at hk
      · exact hk
      · split at hk
        · exact ⟨hk.1,hk.2.1,h _ hk.2.2⟩
        · split at hk
          · obtain ⟨h1,l,h2,h3,h4,h5⟩:=hk
            exact ⟨h1,l,h2,h3,h4,h _ h5⟩
          · exact hk
        · exact hk
    exact this (fun v q=>resD_mono rest (fun l r=>h _ r) q) hk

section
variable {P:Program}
theorem pure_of {f:FuncId} {fn:Func} {c:Code} {vs:List V} {Q:V→Prop} (hf:P.funcs[f]? = some fn) (he:enters P f=true) (hb:fn.body=some c)
    (hn:decide (vs.length≤fn.ntmps)=true) (h:W P fn.ntmps 0 c (retC P fn.results.toList Q) ⟨envOf vs,[]⟩):PureP P f vs Q:=by
  refine calls_of hf he hb (of_decide_eq_true hn) (W_mono h ?_)
  intro e s hq
  cases e with
  | normal=>exact resD_mono _ (fun l hl=>⟨_,_,Fin.close,rfl,hl⟩) hq
  | ret=>exact resD_mono _ (fun l hl=>⟨_,_,Fin.close,rfl,hl⟩) hq
  | _=>exact hq

theorem HS.keeps {X:Nat→Prop} {w w':World} {φ:List (Nat × Nat)} {H:Heap} (hs:HS X w φ H) (hX:∀ g,X g→g < w.heap.size) (hf:Fr w (fun _=>False) w'):HS X w' φ H:=by
  have hk:Keeps w (owned X φ H) w' (owned X φ H):=fun b hb hn=>⟨hf.block b hb (fun h=>h),hn⟩
  refine ⟨hs.len,hs.inj,hs.disj,fun id e es hid=>?_⟩
  obtain ⟨g,o,cs,t,h1,h2,h3,h4⟩:=hs.live id e es hid
  refine ⟨g,o,cs,t,h1,by rw [hf.block g (owned_lt hs ⟨id,e,es,o,hid,h1⟩) (fun h=>h)];exact h2,h3,fun i l hi=>⟨(h4 i l hi).1,fun j c hj=>?_⟩⟩
  obtain ⟨ho,y,hy,hv⟩:=(h4 i l hi).2 j c hj
  exact ⟨ho,y,hy,VS.keeps hk hf.sizes (Ext.refl _) _ _ hv⟩

mutual
def V.closed:V→Bool
  | .d _=>true
  | .ptr .. | .sl ..=>false
  | .agg l | .tup l | .clo _ l=>closedL l
def closedL:List V→Bool
  | []=>true
  | c :: l=>c.closed && closedL l
end
mutual
theorem closed_any {w:World} {own:Nat→Prop} {φ φ':List (Nat × Nat)}:∀ (c:V) (v:Value),c.closed=true→VS w own φ c v→VS w own φ' c v
  | .d x,v,_,h=>h
  | .agg l,v,hc,h=>by
    obtain ⟨cs,h1,h2⟩:=h
    exact ⟨cs,h1,closedL_any l _ (by simpa [V.closed] using hc) h2⟩
  | .tup l,v,hc,h=>by
    obtain ⟨cs,h1,h2⟩:=h
    exact ⟨cs,h1,closedL_any l _ (by simpa [V.closed] using hc) h2⟩
  | .clo fn l,v,hc,h=>by
    obtain ⟨cs,h1,h2⟩:=h
    exact ⟨cs,h1,closedL_any l _ (by simpa [V.closed] using hc) h2⟩
  | .ptr ..,_,hc,_=>by simp [V.closed] at hc
  | .sl ..,_,hc,_=>by simp [V.closed] at hc
theorem closedL_any {w:World} {own:Nat→Prop} {φ φ':List (Nat × Nat)}:∀ (l:List V) (vs:List Value),closedL l=true→VSs w own φ l vs→VSs w own φ' l vs
  | [],vs,_,h=>h
  | c :: l,vs,hc,h=>by
    simp only [closedL,Bool.and_eq_true] at hc
    obtain ⟨v,vs',h1,h2,h3⟩:=h
    exact ⟨v,vs',h1,closed_any c v hc.1 h2,closedL_any l vs' hc.2 h3⟩
end

theorem PureP.calls {f:FuncId} {vs:List V} {H:Heap} {Q:V→Prop} (h:PureP P f vs Q) (hc:closedL vs=true):CallsD P f vs H fun r H'=>H'=H∧Q r:=by
  refine ⟨h.1,fun X w φ args hX hs hv=>?_⟩
  refine (h.2 (owned X φ H) w [] args (hX.all fun g=>owned_lt hs) (HS.nil _ w) (by rw [owned_nil];exact closedL_any _ _ hc hv)).mono ?_
  rintro e w' ⟨v,r,φ',H',rfl,⟨rfl,hq⟩,hs',hv',hfr,_,_,_⟩
  have hφ':φ'=[]:=List.eq_nil_of_length_eq_zero (by rw [hs'.len];rfl)
  subst hφ'
  have hno:ownOf ([]:List (Nat × Nat)) []=fun _=>False:=by
    funext g
    apply propext
    constructor
    · rintro ⟨id,e,es,o,h,_⟩;simp at h
    · exact False.elim
  rw [hno] at hfr
  rw [owned_nil] at hv'
  refine ⟨v,r,φ,H,rfl,⟨rfl,hq⟩,hs.keeps hX.low hfr,VS.keeps (w:=w') (w':=w') (φ:=[]) (fun b _ hn=>⟨rfl,hn⟩) (Sizes.refl _) (fun id hid=>by simp at hid) _ _ hv', ?_,Ext.refl _,Nat.le_refl _,fun g _ h=>h⟩
  exact ⟨hfr.os,hfr.tape,hfr.output,hfr.size,fun b hb _=>hfr.block b hb (fun h=>h),hfr.sizes⟩

def V.scalar:V→Bool
  | .d (.int ..) | .d (.bool _) | .d (.str _) | .d .undef | .d .nilp | .d .nilsl=>true
  | .tup l=>l.all fun | .d (.int ..) | .d (.bool _) | .d (.str _) | .d .undef | .d .nilp | .d .nilsl=>true | _=>false
  | _=>false
theorem scalar_any {w w':World} {own own':Nat→Prop} {φ φ':List (Nat × Nat)}:∀ (c:V) (v:Value),c.scalar=true→VS w own φ c v→VS w' own' φ' c v:=by
  have one:∀ (x:V) (v:Value),(match x with | .d (.int ..) | .d (.bool _) | .d (.str _) | .d .undef | .d .nilp | .d .nilsl=>true | _=>false)=true→VS w own φ x v→VS w' own' φ' x v:=by
    intro x v hx h
    split at hx <;> first | exact h | cases hx
  have many:∀ (l:List V) (vs:List Value),(l.all fun | .d (.int ..) | .d (.bool _) | .d (.str _) | .d .undef | .d .nilp | .d .nilsl=>true | _=>false)=true→VSs w own φ l vs→VSs w' own' φ' l vs:=by
    intro l
    induction l with
    | nil=>intro vs _ h;exact h
    | cons c l ih =>
      intro vs hl h
      simp only [List.all_cons,Bool.and_eq_true] at hl
      obtain ⟨v,vs',h1,h2,h3⟩:=h
      exact ⟨v,vs',h1,one c v hl.1 h2,ih vs' hl.2 h3⟩
  intro c v hc h
  unfold V.scalar at hc
  split at hc <;> first
    | exact h
    | (obtain ⟨cs,h1,h2⟩:=h;exact ⟨cs,h1,many _ _ hc h2⟩)
    | cases hc

theorem PureP.peek {f:FuncId} {vs vs':List V} {H:Heap} {Q:V→Prop} (h:PureP P f vs' Q) (hv:vs.map (closeV H)=vs') (hq:∀ r,Q r→r.scalar=true):CallsD P f vs H fun r H'=>H'=H∧Q r:=by
  subst hv
  refine ⟨h.1,fun X w φ args hX hs hv=>?_⟩
  refine (h.2 X w [] args hX.nil (HS.nil _ w) (by rw [owned_nil];exact VSs.map (fun c v hc=>closeV_spec hs c v hc) _ _ hv)).mono ?_
  rintro e w' ⟨v,r,φ',H',rfl,⟨rfl,hr⟩,hs',hv',hfr,_,_,_⟩
  have hno:ownOf φ []=fun _=>False:=by
    funext g
    apply propext
    constructor
    · rintro ⟨id,e,es,o,h,_⟩;simp at h
    · exact False.elim
  have hno':ownOf ([]:List (Nat × Nat)) []=fun _=>False:=by
    funext g
    apply propext
    constructor
    · rintro ⟨id,e,es,o,h,_⟩;simp at h
    · exact False.elim
  rw [hno'] at hfr
  refine ⟨v,r,φ,H,rfl,⟨rfl,hr⟩,hs.keeps hX.low hfr,scalar_any r v (hq r hr) hv', ?_,Ext.refl _,Nat.le_refl _,fun g _ h=>h⟩
  exact ⟨hfr.os,hfr.tape,hfr.output,hfr.size,fun b hb _=>hfr.block b hb (fun h=>h),hfr.sizes⟩
end
end Go.Proofs.YtcgekblpbheikaaGreatDoor
end

section
/- The abstract machine,part 14: loops over abstract states;what the walk reckons. No condition. -/
namespace Go.Proofs.YtcgekblpbheikaaGreatDoor
set_option linter.unusedVariables false

mutual
def V.under (n:Nat):V→Bool
  | .d _=>true
  | .ptr id .. | .sl id ..=>decide (id < n)
  | .agg l | .tup l | .clo _ l=>belowL n l
def belowL (n:Nat):List V→Bool
  | []=>true
  | c :: l=>c.under n && belowL n l
end
theorem take_φ {φ:List (Nat × Nat)} {n id:Nat} (h:id < n):(φ.take n)[id]? = φ[id]?:=by rw [List.getElem?_take,if_pos h]
mutual
theorem below_take {w:World} {own:Nat→Prop} {φ:List (Nat × Nat)} {n:Nat}:∀ (c:V) (v:Value),c.under n=true→VS w own φ c v→VS w own (φ.take n) c v
  | .d x,v,_,h=>h
  | .ptr id e i j,v,hb,h=>by
    obtain ⟨g,o,h1,h2⟩:=h
    exact ⟨g,o,by rw [take_φ (by simpa [V.under] using hb)];exact h1,h2⟩
  | .sl id e off m,v,hb,h=>by
    obtain ⟨g,o,A,cap,h1,h2⟩:=h
    exact ⟨g,o,A,cap,by rw [take_φ (by simpa [V.under] using hb)];exact h1,h2⟩
  | .agg l,v,hb,h=>by
    obtain ⟨cs,h1,h2⟩:=h
    exact ⟨cs,h1,belowL_take l _ (by simpa [V.under] using hb) h2⟩
  | .tup l,v,hb,h=>by
    obtain ⟨cs,h1,h2⟩:=h
    exact ⟨cs,h1,belowL_take l _ (by simpa [V.under] using hb) h2⟩
  | .clo fn l,v,hb,h=>by
    obtain ⟨cs,h1,h2⟩:=h
    exact ⟨cs,h1,belowL_take l _ (by simpa [V.under] using hb) h2⟩
theorem belowL_take {w:World} {own:Nat→Prop} {φ:List (Nat × Nat)} {n:Nat}:∀ (l:List V) (vs:List Value),belowL n l=true→VSs w own φ l vs→VSs w own (φ.take n) l vs
  | [],vs,_,h=>h
  | c :: l,vs,hb,h=>by
    simp only [belowL,Bool.and_eq_true] at hb
    obtain ⟨v,vs',h1,h2,h3⟩:=h
    exact ⟨v,vs',h1,below_take c v hb.1 h2,belowL_take l vs' hb.2 h3⟩
end

def placeBelow (n:Nat):Place→Bool
  | .dead=>true
  | .row _ es=>es.all fun l=>l.all (V.under n)
def intoE (env:Env) (n:Nat):List (Nat × V)→Prop
  | []=>True
  | (k,v) :: l=>(env k=v∧v.under n=true)∧intoE env n l
def placesBelow (n:Nat):Heap→Prop
  | []=>True
  | p :: H=>placeBelow n p=true∧placesBelow n H
def Into (n0:Nat) (s:St) (l:List (Nat × V)) (H:Heap):Prop :=
  n0≤H.length∧s.H.take H.length=H∧placesBelow H.length H∧intoE s.env H.length l

theorem intoE_mk {env:Env} {n:Nat}:∀ (l:List (Nat × V)),intoE env n l→∀ t,mk l t=.d .undef∨(mk l t=env t∧(mk l t).under n=true)
  | [],_,t=>.inl rfl
  | (k,v) :: l,h,t=>by
    simp only [intoE] at h
    simp only [mk_cons]
    split
    · rename_i e
      subst e
      exact .inr ⟨h.1.1.symm,h.1.2⟩
    · exact intoE_mk l h.2 t
theorem placesBelow_get {n:Nat}:∀ {H:Heap},placesBelow n H→∀ {i:Nat} {p:Place},H[i]? = some p→placeBelow n p=true
  | [],_,i,p,h=>by simp at h
  | q :: H,hb,0,p,h=>by simp at h;subst h;exact hb.1
  | q :: H,hb,i + 1,p,h=>placesBelow_get hb.2 (by simpa using h)

theorem Into.weak {n0:Nat} {s:St} {l:List (Nat × V)} {H:Heap} (h:Into n0 s l H):Weak n0 s ⟨mk l,H⟩:=by
  intro x N φ a w hx hs
  obtain ⟨h1,h2,h3,h4⟩:=h
  have hle:H.length≤s.H.length:=by
    have:=congrArg List.length h2
    rw [List.length_take] at this
    omega
  have hget:∀ id,id < H.length→s.H[id]? = H[id]?:=fun id hid=>by
    have:=congrArg (fun l=>l[id]?) h2
    simp only [List.getElem?_take,if_pos hid] at this
    exact this
  have hown:∀ g,ownOf (φ.take H.length) H g→ownOf φ s.H g:=by
    rintro g ⟨id,e,es,o,q1,q2⟩
    have hid:=(List.getElem?_eq_some_iff.1 q1).1
    rw [take_φ hid] at q2
    exact ⟨id,e,es,o,by rw [hget id hid];exact q1,q2⟩
  have less:∀ {c:V} {v:Value},VS w (owned x.X φ s.H) φ c v→VS w (owned x.X (φ.take H.length) H) φ c v:=fun hv =>
    VS.keeps (fun b _ hn=>⟨rfl,fun h'=>hn (h'.imp (fun q=>q) (hown b))⟩) (Sizes.refl w) (Ext.refl φ) _ _ hv
  refine ⟨φ.take H.length,⟨by show (φ.take H.length).length=H.length;rw [List.length_take,hs.hs.len];omega, ?_,fun g hg=>hs.hs.disj g (hown g hg), ?_⟩, ?_,hs.low,hs.defers,hs.size,hs.fr,fun g hg ho=>hs.old g hg (hown g ho), ?_,by show x.H0.length≤H.length;rw [hx];exact h1,hs.len0⟩
  · intro i j e es e' es' g o o' hi hj hgi hgj
    have li:=(List.getElem?_eq_some_iff.1 hi).1
    have lj:=(List.getElem?_eq_some_iff.1 hj).1
    rw [take_φ li] at hgi
    rw [take_φ lj] at hgj
    exact hs.hs.inj i j e es e' es' g o o' (by rw [hget i li];exact hi) (by rw [hget j lj];exact hj) hgi hgj
  · intro id e es hid
    have hl:=(List.getElem?_eq_some_iff.1 hid).1
    obtain ⟨g,o,cs,t,r1,r2,r3,r4⟩:=hs.hs.live id e es (by rw [hget id hl];exact hid)
    refine ⟨g,o,cs,t,by rw [take_φ hl];exact r1,r2,r3,fun i m hm=>⟨(r4 i m hm).1,fun j c hc=>?_⟩⟩
    obtain ⟨ho,y,hy,hv⟩:=(r4 i m hm).2 j c hc
    refine ⟨ho,y,hy,below_take _ _ ?_ (less hv)⟩
    have:=placesBelow_get h3 hid
    simp only [placeBelow,List.all_eq_true] at this
    exact this m (List.mem_of_getElem? hm) c (List.mem_of_getElem? hc)
  · intro t
    show VS w (owned x.X (φ.take H.length) H) (φ.take H.length) (mk l t) _
    rcases intoE_mk l h4 t with h | ⟨h,hb⟩
    · rw [h];simp [VS,DS]
    · refine below_take _ _ hb (less ?_)
      rw [h]
      exact hs.env t
  · intro id hid
    rw [hs.len0] at hid
    rw [take_φ (by rw [hx] at hid;omega)]
    exact hs.ext id (by rw [hs.len0];exact hid)

theorem W_loopA {P:Program} {N n0:Nat} {c:Code} {Q:Exit→St→Prop} {s:St} {α:Type} (E:α→List (Nat × V)) (Hp:α→Heap) (Inv:α→Prop) (μ:α→Nat) (a0:α)
    (h0:Into n0 s (E a0) (Hp a0)) (hI:Inv a0)
    (round:∀ a,Inv a→W P N n0 c (seqQ (fun s'=>∃ b,Inv b∧μ b < μ a∧Into n0 s' (E b) (Hp b)) Q) ⟨mk (E a),Hp a⟩):W P N n0 (.loop c) Q s:=by
  refine W_weak h0.weak (W_loop (fun n s=>∃ a,μ a=n∧Inv a∧s=⟨mk (E a),Hp a⟩) (μ a0) ⟨a0,rfl,hI,rfl⟩ ?_)
  rintro n s ⟨a,rfl,hI,rfl⟩
  refine W_mono (round a hI) ?_
  intro e s' hq
  cases e with
  | normal =>
    obtain ⟨b,hb,hlt,hi⟩:=hq
    exact ⟨μ b,_,hlt,hi.weak,b,rfl,hb,rfl⟩
  | _=>exact hq

attribute [simp] V.shift shiftL Place.shift wpD seqQ blockQ opsD opD strip stripOps dstsOf slotOf updO ev keepL envOf envFrom dOf constV loadD storeD boxD allocD fillV buildD inOrder buildSliceD makeSliceD nilCheckD optK binI shiftI eqOp binD unD convertD convH bytesD
  fieldAddrD fieldD indexAddrD indexD extractD boundD sliceD elemsD appendD copyD lenD goD callD retC resD oneOf asVal upto V.flat ones V.one setMany closeV closeA closeD V.closed closedL V.under belowL placeBelow placesBelow intoE Into

end Go.Proofs.YtcgekblpbheikaaGreatDoor
end

section
/- The abstract machine,part 15: arguments that are read as data stand for data of Lean;a law that answers true,as a row asks it. No condition. -/
namespace Go.Proofs.YtcgekblpbheikaaGreatDoor
open Go.ChangeShapes Go.WideShapes Go.ChangeAt Go.RowKit
set_option linter.unusedVariables false

class Enc (α:Type) where
  size:Nat
  agg:Bool
  cells:α→Nat→D
  good:α→Prop
  un:(Nat→D)→α
  un_of:∀ (a:α) (f:Nat→D),(∀ j,j < size→f j=cells a j)→un f=a

structure Reads (P:Program) (t:TypeId) (α:Type) [Enc α]:Prop where
  cells:P.cellsOf t=Enc.size α
  kind:match P.underlying t with | some (.struct _)=>Enc.agg α=true | some (.array _ _)=>False | _=>Enc.agg α=false∧Enc.size α=1
  read:∀ (H:Type) (enc:TypeId × Value→H) (w:World) (fuel:Nat) (cs:List Value) (x:DataW H × List MemPlace),DataW.trod enc P w 0 (fun _=>true) true fuel t cs=some x →
    cs.length=Enc.size α∧∃ a:α,Enc.good a∧∀ j v,cs[j]? = some v→DS w (fun _=>False) (Enc.cells a j) v

@[reducible] instance encInt:Enc Int where
  size:=1
  agg:=false
  cells n _:=.int .i64 n
  good n:=-9223372036854775808≤n∧n≤9223372036854775807
  un f:=match f 0 with | .int _ n=>n | _=>0
  un_of a f h:=by rw [h 0 (by omega)]
@[reducible] instance encBool:Enc Bool where
  size:=1
  agg:=false
  cells b _:=.bool b
  good _:=True
  un f:=match f 0 with | .bool b=>b | _=>false
  un_of a f h:=by rw [h 0 (by omega)]
@[reducible] instance encStr:Enc ByteArray where
  size:=1
  agg:=false
  cells s _:=.str s
  good s:=s.size≤9223372036854775807
  un f:=match f 0 with | .str s=>s | _=>default
  un_of a f h:=by rw [h 0 (by omega)]
@[reducible] instance encList {α:Type} [Enc α] [Inhabited α]:Enc (List α) where
  size:=1
  agg:=false
  cells l _:=.ro (Enc.size α) l.length fun i j=>Enc.cells (l[i]?.getD default) j
  good l:=l.length≤9223372036854775807∧∀ a∈l,Enc.good a
  un f:=match f 0 with | .ro _ n g=>(List.range n).map fun i=>Enc.un (g i) | _=>[]
  un_of a f h:=by
    rw [h 0 (by omega)]
    refine List.ext_getElem (by simp) fun i h1 h2=>?_
    simp only [List.getElem_map,List.getElem_range]
    refine Enc.un_of _ _ fun j _=>?_
    rw [List.getElem?_eq_getElem h2]
    rfl

theorem reads_int {P:Program} {t:TypeId} (ht:P.underlying t=some (.int .i64)) (hc:P.cellsOf t=1):Reads P t Int:=by
  refine ⟨hc,by rw [ht];exact ⟨rfl,rfl⟩,fun H enc w fuel cs x h=>?_⟩
  obtain ⟨n,rfl,_,hw⟩:=DataW.trod_int ht h
  refine ⟨rfl,n,bounds_i64 hw,fun j v hv=>?_⟩
  match j,hv with
  | 0,hv=>simp at hv;subst hv;rfl

theorem pick_list {α : Type} {Q : Nat → α → Prop} : ∀ (n : Nat), (∀ i, i < n → ∃ a, Q i a) → ∃ l : List α, l.length = n ∧ ∀ i a, l[i]? = some a → Q i a := by
  intro n
  induction n with
  | zero=>exact fun _=>⟨[],rfl,by simp⟩
  | succ n ih =>
    intro h
    obtain ⟨l,hl,hq⟩:=ih fun i hi=>h i (by omega)
    obtain ⟨a,ha⟩:=h n (by omega)
    refine ⟨l++[a],by simp [hl],fun i b hb=>?_⟩
    rw [List.getElem?_append] at hb
    split at hb
    · exact hq i b hb
    · rename_i hge
      have:i - l.length=0:=by
        by_cases h0:i - l.length=0
        · exact h0
        · rw [List.getElem?_eq_none (by simp;omega)] at hb;simp at hb
      rw [this] at hb
      simp at hb
      subst hb
      have:i=n:=by omega
      subst this
      exact ha

theorem reads_list {P : Program} {t e : TypeId} {α : Type} [Enc α] [Inhabited α] (ht : P.underlying t = some (.slice e)) (hc : P.cellsOf t = 1) (he : Reads P e α) : Reads P t (List α) := by
  refine ⟨hc,by rw [ht];exact ⟨rfl,rfl⟩,fun H enc w fuel cs x h=>?_⟩
  rcases DataW.trod_slice ht h with ⟨rfl,_⟩ | ⟨a,len,cap,elems,rest,n,rfl,rfl,_,_,hle,hmax,hlen,hel,_⟩
  · refine ⟨rfl,[],⟨by simp,by simp⟩,fun j v hv=>?_⟩
    match j,hv with
    | 0,hv =>
      simp at hv;subst hv
      exact ⟨none,0,rfl,Nat.le_refl _,fun i j hi=>by simp at hi⟩
  · have hq:∀ i,i < len→∃ b:α,Enc.good b∧∀ j,j < Enc.size α→∃ c,w.cell? (a.add (i * Enc.size α + j))=some c∧DS w (fun _=>False) (Enc.cells b j) c:=by
      intro i hi
      have h1:=hel i hi
      rw [List.getElem?_eq_getElem (by omega)] at h1
      simp only [Option.bind_eq_some_iff] at h1
      obtain ⟨cs',hcs,h2⟩:=h1
      obtain ⟨hl,b,hg,hb⟩:=he.read H enc w n cs' _ h2
      obtain ⟨_,_,h3⟩:=World.cells?_some hcs
      refine ⟨b,hg,fun j hj=>?_⟩
      have h4:=h3 j (by rw [he.cells];exact hj)
      rw [Addr.add_add,he.cells] at h4
      have h5:j < cs'.length:=by omega
      refine ⟨cs'[j],by rw [h4];exact List.getElem?_eq_getElem h5,hb j _ (List.getElem?_eq_getElem h5)⟩
    obtain ⟨l,hl,hq⟩:=pick_list len hq
    refine ⟨rfl,l,⟨by rw [hl];exact Nat.le_trans hle hmax,fun b hb=>?_⟩,fun j v hv=>?_⟩
    · obtain ⟨i,hi⟩:=List.mem_iff_getElem?.1 hb
      exact (hq i b hi).1
    · match j,hv with
      | 0,hv =>
        simp at hv;subst hv
        refine ⟨some a,cap,by rw [hl],by omega,fun i j hi hj=>⟨a,rfl,fun h=>h, ?_⟩⟩
        obtain ⟨c,h1,h2⟩:=(hq i _ (List.getElem?_eq_getElem hi)).2 j hj
        refine ⟨c,h1, ?_⟩
        have e:l[i]?.getD default=l[i]:=by rw [List.getElem?_eq_getElem hi];rfl
        simpa only [e] using h2

theorem field_read {H:Type} {enc:TypeId × Value→H} {P:Program} {w:World} {fuel:Nat} {t:TypeId} {fs:Array Field} {cs:List Value} {x:DataW H × List MemPlace}
    (ht:P.underlying t=some (.struct fs)) (h:DataW.trod enc P w 0 (fun _=>true) true fuel t cs=some x) {α:Type} [Enc α] (i:Nat) (f:Field) (hf:fs[i]? = some f) (hr:Reads P f.type α) :
    ∃ a:α,Enc.good a∧∀ j v,j < Enc.size α→cs[f.offset + j]? = some v→DS w (fun _=>False) (Enc.cells a j) v:=by
  obtain ⟨xs,n,rfl,_,_,hl,hfl⟩:=DataW.trod_struct ht h
  have hi:i < fs.size:=(Array.getElem?_eq_some_iff.1 hf).1
  have h1:=hfl i f hf
  rw [List.getElem?_eq_getElem (by omega)] at h1
  obtain ⟨_,a,hg,ha⟩:=hr.read H enc w n _ _ h1
  refine ⟨a,hg,fun j v hj hv=>ha j v ?_⟩
  rw [List.getElem?_take,hr.cells,if_pos hj,List.getElem?_drop]
  exact hv

def argV {α:Type} [Enc α] (a:α):V:=bif Enc.agg α then .agg ((List.range (Enc.size α)).map fun j=>.d (Enc.cells a j)) else .d (Enc.cells a 0)

theorem VSs.of_cells {w:World} {own:Nat→Prop} {φ:List (Nat × Nat)} {f:Nat→D}:∀ (n k:Nat) (cs:List Value),cs.length=n→(∀ j v,cs[j]? = some v→DS w own (f (k + j)) v)→VSs w own φ ((List.range' k n).map fun j=>V.d (f j)) cs
  | 0,k,cs,hl,h=>by
    obtain rfl:cs=[]:=List.eq_nil_of_length_eq_zero hl
    simp [VSs]
  | n + 1, k, cs, hl, h => by
    match cs,hl with
    | c :: cs,hl =>
      simp only [List.range'_succ,List.map_cons,VSs]
      refine ⟨c,cs,rfl,h 0 c (by simp),VSs.of_cells n (k + 1) cs (by simpa using hl) fun j v hv=>?_⟩
      have:=h (j + 1) v (by simpa using hv)
      rwa [show k + (j + 1)=k + 1 + j by omega] at this

theorem arg_of {H : Type} {enc : TypeId × Value → H} {P : Program} {w : World} {r : Reach} {b0 : Nat} {t : TypeId} {v : Value} {d : DataW H} {ps : List MemPlace} {α : Type} [Enc α] (hr : Reads P t α)
    (hval:Value.okWide P w r b0 t v) (hd:DataW.Trod enc P w 0 (fun _=>true) true t v d ps):∃ a:α,Enc.good a∧VS w (fun _=>False) [] (argV a) v:=by
  obtain ⟨fuel,hd⟩:=hd
  obtain ⟨hl,a,hg,ha⟩:=hr.read H enc w fuel _ _ hd
  refine ⟨a,hg, ?_⟩
  have hk:=hr.kind
  unfold Value.okWide at hval
  split at hk
  · rename_i fs hu
    rw [hu] at hval
    obtain ⟨cs,rfl,_,_⟩:=hval
    simp only [argV,hk,cond_true,VS]
    refine ⟨cs,rfl, ?_⟩
    have:=VSs.of_cells (w:=w) (own:=fun _=>False) (φ:=[]) (f:=Enc.cells a) (Enc.size α) 0 cs.toList hl fun j v hv=>by rw [Nat.zero_add];exact ha j v hv
    rwa [← List.range_eq_range'] at this
  · exact hk.elim
  · obtain ⟨h1,h2⟩:=hk
    simp only [argV,h1,cond_false,VS]
    have:v.cells=#[v]:=by
      cases v with
      | agg cs =>
        exfalso
        split at hval
        · rename_i hu _;simp_all
        · rename_i hu _;simp_all
        · rename_i h3 h4 h5
          unfold Cell.okWide at hval
          split at hval <;> simp_all [Cell.ok]
      | _=>rfl
    refine ha 0 v ?_
    rw [this]
    rfl

theorem below_of_fr {w w':World} (h:Fr w (fun _=>False) w'):Below w.heap.size w w':=⟨h.os,h.tape,h.output,h.size,fun b hb=>h.block b hb fun h=>h⟩

theorem PureP.run {P:Program} {f:FuncId} {vs:List V} {Q:V→Prop} (h:PureP P f vs Q) {w:World} {args:Array Value} (hb:base w fun _=>False) (hv:VSs w (fun _=>False) [] vs args.toList) :
    Calls P f args w fun e w'=>∃ v r,e=.returned v∧Q r∧VS w' (fun _=>False) [] r v∧Below w.heap.size w w':=by
  have hno:ownOf ([]:List (Nat × Nat)) []=fun _=>False:=by
    funext g
    apply propext
    constructor
    · rintro ⟨id,e,es,o,h,_⟩;simp at h
    · exact False.elim
  have hno':owned (fun _=>False) ([]:List (Nat × Nat)) []=fun _=>False:=by
    funext g
    simp [owned,hno]
  refine (h.2 (fun _=>False) w [] args ⟨fun g h=>h.elim,by rw [hno'];exact hb⟩ (HS.nil _ w) (by rw [hno'];exact hv)).mono ?_
  rintro e w' ⟨v,r,φ',H',rfl,⟨rfl,hq⟩,hs',hv',hfr,_,_,_⟩
  have hφ':φ'=[]:=List.eq_nil_of_length_eq_zero (by rw [hs'.len];rfl)
  subst hφ'
  rw [hno'] at hv'
  rw [hno] at hfr
  exact ⟨v,r,rfl,hq,hv',below_of_fr hfr⟩

theorem trodAll_stays {H:Type} {enc:TypeId × Value→H} {P:Program} (hl:laidOutB P=true) {W W':World} (hb:Below W.heap.size W W'):∀ (ts:List TypeId) (vs:List Value) (ds:List (DataW H)) (ps:List MemPlace),
    (ts.all fun t=>P.readableRec t && decide (t < P.types.size))=true→DataW.TrodAll enc P W 0 (fun _=>true) true ts vs ds ps→DataW.TrodAll enc P W' 0 (fun b=>decide (b < W.heap.size)) true ts vs ds ps:=by
  intro ts
  induction ts with
  | nil =>
    intro vs ds ps _ h
    match vs,ds,h with
    | [],[],h=>exact h
  | cons t ts ih =>
    intro vs ds ps ha h
    match vs,ds,h with
    | v :: vs,d :: ds,h =>
      have hlt:=DataW.TrodAll.lt (ts:=t :: ts) (vs:=v :: vs) (ds:=d :: ds) h
      obtain ⟨p,q,h1,h2,rfl⟩:=h
      simp only [List.all_cons,Bool.and_eq_true,decide_eq_true_eq] at ha
      exact ⟨p,q,Below.trod hl ha.1.1 ha.1.2 h1 hb fun x hx=>hlt x (by simp [hx]),ih vs ds q ha.2 h2,rfl⟩

theorem row_end {H:Type} {enc:TypeId × Value→H} {P:Program} {fn:Func} {s:ChangeSpec} {apart:Bool} {f:FuncId} {W:World} {args:Array Value} {ds gs:List (DataW H)} {before:List MemPlace} {vs:List V} {t:TypeId}
    (hl:laidOutB P=true) (hp:(fn.params.toList.all fun t=>P.readableRec t && decide (t < P.types.size))=true) (hr:fn.resultTypes=#[t]) (ht:P.underlying t=some .bool)
    (hW:DataW.Whole enc P fn.params.toList s.vars apart W args.toList ds gs before) (hs:s.vars=[]) (h1:(s.fn H (ds++gs)).results=[.lit (.bool true)]) (h2:(s.fn H (ds++gs)).args=ds) (h3:(s.fn H (ds++gs)).vars=[])
    (hv:VSs W (fun _=>False) [] vs args.toList) (h:PureP P f vs (· = .d (.bool true))) (hb:base W fun _=>False:=by intro g cs e;simp [theTab] at e) :
    Calls P f args W fun e W'=>∃ v,e=.returned v∧s.post enc P fn apart true false false W args v W':=by
  refine (h.run hb hv).mono ?_
  rintro e W' ⟨v,r,rfl,rfl,hvr,bel⟩
  have hvr':v=.bool true:=hvr
  subst hvr'
  have hW':=hW
  obtain ⟨p,q,hA,hV,rfl,_,_⟩:=hW'
  have hgs:gs=[]∧q=[]:=by
    rw [hs] at hV
    exact trodVars_none hV
  obtain ⟨rfl,rfl⟩:=hgs
  refine ⟨_,rfl,ds,[],_,[],p,[],hW, ?_, ?_, ?_,bel.frame _,fun h=>by cases h⟩
  · rw [h1,hr]
    exact trodAll_mk1 (shut_bool ht _)
  · rw [h2]
    exact trodAll_stays hl bel _ _ _ _ hp hA
  · rw [hs,h3]
    rfl

end Go.Proofs.YtcgekblpbheikaaGreatDoor
end

section
/- The abstract machine,part 16: the walk's two recursions under lock: Lean's kernel is not to unfold what is yet to be walked. No condition. -/
namespace Go.Proofs.YtcgekblpbheikaaGreatDoor

def nrmE (e:Env) (H:Heap) (F:Env→Heap→Prop):Prop:=F e H
@[congr] theorem nrmE_congr {e e':Env} {H H':Heap} {F:Env→Heap→Prop} (h:∀ _u:Unit,e=e') (h':∀ _u:Unit,H=H'):nrmE e H F=nrmE e' H' F:=by rw [h (),h' ()]
@[simp] theorem nrmE_go {e:Env} {H:Heap} {F:Env→Heap→Prop}:nrmE e H F=F e H:=rfl
theorem opsL_ex:∃ f,f = @opsD:=⟨_,rfl⟩
noncomputable def opsL:Program→Table→List (Option Nat)→List SOp→Env→Heap→(Env→Heap→Prop)→Prop:=Classical.choose opsL_ex
theorem opsL_eq:opsL = @opsD:=Classical.choose_spec opsL_ex
theorem wpL_ex:∃ f,f = @wpD:=⟨_,rfl⟩
noncomputable def wpL:Program→Table→Nat→Nat→List Nat→SCode→(Exit→St→Prop)→St→Prop:=Classical.choose wpL_ex
theorem wpL_eq:wpL = @wpD:=Classical.choose_spec wpL_ex

section
variable {P:Program} {Γ:Table} {N n0:Nat} {K:List Nat}
@[simp ↓] theorem opsL_nil {all:List (Option Nat)} {env:Env} {H:Heap} {k:Env→Heap→Prop}:opsL P Γ all [] env H k=k env H:=by
  rw [opsL_eq];rfl
@[simp ↓] theorem opsL_plain {all:List (Option Nat)} {dst:Option Nat} {op:Op} {rest:List SOp} {env:Env} {H:Heap} {k:Env→Heap→Prop} :
    opsL P Γ all (⟨dst,op,none⟩ :: rest) env H k=opD P Γ env H op fun v H'=>(nrmE (updO env dst v) H' fun e h=>opsL P Γ all rest e h k):=by
  rw [opsL_eq];rfl
@[simp ↓ 100] theorem opsL_guard {all:List (Option Nat)} {dst:Option Nat} {op:Op} {j:Nat} {want:Bool} {rest:List SOp} {env:Env} {H:Heap} {k:Env→Heap→Prop} :
    opsL P Γ all (⟨dst,op,some (j,want)⟩ :: rest) env H k=(match slotOf all j with
      | none=>False
      | some t=>match env t with
        | .d (.bool b)=>(b=want→opD P Γ env H op fun v H'=>(nrmE (updO env dst v) H' fun e h=>opsL P Γ all rest e h k))∧(b ≠ want→(nrmE (updO env dst (.tup [])) H fun e h=>opsL P Γ all rest e h k))
        | .tup []=>(nrmE (updO env dst (.tup [])) H fun e h=>opsL P Γ all rest e h k)
        | _=>False):=by
  rw [opsL_eq];rfl
def guardV (all:List (Option Nat)) (env:Env) (j:Nat):V:=match slotOf all j with | none=>.d .undef | some t=>env t
@[simp ↓ 2000] theorem opsL_on {all:List (Option Nat)} {dst:Option Nat} {op:Op} {j:Nat} {want:Bool} {rest:List SOp} {env:Env} {H:Heap} {k:Env→Heap→Prop} (h:guardV all env j=.d (.bool want)) :
    opsL P Γ all (⟨dst,op,some (j,want)⟩ :: rest) env H k=opD P Γ env H op fun v H'=>(nrmE (updO env dst v) H' fun e h=>opsL P Γ all rest e h k):=by
  rw [opsL_eq]
  unfold guardV at h
  split at h
  · cases h
  · rename_i t e
    simp only [nrmE,opsD,e,h,ne_eq,not_true_eq_false,false_implies,and_true,true_implies]
@[simp ↓ 2000] theorem opsL_off {all:List (Option Nat)} {dst:Option Nat} {op:Op} {j:Nat} {want:Bool} {rest:List SOp} {env:Env} {H:Heap} {k:Env→Heap→Prop} (h:guardV all env j=.d (.bool (!want))) :
    opsL P Γ all (⟨dst,op,some (j,want)⟩ :: rest) env H k=(nrmE (updO env dst (.tup [])) H fun e h=>opsL P Γ all rest e h k):=by
  rw [opsL_eq]
  unfold guardV at h
  split at h
  · cases h
  · rename_i t e
    cases want
    · simp only [opsD,e,h,Bool.not_false]
      exact propext ⟨fun q=>q.2 (by decide),fun q=>⟨fun e=>(by cases e),fun _=>q⟩⟩
    · simp only [opsD,e,h,Bool.not_true]
      exact propext ⟨fun q=>q.2 (by decide),fun q=>⟨fun e=>(by cases e),fun _=>q⟩⟩
@[simp ↓ 2000] theorem opsL_tup {all:List (Option Nat)} {dst:Option Nat} {op:Op} {j:Nat} {want:Bool} {rest:List SOp} {env:Env} {H:Heap} {k:Env→Heap→Prop} (h:guardV all env j=.tup []) :
    opsL P Γ all (⟨dst,op,some (j,want)⟩ :: rest) env H k=(nrmE (updO env dst (.tup [])) H fun e h=>opsL P Γ all rest e h k):=by
  rw [opsL_eq]
  unfold guardV at h
  split at h
  · cases h
  · rename_i t e
    simp only [nrmE,opsD,e,h]
attribute [simp] guardV
@[simp ↓ 2000] theorem pickD_true {c a b:V} {k:V→Prop} (h:c=.d (.bool true)):pickD c a b k=k a:=by
  subst h
  simp only [pickD]
  split
  · rfl
  · exact propext ⟨fun q=>q.1 trivial,fun q=>⟨fun _=>q,fun e=>(by cases e)⟩⟩
@[simp ↓ 2000] theorem pickD_false {c a b:V} {k:V→Prop} (h:c=.d (.bool false)):pickD c a b k=k b:=by
  subst h
  simp only [pickD]
  split
  · rfl
  · exact propext ⟨fun q=>q.2 trivial,fun q=>⟨fun e=>(by cases e),fun _=>q⟩⟩
@[simp ↓ 100] theorem pickD_open {c a b:V} {k:V→Prop}:pickD c a b k=(match c with
  | .d (.bool t)=>(match a,b with
    | .d (.bool p),.d (.bool q)=>k (.d (.bool (bif t then p else q)))
    | _,_=>(t=true→k a)∧(t=false→k b))
  | _=>False):=rfl
@[simp ↓] theorem wpL_skip {Q:Exit→St→Prop} {s:St}:wpL P Γ N n0 K .skip Q s=Q .normal s:=by rw [wpL_eq];rfl
@[simp ↓] theorem wpL_ops {l:List SOp} {Q:Exit→St→Prop} {s:St}:wpL P Γ N n0 K (.ops l) Q s=opsL P Γ (dstsOf l) l s.env s.H fun env H=>Q .normal ⟨keep K env,H⟩:=by rw [wpL_eq,opsL_eq];rfl
@[simp ↓] theorem wpL_draw {id:Nat} {ops:Array Oper} {Q:Exit→St→Prop} {s:St}:wpL P Γ N n0 K (.draw id ops) Q s=W P N n0 (.region id ops true) Q s:=by rw [wpL_eq];rfl
@[simp ↓] theorem wpL_seq {a b:SCode} {Q:Exit→St→Prop} {s:St}:wpL P Γ N n0 K (.seq a b) Q s=wpL P Γ N n0 K a (seqQ (wpL P Γ N n0 K b Q) Q) s:=by rw [wpL_eq];rfl
@[simp ↓ 100] theorem wpL_cond {c:Operand} {a b:SCode} {Q:Exit→St→Prop} {s:St}:wpL P Γ N n0 K (.cond c a b) Q s=(match ev s.env c with
    | .d (.bool t)=>(t=true→wpL P Γ N n0 K a Q s)∧(t=false→wpL P Γ N n0 K b Q s)
    | _=>False):=by rw [wpL_eq];rfl
@[simp ↓] theorem wpL_block {id:Nat} {c:SCode} {Q:Exit→St→Prop} {s:St}:wpL P Γ N n0 K (.block id c) Q s=wpL P Γ N n0 K c (blockQ id Q) s:=by rw [wpL_eq];rfl
@[simp ↓] theorem wpL_loop {c:Code} {Q:Exit→St→Prop} {s:St}:wpL P Γ N n0 K (.loop c) Q s=W P N n0 (.loop c) Q s:=by rw [wpL_eq];rfl
@[simp ↓] theorem wpL_exit {id:Nat} {Q:Exit→St→Prop} {s:St}:wpL P Γ N n0 K (.exit id) Q s=Q (.exit id) s:=by rw [wpL_eq];rfl
@[simp ↓] theorem wpL_ret {Q:Exit→St→Prop} {s:St}:wpL P Γ N n0 K .ret Q s=Q .ret s:=by rw [wpL_eq];rfl
@[simp ↓] theorem wpL_other {c:Code} {Q:Exit→St→Prop} {s:St}:wpL P Γ N n0 K (.other c) Q s=W P N n0 c Q s:=by rw [wpL_eq];rfl

end

theorem wrap_id {n:Int} (h1:-9223372036854775808≤n) (h2:n≤9223372036854775807):IntKind.i64.wrap n=n:=by
  rw [IntKind.wrap_i64];omega

theorem PureP.ro {P:Program} {f:FuncId} {vs:List V} {e n:Nat} {f1:Nat→Nat→D} (h:PureP P f vs fun r=>∃ f0,r=.d (.ro e n f0)∧∀ i j,i < n→j < e→f0 i j=f1 i j):PureP P f vs (· = .d (.ro e n f1)):=by
  refine ⟨h.1,fun X w φ args hX hs hv=>(h.2 X w φ args hX hs hv).mono ?_⟩
  rintro e' w' ⟨v,r,φ',H',rfl,⟨rfl,f0,rfl,hf⟩,hs',hv',rest⟩
  refine ⟨v,_,φ',[],rfl,⟨rfl,rfl⟩,hs', ?_,rest⟩
  simp only [VS,DS] at hv' ⊢
  obtain ⟨A,cap,h1,h2,h3⟩:=hv'
  refine ⟨A,cap,h1,h2,fun i j hi hj=>?_⟩
  rw [← hf i j hi hj]
  exact h3 i j hi hj

theorem PureP.good {P:Program} {f:FuncId} {vs:List V} {r:V} (h:PureP P f vs (· = r)) (hc:closedL vs=true) (H:Heap):CallsD P f vs H (answers r [] H) :=
  (h.calls hc).mono fun _ _ ⟨a,b⟩=>⟨b,a⟩

mutual
theorem VS.shift {w:World} {own:Nat→Prop} (φ φ':List (Nat × Nat)):∀ (c:V) (v:Value),VS w own φ' c v→VS w own (φ++φ') (c.shift φ.length) v
  | .d x,v,h=>by simpa only [V.shift,VS] using h
  | .ptr id e i j,v,h=>by
    simp only [V.shift,VS] at h ⊢
    obtain ⟨g,o,h1,h2⟩:=h
    exact ⟨g,o,by rw [List.getElem?_append_right (by omega),Nat.add_sub_cancel_left];exact h1,h2⟩
  | .sl id e off n,v,h=>by
    simp only [V.shift,VS] at h ⊢
    obtain ⟨g,o,A,cap,h1,h2⟩:=h
    exact ⟨g,o,A,cap,by rw [List.getElem?_append_right (by omega),Nat.add_sub_cancel_left];exact h1,h2⟩
  | .agg l,v,h=>by
    simp only [V.shift,VS] at h ⊢
    obtain ⟨cs,h1,h2⟩:=h
    exact ⟨cs,h1,VSs.shift φ φ' l _ h2⟩
  | .tup l,v,h=>by
    simp only [V.shift,VS] at h ⊢
    obtain ⟨cs,h1,h2⟩:=h
    exact ⟨cs,h1,VSs.shift φ φ' l _ h2⟩
  | .clo f l,v,h=>by
    simp only [V.shift,VS] at h ⊢
    obtain ⟨cs,h1,h2⟩:=h
    exact ⟨cs,h1,VSs.shift φ φ' l _ h2⟩
theorem VSs.shift {w:World} {own:Nat→Prop} (φ φ':List (Nat × Nat)):∀ (l:List V) (vs:List Value),VSs w own φ' l vs→VSs w own (φ++φ') (shiftL φ.length l) vs
  | [],vs,h=>by simpa only [shiftL,VSs] using h
  | c :: l,vs,h=>by
    simp only [shiftL,VSs] at h ⊢
    obtain ⟨v,vs',h1,h2,h3⟩:=h
    exact ⟨v,vs',h1,VS.shift φ φ' c v h2,VSs.shift φ φ' l vs' h3⟩
end
theorem shiftL_get (n:Nat):∀ (l:List V) (j:Nat),(shiftL n l)[j]? = (l[j]?).map (V.shift n)
  | [],j=>by simp [shiftL]
  | c :: l,0=>by simp [shiftL]
  | c :: l,j + 1=>by simpa [shiftL] using shiftL_get n l j
theorem shiftL_length (n:Nat):∀ (l:List V),(shiftL n l).length=l.length
  | []=>rfl
  | c :: l=>by simp [shiftL,shiftL_length n l]
theorem shift_one (n:Nat) (c:V):(c.shift n).one=c.one:=by
  cases c <;> simp [V.shift,V.one]

theorem get_two {H R : Heap} {id e : Nat} {es : List (List V)} (h : (H ++ R.map (Place.shift H.length))[id]? = some (.row e es)) :
    H[id]? = some (.row e es)∧id < H.length∨∃ es',R[id - H.length]? = some (.row e es')∧es=es'.map (shiftL H.length)∧H.length≤id:=by
  rw [List.getElem?_append] at h
  split at h
  · exact .inl ⟨h,by assumption⟩
  · rename_i hn
    rw [List.getElem?_map] at h
    cases hr:R[id - H.length]? with
    | none=>rw [hr] at h;simp at h
    | some p =>
      rw [hr] at h
      cases p with
      | dead=>simp [Place.shift] at h
      | row e' es' =>
        simp only [Option.map_some,Place.shift,Option.some.injEq,Place.row.injEq] at h
        exact .inr ⟨es',by rw [h.1],h.2.symm,by omega⟩

theorem own_two {φ φ':List (Nat × Nat)} {H R:Heap} (hl:φ.length=H.length) (g:Nat):ownOf (φ++φ') (H++R.map (Place.shift H.length)) g ↔ ownOf φ H g∨ownOf φ' R g:=by
  constructor
  · rintro ⟨id,e,es,o,h1,h2⟩
    rcases get_two h1 with ⟨h,hlt⟩ | ⟨es',h,_,hge⟩
    · exact .inl ⟨id,e,es,o,h,by rwa [List.getElem?_append_left (by omega)] at h2⟩
    · exact .inr ⟨id - H.length,e,es',o,h,by rwa [List.getElem?_append_right (by omega),hl] at h2⟩
  · rintro (⟨id,e,es,o,h1,h2⟩ | ⟨id,e,es,o,h1,h2⟩)
    · have:=(List.getElem?_eq_some_iff.1 h1).1
      exact ⟨id,e,es,o,by rw [List.getElem?_append_left this];exact h1,by rw [List.getElem?_append_left (by omega)];exact h2⟩
    · refine ⟨H.length + id,e,es.map (shiftL H.length),o, ?_, ?_⟩
      · rw [List.getElem?_append_right (by omega),Nat.add_sub_cancel_left,List.getElem?_map,h1];rfl
      · rw [List.getElem?_append_right (by omega),hl,Nat.add_sub_cancel_left];exact h2

theorem CallsD.frame {P : Program} {f : FuncId} {vs : List V} {r : V} {R : Heap} (h : CallsD P f vs [] fun r' H' => r' = r ∧ H' = R) (hc : closedL vs = true) (H : Heap) :
    CallsD P f vs H fun r' H'=>r'=r.shift H.length∧H'=H++R.map (Place.shift H.length):=by
  refine ⟨h.1,fun X w φ args hX hs hv=>?_⟩
  refine (h.2 (owned X φ H) w [] args (hX.all fun g=>owned_lt hs) (HS.nil _ w) (by rw [owned_nil];exact closedL_any _ _ hc hv)).mono ?_
  rintro e w' ⟨v,r',φ',H',rfl,⟨rfl,rfl⟩,hs',hv',hfr,_,_,hnew⟩
  have hl:φ.length=H.length:=hs.len
  have hno:ownOf ([]:List (Nat × Nat)) []=fun _=>False:=by
    funext g
    apply propext
    constructor
    · rintro ⟨id,e,es,o,h,_⟩;simp at h
    · exact False.elim
  rw [hno] at hfr hnew
  have hown:owned X (φ++φ') (H++H'.map (Place.shift H.length))=owned (owned X φ H) φ' H':=by
    funext g
    apply propext
    unfold owned
    rw [own_two hl]
    constructor
    · rintro (h | h | h)
      · exact .inl (.inl h)
      · exact .inl (.inr h)
      · exact .inr h
    · rintro ((h | h) | h)
      · exact .inl h
      · exact .inr (.inl h)
      · exact .inr (.inr h)
  have hk:Keeps w (owned X φ H) w' (owned (owned X φ H) φ' H'):=fun b hb hn=>⟨hfr.block b hb (fun h=>h),fun hx=>hx.elim hn (fun ho=>hnew b hb ho)⟩
  refine ⟨v,_,φ++φ',_,rfl,⟨rfl,rfl⟩,⟨?_, ?_, ?_, ?_⟩, ?_, ?_,Ext.append _ _,by simp, ?_⟩
  · simp [hl,hs'.len]
  · intro i j e es e' es' g o o' hi hj hgi hgj
    rcases get_two hi with ⟨a1,a2⟩ | ⟨es1,a1,_,a2⟩ <;> rcases get_two hj with ⟨b1,b2⟩ | ⟨es2,b1,_,b2⟩
    · rw [List.getElem?_append_left (by omega)] at hgi hgj
      exact hs.inj i j e es e' es' g o o' a1 b1 hgi hgj
    · rw [List.getElem?_append_left (by omega)] at hgi
      rw [List.getElem?_append_right (by omega),hl] at hgj
      exact absurd (.inr ⟨i,e,es,o,a1,hgi⟩) (hs'.disj g ⟨_,_,_,_,b1,hgj⟩)
    · rw [List.getElem?_append_right (by omega),hl] at hgi
      rw [List.getElem?_append_left (by omega)] at hgj
      exact absurd (.inr ⟨j,e',es',o',b1,hgj⟩) (hs'.disj g ⟨_,_,_,_,a1,hgi⟩)
    · rw [List.getElem?_append_right (by omega),hl] at hgi hgj
      have:=hs'.inj _ _ _ _ _ _ _ _ _ a1 b1 hgi hgj
      omega
  · intro g hg
    rw [own_two hl] at hg
    rcases hg with hg | hg
    · exact hs.disj g hg
    · exact fun hx=>hs'.disj g hg (.inl hx)
  · intro id e es hid
    rw [hown]
    rcases get_two hid with ⟨a1,a2⟩ | ⟨es1,a1,rfl,a2⟩
    · obtain ⟨g,o,cs,t,h1,h2,h3,h4⟩:=hs.live id e es a1
      refine ⟨g,o,cs,t,by rw [List.getElem?_append_left (by omega)];exact h1, ?_,h3,fun i l hil=>⟨(h4 i l hil).1,fun j c hc=>?_⟩⟩
      · rw [hfr.block g (Array.getElem?_eq_some_iff.1 h2).1 (fun h=>h)];exact h2
      · obtain ⟨h5,y,h6,h7⟩:=(h4 i l hil).2 j c hc
        exact ⟨h5,y,h6,VS.keeps hk hfr.sizes (Ext.append _ _) _ _ h7⟩
    · obtain ⟨g,o,cs,t,h1,h2,h3,h4⟩:=hs'.live _ e es1 a1
      refine ⟨g,o,cs,t,by rw [List.getElem?_append_right (by omega),hl];exact h1,h2,by simpa using h3,fun i l hil=>?_⟩
      rw [List.getElem?_map] at hil
      cases hq:es1[i]? with
      | none=>rw [hq] at hil;simp at hil
      | some l1 =>
        rw [hq] at hil
        simp only [Option.map_some,Option.some.injEq] at hil
        subst hil
        refine ⟨by rw [shiftL_length];exact (h4 i l1 hq).1,fun j c hc=>?_⟩
        rw [shiftL_get] at hc
        cases hq2:l1[j]? with
        | none=>rw [hq2] at hc;simp at hc
        | some c1 =>
          rw [hq2] at hc
          simp only [Option.map_some,Option.some.injEq] at hc
          subst hc
          obtain ⟨h5,y,h6,h7⟩:=(h4 i l1 hq).2 j c1 hq2
          refine ⟨by rw [shift_one];exact h5,y,h6, ?_⟩
          have:=VS.shift φ φ' c1 y h7
          rwa [hl] at this
  · rw [hown]
    have:=VS.shift φ φ' _ v hv'
    rwa [hl] at this
  · exact ⟨hfr.os,hfr.tape,hfr.output,hfr.size,fun b hb _=>hfr.block b hb (fun h=>h),hfr.sizes⟩
  · intro g hg ho
    rw [own_two hl] at ho
    exact ho.elim (fun h=>h) (fun h=>(hnew g hg h).elim)

theorem CallsD.good {P:Program} {f:FuncId} {vs:List V} {r:V} {p:Place} {R:Heap} (h:CallsD P f vs [] fun r' H'=>r'=r∧H'=p :: R) (hc:closedL vs=true) (H:Heap):CallsD P f vs H (answers r (p :: R) H) :=
  h.frame hc H

end Go.Proofs.YtcgekblpbheikaaGreatDoor
end

section
/- The abstract machine,part 17: tables of contracts over data of Lean. No condition. -/
namespace Go.Proofs.YtcgekblpbheikaaGreatDoor

def vD:V→D
  | .d x=>x
  | _=>.undef
def unV {α:Type} [Enc α]:V→α
  | .d x=>Enc.un fun _=>x
  | .agg l=>Enc.un fun j=>vD ((l[j]?).getD (.d .undef))
  | _=>Enc.un fun _=>.undef

class Shaped (α:Type) [Enc α]:Prop where
  one:Enc.agg α=false→Enc.size α=1

instance:Shaped Int:=⟨fun _=>rfl⟩
instance:Shaped Bool:=⟨fun _=>rfl⟩
instance:Shaped ByteArray:=⟨fun _=>rfl⟩
instance {α:Type} [Enc α] [Inhabited α]:Shaped (List α):=⟨fun _=>rfl⟩

theorem unV_argV {α:Type} [Enc α] [Shaped α] (a:α):unV (argV a)=a:=by
  unfold argV
  cases h:Enc.agg α with
  | false =>
    refine Enc.un_of a _ fun j hj=>?_
    have:=Shaped.one (α:=α) h
    have:j=0:=by omega
    rw [this]
  | true =>
    refine Enc.un_of a _ fun j hj=>?_
    simp [hj,vD]

theorem argV_closed {α:Type} [Enc α] (a:α):(argV a).closed=true:=by
  unfold argV
  cases Enc.agg α with
  | false=>rfl
  | true =>
    simp only [cond_true,V.closed]
    generalize List.range (Enc.size α)=l
    induction l with
    | nil=>rfl
    | cons x l ih=>simpa [closedL,V.closed] using ih

section
variable {α β γ δ:Type} [Enc α] [Enc β] [Enc γ] [Enc δ]
open Classical in
open Classical in
open Classical in
open Classical in
variable {P:Program} {g:FuncId}
end

def Table.add (Γ:Table) (g:FuncId) (e:List V→Option (V × Heap)):Table:=fun g' vs=>if g'=g then e vs else Γ g' vs
theorem Good.add {P:Program} {Γ:Table} (h:Good P Γ) {g:FuncId} {e:List V→Option (V × Heap)} (he:∀ vs r R H,e vs=some (r,R)→CallsD P g vs H (answers r R H)):Good P (Γ.add g e):=by
  intro g' vs r R H h'
  unfold Table.add at h'
  split at h'
  · rename_i hg;subst hg;exact he vs r R H h'
  · exact h g' vs r R H h'

end Go.Proofs.YtcgekblpbheikaaGreatDoor
end

section
/- The abstract machine,part 21: the walk of code with regions that draw;its recursions under lock. No condition. -/
namespace Go.Proofs.YtcgekblpbheikaaGreatDoor

inductive XCode where
  | skip
  | ops (l:List SOp)
  | drawn (all:List (Option Nat)) (l:List SOp)
  | seq (a b:XCode)
  | cond (c:Operand) (a b:XCode)
  | block (id:Nat) (c:XCode)
  | loop (c:Code)
  | exit (id:Nat)
  | ret
  | other (c:Code)
def pickOps (l:List SOp) (ord:List Nat):List SOp:=ord.map fun j=>(l[j]?).getD ⟨none,.ready 0,none⟩
def stripX (O:Nat→List Nat):Code→XCode
  | .skip=>.skip
  | .region _ ops false=>.ops (stripOps ops.toList)
  | .region id ops true=>.drawn (dstsOf (stripOps ops.toList)) (pickOps (stripOps ops.toList) (O id))
  | .seq a b=>.seq (stripX O a) (stripX O b)
  | .cond c a b=>.cond c (stripX O a) (stripX O b)
  | .block id c=>.block id (stripX O c)
  | .loop c=>.loop c
  | .exit id=>.exit id
  | .ret=>.ret
  | c=>.other c
def wpX (P:Program) (Γ:Table) (own:List FuncId) (N n0:Nat) (K:List Nat):XCode→(Exit→St→Prop)→St→Prop
  | .skip,Q,s=>Q .normal s
  | .ops l,Q,s=>opsD P Γ (dstsOf l) l s.env s.H fun env H=>Q .normal ⟨keep K env,H⟩
  | .drawn all l,Q,s=>opsT P Γ own all l s.env s.H fun env H=>Q .normal ⟨keep K env,H⟩
  | .seq a b,Q,s=>wpX P Γ own N n0 K a (seqQ (wpX P Γ own N n0 K b Q) Q) s
  | .cond c a b,Q,s=>(match ev s.env c with
    | .d (.bool t)=>(t=true→wpX P Γ own N n0 K a Q s)∧(t=false→wpX P Γ own N n0 K b Q s)
    | _=>False)
  | .block id c,Q,s=>wpX P Γ own N n0 K c (blockQ id Q) s
  | .loop c,Q,s=>W P N n0 (.loop c) Q s
  | .exit id,Q,s=>Q (.exit id) s
  | .ret,Q,s=>Q .ret s
  | .other c,Q,s=>W P N n0 c Q s
def codeOkX (N:Nat) (own:List FuncId) (O:Nat→List Nat):Code→Bool
  | .region _ ops false=>ops.toList.all (opOk N)
  | .region id ops true=>ops.toList.all (opOk N) && ordOk own ops (O id)
  | .seq a b | .cond _ a b=>codeOkX N own O a && codeOkX N own O b
  | .block _ c=>codeOkX N own O c
  | _=>true

theorem strip_get (ops:List Oper) (j:Nat):(stripOps ops)[j]? = (ops[j]?).map fun o=>⟨o.dst,o.op,o.guard⟩:=by
  induction ops generalizing j with
  | nil=>simp [stripOps]
  | cons o l ih =>
    cases j with
    | zero=>simp [stripOps]
    | succ j=>simpa [stripOps] using ih j
theorem sop_strip (ops:Array Oper) (j:Nat):((stripOps ops.toList)[j]?).getD ⟨none,.ready 0,none⟩=sop ops j:=by
  rw [strip_get,Array.getElem?_toList]
  unfold sop
  cases ops[j]? <;> rfl
theorem pick_strip (ops:Array Oper) (ord:List Nat):pickOps (stripOps ops.toList) ord=ord.map (sop ops) :=
  List.map_congr_left fun j _=>sop_strip ops j

section
variable {P:Program} {Γ:Table} {N n0:Nat} {own:List FuncId} {O:Nat→List Nat}

theorem W_ofX (hm:P.follows .mixedOrders=true) (hΓ:Good P Γ) (K:List Nat):∀ {c:Code} {Q:Exit→St→Prop} {s:St},codeOkX N own O c=true→wpX P Γ own N n0 K (stripX O c) Q s→W P N n0 c Q s:=by
  intro c
  induction c with
  | skip=>intro Q s _ h;exact W_skip h
  | region id ops draw =>
    intro Q s hok h
    cases draw with
    | false=>exact W_region K hΓ hok h
    | true =>
      simp only [codeOkX,Bool.and_eq_true] at hok
      refine W_draw hm hΓ K own (O id) hok.1 hok.2 ?_
      simp only [stripX,wpX,dsts_spec,pick_strip] at h
      exact h
  | seq a b iha ihb =>
    intro Q s hok h
    simp only [codeOkX,Bool.and_eq_true] at hok
    refine W_seq (W_mono (iha hok.1 h) ?_)
    intro e s' hq
    cases e with
    | normal=>exact ihb hok.2 hq
    | _=>exact hq
  | cond c a b iha ihb =>
    intro Q s hok h
    simp only [codeOkX,Bool.and_eq_true] at hok
    simp only [stripX,wpX] at h
    split at h
    · rename_i t ht
      refine W_cond (t:=t) (fun x φ a w hx hs=>?_) (fun e=>iha hok.1 (h.1 e)) (fun e=>ihb hok.2 (h.2 e))
      have:=ev_spec hs c
      rw [ht] at this
      simpa only [VS,DS] using this
    · exact h.elim
  | block id c ih=>intro Q s hok h;exact W_block (ih hok h)
  | loop c ih=>intro Q s _ h;exact h
  | exit id=>intro Q s _ h;exact W_exit h
  | ret=>intro Q s _ h;exact W_ret h
  | _=>intro Q s _ h;exact h
end

def nrm (s:St) (F:St→Prop):Prop:=F s
@[congr] theorem nrm_congr {s s':St} {F:St→Prop} (h:∀ _u:Unit,s=s'):nrm s F=nrm s' F:=by rw [h ()]
@[simp] theorem nrm_go {s:St} {F:St→Prop}:nrm s F=F s:=rfl
theorem opsTL_ex:∃ f,f = @opsT:=⟨_,rfl⟩
noncomputable def opsTL:Program→Table→List FuncId→List (Option Nat)→List SOp→Env→Heap→(Env→Heap→Prop)→Prop:=Classical.choose opsTL_ex
theorem opsTL_eq:opsTL = @opsT:=Classical.choose_spec opsTL_ex
theorem wpXL_ex:∃ f,f = @wpX:=⟨_,rfl⟩
noncomputable def wpXL:Program→Table→List FuncId→Nat→Nat→List Nat→XCode→(Exit→St→Prop)→St→Prop:=Classical.choose wpXL_ex
theorem wpXL_eq:wpXL = @wpX:=Classical.choose_spec wpXL_ex

section
variable {P:Program} {Γ:Table} {own:List FuncId} {N n0:Nat} {K:List Nat} {O:Nat→List Nat}
@[simp ↓] theorem opsTL_nil {all:List (Option Nat)} {env:Env} {H:Heap} {k:Env→Heap→Prop}:opsTL P Γ own all [] env H k=k env H:=by
  rw [opsTL_eq];rfl
@[simp ↓] theorem opsTL_plain {all:List (Option Nat)} {dst:Option Nat} {op:Op} {rest:List SOp} {env:Env} {H:Heap} {k:Env→Heap→Prop} :
    opsTL P Γ own all (⟨dst,op,none⟩ :: rest) env H k=opT P Γ own env H op fun v H'=>(nrmE (updO env dst v) H' fun e h=>opsTL P Γ own all rest e h k):=by
  rw [opsTL_eq];rfl
@[simp ↓ 100] theorem opsTL_guard {all:List (Option Nat)} {dst:Option Nat} {op:Op} {j:Nat} {want:Bool} {rest:List SOp} {env:Env} {H:Heap} {k:Env→Heap→Prop} :
    opsTL P Γ own all (⟨dst,op,some (j,want)⟩ :: rest) env H k=(match slotOf all j with
      | none=>False
      | some t=>match env t with
        | .d (.bool b)=>(b=want→opT P Γ own env H op fun v H'=>(nrmE (updO env dst v) H' fun e h=>opsTL P Γ own all rest e h k))∧(b ≠ want→(nrmE (updO env dst (.tup [])) H fun e h=>opsTL P Γ own all rest e h k))
        | .tup []=>(nrmE (updO env dst (.tup [])) H fun e h=>opsTL P Γ own all rest e h k)
        | _=>False):=by
  rw [opsTL_eq];rfl
@[simp ↓ 2000] theorem opsTL_on {all:List (Option Nat)} {dst:Option Nat} {op:Op} {j:Nat} {want:Bool} {rest:List SOp} {env:Env} {H:Heap} {k:Env→Heap→Prop} (h:guardV all env j=.d (.bool want)) :
    opsTL P Γ own all (⟨dst,op,some (j,want)⟩ :: rest) env H k=opT P Γ own env H op fun v H'=>(nrmE (updO env dst v) H' fun e h=>opsTL P Γ own all rest e h k):=by
  rw [opsTL_eq]
  unfold guardV at h
  split at h
  · cases h
  · rename_i t e
    simp only [nrmE,opsT,stepT,e,h,ne_eq,not_true_eq_false,false_implies,and_true,true_implies]
@[simp ↓ 2000] theorem opsTL_off {all:List (Option Nat)} {dst:Option Nat} {op:Op} {j:Nat} {want:Bool} {rest:List SOp} {env:Env} {H:Heap} {k:Env→Heap→Prop} (h:guardV all env j=.d (.bool (!want))) :
    opsTL P Γ own all (⟨dst,op,some (j,want)⟩ :: rest) env H k=(nrmE (updO env dst (.tup [])) H fun e h=>opsTL P Γ own all rest e h k):=by
  rw [opsTL_eq]
  unfold guardV at h
  split at h
  · cases h
  · rename_i t e
    cases want
    · simp only [opsT,stepT,e,h,Bool.not_false]
      exact propext ⟨fun q=>q.2 (by decide),fun q=>⟨fun e=>(by cases e),fun _=>q⟩⟩
    · simp only [opsT,stepT,e,h,Bool.not_true]
      exact propext ⟨fun q=>q.2 (by decide),fun q=>⟨fun e=>(by cases e),fun _=>q⟩⟩
@[simp ↓ 2000] theorem opsTL_tup {all:List (Option Nat)} {dst:Option Nat} {op:Op} {j:Nat} {want:Bool} {rest:List SOp} {env:Env} {H:Heap} {k:Env→Heap→Prop} (h:guardV all env j=.tup []) :
    opsTL P Γ own all (⟨dst,op,some (j,want)⟩ :: rest) env H k=(nrmE (updO env dst (.tup [])) H fun e h=>opsTL P Γ own all rest e h k):=by
  rw [opsTL_eq]
  unfold guardV at h
  split at h
  · cases h
  · rename_i t e
    simp only [nrmE,opsT,stepT,e,h]
@[simp ↓ 2000] theorem wpXL_then {c:Operand} {a b:XCode} {Q:Exit→St→Prop} {s:St} (h:ev s.env c=.d (.bool true)):wpXL P Γ own N n0 K (.cond c a b) Q s=wpXL P Γ own N n0 K a Q s:=by
  rw [wpXL_eq]
  simp only [wpX,h]
  exact propext ⟨fun q=>q.1 trivial,fun q=>⟨fun _=>q,fun e=>(by cases e)⟩⟩
@[simp ↓ 2000] theorem wpXL_else {c:Operand} {a b:XCode} {Q:Exit→St→Prop} {s:St} (h:ev s.env c=.d (.bool false)):wpXL P Γ own N n0 K (.cond c a b) Q s=wpXL P Γ own N n0 K b Q s:=by
  rw [wpXL_eq]
  simp only [wpX,h]
  exact propext ⟨fun q=>q.2 trivial,fun q=>⟨fun e=>(by cases e),fun _=>q⟩⟩
@[simp ↓] theorem wpXL_skip {Q:Exit→St→Prop} {s:St}:wpXL P Γ own N n0 K .skip Q s=Q .normal s:=by rw [wpXL_eq];rfl
@[simp ↓] theorem wpXL_ops {l:List SOp} {Q:Exit→St→Prop} {s:St}:wpXL P Γ own N n0 K (.ops l) Q s=opsL P Γ (dstsOf l) l s.env s.H fun env H=>nrm ⟨keep K env,H⟩ (Q .normal):=by rw [wpXL_eq,opsL_eq];rfl
@[simp ↓] theorem wpXL_drawn {all:List (Option Nat)} {l:List SOp} {Q:Exit→St→Prop} {s:St}:wpXL P Γ own N n0 K (.drawn all l) Q s=opsTL P Γ own all l s.env s.H fun env H=>nrm ⟨keep K env,H⟩ (Q .normal):=by rw [wpXL_eq,opsTL_eq];rfl
@[simp ↓] theorem wpXL_seq {a b:XCode} {Q:Exit→St→Prop} {s:St}:wpXL P Γ own N n0 K (.seq a b) Q s=wpXL P Γ own N n0 K a (seqQ (wpXL P Γ own N n0 K b Q) Q) s:=by rw [wpXL_eq];rfl
@[simp ↓ 100] theorem wpXL_cond {c:Operand} {a b:XCode} {Q:Exit→St→Prop} {s:St}:wpXL P Γ own N n0 K (.cond c a b) Q s=(match ev s.env c with
    | .d (.bool t)=>(t=true→wpXL P Γ own N n0 K a Q s)∧(t=false→wpXL P Γ own N n0 K b Q s)
    | _=>False):=by rw [wpXL_eq];rfl
@[simp ↓] theorem wpXL_block {id:Nat} {c:XCode} {Q:Exit→St→Prop} {s:St}:wpXL P Γ own N n0 K (.block id c) Q s=wpXL P Γ own N n0 K c (blockQ id Q) s:=by rw [wpXL_eq];rfl
@[simp ↓] theorem wpXL_loop {c:Code} {Q:Exit→St→Prop} {s:St}:wpXL P Γ own N n0 K (.loop c) Q s=W P N n0 (.loop c) Q s:=by rw [wpXL_eq];rfl
@[simp ↓] theorem wpXL_exit {id:Nat} {Q:Exit→St→Prop} {s:St}:wpXL P Γ own N n0 K (.exit id) Q s=Q (.exit id) s:=by rw [wpXL_eq];rfl
@[simp ↓] theorem wpXL_ret {Q:Exit→St→Prop} {s:St}:wpXL P Γ own N n0 K .ret Q s=Q .ret s:=by rw [wpXL_eq];rfl
@[simp ↓] theorem wpXL_other {c:Code} {Q:Exit→St→Prop} {s:St}:wpXL P Γ own N n0 K (.other c) Q s=W P N n0 c Q s:=by rw [wpXL_eq];rfl

end
attribute [simp] opT binT callT goT ownCallee

end Go.Proofs.YtcgekblpbheikaaGreatDoor
end

section
/- The abstract machine,part 22: what an operation does to abstract values,as data that a walk reckons from the inside out. No condition. -/
namespace Go.Proofs.YtcgekblpbheikaaGreatDoor
set_option linter.unusedVariables false
set_option linter.unusedSimpArgs false

inductive R where
  | ok (v:V) (H:Heap)
  | both (a b:R)
  | call (g:FuncId) (vs:List V) (H:Heap)
  | bad
def R.holds (P:Program):R→(V→Heap→Prop)→Prop
  | .ok v H,k=>k v H
  | .both a b,k=>a.holds P k∧b.holds P k
  | .call g vs H,k=>CallsD P g vs H k
  | .bad,_=>False
open Classical in
noncomputable def brR (p:Prop) (a b:R):R:=if p then a else b
noncomputable def guardR (p:Prop) (r:R):R:=brR p r .bad
theorem brR_true {a b:R}:brR True a b=a:=by simp [brR]
theorem brR_false {a b:R}:brR False a b=b:=by simp [brR]
theorem guardR_true {r:R}:guardR True r=r:=by simp [guardR,brR]
theorem guardR_false {r:R}:guardR False r=.bad:=by simp [guardR,brR]
theorem brR_holds {P:Program} {p:Prop} {a b:R} {k:V→Heap→Prop}:(brR p a b).holds P k ↔ (p→a.holds P k)∧(¬ p→b.holds P k):=by
  unfold brR
  split
  · rename_i h;exact ⟨fun q=>⟨fun _=>q,fun n=>absurd h n⟩,fun q=>q.1 h⟩
  · rename_i h;exact ⟨fun q=>⟨fun n=>absurd n h,fun _=>q⟩,fun q=>q.2 h⟩
theorem guardR_holds {P:Program} {p:Prop} {r:R} {k:V→Heap→Prop}:(guardR p r).holds P k ↔ p∧r.holds P k:=by
  unfold guardR
  rw [brR_holds]
  exact ⟨fun q=>Classical.byContradiction fun n=>(by
    by_cases hp:p
    · exact n ⟨hp,q.1 hp⟩
    · exact q.2 hp),fun q=>⟨fun _=>q.2,fun n=>absurd q.1 n⟩⟩
theorem guardR_congr {p p':Prop} {r r':R} (h:p ↔ p') (h':p→r=r'):guardR p r=guardR p' r':=by
  obtain rfl:p=p':=propext h
  unfold guardR brR
  split
  · rename_i hp;exact h' hp
  · rfl

section
variable (P:Program)
noncomputable def elR (es:List (List V)) (i e e' j size:Nat) (agg:Bool) (H:Heap):R :=
  guardR (i < es.length∧e'=e∧j + size≤e∧(agg=true∨size=1)) (.ok (asVal agg (((es[i]?.getD []).drop j).take size)) H)
noncomputable def loadR (ti:Option TI) (a:V) (H:Heap):R :=
  match ti with
  | none=>.bad
  | some ti=>match a with
    | .d (.rp n f)=>guardR (ti.size≤n∧(ti.agg=true∨ti.size=1)) (.ok (asVal ti.agg (upto ti.size fun j=>.d (f j))) H)
    | .ptr id e i j=>match H[id]? with
      | some (.row e' es)=>elR es i e e' j ti.size ti.agg H
      | _=>.bad
    | _=>.bad
noncomputable def setR (es:List (List V)) (id i e e' j size:Nat) (l:List V) (H:Heap):R :=
  guardR (i < es.length∧e'=e∧l.length=size∧j + size≤e∧ones l=true) (.ok (.tup []) (H.set id (.row e (es.set i (setMany (es[i]?.getD []) j l)))))
noncomputable def storeR (ti:Option TI) (a c:V) (H:Heap):R :=
  match ti with
  | none=>.bad
  | some ti=>match a with
    | .ptr id e i j=>match H[id]? with
      | some (.row e' es)=>setR es id i e e' j ti.size c.flat H
      | _=>.bad
    | _=>.bad
noncomputable def boxR (ti:Option TI) (c:V) (H:Heap):R :=
  match ti with
  | none=>.bad
  | some ti=>guardR (ones c.flat=true) (.ok (.ptr H.length c.flat.length 0 0) (H++[.row c.flat.length [c.flat]]))
noncomputable def allocR (ti:Option TI) (H:Heap):R :=
  match ti with
  | none=>.bad
  | some ti=>guardR (ones (ti.zero.map .d)=true) (.ok (.ptr H.length ti.zero.length 0 0) (H++[.row ti.zero.length [ti.zero.map .d]]))
noncomputable def buildR (ti:Option TI) (parts:List (Nat × V)) (H:Heap):R :=
  match ti with
  | none=>.bad
  | some ti=>match ti.kind with
    | .struct flds=>match fillV (fun i=>(flds[i]?).map fun f=>(f.1,f.2.2)) (ti.zero.map .d) parts with
      | some l=>guardR (flds.all (fun f=>f.2.2 != 0)=true) (.ok (.agg l) H)
      | none=>.bad
    | _=>.bad
noncomputable def buildSliceR (t:TypeId) (len:Nat) (parts:List (Nat × V)) (H:Heap):R :=
  match tinfo P t with
  | some ⟨_,_,_,_,.slice et⟩=>match tinfo P et with
    | some te=>guardR (len=parts.length∧inOrder te.size 0 parts=true∧0 < te.size∧te.zero.length=te.size∧len * te.size≤16777216)
        (.ok (.sl H.length te.size 0 len) (H++[.row te.size (parts.map fun p=>p.2.flat)]))
    | none=>.bad
  | _=>.bad
noncomputable def makeSliceR (t:TypeId) (len cap:V) (H:Heap):R :=
  match tinfo P t with
  | some ⟨_,_,_,_,.slice et⟩=>match tinfo P et with
    | some te=>match len,cap with
      | .d (.int _ l),.d (.int _ c)=>guardR (0≤l∧l≤c∧c * te.bytes≤140737488355328∧c≤140737488355328∧0 < te.size∧te.zero.length=te.size∧ones (te.zero.map .d)=true)
          (.ok (.sl H.length te.size 0 l.toNat) (H++[.row te.size (List.replicate l.toNat (te.zero.map .d))]))
      | _,_=>.bad
    | none=>.bad
  | _=>.bad
def nilCheckR (x:V) (H:Heap):R :=
  match x with
  | .ptr id e i j=>.ok (.ptr id e i j) H
  | .d (.rp n f)=>.ok (.d (.rp n f)) H
  | .clo f l=>.ok (.clo f l) H
  | .d (.clo f n c)=>.ok (.d (.clo f n c)) H
  | _=>.bad
def optR (o:Option D) (H:Heap):R :=
  match o with
  | some d=>.ok (.d d) H
  | none=>.bad
noncomputable def binR (dr:Bool) (op:BinOp) (t:TypeId) (x y:V) (H:Heap):R :=
  match x,y with
  | .d (.int kx a),.d (.int ky b) =>
    (match op with
    | .shl=>optR (shiftI .shl kx a b) H
    | .shr=>optR (shiftI .shr kx a b) H
    | op=>guardR (kx=ky) (optR (binI op kx a b) H))
  | .d (.str a),.d (.str b)=>(match op with
    | .add=>guardR (a.size + b.size≤9223372036854775807) (.ok (.d (.str (a++b))) H)
    | op=>optR (eqOp op (decide (a=b))) H)
  | .d (.bool a),.d (.bool b)=>(match tinfo P t with
    | some ⟨_,_,_,_,.bool⟩=>optR (eqOp op (a == b)) H
    | _=>.bad)
  | x,.d .nilp=>(match tinfo P t with
    | some ⟨_,_,_,_,.ptr⟩=>(match x with
      | .d .nilp=>optR (eqOp op true) H
      | .ptr .. | .d (.rp ..)=>optR (eqOp op false) H
      | _=>.bad)
    | _=>.bad)
  | x,.d .nilsl=>(match tinfo P t with
    | some ⟨_,_,_,_,.slice _⟩=>(match x with
      | .d .nilsl=>optR (eqOp op true) H
      | .sl ..=>optR (eqOp op false) H
      | .d (.ro e n f)=>bif dr then .bad else brR (0 < n∧0 < e) (optR (eqOp op false) H) (.both (optR (eqOp op true) H) (optR (eqOp op false) H))
      | _=>.bad)
    | _=>.bad)
  | _,_=>.bad
def unR (op:UnOp) (x:V) (H:Heap):R :=
  match op,x with
  | .neg,.d (.int kx n)=>.ok (.d (.int kx (kx.wrap (0 - n)))) H
  | .not,.d (.bool b)=>.ok (.d (.bool (!b))) H
  | _,_=>.bad
def convertR (src dst:TypeId) (x:V) (H:Heap):R :=
  match tinfo P src,tinfo P dst with
  | some _,some td=>(match td.kind,x with
    | .int kd,.d (.int _ n)=>.ok (.d (.int kd (kd.wrap n))) H
    | .str,.d (.str s)=>.ok (.d (.str s)) H
    | _,_=>.bad)
  | _,_=>.bad
def bytesR:List (List V)→Option (Prop × List UInt8)
  | []=>some (True,[])
  | [.d (.int .u8 n)] :: l=>match bytesR l with
    | some (c,r)=>some ((0≤n∧n < 256)∧c,UInt8.ofNat n.toNat :: r)
    | none=>none
  | _=>none
noncomputable def convHR (src dst:TypeId) (x:V) (H:Heap):R :=
  match x with
  | .sl id e off n => (match tinfo P src, tinfo P dst with
    | some ⟨_,_,_,_,.slice et⟩,some ⟨_,_,_,_,.str⟩=>(match tinfo P et with
      | some ⟨_,1,_,_,.int .u8⟩=>(match H[id]? with
        | some (.row e' es)=>(match bytesR ((es.drop off).take n) with
          | some (c,l)=>guardR (e=1∧e'=1∧off + n≤es.length∧c) (.ok (.d (.str ⟨l.toArray⟩)) H)
          | none=>.bad)
        | _=>.bad)
      | _=>.bad)
    | _,_=>.bad)
  | x=>convertR P src dst x H
noncomputable def pickR (c a b:V) (H:Heap):R :=
  match c with
  | .d (.bool t)=>(match a,b with
    | .d (.bool p),.d (.bool q)=>.ok (.d (.bool (bif t then p else q))) H
    | _,_=>brR (t=true) (.ok a H) (.ok b H))
  | _=>.bad
noncomputable def fieldAddrR (s:TypeId) (x:V) (f:Nat) (H:Heap):R :=
  match tinfo P s with
  | some ⟨_,_,_,_,.struct flds⟩=>(match flds[f]? with
    | some (off,_,size)=>guardR (size ≠ 0) (match x with
      | .d (.rp n g)=>guardR (off < n) (.ok (.d (.rp (n - off) (fun j=>g (off + j)))) H)
      | .ptr id e i j=>.ok (.ptr id e i (j + off)) H
      | _=>.bad)
    | none=>.bad)
  | _=>.bad
noncomputable def fieldR (s:TypeId) (x:V) (f:Nat) (H:Heap):R :=
  match tinfo P s with
  | some ⟨_,_,_,_,.struct flds⟩=>(match flds[f]? with
    | some (off,ft,_)=>(match tinfo P ft,x with
      | some tf,.agg l=>guardR (off + tf.size≤l.length∧(tf.agg=true∨tf.size=1)) (.ok (asVal tf.agg ((l.drop off).take tf.size)) H)
      | _,_=>.bad)
    | none=>.bad)
  | _=>.bad
noncomputable def indexAddrR (t:TypeId) (x ix:V) (H:Heap):R :=
  match tinfo P t with
  | some ⟨_,_,_,_,.slice et⟩=>(match tinfo P et,ix with
    | some te,.d (.int _ i)=>(match x with
      | .d (.ro e n f)=>guardR (e=te.size∧0 < e) (guardR (0≤i∧i < n) (.ok (.d (.rp e (f i.toNat))) H))
      | .sl id e off n=>guardR (e=te.size) (guardR (0≤i∧i < n) (.ok (.ptr id e (off + i.toNat) 0) H))
      | _=>.bad)
    | _,_=>.bad)
  | _=>.bad
noncomputable def indexR (t:TypeId) (x ix:V) (H:Heap):R :=
  match tinfo P t with
  | some ⟨_,_,_,_,.str⟩=>(match x,ix with
    | .d (.str s),.d (.int _ i)=>guardR (0≤i∧i < s.size) (.ok (.d (.int .u8 (s[i.toNat]!).toNat)) H)
    | _,_=>.bad)
  | _=>.bad
def extractR (x:V) (i:Nat) (H:Heap):R :=
  match x with
  | .tup l=>match l[i]? with
    | some v=>.ok v H
    | none=>.bad
  | _=>.bad
def boundR (v:Option V) (dflt:Nat):Option (Prop × Nat) :=
  match v with
  | none=>some (True,dflt)
  | some (.d (.int _ i))=>some (0≤i,i.toNat)
  | _=>none
noncomputable def cutR (hi lo:Option (Prop × Nat)) (n:Nat) (F:Nat→Nat→V) (H:Heap):R :=
  match hi,lo with
  | some (ph,h),some (pl,l)=>guardR ph (guardR pl (guardR (l≤h∧h≤n) (.ok (F h l) H)))
  | _,_=>.bad
noncomputable def sliceR (t:TypeId) (x:V) (lo hi mx:Option V) (H:Heap):R :=
  match tinfo P t,mx with
  | some ⟨_,_,_,_,.slice et⟩,none=>(match tinfo P et with
    | some te=>(match x with
      | .d (.ro e n f)=>guardR (e=te.size) (cutR (boundR hi n) (boundR lo 0) n (fun h l=>.d (.ro e (h - l) (fun i j=>f (l + i) j))) H)
      | .sl id e off n=>guardR (e=te.size) (cutR (boundR hi n) (boundR lo 0) n (fun h l=>.sl id e (off + l) (h - l)) H)
      | .d .nilsl=>cutR (boundR hi 0) (boundR lo 0) 0 (fun h l=>.d .nilsl) H
      | _=>.bad)
    | none=>.bad)
  | some ⟨_,_,_,_,.str⟩,none=>(match x with
    | .d (.str s)=>cutR (boundR hi s.size) (boundR lo 0) s.size (fun h l=>.d (.str (s.extract l h))) H
    | _=>.bad)
  | _,_=>.bad
def lenR (t:TypeId) (x:V) (H:Heap):R :=
  match tinfo P t,x with
  | some ⟨_,_,_,_,.str⟩,.d (.str s)=>.ok (.d (.int .i64 s.size)) H
  | some ⟨_,_,_,_,.slice _⟩,.sl _ _ _ n=>.ok (.d (.int .i64 n)) H
  | some ⟨_,_,_,_,.slice _⟩,.d (.ro _ n _)=>.ok (.d (.int .i64 n)) H
  | some ⟨_,_,_,_,.slice _⟩,.d .nilsl=>.ok (.d (.int .i64 0)) H
  | _,_=>.bad
def elemsR (e:Nat) (x:V) (H:Heap):Option (Prop × List (List V)) :=
  match x with
  | .sl id e' off n=>(match H[id]? with
    | some (.row e'' es)=>some ((e'=e∧e''=e)∧off + n≤es.length,(es.drop off).take n)
    | _=>none)
  | .d (.ro e' n f)=>some (e'=e∧(∀ i j,i < n→j < e→(V.d (f i j)).one=true),upto n fun i=>upto e fun j=>.d (f i j))
  | .d .nilsl=>some (True,[])
  | .d (.str s)=>some (e=1,s.data.toList.map fun b=>[.d (.int .u8 (b.toNat:Int))])
  | _=>none
noncomputable def putOnR (te:TI) (s:V) (news:List (List V)) (H:Heap):R :=
  match s with
  | .sl id e off n => (match H[id]? with
    | some (.row e' es)=>guardR ((e=te.size∧e'=e)∧off + n≤es.length∧(n + news.length) * te.bytes≤140737488355328∧n + news.length≤140737488355328)
        (.ok (.sl H.length e 0 (n + news.length)) (H.set id .dead++[.row e ((es.drop off).take n++news)]))
    | _=>.bad)
  | .d .nilsl=>guardR (news.length * te.bytes≤140737488355328∧news.length≤140737488355328) (brR (news=[]) (.ok (.d .nilsl) H) (.ok (.sl H.length te.size 0 news.length) (H++[.row te.size news])))
  | _=>.bad
noncomputable def appendR (t:TypeId) (s x:V) (H:Heap):R :=
  match tinfo P t with
  | some ⟨_,_,_,_,.slice et⟩=>(match tinfo P et with
    | some te=>match elemsR te.size x H with
      | some (p,news)=>guardR (0 < te.size∧te.zero.length=te.size) (guardR p (putOnR te s news H))
      | none=>.bad
    | none=>.bad)
  | _=>.bad
noncomputable def copyOnR (te:TI) (s:V) (news:List (List V)) (H:Heap):R :=
  match s with
  | .sl id e off n => (match H[id]? with
    | some (.row e' es)=>guardR ((e=te.size∧e'=e)∧off + n≤es.length)
        (.ok (.d (.int .i64 (min news.length n:Nat))) (H.set id (.row e (es.take off++news.take n++es.drop (off + min news.length n)))))
    | _=>.bad)
  | .d .nilsl=>.ok (.d (.int .i64 0)) H
  | _=>.bad
noncomputable def copyR (t:TypeId) (s x:V) (H:Heap):R :=
  match tinfo P t with
  | some ⟨_,_,_,_,.slice et⟩=>(match tinfo P et with
    | some te=>match elemsR te.size x H with
      | some (p,news)=>guardR (0 < te.size) (guardR p (copyOnR te s news H))
      | none=>.bad
    | none=>.bad)
  | _=>.bad
end

section
variable {P:Program} {k:V→Heap→Prop} {H:Heap}
theorem getD_get {α:Type} {l:List α} {i:Nat} {d:α} (h:i < l.length):l[i]? = some (l[i]?.getD d):=by rw [List.getElem?_eq_getElem h];rfl
theorem loadR_ok {ti : Option TI} {a : V} (h : (loadR ti a H).holds P k) : loadD ti a H (fun v => k v H) := by
  unfold loadR at h
  unfold loadD
  split at h
  · exact h
  · simp only []
    split at h
    · rw [guardR_holds] at h
      exact ⟨h.1.1,h.1.2,h.2⟩
    · simp only []
      split at h
      · rename_i hid
        simp only [hid]
        unfold elR at h
        rw [guardR_holds] at h
        exact ⟨h.1.2.1,_,getD_get h.1.1,h.1.2.2.1,h.1.2.2.2,h.2⟩
      · exact h.elim
    · exact h.elim
theorem storeR_ok {ti : Option TI} {a c : V} (h : (storeR ti a c H).holds P k) : storeD ti a c H (fun H' => k (.tup []) H') := by
  unfold storeR at h
  unfold storeD
  split at h
  · exact h
  · simp only []
    split at h
    · simp only []
      split at h
      · rename_i hid
        simp only [hid]
        unfold setR at h
        rw [guardR_holds] at h
        exact ⟨h.1.2.1,_,getD_get h.1.1,h.1.2.2.1,h.1.2.2.2.1,h.1.2.2.2.2,h.2⟩
      · exact h.elim
    · exact h.elim
theorem boxR_ok {ti:Option TI} {c:V} (h:(boxR ti c H).holds P k):boxD ti c H k:=by
  unfold boxR at h
  unfold boxD
  split at h
  · exact h
  · rw [guardR_holds] at h;exact h
theorem allocR_ok {ti:Option TI} (h:(allocR ti H).holds P k):allocD ti H k:=by
  unfold allocR at h
  unfold allocD
  split at h
  · exact h
  · rw [guardR_holds] at h;exact h
theorem buildR_ok {ti : Option TI} {parts : List (Nat × V)} (h : (buildR ti parts H).holds P k) : buildD ti parts (fun v => k v H) := by
  unfold buildR at h
  unfold buildD
  split at h
  · exact h
  · simp only []
    split at h
    · rename_i hk
      simp only [hk]
      split at h
      · rename_i l hl
        rw [guardR_holds] at h
        exact ⟨h.1,l,hl,h.2⟩
      · exact h.elim
    · exact h.elim
theorem buildSliceR_ok {t:TypeId} {len:Nat} {parts:List (Nat × V)} (h:(buildSliceR P t len parts H).holds P k):buildSliceD P t len parts H k:=by
  unfold buildSliceR at h
  unfold buildSliceD
  split at h
  · rename_i e1
    simp only [e1]
    split at h
    · rename_i e2
      simp only [e2]
      rw [guardR_holds] at h
      exact h
    · exact h.elim
  · exact h.elim
theorem makeSliceR_ok {t : TypeId} {len cap : V} (h : (makeSliceR P t len cap H).holds P k) : makeSliceD P t len cap H k := by
  unfold makeSliceR at h
  unfold makeSliceD
  split at h
  · rename_i e1
    simp only [e1]
    split at h
    · rename_i e2
      simp only [e2]
      split at h
      · rw [guardR_holds] at h
        exact h
      · exact h.elim
    · exact h.elim
  · exact h.elim
theorem nilCheckR_ok {x:V} (h:(nilCheckR x H).holds P k):nilCheckD x (fun v=>k v H):=by
  unfold nilCheckR at h
  split at h <;> first | exact h.elim | exact h
theorem optR_ok {o:Option D} (h:(optR o H).holds P k):optK o (fun v=>k v H):=by
  cases o <;> exact h
theorem binR_ok {dr : Bool} {op : BinOp} {t : TypeId} {x y : V} (h : (binR P dr op t x y H).holds P k) : (bif dr then binT P op t x y (fun v => k v H) else binD P op t x y (fun v => k v H)) := by
  have plain:(∀ e n f,¬ (x=.d (.ro e n f)∧y=.d .nilsl))→binD P op t x y (fun v=>k v H)→(bif dr then binT P op t x y (fun v=>k v H) else binD P op t x y (fun v=>k v H)):=by
    intro hn hb
    cases dr with
    | false=>exact hb
    | true =>
      show binT P op t x y _
      unfold binT
      split
      · exact hn _ _ _ ⟨rfl,rfl⟩
      · exact hb
  unfold binR at h
  split at h
  · refine plain (fun e n f hh=>by simp at hh) ?_
    unfold binD
    simp only []
    cases op <;> first
      | exact optR_ok h
      | (simp only [] at h;rw [guardR_holds] at h;exact ⟨h.1,optR_ok h.2⟩)
  · refine plain (fun e n f hh=>by simp at hh) ?_
    unfold binD
    simp only []
    cases op <;> first
      | exact optR_ok h
      | (simp only [] at h;rw [guardR_holds] at h;exact h)
  · refine plain (fun e n f hh=>by simp at hh) ?_
    unfold binD
    simp only []
    split at h
    · rename_i e1
      simp only [e1]
      exact optR_ok h
    · exact h.elim
  · refine plain (fun e n f hh=>by simp at hh) ?_
    split at h
    · rename_i e1
      split at h
      · simp only [binD,e1];exact optR_ok h
      · simp only [binD,e1];exact optR_ok h
      · simp only [binD,e1];exact optR_ok h
      · exact h.elim
    · exact h.elim
  · split at h
    · rename_i e1
      split at h
      · refine plain (fun e n f hh=>by simp at hh) ?_
        simp only [binD,e1];exact optR_ok h
      · refine plain (fun e n f hh=>by simp at hh) ?_
        simp only [binD,e1];exact optR_ok h
      · cases dr with
        | true=>exact h.elim
        | false =>
          simp only [cond_false] at h ⊢
          rw [brR_holds] at h
          rename_i e n f
          simp only [binD,e1]
          intro b hb
          by_cases hp:0 < n∧0 < e
          · rw [hb hp]
            exact optR_ok (h.1 hp)
          · have:=h.2 hp
            cases b with
            | true=>exact optR_ok this.1
            | false=>exact optR_ok this.2
      · exact h.elim
    · exact h.elim
  · exact h.elim
theorem unR_ok {op:UnOp} {x:V} (h:(unR op x H).holds P k):unD op x (fun v=>k v H):=by
  unfold unR at h
  split at h
  · exact h
  · exact h
  · exact h.elim
theorem convertR_ok {src dst:TypeId} {x:V} (h:(convertR P src dst x H).holds P k):convertD P src dst x (fun v=>k v H):=by
  unfold convertR at h
  unfold convertD
  split at h
  · rename_i e1 e2
    simp only [e1,e2]
    split at h
    · rename_i e3;simp only [e3];exact h
    · rename_i e3;simp only [e3];exact h
    · exact h.elim
  · exact h.elim
theorem bytesR_ok : ∀ (rows : List (List V)) {c : Prop} {l : List UInt8} {K : List UInt8 → Prop}, bytesR rows = some (c, l) → c → K l → bytesD rows K
  | [],c,l,K,h,_,hk=>by
    simp only [bytesR,Option.some.injEq,Prod.mk.injEq] at h
    obtain ⟨_,rfl⟩:=h
    exact hk
  | r :: rows, c, l, K, h, hc, hk => by
    unfold bytesR at h
    split at h
    · rename_i e;cases e
    · rename_i n l' e
      cases e
      split at h
      · rename_i c' r' e2
        simp only [Option.some.injEq,Prod.mk.injEq] at h
        obtain ⟨rfl,rfl⟩:=h
        exact ⟨hc.1,bytesR_ok rows e2 hc.2 hk⟩
      · cases h
    · cases h
theorem convHR_ok {src dst : TypeId} {x : V} (h : (convHR P src dst x H).holds P k) : convH P src dst x H k := by
  cases x with
  | sl id e off n =>
    simp only [convHR] at h
    simp only [convH]
    split at h
    · rename_i e1 e2
      simp only [e1,e2]
      split at h
      · rename_i e3
        simp only [e3]
        split at h
        · rename_i e4
          simp only [e4]
          split at h
          · rename_i e5
            rw [guardR_holds] at h
            obtain ⟨⟨h1,h2,h3,h4⟩,h5⟩:=h
            exact ⟨h1,h2,h3,bytesR_ok _ e5 h4 h5⟩
          · exact h.elim
        · exact h.elim
      · exact h.elim
    · exact h.elim
  | _=>exact convertR_ok h
theorem pickR_ok {c a b:V} (h:(pickR c a b H).holds P k):pickD c a b (fun v=>k v H):=by
  unfold pickR at h
  unfold pickD
  split at h
  · simp only []
    split at h
    · exact h
    · rename_i t _ _ hn
      rw [brR_holds] at h
      split
      · exact absurd rfl (hn _ _ rfl)
      · exact ⟨fun e=>h.1 e,fun e=>h.2 (by rw [e];decide)⟩
  · exact h.elim
theorem fieldAddrR_ok {s:TypeId} {x:V} {f:Nat} (h:(fieldAddrR P s x f H).holds P k):fieldAddrD P s x f (fun v=>k v H):=by
  unfold fieldAddrR at h
  unfold fieldAddrD
  split at h
  · rename_i e1
    simp only [e1]
    split at h
    · rename_i e2
      simp only [e2]
      rw [guardR_holds] at h
      refine ⟨h.1, ?_⟩
      have h:=h.2
      split at h
      · rw [guardR_holds] at h;exact h
      · exact h
      · exact h.elim
    · exact h.elim
  · exact h.elim
theorem fieldR_ok {s : TypeId} {x : V} {f : Nat} (h : (fieldR P s x f H).holds P k) : fieldD P s x f (fun v => k v H) := by
  unfold fieldR at h
  unfold fieldD
  split at h
  · rename_i e1
    simp only [e1]
    split at h
    · rename_i e2
      simp only [e2]
      split at h
      · rename_i e3
        simp only [e3]
        rw [guardR_holds] at h
        exact ⟨h.1.1,h.1.2,h.2⟩
      · exact h.elim
    · exact h.elim
  · exact h.elim
theorem indexAddrR_ok {t:TypeId} {x ix:V} (h:(indexAddrR P t x ix H).holds P k):indexAddrD P t x ix (fun v=>k v H):=by
  unfold indexAddrR at h
  unfold indexAddrD
  split at h
  · rename_i e1
    simp only [e1]
    split at h
    · rename_i e2
      simp only [e2]
      split at h
      · rw [guardR_holds,guardR_holds] at h;exact h
      · rw [guardR_holds,guardR_holds] at h;exact h
      · exact h.elim
    · exact h.elim
  · exact h.elim
theorem indexR_ok {t:TypeId} {x ix:V} (h:(indexR P t x ix H).holds P k):indexD P t x ix (fun v=>k v H):=by
  unfold indexR at h
  unfold indexD
  split at h
  · rename_i e1
    simp only [e1]
    split at h
    · rw [guardR_holds] at h;exact h
    · exact h.elim
  · exact h.elim
theorem extractR_ok {x:V} {i:Nat} (h:(extractR x i H).holds P k):extractD x i (fun v=>k v H):=by
  unfold extractR at h
  unfold extractD
  split at h
  · simp only []
    split at h
    · rename_i v e;exact ⟨v,e,h⟩
    · exact h.elim
  · exact h.elim
theorem boundR_ok {v:Option V} {d:Nat} {p:Prop} {n:Nat} {F:Nat→Prop} (e:boundR v d=some (p,n)) (hp:p) (h:F n):boundD v d F:=by
  unfold boundR at e
  unfold boundD
  split at e
  · cases e;exact h
  · cases e;exact ⟨hp,h⟩
  · cases e
theorem cutR_ok {hi lo:Option V} {dh n:Nat} {F:Nat→Nat→V} (h:(cutR (boundR hi dh) (boundR lo 0) n F H).holds P k):boundD hi dh fun h=>boundD lo 0 fun l=>(l≤h∧h≤n)∧k (F h l) H:=by
  unfold cutR at h
  split at h
  · rename_i e1 e2
    rw [guardR_holds,guardR_holds,guardR_holds] at h
    exact boundR_ok e1 h.1 (boundR_ok e2 h.2.1 h.2.2)
  · exact h.elim
theorem sliceR_ok {t:TypeId} {x:V} {lo hi mx:Option V} (h:(sliceR P t x lo hi mx H).holds P k):sliceD P t x lo hi mx (fun v=>k v H):=by
  unfold sliceR at h
  unfold sliceD
  split at h
  · rename_i e1
    simp only [e1]
    split at h
    · rename_i e2
      simp only [e2]
      split at h
      · rw [guardR_holds] at h;exact ⟨h.1,cutR_ok h.2⟩
      · rw [guardR_holds] at h;exact ⟨h.1,cutR_ok h.2⟩
      · exact cutR_ok h
      · exact h.elim
    · exact h.elim
  · rename_i e1
    simp only [e1]
    split at h
    · exact cutR_ok h
    · exact h.elim
  · exact h.elim
theorem lenR_ok {t:TypeId} {x:V} (h:(lenR P t x H).holds P k):lenD P t x (fun v=>k v H):=by
  unfold lenR at h
  unfold lenD
  split at h
  all_goals first
    | exact h.elim
    | (rename_i e1;simp only [e1];exact h)
theorem elemsR_ok {e:Nat} {x:V} {p:Prop} {news:List (List V)} {F:List (List V)→Prop} (he:elemsR e x H=some (p,news)) (hp:p) (h:F news):elemsD e x H F:=by
  unfold elemsR at he
  unfold elemsD
  split at he
  · simp only []
    split at he
    · rename_i e1
      cases he
      simp only [e1]
      exact ⟨hp.1.1,hp.1.2,hp.2,h⟩
    · cases he
  · cases he;exact ⟨hp.1,hp.2,h⟩
  · cases he;exact h
  · cases he;exact ⟨hp,h⟩
  · cases he
theorem appendR_ok {t : TypeId} {s x : V} (h : (appendR P t s x H).holds P k) : appendD P t s x H k := by
  unfold appendR at h
  unfold appendD
  split at h
  · rename_i e1
    simp only [e1]
    split at h
    · rename_i e2
      simp only [e2]
      split at h
      · rename_i e3
        rw [guardR_holds,guardR_holds] at h
        refine ⟨h.1,elemsR_ok e3 h.2.1 ?_⟩
        have h:=h.2.2
        unfold putOnR at h
        split at h
        · simp only []
          split at h
          · rename_i e4
            rw [guardR_holds] at h
            simp only [e4]
            exact ⟨h.1.1.1,h.1.1.2,h.1.2.1,h.1.2.2.1,h.1.2.2.2,h.2⟩
          · exact h.elim
        · rw [guardR_holds,brR_holds] at h
          exact ⟨h.1,h.2.1,h.2.2⟩
        · exact h.elim
      · exact h.elim
    · exact h.elim
  · exact h.elim
theorem copyR_ok {t : TypeId} {s x : V} (h : (copyR P t s x H).holds P k) : copyD P t s x H k := by
  unfold copyR at h
  unfold copyD
  split at h
  · rename_i e1
    simp only [e1]
    split at h
    · rename_i e2
      simp only [e2]
      split at h
      · rename_i e3
        rw [guardR_holds,guardR_holds] at h
        refine ⟨h.1,elemsR_ok e3 h.2.1 ?_⟩
        have h:=h.2.2
        unfold copyOnR at h
        split at h
        · simp only []
          split at h
          · rename_i e4
            rw [guardR_holds] at h
            simp only [e4]
            exact ⟨h.1.1.1,h.1.1.2,h.1.2,h.2⟩
          · exact h.elim
        · exact h
        · exact h.elim
      · exact h.elim
    · exact h.elim
  · exact h.elim
end
end Go.Proofs.YtcgekblpbheikaaGreatDoor
end

section
/- The abstract machine,part 23: a walk that is reckoned step by step over a stack of code;contracts of callees by a list. No condition. -/
namespace Go.Proofs.YtcgekblpbheikaaGreatDoor
set_option linter.unusedVariables false
set_option linter.unusedSimpArgs false

structure Ent (P:Program) where
  f:FuncId
  e:List V→Option (Prop × V × Heap)
  good:∀ vs c r R,e vs=some (c,r,R)→c→∀ H,CallsD P f vs H (answers r R H)
  cl:∀ vs x,e vs=some x→closedL vs=true
structure EntH (P:Program) where
  f:FuncId
  e:List V→Heap→R
  good:∀ vs H k,(e vs H).holds P k→CallsD P f vs H k
  gro:Bool
  det:gro=true→∀ vs H (k:V→Heap→Prop),(e vs H).holds P k→∃ r S,(∀ k':V→Heap→Prop,k' r (H++S)→(e vs H).holds P k')∧k r (H++S)
section
variable {P:Program}
def tab:List (Ent P)→FuncId→List V→Option (Prop × V × Heap)
  | [],_,_=>none
  | K :: l,g,vs=>if K.f=g then K.e vs else tab l g vs
def tabH:List (EntH P)→FuncId→List V→Heap→R
  | [],g,vs,H=>.call g vs H
  | K :: l,g,vs,H=>if K.f=g then K.e vs H else tabH l g vs H
def tabK:List (EntH P)→FuncId→List V→Heap→R
  | [],_,_,_=>.bad
  | K :: l,g,vs,H=>if K.f=g then (bif K.gro then K.e vs H else .bad) else tabK l g vs H
open Classical in
noncomputable def tabG (l:List (Ent P)):Table:=fun g vs=>match tab l g vs with
  | some (c,r,R)=>if c then some (r,R) else none
  | none=>none
theorem tab_good {g:FuncId} {vs:List V} {c:Prop} {r:V} {R:Heap}:∀ (l:List (Ent P)),tab l g vs=some (c,r,R)→c→∀ H,CallsD P g vs H (answers r R H)
  | [],h,_,_=>by simp [tab] at h
  | K :: l,h,hc,H=>by
    simp only [tab] at h
    split at h
    · rename_i e;rw [← e];exact K.good vs c r R h hc H
    · exact tab_good l h hc H
theorem tabG_good (l:List (Ent P)):Good P (tabG l):=by
  intro g vs r R H h
  unfold tabG at h
  split at h
  · rename_i e
    split at h
    · rename_i hc;cases h;exact tab_good l e hc H
    · cases h
  · cases h
theorem tab_cl {g:FuncId} {vs:List V}:∀ (l:List (Ent P)) {x:Prop × V × Heap},tab l g vs=some x→closedL vs=true
  | [],_,h=>by simp [tab] at h
  | K :: l,x,h=>by
    simp only [tab] at h
    split at h
    · exact K.cl vs x h
    · exact tab_cl l h
theorem tabH_good {g:FuncId} {vs:List V} {H:Heap} {k:V→Heap→Prop}:∀ (l:List (EntH P)),(tabH l g vs H).holds P k→CallsD P g vs H k
  | [],h=>h
  | K :: l,h=>by
    simp only [tabH] at h
    split at h
    · rename_i e;rw [← e];exact K.good vs H k h
    · exact tabH_good l h
end

theorem tabK_good {P : Program} {g : FuncId} {vs : List V} {H : Heap} {k : V → Heap → Prop} : ∀ (l : List (EntH P)), (tabK l g vs H).holds P k → ∃ r R, CallsD P g vs H (fun r' H' => r' = r ∧ H' = H ++ R) ∧ k r (H ++ R)
  | [],h=>h.elim
  | K :: l, h => by
    simp only [tabK] at h
    split at h
    · rename_i e
      cases hg:K.gro with
      | false=>rw [hg] at h;exact h.elim
      | true =>
        rw [hg,cond_true] at h
        obtain ⟨r,S,h1,h2⟩:=K.det hg vs H k h
        exact ⟨r,S,by rw [← e];exact K.good vs H _ (h1 _ ⟨rfl,rfl⟩),h2⟩
    · exact tabK_good l h
structure Cfg (P:Program) where
  l:List (Ent P)
  lh:List (EntH P)
  own:List FuncId
  N:Nat
  n0:Nat
  K:List Nat
  S:List Nat

section
variable {P:Program} (C:Cfg P)
noncomputable def ansR (o:Option (Prop × V × Heap)) (g:FuncId) (vs:List V) (H:Heap):R :=
  match o with
  | some (c,r,[])=>guardR c (.ok r H)
  | some (c,r,p :: R)=>guardR c (.ok (r.shift H.length) (H++(p :: R).map (Place.shift H.length)))
  | none=>tabH C.lh g vs H
noncomputable def ansT (o:Option (Prop × V × Heap)) (H:Heap):R :=
  match o with
  | some (c,r,[])=>guardR c (.ok r H)
  | _=>.bad
noncomputable def goR (byVal:Bool) (g:FuncId) (vs:List V) (H:Heap):R:=bif byVal then ansT (tab C.l g vs) H else bif closedL vs then ansR C (tab C.l g vs) g vs H else tabH C.lh g vs H
noncomputable def growR (g:FuncId) (vs:List V) (H:Heap):R:=bif closedL vs then (match tab C.l g vs with
  | some (c,r,[])=>guardR c (.ok r H)
  | some (c,r,p :: R)=>guardR c (.ok (r.shift H.length) (H++(p :: R).map (Place.shift H.length)))
  | none=>.bad) else tabK C.lh g vs H
noncomputable def callR (byVal:Bool) (f:V) (vs:List V) (H:Heap):R :=
  match f with
  | .d (.clo g n cap)=>goR C byVal g (vs++upto n fun j=>.d (cap j)) H
  | .clo g l=>goR C byVal g (vs++l) H
  | _=>.bad
noncomputable def opR (dr:Bool) (env:Env) (H:Heap) (o:Op):R :=
  match o with
  | .move x=>.ok (ev env x) H
  | .assign x=>.ok (ev env x) H
  | .pick c a b=>pickR (ev env c) (ev env a) (ev env b) H
  | .alloc t=>allocR (tinfo P t) H
  | .box t x=>boxR (tinfo P t) (ev env x) H
  | .build t parts=>buildR (tinfo P t) (parts.toList.map fun p=>(p.1,ev env p.2)) H
  | .buildSlice t len parts=>buildSliceR P t len (parts.toList.map fun p=>(p.1,ev env p.2)) H
  | .load t a=>loadR (tinfo P t) (ev env a) H
  | .store t a x=>storeR (tinfo P t) (ev env a) (ev env x) H
  | .nilCheck x=>nilCheckR (ev env x) H
  | .binOp op t x y _=>binR P dr op t (ev env x) (ev env y) H
  | .unOp op _ x=>unR op (ev env x) H
  | .convert src dst x=>bif dr && !C.own.contains (src + 2000000) then convertR P src dst (ev env x) H else convHR P src dst (ev env x) H
  | .makeFunc (.func f) first captured=>guardR (first.size=0) (.ok (.clo f (captured.toList.map (ev env))) H)
  | .makeSlice t l c=>makeSliceR P t (ev env l) (ev env c) H
  | .slice t x lo hi mx=>sliceR P t (ev env x) (lo.map (ev env)) (hi.map (ev env)) (mx.map (ev env)) H
  | .fieldAddr s x f=>fieldAddrR P s (ev env x) f H
  | .field s x f=>fieldR P s (ev env x) f H
  | .indexAddr t x ix=>indexAddrR P t (ev env x) (ev env ix) H
  | .index t x ix=>indexR P t (ev env x) (ev env ix) H
  | .extract t i=>extractR (ev env t) i H
  | .call ⟨.value f,args,_⟩=>bif dr && growCallee C.own (.value f) then (match f with | .func g=>growR C g (args.toList.map (ev env)) H | _=>.bad) else callR C (dr && !ownCallee C.own (.value f)) (ev env f) (args.toList.map (ev env)) H
  | .call ⟨.builtin .len,args,ts⟩=>(match args.toList,ts.toList with
    | [x],[t]=>lenR P t (ev env x) H
    | _,_=>.bad)
  | .call ⟨.builtin .append,args,ts⟩=>(match args.toList,ts.toList with
    | [s,x],[t,t']=>guardR (t=t'∨strT P t'=true) (appendR P t (ev env s) (ev env x) H)
    | _,_=>.bad)
  | .call ⟨.builtin .copy,args,ts⟩=>(match args.toList,ts.toList with
    | [s,x],[t,t']=>guardR (t=t') (copyR P t (ev env s) (ev env x) H)
    | _,_=>.bad)
  | _=>.bad
variable {C}
theorem ansR_ok {g:FuncId} {vs:List V} {H:Heap} {k:V→Heap→Prop} (h:(ansR C (tab C.l g vs) g vs H).holds P k):goD P (tabG C.l) g vs H k:=by
  unfold ansR at h
  unfold goD tabG
  split at h
  · rename_i e
    rw [guardR_holds] at h
    simp only [e,h.1,if_true]
    exact h.2
  · rename_i e
    rw [guardR_holds] at h
    simp only [e,h.1,if_true]
    exact h.2
  · rename_i e
    simp only [e]
    exact tabH_good C.lh h
theorem goR_ok {g:FuncId} {vs:List V} {H:Heap} {k:V→Heap→Prop} (h:(bif closedL vs then ansR C (tab C.l g vs) g vs H else tabH C.lh g vs H).holds P k):goD P (tabG C.l) g vs H k:=by
  cases hc:closedL vs with
  | true=>rw [hc] at h;exact ansR_ok h
  | false =>
    rw [hc] at h
    unfold goD tabG
    cases ht:tab C.l g vs with
    | none=>exact tabH_good C.lh h
    | some x=>rw [tab_cl C.l ht] at hc;cases hc
theorem ansT_ok {g:FuncId} {vs:List V} {H:Heap} {k:V→Heap→Prop} (h:(ansT (tab C.l g vs) H).holds P k):goT (tabG C.l) g vs (fun v=>k v H):=by
  unfold ansT at h
  unfold goT tabG
  split at h
  · rename_i e
    rw [guardR_holds] at h
    simp only [e,h.1,if_true]
    exact h.2
  · exact h.elim
theorem growR_ok {g:FuncId} {vs:List V} {H:Heap} {k:V→Heap→Prop} (h:(growR C g vs H).holds P k):∃ r R,CallsD P g vs H (fun r' H'=>r'=r∧H'=H++R)∧k r (H++R):=by
  unfold growR at h
  cases hc:closedL vs with
  | true =>
    rw [hc,cond_true] at h
    split at h
    · rename_i e
      rw [guardR_holds] at h
      refine ⟨_,[],(tab_good C.l e h.1 H).mono fun r' H' q=>?_,by rw [List.append_nil];exact h.2⟩
      rw [List.append_nil];exact q
    · rename_i e
      rw [guardR_holds] at h
      exact ⟨_,_,(tab_good C.l e h.1 H).mono fun r' H' q=>q,h.2⟩
    · exact h.elim
  | false=>rw [hc,cond_false] at h;exact tabK_good C.lh h
theorem opR_ok {dr : Bool} {env : Env} {H : Heap} {o : Op} {k : V → Heap → Prop} (h : (opR C dr env H o).holds P k) : (bif dr then opT P (tabG C.l) C.own env H o k else opD P (tabG C.l) env H o k) := by
  have plain:(∀ op t x y z,o ≠ .binOp op t x y z)→(∀ c,o ≠ .call c)→(∀ s d x,o ≠ .convert s d x)→opD P (tabG C.l) env H o k→(bif dr then opT P (tabG C.l) C.own env H o k else opD P (tabG C.l) env H o k):=by
    intro h1 h2 h3 h'
    cases dr with
    | false=>rw [cond_false];exact h'
    | true =>
      rw [cond_true]
      unfold opT
      split
      · exact absurd rfl (h1 _ _ _ _ _)
      · exact absurd rfl (h2 _)
      · exact absurd rfl (h3 _ _ _)
      · exact h'
  unfold opR at h
  split at h
  case h_11=>exact (binR_ok h:_)
  case h_22 f args ts =>
    have key:(match f with | _=>True):=by cases f <;> trivial
    cases dr with
    | false =>
      simp only [Bool.false_and,callR,goR,cond_false] at h
      rw [cond_false]
      simp only [opD,callD]
      split at h
      · rename_i e;simp only [e];exact goR_ok h
      · rename_i e;simp only [e];exact goR_ok h
      · exact h.elim
    | true =>
      rw [cond_true]
      simp only [opT]
      cases hgr:growCallee C.own (.value f) with
      | true =>
        simp only [Bool.true_and,hgr,cond_true] at h
        rw [if_pos rfl]
        unfold callG
        split at h
        · exact growR_ok h
        · exact h.elim
      | false =>
      simp only [Bool.true_and,hgr,cond_false,callR,goR] at h
      rw [if_neg (by decide)]
      cases ho:ownCallee C.own (.value f) with
      | true =>
        simp only [ho,Bool.not_true,cond_false] at h
        rw [if_pos rfl]
        simp only [callD]
        split at h
        · rename_i e;simp only [e];exact goR_ok h
        · rename_i e;simp only [e];exact goR_ok h
        · exact h.elim
      | false =>
        simp only [ho,Bool.not_false,cond_true] at h
        rw [if_neg (by decide)]
        simp only [callT]
        split at h
        · rename_i e;simp only [e];exact ansT_ok h
        · rename_i e;simp only [e];exact ansT_ok h
        · exact h.elim
  case h_23 args ts =>
    have hl:∀ {k':V→Prop},(match args.toList,ts.toList with | [x],[t]=>lenD P t (ev env x) k' | _,_=>False)=(match args.toList,ts.toList with | [x],[t]=>lenD P t (ev env x) k' | _,_=>False):=rfl
    split at h
    · rename_i e1 e2
      have:=lenR_ok h
      cases dr with
      | false=>rw [cond_false];simp only [opD,callD,e1,e2];exact this
      | true=>rw [cond_true];simp only [opT,growCallee,ownCallee,Bool.false_eq_true,if_false,callT,e1,e2];exact this
    · exact h.elim
  case h_24 args ts =>
    split at h
    · rename_i e1 e2
      rw [guardR_holds] at h
      have:=appendR_ok h.2
      cases dr with
      | false=>rw [cond_false];simp only [opD,callD,e1,e2];exact ⟨h.1,this⟩
      | true=>rw [cond_true];simp only [opT,growCallee,ownCallee,Bool.false_eq_true,if_false,if_true,callD,e1,e2];exact ⟨h.1,this⟩
    · exact h.elim
  case h_25 args ts =>
    split at h
    · rename_i e1 e2
      rw [guardR_holds] at h
      have:=copyR_ok h.2
      cases dr with
      | false=>rw [cond_false];simp only [opD,callD,e1,e2];exact ⟨h.1,this⟩
      | true=>rw [cond_true];simp only [opT,growCallee,ownCallee,Bool.false_eq_true,if_false,if_true,callD,e1,e2];exact ⟨h.1,this⟩
    · exact h.elim
  case h_26=>exact h.elim
  case h_13 src dst x =>
    cases dr with
    | false =>
      simp only [Bool.false_and,cond_false] at h
      rw [cond_false]
      simp only [opD]
      exact convHR_ok h
    | true =>
      rw [cond_true]
      simp only [opT]
      cases ho:C.own.contains (src + 2000000) with
      | true =>
        simp only [ho,Bool.not_true,Bool.and_false,cond_false] at h
        rw [if_pos rfl]
        exact convHR_ok h
      | false =>
        simp only [ho,Bool.not_false,Bool.true_and,cond_true] at h
        rw [if_neg (by decide)]
        exact convertR_ok h
  all_goals refine plain (fun _ _ _ _ _ hh=>by cases hh) (fun _ hh=>by cases hh) (fun _ _ _ hh=>by cases hh) ?_
  all_goals simp only [opD]
  case h_1=>exact h
  case h_2=>exact h
  case h_3=>exact pickR_ok h
  case h_4=>exact allocR_ok h
  case h_5=>exact boxR_ok h
  case h_6=>exact buildR_ok h
  case h_7=>exact buildSliceR_ok h
  case h_8=>exact loadR_ok h
  case h_9=>exact storeR_ok h
  case h_10=>exact nilCheckR_ok h
  case h_12=>exact unR_ok h
  case h_14=>rw [guardR_holds] at h;exact h
  case h_15=>exact makeSliceR_ok h
  case h_16=>exact sliceR_ok h
  case h_17=>exact fieldAddrR_ok h
  case h_18=>exact fieldR_ok h
  case h_19=>exact indexAddrR_ok h
  case h_20=>exact indexR_ok h
  case h_21=>exact extractR_ok h
end
end Go.Proofs.YtcgekblpbheikaaGreatDoor
end
