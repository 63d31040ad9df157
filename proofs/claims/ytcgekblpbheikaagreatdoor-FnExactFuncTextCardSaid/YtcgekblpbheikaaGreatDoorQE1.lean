/- The abstract machine: parts A0 A1 A2 A3 A4 A5 A6 A7 A8 A9 in one text. No condition. -/
import Derived.Calls
import Derived.Orders
import Derived.Below
import Derived.Laws.World
import Derived.Laws.Rows
import Derived.Laws.Tables
import Derived.Laws.CopyRow
import Derived.Laws.Append
import Derived.Laws.AppendOwn
import Derived.Laws.MakeOwn
import Derived.ArgAppend
import Derived.Deep.LoopGhost
import Derived.WideLaws
import Derived.Laws.Entries
import Derived.Laws.EntriesVeiled
import Derived.Laws.Strings
import Derived.Laws.IdiomStrings
import Derived.Lib.ItoaNum
section
/- The abstract machine,part 0: abstract values,places,and what it means that they stand for Go values in a world. No condition. -/
namespace Go.Proofs.YtcgekblpbheikaaGreatDoor
set_option linter.unusedVariables false

inductive D where
  | undef
  | int (k:IntKind) (n:Int)
  | bool (b:Bool)
  | str (s:ByteArray)
  | nilp
  | rp (n:Nat) (f:Nat→D)
  | nilsl
  | ro (e n:Nat) (f:Nat→Nat→D)
  | clo (fn:FuncId) (n:Nat) (c:Nat→D)
  | nilf
  | nili
  | iface (t:TypeId) (x:D)
  deriving Inhabited

def DS (w:World) (own:Nat→Prop):D→Value→Prop
  | .undef,_=>True
  | .int k n,v=>v=.int k n
  | .bool b,v=>v=.bool b
  | .str s,v=>v=.string s
  | .nilp,v=>v=.pointer none
  | .rp n f,v=>∃ a,v=.pointer (some a)∧∀ j,j < n→¬ own a.block∧∃ c,w.cell? (a.add j)=some c∧DS w own (f j) c
  | .nilsl,v=>v=.slice none 0 0
  | .ro e n f,v=>∃ A cap,v=.slice A n cap∧n≤cap∧∀ i j,i < n→j < e→∃ a,A=some a∧¬ own a.block∧∃ c,w.cell? (a.add (i * e + j))=some c∧DS w own (f i j) c
  | .clo fn n c,v=>∃ cs:Array Value,v=.func (.func fn) #[] cs∧cs.size=n∧∀ j,j < n→∃ x,cs[j]? = some x∧DS w own (c j) x
  | .nilf,v=>v=.nilFunc
  | .nili,v=>v=.nilIface
  | .iface t x,v=>∃ y,v=.iface t y∧DS w own x y

def Keeps (w:World) (own:Nat→Prop) (w':World) (own':Nat→Prop):Prop :=
  ∀ b,b < w.heap.size→¬ own b→w'.heap[b]? = w.heap[b]?∧¬ own' b

theorem Keeps.cell {w w':World} {own own':Nat→Prop} (h:Keeps w own w' own') {a:Addr} (hn:¬ own a.block) {c:Value} (hc:w.cell? a=some c) :
    w'.cell? a=some c∧¬ own' a.block:=by
  have hlt:a.block < w.heap.size:=by
    unfold World.cell? at hc
    split at hc
    · rename_i hh
      exact (Array.getElem?_eq_some_iff.1 hh).1
    · simp at hc
  obtain ⟨h1,h2⟩:=h a.block hlt hn
  refine ⟨?_,h2⟩
  unfold World.cell? at hc ⊢
  rw [h1]
  exact hc

theorem add_block (a:Addr) (n:Nat):(a.add n).block=a.block:=by
  unfold Addr.add
  split <;> rfl

theorem DS.keeps {w w':World} {own own':Nat→Prop} (h:Keeps w own w' own'):∀ (d:D) (v:Value),DS w own d v→DS w' own' d v:=by
  intro d
  induction d with
  | rp n f ih =>
    rintro v ⟨a,rfl,hf⟩
    refine ⟨a,rfl,fun j hj=>?_⟩
    obtain ⟨hn,c,hc,hd⟩:=hf j hj
    have:=h.cell (a:=a.add j) (by rw [add_block];exact hn) hc
    exact ⟨by have:=this.2;rwa [add_block] at this,c,this.1,ih j c hd⟩
  | ro e n f ih =>
    rintro v ⟨A,cap,rfl,hcap,hf⟩
    refine ⟨A,cap,rfl,hcap,fun i j hi hj=>?_⟩
    obtain ⟨a,rfl,hn,c,hc,hd⟩:=hf i j hi hj
    have:=h.cell (a:=a.add (i * e + j)) (by rw [add_block];exact hn) hc
    exact ⟨a,rfl,by have:=this.2;rwa [add_block] at this,c,this.1,ih i j c hd⟩
  | clo fn n c ih =>
    rintro v ⟨cs,rfl,hs,hf⟩
    refine ⟨cs,rfl,hs,fun j hj=>?_⟩
    obtain ⟨x,hx,hd⟩:=hf j hj
    exact ⟨x,hx,ih j x hd⟩
  | iface t x ih =>
    rintro v ⟨y,rfl,hd⟩
    exact ⟨y,rfl,ih y hd⟩
  | _=>intro v hv;exact hv

inductive V where
  | d (x:D)
  | ptr (id e i j:Nat)
  | sl (id e off n:Nat)
  | agg (l:List V)
  | tup (l:List V)
  | clo (fn:FuncId) (l:List V)
  deriving Inhabited

def roomy (w:World) (g m:Nat):Prop:=∃ cs t fr,w.heap[g]? = some (.cells cs t fr)∧m≤cs.size

mutual
def VS (w:World) (own:Nat→Prop) (φ:List (Nat × Nat)):V→Value→Prop
  | .d x,v=>DS w own x v
  | .ptr id e i j,v=>∃ g o,φ[id]? = some (g,o)∧v=.pointer (some ⟨g,o + i * e + j,none⟩)
  | .sl id e off n,v=>∃ g o A cap,φ[id]? = some (g,o)∧v=.slice (some A) n cap∧n≤cap∧(cap=0∨A=⟨g,o + off * e,none⟩)∧roomy w g (o + (off + cap) * e)
  | .agg l,v=>∃ cs:Array Value,v=.agg cs∧VSs w own φ l cs.toList
  | .tup l,v=>∃ cs:Array Value,v=.tuple cs∧VSs w own φ l cs.toList
  | .clo fn l,v=>∃ cs:Array Value,v=.func (.func fn) #[] cs∧VSs w own φ l cs.toList
def VSs (w:World) (own:Nat→Prop) (φ:List (Nat × Nat)):List V→List Value→Prop
  | [],vs=>vs=[]
  | x :: l,vs=>∃ v vs',vs=v :: vs'∧VS w own φ x v∧VSs w own φ l vs'
end

def V.one:V→Bool
  | .d .undef | .agg _ | .tup _=>false
  | _=>true

theorem VS.one {w:World} {own:Nat→Prop} {φ:List (Nat × Nat)} {x:V} {v:Value} (h:VS w own φ x v) (ho:x.one=true):v.oneCell'=true:=by
  cases x with
  | d x => cases x <;> simp [V.one] at ho <;> simp only [VS, DS] at h
           all_goals first
             | (subst h;rfl)
             | (obtain ⟨_,rfl,_⟩:=h;rfl)
             | (obtain ⟨_,_,rfl,_⟩:=h;rfl)
  | ptr id e i j=>simp only [VS] at h;obtain ⟨_,_,_,rfl⟩:=h;rfl
  | sl id e off n=>simp only [VS] at h;obtain ⟨_,_,_,_,_,rfl,_⟩:=h;rfl
  | clo fn l=>simp only [VS] at h;obtain ⟨_,rfl,_⟩:=h;rfl
  | _=>simp [V.one] at ho

def Sizes (w w':World):Prop:=∀ (g:Nat) (cs:Array Value) (t:TypeId) (fr:Nat × Nat),w.heap[g]? = some (.cells cs t fr)→∃ (cs':Array Value) (fr':Nat × Nat),w'.heap[g]? = some (.cells cs' t fr')∧cs'.size=cs.size

theorem Sizes.roomy {w w':World} (h:Sizes w w') {g m:Nat} (hr:roomy w g m):roomy w' g m:=by
  obtain ⟨cs,t,fr,hh,hm⟩:=hr
  obtain ⟨cs',fr',h1,h2⟩:=h g cs t fr hh
  exact ⟨cs',t,fr',h1,by omega⟩

def Ext (φ φ':List (Nat × Nat)):Prop:=∀ id,id < φ.length→φ'[id]? = φ[id]?

theorem Ext.refl (φ:List (Nat × Nat)):Ext φ φ:=fun _ _=>rfl
theorem Ext.trans {a b c:List (Nat × Nat)} (h:Ext a b) (k:Ext b c) (hl:a.length≤b.length):Ext a c:=fun id hi=>(k id (by omega)).trans (h id hi)
theorem Ext.append (φ l:List (Nat × Nat)):Ext φ (φ++l):=fun id hi=>by rw [List.getElem?_append_left hi]
theorem Ext.some {φ φ':List (Nat × Nat)} (h:Ext φ φ') {id:Nat} {x:Nat × Nat} (hx:φ[id]? = some x):φ'[id]? = some x:=by
  have:id < φ.length:=(List.getElem?_eq_some_iff.1 hx).1
  rw [h id this,hx]

mutual
theorem VS.keeps {w w':World} {own own':Nat→Prop} {φ φ':List (Nat × Nat)} (h:Keeps w own w' own') (hs:Sizes w w') (he:Ext φ φ') :
    ∀ (x:V) (v:Value),VS w own φ x v→VS w' own' φ' x v
  | .d x,v,hv=>DS.keeps h x v hv
  | .ptr id e i j,v,hv=>by
    obtain ⟨g,o,h1,h2⟩:=hv
    exact ⟨g,o,he.some h1,h2⟩
  | .sl id e off n,v,hv=>by
    obtain ⟨g,o,A,cap,h1,h2,h3,h4,h5⟩:=hv
    exact ⟨g,o,A,cap,he.some h1,h2,h3,h4,hs.roomy h5⟩
  | .agg l,v,hv=>by
    obtain ⟨cs,h1,h2⟩:=hv
    exact ⟨cs,h1,VSs.keeps h hs he l _ h2⟩
  | .tup l,v,hv=>by
    obtain ⟨cs,h1,h2⟩:=hv
    exact ⟨cs,h1,VSs.keeps h hs he l _ h2⟩
  | .clo fn l,v,hv=>by
    obtain ⟨cs,h1,h2⟩:=hv
    exact ⟨cs,h1,VSs.keeps h hs he l _ h2⟩
theorem VSs.keeps {w w':World} {own own':Nat→Prop} {φ φ':List (Nat × Nat)} (h:Keeps w own w' own') (hs:Sizes w w') (he:Ext φ φ') :
    ∀ (l:List V) (vs:List Value),VSs w own φ l vs→VSs w' own' φ' l vs
  | [],vs,hv=>hv
  | x :: l,vs,hv=>by
    obtain ⟨v,vs',h1,h2,h3⟩:=hv
    exact ⟨v,vs',h1,VS.keeps h hs he x v h2,VSs.keeps h hs he l vs' h3⟩
end

inductive Place where
  | dead
  | row (e:Nat) (es:List (List V))
  deriving Inhabited

abbrev Heap:=List Place

def ownOf (φ:List (Nat × Nat)) (H:Heap) (g:Nat):Prop:=∃ (id e:Nat) (es:List (List V)) (o:Nat),H[id]? = some (Place.row e es)∧φ[id]? = some (g,o)

def owned (X:Nat→Prop) (φ:List (Nat × Nat)) (H:Heap) (g:Nat):Prop:=X g∨ownOf φ H g

structure HS (X:Nat→Prop) (w:World) (φ:List (Nat × Nat)) (H:Heap):Prop where
  len:φ.length=H.length
  inj:∀ (i j e:Nat) (es:List (List V)) (e':Nat) (es':List (List V)) (g o o':Nat),H[i]? = some (.row e es)→H[j]? = some (.row e' es')→φ[i]? = some (g,o)→φ[j]? = some (g,o')→i=j
  disj:∀ g,ownOf φ H g→¬ X g
  live:∀ (id e:Nat) (es:List (List V)),H[id]? = some (.row e es)→∃ (g o:Nat) (cs:Array Value) (t:TypeId),φ[id]? = some (g,o)∧w.heap[g]? = some (.cells cs t (0,0))∧o + es.length * e≤cs.size ∧
    ∀ (i:Nat) (l:List V),es[i]? = some l→l.length=e∧∀ (j:Nat) (c:V),l[j]? = some c→c.one=true∧∃ x,cs[o + i * e + j]? = some x∧VS w (owned X φ H) φ c x

def theTab:Option (Nat × Array Value):=some (1,(Lib.pow10Tab.map fun z=>Value.int .u64 z).toArray)
def base (w:World) (own:Nat→Prop):Prop:=∀ g cs,theTab=some (g,cs)→¬ own g∧∃ t fr,w.heap[g]? = some (.cells cs t fr)
theorem base.keeps {w w':World} {own own':Nat→Prop} (h:base w own) (k:Keeps w own w' own'):base w' own':=fun g cs e=>by
  obtain ⟨h1,t,fr,h2⟩:=h g cs e
  obtain ⟨k1,k2⟩:=k g (Array.getElem?_eq_some_iff.1 h2).1 h1
  exact ⟨k2,t,fr,k1.trans h2⟩
theorem base.less {w:World} {own own':Nat→Prop} (h:base w own) (k:∀ g,own' g→own g):base w own':=fun g cs e=>⟨fun q=>(h g cs e).1 (k g q),(h g cs e).2⟩
structure Lo (X:Nat→Prop) (w:World) (φ:List (Nat × Nat)) (H:Heap):Prop where
  low:∀ g,X g→g < w.heap.size
  tab:base w (owned X φ H)
theorem Lo.nil {X:Nat→Prop} {w:World} {φ:List (Nat × Nat)} {H:Heap} (h:Lo X w φ H):Lo X w [] [] :=
  ⟨h.low,h.tab.less fun g q=>q.elim .inl fun ⟨_,_,_,_,q,_⟩=>by simp at q⟩
theorem Lo.all {X:Nat→Prop} {w:World} {φ:List (Nat × Nat)} {H:Heap} (h:Lo X w φ H) (k:∀ g,ownOf φ H g→g < w.heap.size):Lo (owned X φ H) w [] [] :=
  ⟨fun g hg=>hg.elim (h.low g) (k g),h.tab.less fun g q=>q.elim id fun ⟨_,_,_,_,q,_⟩=>by simp at q⟩

structure Fr (w0:World) (own0:Nat→Prop) (w:World):Prop where
  os:w.os=w0.os
  tape:w.tape=w0.tape
  output:w.output=w0.output
  size:w0.heap.size≤w.heap.size
  block:∀ b,b < w0.heap.size→¬ own0 b→w.heap[b]? = w0.heap[b]?
  sizes:Sizes w0 w

theorem Sizes.refl (w:World):Sizes w w:=fun g cs t fr h=>⟨cs,fr,h,rfl⟩
theorem Sizes.trans {a b c:World} (h:Sizes a b) (k:Sizes b c):Sizes a c:=fun g cs t fr hg=>by
  obtain ⟨cs1,fr1,h1,h2⟩:=h g cs t fr hg
  obtain ⟨cs2,fr2,h3,h4⟩:=k g cs1 t fr1 h1
  exact ⟨cs2,fr2,h3,by omega⟩
theorem Fr.refl (w:World) (own:Nat→Prop):Fr w own w:=⟨rfl,rfl,rfl,Nat.le_refl _,fun _ _ _=>rfl,Sizes.refl w⟩
theorem Fr.trans {a b c:World} {oa ob:Nat→Prop} (h:Fr a oa b) (k:Fr b ob c) (ho:∀ g,g < a.heap.size→ob g→oa g):Fr a oa c :=
  ⟨k.os.trans h.os,k.tape.trans h.tape,k.output.trans h.output,Nat.le_trans h.size k.size,
    fun g hg hn=>by rw [k.block g (Nat.lt_of_lt_of_le hg h.size) (fun hb=>hn (ho g hg hb)),h.block g hg hn],h.sizes.trans k.sizes⟩
theorem Fr.keeps {w w':World} {own own':Nat→Prop} (h:Fr w own w') (ho:∀ g,g < w.heap.size→own' g→own g):Keeps w own w' own' :=
  fun b hb hn=>⟨h.block b hb hn,fun h'=>hn (ho b hb h')⟩
theorem Fr.below {w w':World} (h:Fr w (fun _=>False) w'):Go.RowKit.Below w.heap.size w w' :=
  ⟨h.os,h.tape,h.output,h.size,fun i hi=>h.block i hi (fun h=>h)⟩

end Go.Proofs.YtcgekblpbheikaaGreatDoor
end

section
/- The abstract machine,part 1: states,what a code is worth over abstract states,and the rules for code. No condition. -/
namespace Go.Proofs.YtcgekblpbheikaaGreatDoor
set_option linter.unusedVariables false

abbrev Env:=Nat→V
def upd (env:Env) (t:Nat) (v:V):Env:=fun x=>if x=t then v else env x
structure St where
  env:Env
  H:Heap
structure Ctx where
  X:Nat→Prop
  w0:World
  φ0:List (Nat × Nat)
  H0:Heap

structure Sim (c:Ctx) (N:Nat) (s:St) (φ:List (Nat × Nat)) (a:Act) (w:World):Prop where
  hs:HS c.X w φ s.H
  env:∀ t,VS w (owned c.X φ s.H) φ (s.env t) (a.tmps.getD t undef)
  low:Lo c.X c.w0 c.φ0 c.H0
  defers:a.defers=[]
  size:a.tmps.size=N
  fr:Fr c.w0 (ownOf c.φ0 c.H0) w
  old:∀ g,g < c.w0.heap.size→ownOf φ s.H g→ownOf c.φ0 c.H0 g
  ext:Ext c.φ0 φ
  long:c.H0.length≤s.H.length
  len0:c.φ0.length=c.H0.length

def W (P:Program) (N n0:Nat) (c:Code) (Q:Exit→St→Prop) (s:St):Prop :=
  ∀ (x:Ctx) (φ:List (Nat × Nat)) (a:Act) (w:World),x.H0.length=n0→Sim x N s φ a w →
    c.wp P (fun e a' w'=>∃ s' φ',Q e s'∧Sim x N s' φ' a' w') a w

def Weak (n0:Nat) (s s':St):Prop:=∀ (x:Ctx) (N:Nat) (φ:List (Nat × Nat)) (a:Act) (w:World),x.H0.length=n0→Sim x N s φ a w→∃ φ',Sim x N s' φ' a w

theorem Weak.refl (n0:Nat) (s:St):Weak n0 s s:=fun _ _ φ _ _ _ h=>⟨φ,h⟩
theorem Weak.trans {n0:Nat} {a b c:St} (h:Weak n0 a b) (k:Weak n0 b c):Weak n0 a c:=fun x N φ y w hx hs =>
  let ⟨φ',h'⟩:=h x N φ y w hx hs
  k x N φ' y w hx h'

def seqQ (k:St→Prop) (Q:Exit→St→Prop):Exit→St→Prop
  | .normal,s=>k s
  | e,s=>Q e s
def blockQ (id:Nat) (Q:Exit→St→Prop):Exit→St→Prop
  | .exit id',s=>if id'=id then Q .normal s else Q (.exit id') s
  | e,s=>Q e s

section
variable {P:Program} {N n0:Nat} {Q:Exit→St→Prop} {s:St}

theorem W_mono {c:Code} {Q':Exit→St→Prop} (h:W P N n0 c Q s) (hq:∀ e s,Q e s→Q' e s):W P N n0 c Q' s :=
  fun x φ a w hx hs=>wp_mono (h x φ a w hx hs) fun e a' w' ⟨s',φ',q,r⟩=>⟨s',φ',hq e s' q,r⟩
theorem W_weak {c:Code} {s':St} (h:Weak n0 s s') (k:W P N n0 c Q s'):W P N n0 c Q s :=
  fun x φ a w hx hs=>let ⟨φ',h'⟩:=h x N φ a w hx hs;k x φ' a w hx h'
theorem W_skip (h:Q .normal s):W P N n0 .skip Q s:=fun x φ a w hx hs=>wp_skip ⟨s,φ,h,hs⟩
theorem W_exit {id:Nat} (h:Q (.exit id) s):W P N n0 (.exit id) Q s:=fun x φ a w hx hs=>wp_exit ⟨s,φ,h,hs⟩
theorem W_ret (h:Q .ret s):W P N n0 .ret Q s:=fun x φ a w hx hs=>wp_ret ⟨s,φ,h,hs⟩
theorem W_seq {b c:Code} (h:W P N n0 b (seqQ (W P N n0 c Q) Q) s):W P N n0 (.seq b c) Q s:=by
  intro x φ a w hx hs
  refine wp_seq (wp_mono (h x φ a w hx hs) ?_)
  rintro e a' w' ⟨s',φ',q,r⟩
  cases e with
  | normal=>exact q x φ' a' w' hx r
  | _=>exact ⟨s',φ',q,r⟩
theorem W_block {id:Nat} {c:Code} (h:W P N n0 c (blockQ id Q) s):W P N n0 (.block id c) Q s:=by
  intro x φ a w hx hs
  refine wp_block (wp_mono (h x φ a w hx hs) ?_)
  rintro e a' w' ⟨s',φ',q,r⟩
  cases e with
  | exit id' =>
    unfold Exit.inBlock
    simp only [blockQ] at q
    split at q <;> rename_i hid <;> simp only [hid,if_true,if_false] <;> exact ⟨s',φ',q,r⟩
  | _=>exact ⟨s',φ',q,r⟩
theorem W_cond {o:Operand} {b c:Code} {t:Bool} (ho:∀ x φ a w,x.H0.length=n0→Sim x N s φ a w→a.eval o=.bool t)
    (ht:t=true→W P N n0 b Q s) (hf:t=false→W P N n0 c Q s):W P N n0 (.cond o b c) Q s:=by
  intro x φ a w hx hs
  refine wp_cond_split (ho x φ a w hx hs) (fun h=>ht h x φ a w hx hs) (fun h=>hf h x φ a w hx hs)
theorem W_loop {c:Code} (I:Nat→St→Prop) (n:Nat) (h0:I n s)
    (round:∀ n s,I n s→W P N n0 c (seqQ (fun s'=>∃ m s'',m < n∧Weak n0 s' s''∧I m s'') Q) s):W P N n0 (.loop c) Q s:=by
  intro x φ a w hx hs
  refine wp_loop_ghost (fun n a w=>∃ s φ,I n s∧Sim x N s φ a w) n ⟨s,φ,h0,hs⟩ ?_
  rintro n a w ⟨s,φ,hI,hs⟩
  refine wp_mono (round n s hI x φ a w hx hs) ?_
  rintro e a' w' ⟨s',φ',q,r⟩
  cases e with
  | normal =>
    obtain ⟨m,s'',hm,hw,hI'⟩:=q
    obtain ⟨φ'',r'⟩:=hw x N φ' a' w' hx r
    exact ⟨m,hm,s'',φ'',hI',r'⟩
  | _=>exact ⟨s',φ',q,r⟩
end

def enters (P:Program) (f:FuncId):Bool :=
  match P.funcs[f]? with
  | some fn => !(fn.name == "runtime.NumGoroutine") && fn.body.isSome
  | none=>false

def CallsD (P:Program) (f:FuncId) (vs:List V) (H:Heap) (Q:V→Heap→Prop):Prop :=
  enters P f=true∧∀ (X:Nat→Prop) (w:World) (φ:List (Nat × Nat)) (args:Array Value),Lo X w φ H→HS X w φ H→VSs w (owned X φ H) φ vs args.toList →
    Calls P f args w fun e w'=>∃ v r φ' H',e=.returned v∧Q r H'∧HS X w' φ' H'∧VS w' (owned X φ' H') φ' r v∧Fr w (ownOf φ H) w' ∧
      Ext φ φ'∧H.length≤H'.length∧∀ g,g < w.heap.size→ownOf φ' H' g→ownOf φ H g

theorem CallsD.mono {P:Program} {f:FuncId} {vs:List V} {H:Heap} {Q Q':V→Heap→Prop} (h:CallsD P f vs H Q) (hq:∀ r H',Q r H'→Q' r H'):CallsD P f vs H Q' :=
  ⟨h.1,fun X w φ args hX hs hv=>(h.2 X w φ args hX hs hv).mono fun e w' ⟨v,r,φ',H',he,q,rest⟩=>⟨v,r,φ',H',he,hq r H' q,rest⟩⟩

def PureP (P:Program) (f:FuncId) (vs:List V) (Q:V→Prop):Prop:=CallsD P f vs [] fun r H'=>H'=[]∧Q r

end Go.Proofs.YtcgekblpbheikaaGreatDoor
end

section
/- The abstract machine,part 2: what becomes of an abstract state where memory is made,written,given up or closed. No condition. -/
namespace Go.Proofs.YtcgekblpbheikaaGreatDoor
set_option linter.unusedVariables false

theorem owned_lt {X:Nat→Prop} {w:World} {φ:List (Nat × Nat)} {H:Heap} (h:HS X w φ H) {g:Nat} (ho:ownOf φ H g):g < w.heap.size:=by
  obtain ⟨id,e,es,o,h1,h2⟩:=ho
  obtain ⟨g',o',cs,t,h3,h4,_⟩:=h.live id e es h1
  rw [h2] at h3
  obtain ⟨rfl,rfl⟩:=Prod.mk.inj (Option.some.inj h3)
  exact (Array.getElem?_eq_some_iff.1 h4).1

theorem Sim.put {x:Ctx} {N:Nat} {env:Env} {H:Heap} {φ:List (Nat × Nat)} {a:Act} {w:World} (h:Sim x N ⟨env,H⟩ φ a w) {t:Nat} (ht:t < N) {c:V} {v:Value}
    (hv:VS w (owned x.X φ H) φ c v):Sim x N ⟨upd env t c,H⟩ φ (a.put (some t) v) w:=by
  refine ⟨h.hs, ?_,h.low,h.defers, ?_,h.fr,h.old,h.ext,h.long,h.len0⟩
  · intro y
    simp only [upd,Act.put]
    by_cases hy:y=t
    · subst hy
      have:y < a.tmps.size:=by rw [h.size];exact ht
      simp [this]
      exact hv
    · have e:=h.env y
      simp only [if_neg hy]
      rw [Array.getD_eq_getD_getElem?,Array.getElem?_setIfInBounds_ne (fun h=>hy h.symm),← Array.getD_eq_getD_getElem?]
      exact e
  · simp [Act.put,h.size]

theorem Sim.lo {x:Ctx} {N:Nat} {s:St} {φ:List (Nat × Nat)} {a:Act} {w:World} (h:Sim x N s φ a w):Lo x.X w φ s.H :=
  ⟨fun g hg=>Nat.lt_of_lt_of_le (h.low.low g hg) h.fr.size,h.low.tab.keeps fun b hb hn=>⟨h.fr.block b hb (fun ho=>hn (.inr ho)),fun ho=>hn (ho.imp id (h.old b hb))⟩⟩

theorem Sim.to {x:Ctx} {N:Nat} {env:Env} {H:Heap} {φ:List (Nat × Nat)} {a:Act} {w:World} (h:Sim x N ⟨env,H⟩ φ a w) {H':Heap} {φ':List (Nat × Nat)} {w':World}
    (hs:HS x.X w' φ' H') (hfr:Fr w (ownOf φ H) w') (hold:∀ g,g < w.heap.size→ownOf φ' H' g→ownOf φ H g) (he:Ext φ φ') (hl:H.length≤H'.length) :
    Sim x N ⟨env,H'⟩ φ' a w':=by
  have hX:∀ b,b < w.heap.size→¬ owned x.X φ H b→w'.heap[b]? = w.heap[b]?∧¬ owned x.X φ' H' b:=fun b hb hn =>
    ⟨hfr.block b hb (fun ho=>hn (.inr ho)),fun ho=>hn (ho.imp id (hold b hb))⟩
  refine ⟨hs,fun t=>VS.keeps hX hfr.sizes he _ _ (h.env t),h.low,h.defers,h.size,h.fr.trans hfr h.old, ?_, ?_,Nat.le_trans h.long hl,h.len0⟩
  · intro g hg ho
    exact h.old g hg (hold g (Nat.lt_of_lt_of_le hg h.fr.size) ho)
  · refine h.ext.trans he ?_
    rw [h.len0,h.hs.len]
    exact h.long

theorem keepsX {X:Nat→Prop} {w w':World} {φ φ':List (Nat × Nat)} {H H':Heap} (hfr:Fr w (ownOf φ H) w') (hold:∀ g,g < w.heap.size→ownOf φ' H' g→ownOf φ H g) :
    Keeps w (owned X φ H) w' (owned X φ' H'):=fun b hb hn =>
  ⟨hfr.block b hb (fun ho=>hn (.inr ho)),fun ho=>hn (ho.imp id (hold b hb))⟩

theorem Fr.drawn {w0 w:World} {own:Nat→Prop} (h:Fr w0 own w) (n:Nat):Fr w0 own { w with drawn:=n }:=⟨h.os,h.tape,h.output,h.size,h.block,h.sizes⟩
theorem DS.heap {w w':World} {own:Nat→Prop} (h:w'.heap=w.heap) {x:D} {v:Value} (hv:DS w own x v):DS w' own x v :=
  DS.keeps (fun b _ hn=>⟨by rw [h],hn⟩) x v hv
theorem Keeps.heap {w w':World} {own:Nat→Prop} (h:w'.heap=w.heap):Keeps w own w' own:=fun b _ hn=>⟨by rw [h],hn⟩
theorem Sizes.heap {w w':World} (h:w'.heap=w.heap):Sizes w w':=fun g cs t fr hg=>⟨cs,fr,by rw [h];exact hg,rfl⟩
theorem Sim.drawn {x:Ctx} {N:Nat} {s:St} {φ:List (Nat × Nat)} {a:Act} {w:World} (h:Sim x N s φ a w) (n:Nat):Sim x N s φ a { w with drawn:=n }:=by
  have k:Keeps w (owned x.X φ s.H) { w with drawn:=n } (owned x.X φ s.H):=Keeps.heap rfl
  have z:Sizes w { w with drawn:=n }:=Sizes.heap rfl
  refine ⟨⟨h.hs.len,h.hs.inj,h.hs.disj, ?_⟩,fun t=>VS.keeps k z (Ext.refl _) _ _ (h.env t),h.low,h.defers,h.size,h.fr.drawn n,h.old,h.ext,h.long,h.len0⟩
  intro id e es hid
  obtain ⟨g,o,cs,t,h1,h2,h3,h4⟩:=h.hs.live id e es hid
  refine ⟨g,o,cs,t,h1,h2,h3,fun i l hi=>⟨(h4 i l hi).1,fun j c hj=>?_⟩⟩
  obtain ⟨ho,y,hy,hv⟩:=(h4 i l hi).2 j c hj
  exact ⟨ho,y,hy,VS.keeps k z (Ext.refl _) _ _ hv⟩

theorem ownOf_snoc {X:Nat→Prop} {w:World} {φ:List (Nat × Nat)} {H:Heap} (h:HS X w φ H) {g g0 e:Nat} {es:List (List V)} (ho:ownOf (φ++[(g0,0)]) (H++[.row e es]) g):ownOf φ H g∨g=g0:=by
  obtain ⟨id,e',es',o,h1,h2⟩:=ho
  by_cases hid:id < H.length
  · rw [List.getElem?_append_left hid] at h1
    rw [List.getElem?_append_left (by rw [h.len];exact hid)] at h2
    exact .inl ⟨id,e',es',o,h1,h2⟩
  · have hid':id=H.length:=by
      have:=(List.getElem?_eq_some_iff.1 h1).1
      simp at this
      omega
    subst hid'
    rw [← h.len] at h2
    simp at h2
    exact .inr h2.1.symm
theorem Fr.alloc (w:World) (own:Nat→Prop) (o:Obj):Fr w own (w.alloc o) :=
  ⟨rfl,rfl,rfl,by simp,fun b hb _=>heap_alloc_old w o b hb,fun g cs t fr hg=>⟨cs,fr,by rw [heap_alloc_old w o g (Array.getElem?_eq_some_iff.1 hg).1];exact hg,rfl⟩⟩

theorem HS.alloc {X:Nat→Prop} {w:World} {φ:List (Nat × Nat)} {H:Heap} (h:HS X w φ H) (hX:∀ g,X g→g < w.heap.size) (e:Nat) (es:List (List V)) (cs:Array Value) (t:TypeId)
    (hcs:es.length * e≤cs.size)
    (hes:∀ (i:Nat) (l:List V),es[i]? = some l→l.length=e∧∀ (j:Nat) (c:V),l[j]? = some c→c.one=true∧∃ y,cs[i * e + j]? = some y∧VS w (owned X φ H) φ c y) :
    HS X (w.alloc (.cells cs t)) (φ++[(w.heap.size,0)]) (H++[.row e es]):=by
  have hold:∀ g,g < w.heap.size→ownOf (φ++[(w.heap.size,0)]) (H++[.row e es]) g→ownOf φ H g:=fun g hg ho=>(ownOf_snoc h ho).resolve_right (by omega)
  have hk:Keeps w (owned X φ H) (w.alloc (.cells cs t)) (owned X (φ++[(w.heap.size,0)]) (H++[.row e es])):=keepsX (Fr.alloc w _ _) hold
  have hz:Sizes w (w.alloc (.cells cs t)):=(Fr.alloc w (fun _=>False) _).sizes
  have he:Ext φ (φ++[(w.heap.size,0)]):=Ext.append _ _
  have hnew:∀ id,¬ id < H.length→id < (H++[Place.row e es]).length→id=H.length:=by intro id a b;simp at b;omega
  refine ⟨by simp [h.len], ?_, ?_, ?_⟩
  · intro i j e1 es1 e2 es2 g o o' hi hj hgi hgj
    have li:=(List.getElem?_eq_some_iff.1 hi).1
    have lj:=(List.getElem?_eq_some_iff.1 hj).1
    by_cases hil:i < H.length <;> by_cases hjl:j < H.length
    · rw [List.getElem?_append_left hil] at hi
      rw [List.getElem?_append_left hjl] at hj
      rw [List.getElem?_append_left (by rw [h.len];exact hil)] at hgi
      rw [List.getElem?_append_left (by rw [h.len];exact hjl)] at hgj
      exact h.inj i j e1 es1 e2 es2 g o o' hi hj hgi hgj
    · have:=hnew j hjl lj
      subst this
      rw [← h.len] at hgj
      simp at hgj
      rw [List.getElem?_append_left hil] at hi
      rw [List.getElem?_append_left (by rw [h.len];exact hil)] at hgi
      have:=owned_lt h ⟨i,e1,es1,o,hi,hgi⟩
      omega
    · have:=hnew i hil li
      subst this
      rw [← h.len] at hgi
      simp at hgi
      rw [List.getElem?_append_left hjl] at hj
      rw [List.getElem?_append_left (by rw [h.len];exact hjl)] at hgj
      have:=owned_lt h ⟨j,e2,es2,o',hj,hgj⟩
      omega
    · rw [hnew i hil li,hnew j hjl lj]
  · intro g ho hx
    rcases ownOf_snoc h ho with ho | rfl
    · exact h.disj g ho hx
    · have:=hX _ hx
      omega
  · intro id e1 es1 hid
    by_cases hl:id < H.length
    · rw [List.getElem?_append_left hl] at hid
      obtain ⟨g,o,cs1,t1,h1,h2,h3,h4⟩:=h.live id e1 es1 hid
      refine ⟨g,o,cs1,t1,he.some h1,by rw [heap_alloc_old w _ g (Array.getElem?_eq_some_iff.1 h2).1];exact h2,h3,fun i l hi=>⟨(h4 i l hi).1,fun j c hj=>?_⟩⟩
      obtain ⟨ho,y,hy,hv⟩:=(h4 i l hi).2 j c hj
      exact ⟨ho,y,hy,VS.keeps hk hz he _ _ hv⟩
    · have:=hnew id hl (List.getElem?_eq_some_iff.1 hid).1
      subst this
      simp at hid
      obtain ⟨rfl,rfl⟩:=hid
      refine ⟨w.heap.size,0,cs,t,by rw [← h.len];simp,heap_alloc_new w _,by simpa using hcs,fun i l hi=>⟨(hes i l hi).1,fun j c hj=>?_⟩⟩
      obtain ⟨ho,y,hy,hv⟩:=(hes i l hi).2 j c hj
      exact ⟨ho,y,by simpa using hy,VS.keeps hk hz he _ _ hv⟩

theorem Sim.alloc {x:Ctx} {N:Nat} {env:Env} {H:Heap} {φ:List (Nat × Nat)} {a:Act} {w:World} (h:Sim x N ⟨env,H⟩ φ a w) (e:Nat) (es:List (List V)) (cs:Array Value) (t:TypeId)
    (hcs:es.length * e≤cs.size)
    (hes:∀ (i:Nat) (l:List V),es[i]? = some l→l.length=e∧∀ (j:Nat) (c:V),l[j]? = some c→c.one=true∧∃ y,cs[i * e + j]? = some y∧VS w (owned x.X φ H) φ c y) :
    Sim x N ⟨env,H++[.row e es]⟩ (φ++[(w.heap.size,0)]) a (w.alloc (.cells cs t)) :=
  h.to (h.hs.alloc (fun g hg=>Nat.lt_of_lt_of_le (h.low.low g hg) h.fr.size) e es cs t hcs hes) (Fr.alloc w _ _)
    (fun g hg ho=>(ownOf_snoc h.hs ho).resolve_right (by omega)) (Ext.append _ _) (by simp)

theorem Fr.setRow {w:World} {own:Nat→Prop} {g:Nat} {cs cs':Array Value} {t:TypeId} {fr:Nat × Nat} (hg:w.heap[g]? = some (.cells cs t fr)) (hs:cs'.size=cs.size) (ho:own g):Fr w own (w.setRow g cs'):=by
  refine ⟨rfl,rfl,rfl, ?_,fun b _ hn=>setRow_other w g b cs' (fun e=>hn (e ▸ ho)),fun k c u f hk=>?_⟩
  · simp [World.setRow]
  · by_cases hkg:k=g
    · subst hkg
      rw [hg] at hk
      cases hk
      exact ⟨cs',_,setRow_heap w k cs cs' t fr hg,hs⟩
    · exact ⟨c,f,by rw [setRow_other w g k cs' hkg];exact hk,rfl⟩

theorem ownOf_set {φ:List (Nat × Nat)} {H:Heap} {id e e':Nat} {es es':List (List V)} (hid:H[id]? = some (.row e es)) (g:Nat):ownOf φ (H.set id (.row e' es')) g ↔ ownOf φ H g:=by
  have hl:=(List.getElem?_eq_some_iff.1 hid).1
  constructor
  · rintro ⟨k,e1,es1,o,h1,h2⟩
    by_cases hk:k=id
    · subst hk
      exact ⟨k,e,es,o,hid,h2⟩
    · rw [List.getElem?_set_ne (fun h=>hk h.symm)] at h1
      exact ⟨k,e1,es1,o,h1,h2⟩
  · rintro ⟨k,e1,es1,o,h1,h2⟩
    by_cases hk:k=id
    · subst hk
      exact ⟨k,e',es',o,by simp [hl],h2⟩
    · exact ⟨k,e1,es1,o,by rw [List.getElem?_set_ne (fun h=>hk h.symm)];exact h1,h2⟩

theorem Sim.setRow {x : Ctx} {N : Nat} {env : Env} {H : Heap} {φ : List (Nat × Nat)} {a : Act} {w : World} (h : Sim x N ⟨env, H⟩ φ a w) {id e : Nat} {es es' : List (List V)} {g o : Nat} {cs cs' : Array Value} {t : TypeId}
    (hid:H[id]? = some (.row e es)) (hφ:φ[id]? = some (g,o)) (hg:w.heap[g]? = some (.cells cs t (0,0))) (hs:cs'.size=cs.size) (hfit:o + es'.length * e≤cs'.size)
    (hes:∀ (i:Nat) (l:List V),es'[i]? = some l→l.length=e∧∀ (j:Nat) (c:V),l[j]? = some c→c.one=true∧∃ y,cs'[o + i * e + j]? = some y∧VS w (owned x.X φ H) φ c y) :
    Sim x N ⟨env,H.set id (.row e es')⟩ φ a (w.setRow g cs'):=by
  have hown:ownOf φ H g:=⟨id,e,es,o,hid,hφ⟩
  have hfr:Fr w (ownOf φ H) (w.setRow g cs'):=Fr.setRow hg hs hown
  have hold:∀ k,k < w.heap.size→ownOf φ (H.set id (.row e es')) k→ownOf φ H k:=fun k _ hk=>(ownOf_set hid k).1 hk
  have hk:Keeps w (owned x.X φ H) (w.setRow g cs') (owned x.X φ (H.set id (.row e es'))):=keepsX hfr hold
  have hl:=(List.getElem?_eq_some_iff.1 hid).1
  refine h.to ⟨by simp [h.hs.len], ?_, ?_, ?_⟩ hfr hold (Ext.refl _) (by simp)
  · have get:∀ (k e1:Nat) (es1:List (List V)),(H.set id (.row e es'))[k]? = some (.row e1 es1)→∃ e2 es2,H[k]? = some (.row e2 es2):=by
      intro k e1 es1 hk
      by_cases hkid:k=id
      · subst hkid;exact ⟨e,es,hid⟩
      · rw [List.getElem?_set_ne (fun h=>hkid h.symm)] at hk;exact ⟨e1,es1,hk⟩
    intro i j e1 es1 e2 es2 g1 o1 o2 hi hj hgi hgj
    obtain ⟨_,_,hi'⟩:=get i e1 es1 hi
    obtain ⟨_,_,hj'⟩:=get j e2 es2 hj
    exact h.hs.inj i j _ _ _ _ g1 o1 o2 hi' hj' hgi hgj
  · intro k hk
    exact h.hs.disj k ((ownOf_set hid k).1 hk)
  · intro k e1 es1 hk1
    by_cases hkid:k=id
    · subst hkid
      simp [hl] at hk1
      obtain ⟨rfl,rfl⟩:=hk1
      refine ⟨g,o,cs',t,hφ,setRow_heap w g cs cs' t _ hg,hfit,fun i l hi=>⟨(hes i l hi).1,fun j c hj=>?_⟩⟩
      obtain ⟨ho,y,hy,hv⟩:=(hes i l hi).2 j c hj
      exact ⟨ho,y,hy,VS.keeps hk hfr.sizes (Ext.refl _) _ _ hv⟩
    · rw [List.getElem?_set_ne (fun h=>hkid h.symm)] at hk1
      obtain ⟨g1,o1,cs1,t1,h1,h2,h3,h4⟩:=h.hs.live k e1 es1 hk1
      have hne:g1 ≠ g:=by
        rintro rfl
        exact hkid (h.hs.inj k id e1 es1 e es g1 o1 o hk1 hid h1 hφ)
      refine ⟨g1,o1,cs1,t1,h1,by rw [setRow_other w g g1 cs' hne];exact h2,h3,fun i l hi=>⟨(h4 i l hi).1,fun j c hj=>?_⟩⟩
      obtain ⟨ho,y,hy,hv⟩:=(h4 i l hi).2 j c hj
      exact ⟨ho,y,hy,VS.keeps hk hfr.sizes (Ext.refl _) _ _ hv⟩

theorem ownOf_kill {φ:List (Nat × Nat)} {H:Heap} {id g:Nat} (ho:ownOf φ (H.set id .dead) g):ownOf φ H g∧∀ g' o',φ[id]? = some (g',o')→H[id]? ≠ none→∃ k e es o,k ≠ id∧H[k]? = some (.row e es)∧φ[k]? = some (g,o):=by
  obtain ⟨k,e1,es1,o,h1,h2⟩:=ho
  have hk:k ≠ id:=by
    rintro rfl
    have hl:=(List.getElem?_eq_some_iff.1 h1).1
    simp at hl
    simp [hl] at h1
  rw [List.getElem?_set_ne (fun h=>hk h.symm)] at h1
  exact ⟨⟨k,e1,es1,o,h1,h2⟩,fun _ _ _ _=>⟨k,e1,es1,o,hk,h1,h2⟩⟩

theorem Sim.kill {x:Ctx} {N:Nat} {env:Env} {H:Heap} {φ:List (Nat × Nat)} {a:Act} {w:World} (h:Sim x N ⟨env,H⟩ φ a w) (id:Nat):Sim x N ⟨env,H.set id .dead⟩ φ a w:=by
  have hold:∀ k,k < w.heap.size→ownOf φ (H.set id .dead) k→ownOf φ H k:=fun k _ hk=>(ownOf_kill hk).1
  have hfr:Fr w (ownOf φ H) w:=Fr.refl w _
  have hk:Keeps w (owned x.X φ H) w (owned x.X φ (H.set id .dead)):=keepsX hfr hold
  have get:∀ (k e1:Nat) (es1:List (List V)),(H.set id .dead)[k]? = some (.row e1 es1)→H[k]? = some (.row e1 es1):=by
    intro k e1 es1 hk
    by_cases hkid:k=id
    · subst hkid
      have hl:=(List.getElem?_eq_some_iff.1 hk).1
      simp at hl
      simp [hl] at hk
    · rwa [List.getElem?_set_ne (fun h=>hkid h.symm)] at hk
  refine h.to ⟨by simp [h.hs.len], ?_,fun k hk=>h.hs.disj k (ownOf_kill hk).1, ?_⟩ hfr hold (Ext.refl _) (by simp)
  · intro i j e1 es1 e2 es2 g1 o1 o2 hi hj
    exact h.hs.inj i j e1 es1 e2 es2 g1 o1 o2 (get _ _ _ hi) (get _ _ _ hj)
  · intro k e1 es1 hk1
    obtain ⟨g1,o1,cs1,t1,h1,h2,h3,h4⟩:=h.hs.live k e1 es1 (get _ _ _ hk1)
    refine ⟨g1,o1,cs1,t1,h1,h2,h3,fun i l hi=>⟨(h4 i l hi).1,fun j c hj=>?_⟩⟩
    obtain ⟨ho,y,hy,hv⟩:=(h4 i l hi).2 j c hj
    exact ⟨ho,y,hy,VS.keeps hk (Sizes.refl w) (Ext.refl _) _ _ hv⟩

end Go.Proofs.YtcgekblpbheikaaGreatDoor
end

section
/- The abstract machine,part 3: what an operation does to abstract values. Definitions alone. No condition. -/
namespace Go.Proofs.YtcgekblpbheikaaGreatDoor
set_option linter.unusedVariables false

inductive TK where
  | int (k:IntKind)
  | bool
  | str
  | ptr
  | slice (elem:Nat)
  | struct (flds:List (Nat × Nat × Nat))
  | fn
  | iface
  | map (key elem:Nat)
  | other
  deriving Inhabited
structure TI where
  agg:Bool
  size:Nat
  bytes:Nat
  zero:List D
  kind:TK
  deriving Inhabited

def dOf:Value→D
  | .bool b=>.bool b
  | .int k n=>.int k n
  | .string s=>.str s
  | .pointer a=>if a.isNone then .nilp else .undef
  | .slice a l c=>if a.isNone∧l=0∧c=0 then .nilsl else .undef
  | .nilFunc=>.nilf
  | .nilIface=>.nili
  | _=>.undef
def isAggT:TypeDesc→Bool
  | .struct _ | .array _ _=>true
  | _=>false
def tkOf (P:Program):TypeDesc→TK
  | .int k=>.int k
  | .bool=>.bool
  | .string=>.str
  | .pointer _=>.ptr
  | .slice e=>.slice e
  | .struct fs=>.struct (fs.toList.map fun f=>(f.offset,f.type,P.cellsOf f.type))
  | .func ..=>.fn
  | .interface _=>.iface
  | .map k e=>.map k e
  | _=>.other
def tinfo (P:Program) (t:TypeId):Option TI :=
  match P.info? t,P.underlying t with
  | some i,some u=>match i.zero with
    | some z=>some ⟨isAggT u,i.size,i.bytes,z.cells.toList.map dOf,tkOf P u⟩
    | none=>none
  | _,_=>none

def upto {α:Type}:Nat→(Nat→α)→List α
  | 0,_=>[]
  | n + 1,f=>f 0 :: upto n (fun j=>f (j + 1))

def constV:Value→V
  | .agg vs=>.agg ((vs.toList.map dOf).map .d)
  | v=>.d (dOf v)
def ev (env:Env):Operand→V
  | .tmp t=>env t
  | .const v=>constV v
  | .func f=>.d (.clo f 0 (fun _=>.undef))
  | .global _=>.d .undef

def V.flat:V→List V
  | .agg l=>l
  | v=>[v]
def ones (l:List V):Bool:=l.all V.one

def asVal (agg:Bool) (l:List V):V:=if agg then .agg l else l.headD (.d .undef)

def loadD (ti:Option TI) (a:V) (H:Heap) (k:V→Prop):Prop :=
  match ti with
  | none=>False
  | some ti=>match a with
    | .d (.rp n f)=>ti.size≤n∧(ti.agg=true∨ti.size=1)∧k (asVal ti.agg (upto ti.size fun j=>.d (f j)))
    | .ptr id e i j=>match H[id]? with
      | some (.row e' es)=>e'=e∧∃ l,es[i]? = some l∧j + ti.size≤e∧(ti.agg=true∨ti.size=1)∧k (asVal ti.agg ((l.drop j).take ti.size))
      | _=>False
    | _=>False

def setMany (l:List V) (j:Nat):List V→List V
  | []=>l
  | c :: cs=>setMany (l.set j c) (j + 1) cs

def storeD (ti:Option TI) (a c:V) (H:Heap) (k:Heap→Prop):Prop :=
  match ti with
  | none=>False
  | some ti=>match a with
    | .ptr id e i j=>match H[id]? with
      | some (.row e' es)=>e'=e∧∃ l,es[i]? = some l∧c.flat.length=ti.size∧j + ti.size≤e∧ones c.flat=true∧k (H.set id (.row e (es.set i (setMany l j c.flat))))
      | _=>False
    | _=>False

def boxD (ti:Option TI) (c:V) (H:Heap) (k:V→Heap→Prop):Prop :=
  match ti with
  | none=>False
  | some ti=>ones c.flat=true∧k (.ptr H.length c.flat.length 0 0) (H++[.row c.flat.length [c.flat]])
def allocD (ti:Option TI) (H:Heap) (k:V→Heap→Prop):Prop :=
  match ti with
  | none=>False
  | some ti=>ones (ti.zero.map .d)=true∧k (.ptr H.length ti.zero.length 0 0) (H++[.row ti.zero.length [ti.zero.map .d]])

def fillV (place:Nat→Option (Nat × Nat)) (cells:List V):List (Nat × V)→Option (List V)
  | []=>some cells
  | (i,v) :: rest=>match place i with
    | none=>none
    | some (off,size)=>if v.flat.length=size∧off + size≤cells.length∧ones v.flat=true then fillV place (setMany cells off v.flat) rest else none
def buildD (ti:Option TI) (parts:List (Nat × V)) (k:V→Prop):Prop :=
  match ti with
  | none=>False
  | some ti=>match ti.kind with
    | .struct flds=>flds.all (fun f=>f.2.2 != 0)=true∧∃ l,fillV (fun i=>(flds[i]?).map fun f=>(f.1,f.2.2)) (ti.zero.map .d) parts=some l∧k (.agg l)
    | _=>False
def inOrder (e:Nat):Nat→List (Nat × V)→Bool
  | _,[]=>true
  | n,(i,v) :: rest=>i == n && v.flat.length == e && ones v.flat && inOrder e (n + 1) rest
def buildSliceD (P:Program) (t:TypeId) (len:Nat) (parts:List (Nat × V)) (H:Heap) (k:V→Heap→Prop):Prop :=
  match tinfo P t with
  | some ⟨_,_,_,_,.slice et⟩=>match tinfo P et with
    | some te=>(len=parts.length∧inOrder te.size 0 parts=true∧0 < te.size∧te.zero.length=te.size∧len * te.size≤16777216) ∧
        k (.sl H.length te.size 0 len) (H++[.row te.size (parts.map fun p=>p.2.flat)])
    | none=>False
  | _=>False
def makeSliceD (P:Program) (t:TypeId) (len cap:V) (H:Heap) (k:V→Heap→Prop):Prop :=
  match tinfo P t with
  | some ⟨_,_,_,_,.slice et⟩=>match tinfo P et with
    | some te=>match len,cap with
      | .d (.int _ l),.d (.int _ c)=>(0≤l∧l≤c∧c * te.bytes≤140737488355328∧c≤140737488355328∧0 < te.size∧te.zero.length=te.size∧ones (te.zero.map .d)=true) ∧
          k (.sl H.length te.size 0 l.toNat) (H++[.row te.size (List.replicate l.toNat (te.zero.map .d))])
      | _,_=>False
    | none=>False
  | _=>False

def nilCheckD (x:V) (k:V→Prop):Prop :=
  match x with
  | .ptr .. | .d (.rp ..) | .clo .. | .d (.clo ..)=>k x
  | _=>False

def optK (o:Option D) (k:V→Prop):Prop :=
  match o with
  | some d=>k (.d d)
  | none=>False
def binI (op:BinOp) (k:IntKind) (a b:Int):Option D :=
  match op with
  | .add=>some (.int k (k.wrap (a + b)))
  | .sub=>some (.int k (k.wrap (a - b)))
  | .mul=>some (.int k (k.wrap (a * b)))
  | .quo=>if b=0 then none else some (.int k (k.wrap (a.tdiv b)))
  | .rem=>if b=0 then none else some (.int k (a.tmod b))
  | .and=>some (.int k (k.wrap ((BitVec.ofInt k.bits a &&& BitVec.ofInt k.bits b).toNat:Int)))
  | .or=>some (.int k (k.wrap ((BitVec.ofInt k.bits a ||| BitVec.ofInt k.bits b).toNat:Int)))
  | .xor=>some (.int k (k.wrap ((BitVec.ofInt k.bits a ^^^ BitVec.ofInt k.bits b).toNat:Int)))
  | .andNot=>some (.int k (k.wrap ((BitVec.ofInt k.bits a &&& ~~~ BitVec.ofInt k.bits b).toNat:Int)))
  | .eql=>some (.bool (decide (a=b)))
  | .neq=>some (.bool (!decide (a=b)))
  | .lss=>some (.bool (decide (a < b)))
  | .leq=>some (.bool (decide (a≤b)))
  | .gtr=>some (.bool (decide (b < a)))
  | .geq=>some (.bool (decide (b≤a)))
  | _=>none
def shiftI (op:BinOp) (k:IntKind) (a b:Int):Option D :=
  if b < 0 then none else
  match op with
  | .shl=>some (.int k (k.wrap (a * 2 ^ (min b.toNat k.bits))))
  | .shr=>some (.int k (a.fdiv (2 ^ (min b.toNat k.bits))))
  | _=>none
def eqOp (op:BinOp) (b:Bool):Option D :=
  match op with
  | .eql=>some (.bool b)
  | .neq=>some (.bool (!b))
  | _=>none
def binD (P:Program) (op:BinOp) (t:TypeId) (x y:V) (k:V→Prop):Prop :=
  match x,y with
  | .d (.int kx a),.d (.int ky b) =>
    (match op with
    | .shl=>optK (shiftI .shl kx a b) k
    | .shr=>optK (shiftI .shr kx a b) k
    | op=>kx=ky∧optK (binI op kx a b) k)
  | .d (.str a),.d (.str b)=>(match op with
    | .add=>a.size + b.size≤9223372036854775807∧k (.d (.str (a++b)))
    | op=>optK (eqOp op (decide (a=b))) k)
  | .d (.bool a),.d (.bool b)=>(match tinfo P t with
    | some ⟨_,_,_,_,.bool⟩=>optK (eqOp op (a == b)) k
    | _=>False)
  | x,.d .nilp=>(match tinfo P t with
    | some ⟨_,_,_,_,.ptr⟩=>(match x with
      | .d .nilp=>optK (eqOp op true) k
      | .ptr .. | .d (.rp ..)=>optK (eqOp op false) k
      | _=>False)
    | _=>False)
  | x,.d .nilsl=>(match tinfo P t with
    | some ⟨_,_,_,_,.slice _⟩=>(match x with
      | .d .nilsl=>optK (eqOp op true) k
      | .sl ..=>optK (eqOp op false) k
      | .d (.ro e n f)=>∀ b:Bool,(0 < n∧0 < e→b=false)→optK (eqOp op b) k
      | _=>False)
    | _=>False)
  | _,_=>False

def unD (op:UnOp) (x:V) (k:V→Prop):Prop :=
  match op,x with
  | .neg,.d (.int kx n)=>k (.d (.int kx (kx.wrap (0 - n))))
  | .not,.d (.bool b)=>k (.d (.bool (!b)))
  | _,_=>False
def convertD (P:Program) (src dst:TypeId) (x:V) (k:V→Prop):Prop :=
  match tinfo P src,tinfo P dst with
  | some _,some td=>(match td.kind,x with
    | .int kd,.d (.int _ n)=>k (.d (.int kd (kd.wrap n)))
    | .str,.d (.str s)=>k (.d (.str s))
    | _,_=>False)
  | _,_=>False
def bytesD:List (List V)→(List UInt8→Prop)→Prop
  | [],k=>k []
  | [.d (.int .u8 n)] :: l,k=>(0≤n∧n < 256)∧bytesD l fun r=>k (UInt8.ofNat n.toNat :: r)
  | _,_=>False
def convH (P:Program) (src dst:TypeId) (x:V) (H:Heap) (k:V→Heap→Prop):Prop :=
  match x with
  | .sl id e off n => (match tinfo P src, tinfo P dst with
    | some ⟨_,_,_,_,.slice et⟩,some ⟨_,_,_,_,.str⟩=>(match tinfo P et with
      | some ⟨_,1,_,_,.int .u8⟩=>e=1∧(match H[id]? with
        | some (.row e' es)=>e'=1∧off + n≤es.length∧bytesD ((es.drop off).take n) fun l=>k (.d (.str ⟨l.toArray⟩)) H
        | _=>False)
      | _=>False)
    | _,_=>False)
  | x=>convertD P src dst x fun v=>k v H

def pickD (c a b:V) (k:V→Prop):Prop :=
  match c with
  | .d (.bool t)=>(match a,b with
    | .d (.bool p),.d (.bool q)=>k (.d (.bool (bif t then p else q)))
    | _,_=>(t=true→k a)∧(t=false→k b))
  | _=>False

def fieldAddrD (P:Program) (s:TypeId) (x:V) (f:Nat) (k:V→Prop):Prop :=
  match tinfo P s with
  | some ⟨_,_,_,_,.struct flds⟩=>(match flds[f]? with
    | some (off,_,size)=>size ≠ 0∧(match x with
      | .d (.rp n g)=>off < n∧k (.d (.rp (n - off) (fun j=>g (off + j))))
      | .ptr id e i j=>k (.ptr id e i (j + off))
      | _=>False)
    | none=>False)
  | _=>False
def fieldD (P:Program) (s:TypeId) (x:V) (f:Nat) (k:V→Prop):Prop :=
  match tinfo P s with
  | some ⟨_,_,_,_,.struct flds⟩=>(match flds[f]? with
    | some (off,ft,_)=>(match tinfo P ft,x with
      | some tf,.agg l=>off + tf.size≤l.length∧(tf.agg=true∨tf.size=1)∧k (asVal tf.agg ((l.drop off).take tf.size))
      | _,_=>False)
    | none=>False)
  | _=>False
def indexAddrD (P:Program) (t:TypeId) (x ix:V) (k:V→Prop):Prop :=
  match tinfo P t with
  | some ⟨_,_,_,_,.slice et⟩=>(match tinfo P et,ix with
    | some te,.d (.int _ i)=>(match x with
      | .d (.ro e n f)=>(e=te.size∧0 < e)∧(0≤i∧i < n)∧k (.d (.rp e (f i.toNat)))
      | .sl id e off n=>e=te.size∧(0≤i∧i < n)∧k (.ptr id e (off + i.toNat) 0)
      | _=>False)
    | _,_=>False)
  | _=>False
def indexD (P:Program) (t:TypeId) (x ix:V) (k:V→Prop):Prop :=
  match tinfo P t with
  | some ⟨_,_,_,_,.str⟩=>(match x,ix with
    | .d (.str s),.d (.int _ i)=>(0≤i∧i < s.size)∧k (.d (.int .u8 (s[i.toNat]!).toNat))
    | _,_=>False)
  | _=>False
def extractD (x:V) (i:Nat) (k:V→Prop):Prop :=
  match x with
  | .tup l=>∃ v,l[i]? = some v∧k v
  | _=>False

def boundD (v:Option V) (dflt:Nat) (k:Nat→Prop):Prop :=
  match v with
  | none=>k dflt
  | some (.d (.int _ i))=>0≤i∧k i.toNat
  | _=>False
def sliceD (P:Program) (t:TypeId) (x:V) (lo hi mx:Option V) (k:V→Prop):Prop :=
  match tinfo P t,mx with
  | some ⟨_,_,_,_,.slice et⟩,none=>(match tinfo P et with
    | some te=>(match x with
      | .d (.ro e n f)=>e=te.size∧boundD hi n fun h=>boundD lo 0 fun l=>(l≤h∧h≤n)∧k (.d (.ro e (h - l) (fun i j=>f (l + i) j)))
      | .sl id e off n=>e=te.size∧boundD hi n fun h=>boundD lo 0 fun l=>(l≤h∧h≤n)∧k (.sl id e (off + l) (h - l))
      | .d .nilsl=>boundD hi 0 fun h=>boundD lo 0 fun l=>(l≤h∧h≤0)∧k (.d .nilsl)
      | _=>False)
    | none=>False)
  | some ⟨_,_,_,_,.str⟩,none=>(match x with
    | .d (.str s)=>boundD hi s.size fun h=>boundD lo 0 fun l=>(l≤h∧h≤s.size)∧k (.d (.str (s.extract l h)))
    | _=>False)
  | _,_=>False

def elemsD (e:Nat) (x:V) (H:Heap) (k:List (List V)→Prop):Prop :=
  match x with
  | .sl id e' off n=>e'=e∧(match H[id]? with
    | some (.row e'' es)=>e''=e∧off + n≤es.length∧k ((es.drop off).take n)
    | _=>False)
  | .d (.ro e' n f)=>e'=e∧(∀ i j,i < n→j < e→(V.d (f i j)).one=true)∧k (upto n fun i=>upto e fun j=>.d (f i j))
  | .d .nilsl=>k []
  | .d (.str s)=>e=1∧k (s.data.toList.map fun b=>[.d (.int .u8 (b.toNat:Int))])
  | _=>False
theorem elemsD_mono {e:Nat} {x:V} {H:Heap} {F G:List (List V)→Prop} (h:elemsD e x H F) (hk:∀ n,F n→G n):elemsD e x H G:=by
  unfold elemsD at h ⊢
  split at h
  · refine ⟨h.1, ?_⟩
    have h:=h.2
    split at h
    · exact ⟨h.1,h.2.1,hk _ h.2.2⟩
    · exact h.elim
  · exact ⟨h.1,h.2.1,hk _ h.2.2⟩
  · exact hk _ h
  · exact ⟨h.1,hk _ h.2⟩
  · exact h.elim
def strT (P:Program) (t:TypeId):Bool:=match tinfo P t with
  | some ⟨_,_,_,_,.str⟩=>true
  | _=>false
def appendD (P : Program) (t : TypeId) (s x : V) (H : Heap) (k : V → Heap → Prop) : Prop :=
  match tinfo P t with
  | some ⟨_,_,_,_,.slice et⟩=>(match tinfo P et with
    | some te=>(0 < te.size∧te.zero.length=te.size)∧elemsD te.size x H fun news =>
      (match s with
      | .sl id e off n => e = te.size ∧ (match H[id]? with
        | some (.row e' es)=>e'=e∧off + n≤es.length∧(n + news.length) * te.bytes≤140737488355328∧n + news.length≤140737488355328 ∧
            k (.sl H.length e 0 (n + news.length)) (H.set id .dead++[.row e ((es.drop off).take n++news)])
        | _=>False)
      | .d .nilsl=>(news.length * te.bytes≤140737488355328∧news.length≤140737488355328)∧(news=[]→k (.d .nilsl) H)∧(news ≠ []→k (.sl H.length te.size 0 news.length) (H++[.row te.size news]))
      | _=>False)
    | none=>False)
  | _=>False
def copyD (P:Program) (t:TypeId) (s x:V) (H:Heap) (k:V→Heap→Prop):Prop :=
  match tinfo P t with
  | some ⟨_,_,_,_,.slice et⟩=>(match tinfo P et with
    | some te=>0 < te.size∧elemsD te.size x H fun news =>
      (match s with
      | .sl id e off n=>e=te.size∧(match H[id]? with
        | some (.row e' es)=>e'=e∧off + n≤es.length∧k (.d (.int .i64 (min news.length n:Nat))) (H.set id (.row e (es.take off++news.take n++es.drop (off + min news.length n))))
        | _=>False)
      | .d .nilsl=>k (.d (.int .i64 0)) H
      | _=>False)
    | none=>False)
  | _=>False
def lenD (P:Program) (t:TypeId) (x:V) (k:V→Prop):Prop :=
  match tinfo P t,x with
  | some ⟨_,_,_,_,.str⟩,.d (.str s)=>k (.d (.int .i64 s.size))
  | some ⟨_,_,_,_,.slice _⟩,.sl _ _ _ n=>k (.d (.int .i64 n))
  | some ⟨_,_,_,_,.slice _⟩,.d (.ro _ n _)=>k (.d (.int .i64 n))
  | some ⟨_,_,_,_,.slice _⟩,.d .nilsl=>k (.d (.int .i64 0))
  | _,_=>False

mutual
def V.shift (n:Nat):V→V
  | .d x=>.d x
  | .ptr id e i j=>.ptr (n + id) e i j
  | .sl id e off m=>.sl (n + id) e off m
  | .agg l=>.agg (shiftL n l)
  | .tup l=>.tup (shiftL n l)
  | .clo f l=>.clo f (shiftL n l)
def shiftL (n:Nat):List V→List V
  | []=>[]
  | v :: l=>v.shift n :: shiftL n l
end
def Place.shift (n:Nat):Place→Place
  | .dead=>.dead
  | .row e es=>.row e (es.map (shiftL n))

abbrev Table:=FuncId→List V→Option (V × Heap)
def goD (P:Program) (Γ:Table) (g:FuncId) (vs:List V) (H:Heap) (k:V→Heap→Prop):Prop :=
  match Γ g vs with
  | some (r,[])=>k r H
  | some (r,p :: R)=>k (r.shift H.length) (H++(p :: R).map (Place.shift H.length))
  | none=>CallsD P g vs H k
def callD (P:Program) (Γ:Table) (env:Env) (H:Heap) (c:Call) (k:V→Heap→Prop):Prop :=
  match c.callee with
  | .value f=>(match ev env f with
    | .d (.clo g n cap)=>goD P Γ g (c.args.toList.map (ev env)++upto n fun j=>.d (cap j)) H k
    | .clo g l=>goD P Γ g (c.args.toList.map (ev env)++l) H k
    | _=>False)
  | .builtin .len=>(match c.args.toList,c.argTypes.toList with
    | [x],[t]=>lenD P t (ev env x) fun v=>k v H
    | _,_=>False)
  | .builtin .append=>(match c.args.toList,c.argTypes.toList with
    | [s,x],[t,t']=>(t=t'∨strT P t'=true)∧appendD P t (ev env s) (ev env x) H k
    | _,_=>False)
  | .builtin .copy=>(match c.args.toList,c.argTypes.toList with
    | [s,x],[t,t']=>t=t'∧copyD P t (ev env s) (ev env x) H k
    | _,_=>False)
  | _=>False

def opD (P:Program) (Γ:Table) (env:Env) (H:Heap) (o:Op) (k:V→Heap→Prop):Prop :=
  match o with
  | .move x=>k (ev env x) H
  | .assign x=>k (ev env x) H
  | .pick c a b=>pickD (ev env c) (ev env a) (ev env b) fun v=>k v H
  | .alloc t=>allocD (tinfo P t) H k
  | .box t x=>boxD (tinfo P t) (ev env x) H k
  | .build t parts=>buildD (tinfo P t) (parts.toList.map fun p=>(p.1,ev env p.2)) fun v=>k v H
  | .buildSlice t len parts=>buildSliceD P t len (parts.toList.map fun p=>(p.1,ev env p.2)) H k
  | .load t a=>loadD (tinfo P t) (ev env a) H fun v=>k v H
  | .store t a x=>storeD (tinfo P t) (ev env a) (ev env x) H fun H'=>k (.tup []) H'
  | .nilCheck x=>nilCheckD (ev env x) fun v=>k v H
  | .binOp op t x y _=>binD P op t (ev env x) (ev env y) fun v=>k v H
  | .unOp op _ x=>unD op (ev env x) fun v=>k v H
  | .convert src dst x=>convH P src dst (ev env x) H k
  | .makeFunc (.func f) first captured=>first.size=0∧k (.clo f (captured.toList.map (ev env))) H
  | .makeSlice t l c=>makeSliceD P t (ev env l) (ev env c) H k
  | .slice t x lo hi mx=>sliceD P t (ev env x) (lo.map (ev env)) (hi.map (ev env)) (mx.map (ev env)) fun v=>k v H
  | .fieldAddr s x f=>fieldAddrD P s (ev env x) f fun v=>k v H
  | .field s x f=>fieldD P s (ev env x) f fun v=>k v H
  | .indexAddr t x ix=>indexAddrD P t (ev env x) (ev env ix) fun v=>k v H
  | .index t x ix=>indexD P t (ev env x) (ev env ix) fun v=>k v H
  | .extract t i=>extractD (ev env t) i fun v=>k v H
  | .call c=>callD P Γ env H c k
  | _=>False

def updO (env:Env) (t:Option Nat) (v:V):Env :=
  match t with
  | some t=>upd env t v
  | none=>env
structure SOp where
  dst:Option Nat
  op:Op
  guard:Option (Nat × Bool)
inductive SCode where
  | skip
  | ops (l:List SOp)
  | draw (id:Nat) (ops:Array Oper)
  | seq (a b:SCode)
  | cond (c:Operand) (a b:SCode)
  | block (id:Nat) (c:SCode)
  | loop (c:Code)
  | exit (id:Nat)
  | ret
  | other (c:Code)
def stripOps:List Oper→List SOp
  | []=>[]
  | o :: l=>⟨o.dst,o.op,o.guard⟩ :: stripOps l
def strip:Code→SCode
  | .skip=>.skip
  | .region _ ops false=>.ops (stripOps ops.toList)
  | .region id ops true=>.draw id ops
  | .seq a b=>.seq (strip a) (strip b)
  | .cond c a b=>.cond c (strip a) (strip b)
  | .block id c=>.block id (strip c)
  | .loop c=>.loop c
  | .exit id=>.exit id
  | .ret=>.ret
  | c=>.other c

def slotOf (all:List (Option Nat)) (j:Nat):Option Nat:=(all[j]?).join
def opsD (P:Program) (Γ:Table) (all:List (Option Nat)):List SOp→Env→Heap→(Env→Heap→Prop)→Prop
  | [],env,H,k=>k env H
  | o :: rest, env, H, k => match o.guard with
    | none=>opD P Γ env H o.op fun v H'=>opsD P Γ all rest (updO env o.dst v) H' k
    | some (j,want)=>match slotOf all j with
      | none=>False
      | some t=>match env t with
        | .d (.bool b)=>(b=want→opD P Γ env H o.op fun v H'=>opsD P Γ all rest (updO env o.dst v) H' k)∧(b ≠ want→opsD P Γ all rest (updO env o.dst (.tup [])) H k)
        | .tup []=>opsD P Γ all rest (updO env o.dst (.tup [])) H k
        | _=>False
def dstsOf:List SOp→List (Option Nat)
  | []=>[]
  | o :: l=>o.dst :: dstsOf l

def keep (K:List Nat) (env:Env):Env:=fun t=>if t∈K then env t else .d .undef
def mk:List (Nat × V)→Env
  | [],_=>.d .undef
  | (k,v) :: l,t=>if t=k then v else mk l t

def wpD (P:Program) (Γ:Table) (N n0:Nat) (K:List Nat):SCode→(Exit→St→Prop)→St→Prop
  | .skip,Q,s=>Q .normal s
  | .ops l,Q,s=>opsD P Γ (dstsOf l) l s.env s.H fun env H=>Q .normal ⟨keep K env,H⟩
  | .draw id ops,Q,s=>W P N n0 (.region id ops true) Q s
  | .seq a b,Q,s=>wpD P Γ N n0 K a (seqQ (wpD P Γ N n0 K b Q) Q) s
  | .cond c a b,Q,s=>(match ev s.env c with
    | .d (.bool t)=>(t=true→wpD P Γ N n0 K a Q s)∧(t=false→wpD P Γ N n0 K b Q s)
    | _=>False)
  | .block id c,Q,s=>wpD P Γ N n0 K c (blockQ id Q) s
  | .loop c,Q,s=>W P N n0 (.loop c) Q s
  | .exit id,Q,s=>Q (.exit id) s
  | .ret,Q,s=>Q .ret s
  | .other c,Q,s=>W P N n0 c Q s

def answers (r:V) (R:Heap) (H:Heap) (r':V) (H':Heap):Prop :=
  match R with
  | []=>r'=r∧H'=H
  | p :: R=>r'=r.shift H.length∧H'=H++(p :: R).map (Place.shift H.length)
def Good (P:Program) (Γ:Table):Prop:=∀ g vs r R H,Γ g vs=some (r,R)→CallsD P g vs H (answers r R H)
theorem goD_calls {P:Program} {Γ:Table} (hΓ:Good P Γ) {g:FuncId} {vs:List V} {H:Heap} {k:V→Heap→Prop} (h:goD P Γ g vs H k):CallsD P g vs H k:=by
  unfold goD at h
  split at h
  · rename_i r hr
    exact (hΓ g vs r [] H hr).mono fun r' H' ⟨e1,e2⟩=>by rw [e1,e2];exact h
  · rename_i r p R hr
    exact (hΓ g vs r _ H hr).mono fun r' H' ⟨e1,e2⟩=>by rw [e1,e2];exact h
  · exact h

def opOk (N:Nat) (o:Oper):Bool:=match o.dst with | some t=>decide (t < N) | none=>true
end Go.Proofs.YtcgekblpbheikaaGreatDoor
end

section
/- The abstract machine,part 4: what an operation does to abstract values is what Go's operation does: those that make and write no memory. No condition. -/
namespace Go.Proofs.YtcgekblpbheikaaGreatDoor
set_option linter.unusedVariables false
set_option linter.unusedSimpArgs false

theorem exists_list {α:Type} (m:Nat) (p:Nat→α→Prop) (h:∀ j,j < m→∃ v,p j v):∃ cs:List α,cs.length=m∧∀ j v,cs[j]? = some v→p j v:=by
  induction m with
  | zero=>exact ⟨[],rfl,fun j v hv=>by simp at hv⟩
  | succ m ih =>
    obtain ⟨cs,hl,hp⟩:=ih (fun j hj=>h j (by omega))
    obtain ⟨v,hv⟩:=h m (by omega)
    refine ⟨cs++[v],by simp [hl],fun j u hu=>?_⟩
    by_cases hj:j < m
    · rw [List.getElem?_append_left (by omega)] at hu
      exact hp j u hu
    · have hlt:=(List.getElem?_eq_some_iff.1 hu).1
      simp at hlt
      have:j=m:=by omega
      subst this
      rw [List.getElem?_append_right (by omega)] at hu
      simp [hl] at hu
      exact hu ▸ hv

theorem upto_length {α:Type} (n:Nat) (f:Nat→α):(upto n f).length=n:=by
  induction n generalizing f with
  | zero=>rfl
  | succ n ih=>simp [upto,ih]
theorem upto_get {α:Type} (n:Nat) (f:Nat→α) (j:Nat):(upto n f)[j]? = if j < n then some (f j) else none:=by
  induction n generalizing f j with
  | zero=>simp [upto]
  | succ n ih =>
    cases j with
    | zero=>simp [upto]
    | succ j=>simp [upto,ih]

theorem VSs_of {w:World} {own:Nat→Prop} {φ:List (Nat × Nat)}:∀ (l:List V) (cs:List Value),l.length=cs.length →
    (∀ (j:Nat) (c:V) (v:Value),l[j]? = some c→cs[j]? = some v→VS w own φ c v)→VSs w own φ l cs
  | [],[],_,_=>by simp [VSs]
  | x :: l,v :: cs,hl,h=>by
    simp only [VSs]
    exact ⟨v,cs,rfl,h 0 x v rfl rfl,VSs_of l cs (by simpa using hl) (fun j c u hc hu=>h (j + 1) c u (by simpa using hc) (by simpa using hu))⟩
  | [],_ :: _,hl,_=>by simp at hl
  | _ :: _,[],hl,_=>by simp at hl
theorem VSs.length {w:World} {own:Nat→Prop} {φ:List (Nat × Nat)}:∀ (l:List V) (cs:List Value),VSs w own φ l cs→l.length=cs.length
  | [],cs,h=>by simp only [VSs] at h;simp [h]
  | x :: l,cs,h=>by
    simp only [VSs] at h
    obtain ⟨v,cs',rfl,_,h2⟩:=h
    simp [VSs.length l cs' h2]
theorem VSs.get {w:World} {own:Nat→Prop} {φ:List (Nat × Nat)}:∀ (l:List V) (cs:List Value),VSs w own φ l cs→∀ (j:Nat) (c:V),l[j]? = some c→∃ v,cs[j]? = some v∧VS w own φ c v
  | [],cs,h,j,c,hc=>by simp at hc
  | x :: l,cs,h,j,c,hc=>by
    simp only [VSs] at h
    obtain ⟨v,cs',rfl,h1,h2⟩:=h
    cases j with
    | zero=>simp at hc;subst hc;exact ⟨v,by simp,h1⟩
    | succ j=>simpa using VSs.get l cs' h2 j c (by simpa using hc)
theorem VSs.append {w:World} {own:Nat→Prop} {φ:List (Nat × Nat)} {l l':List V} {cs cs':List Value} (h:VSs w own φ l cs) (h':VSs w own φ l' cs'):VSs w own φ (l++l') (cs++cs'):=by
  have hl:=VSs.length l cs h
  refine VSs_of _ _ (by simp [hl,VSs.length l' cs' h']) fun j c v hc hv=>?_
  by_cases hj:j < l.length
  · rw [List.getElem?_append_left hj] at hc
    rw [List.getElem?_append_left (by omega)] at hv
    obtain ⟨v',e,hv'⟩:=VSs.get l cs h j c hc
    rw [hv] at e
    cases e
    exact hv'
  · rw [List.getElem?_append_right (by omega)] at hc
    rw [List.getElem?_append_right (by omega)] at hv
    rw [hl] at hc
    obtain ⟨v',e,hv'⟩:=VSs.get l' cs' h' _ c hc
    rw [hv] at e
    cases e
    exact hv'

theorem dOf_spec (w:World) (own:Nat→Prop) (v:Value):DS w own (dOf v) v:=by
  cases v <;> simp only [dOf] <;> (try split) <;> simp [DS]
  · rename_i h
    simpa using h
  · rename_i h
    obtain ⟨h1,rfl,rfl⟩:=h
    exact ⟨by simpa using h1,rfl,rfl⟩
theorem constV_spec {φ:List (Nat × Nat)} (w:World) (own:Nat→Prop) (v:Value):VS w own φ (constV v) v:=by
  cases v
  case agg vs =>
    refine ⟨vs,rfl,VSs_of _ _ (by simp) fun j c v hc hv=>?_⟩
    simp only [List.getElem?_map,Option.map_map,Option.map_eq_some_iff] at hc
    obtain ⟨u,hu,rfl⟩:=hc
    rw [hu] at hv
    cases hv
    exact dOf_spec w own _
  all_goals exact dOf_spec w own _
theorem ev_spec {x:Ctx} {N:Nat} {env:Env} {H:Heap} {φ:List (Nat × Nat)} {a:Act} {w:World} (h:Sim x N ⟨env,H⟩ φ a w) (o:Operand) :
    VS w (owned x.X φ H) φ (ev env o) (a.eval o):=by
  cases o with
  | tmp t=>exact h.env t
  | const v=>exact constV_spec w _ v
  | global g=>simp [ev,VS,DS]
  | func f=>simp [ev,VS,DS,Act.eval]
theorem evs_spec {x:Ctx} {N:Nat} {env:Env} {H:Heap} {φ:List (Nat × Nat)} {a:Act} {w:World} (h:Sim x N ⟨env,H⟩ φ a w) (l:List Operand) :
    VSs w (owned x.X φ H) φ (l.map (ev env)) (l.map a.eval):=by
  refine VSs_of _ _ (by simp) fun j c v hc hv=>?_
  simp only [List.getElem?_map,Option.map_eq_some_iff] at hc hv
  obtain ⟨o,ho,rfl⟩:=hc
  obtain ⟨o',ho',rfl⟩:=hv
  rw [ho] at ho'
  cases ho'
  exact ev_spec h o

theorem tinfo_spec {P:Program} {t:TypeId} {ti:TI} (h:tinfo P t=some ti):∃ i u z,P.info? t=some i∧P.underlying t=some u∧i.zero=some z ∧
    ti=⟨isAggT u,i.size,i.bytes,z.cells.toList.map dOf,tkOf P u⟩:=by
  unfold tinfo at h
  split at h
  · rename_i i u hi hu
    split at h
    · rename_i z hz
      exact ⟨i,u,z,hi,hu,hz,(Option.some.inj h).symm⟩
    · cases h
  · cases h

theorem tk_slice {P:Program} {u:TypeDesc} {e:Nat} (h:tkOf P u=.slice e):u=.slice e:=by cases u <;> simp [tkOf] at h;rw [h]
theorem tk_ptr {P:Program} {u:TypeDesc} (h:tkOf P u=.ptr):∃ e,u=.pointer e:=by cases u <;> simp [tkOf] at h;exact ⟨_,rfl⟩
theorem tk_bool {P:Program} {u:TypeDesc} (h:tkOf P u=.bool):u=.bool:=by cases u <;> simp [tkOf] at h;rfl
theorem tk_str {P:Program} {u:TypeDesc} (h:tkOf P u=.str):u=.string:=by cases u <;> simp [tkOf] at h;rfl
theorem tk_int {P:Program} {u:TypeDesc} {k:IntKind} (h:tkOf P u=.int k):u=.int k:=by cases u <;> simp [tkOf] at h;rw [h]
theorem tk_struct {P:Program} {u:TypeDesc} {l:List (Nat × Nat × Nat)} (h:tkOf P u=.struct l):∃ fs:Array Field,u=.struct fs∧l=fs.toList.map fun f=>(f.offset,f.type,P.cellsOf f.type):=by
  cases u <;> simp [tkOf] at h
  exact ⟨_,rfl,h.symm⟩

def Gives (P:Program) (x:Ctx) (N:Nat) (env:Env) (a:Act) (w:World) (s:Sem Value) (k:V→Heap→Prop):Prop :=
  ∃ v w' c H' φ',s.run P w=.ok v w'∧k c H'∧Sim x N ⟨env,H'⟩ φ' a w'∧VS w' (owned x.X φ' H') φ' c v

section
variable {P:Program} {x:Ctx} {N:Nat} {env:Env} {H:Heap} {φ:List (Nat × Nat)} {a:Act} {w:World}

theorem Gives.same {s:Sem Value} {k:V→Heap→Prop} {v:Value} {c:V} (h:Sim x N ⟨env,H⟩ φ a w) (hr:s.run P w=.ok v w) (hk:k c H) (hv:VS w (owned x.X φ H) φ c v) :
    Gives P x N env a w s k:=⟨v,w,c,H,φ,hr,hk,h,hv⟩

theorem pick_gives (h:Sim x N ⟨env,H⟩ φ a w) {c p q:V} {vc vp vq:Value} (hc:VS w (owned x.X φ H) φ c vc) (hp:VS w (owned x.X φ H) φ p vp) (hq:VS w (owned x.X φ H) φ q vq)
    {k:V→Prop} (hk:pickD c p q k):Gives P x N env a w (do pure (if ← asBool vc then vp else vq)) fun v H'=>k v∧H'=H:=by
  unfold pickD at hk
  split at hk
  · rename_i t
    simp only [VS,DS] at hc
    subst hc
    have hr:(do pure (if ← asBool (.bool t) then vp else vq):Sem Value).run P w=.ok (if t then vp else vq) w:=by
      simp [asBool]
    split at hk
    · rename_i p q
      simp only [VS,DS] at hp hq
      subst hp
      subst hq
      refine Gives.same h hr ⟨hk,rfl⟩ ?_
      cases t <;> simp [VS,DS]
    · cases t
      · exact Gives.same h hr ⟨hk.2 rfl,rfl⟩ (by simpa using hq)
      · exact Gives.same h hr ⟨hk.1 rfl,rfl⟩ (by simpa using hp)
  · exact hk.elim

theorem asVal_spec {agg:Bool} {l:List V} {cs:List Value} (h:VSs w (owned x.X φ H) φ l cs) (hs:agg=true∨l.length=1) :
    VS w (owned x.X φ H) φ (asVal agg l) (if agg then .agg cs.toArray else cs.headD undef):=by
  cases agg
  · simp only [asVal,Bool.false_eq_true,if_false]
    have hl:l.length=1:=by simpa using hs
    match l,hl with
    | [c],_ =>
      simp only [VSs] at h
      obtain ⟨v,vs',rfl,hv,_⟩:=h
      simpa using hv
  · simp only [asVal,if_true,VS]
    exact ⟨_,rfl,by simpa using h⟩

theorem run_loadVar_gen {t:TypeId} {u:TypeDesc} {i:TypeInfo} (hu:P.underlying t=some u) (hi:P.info? t=some i) (ad:Addr) (cs:List Value) (hl:cs.length=i.size)
    (hc:∀ j v,cs[j]? = some v→w.cell? (ad.add j)=some v) (hs:isAggT u=true∨i.size=1) :
    (loadVar t ad).run P w=.ok (if isAggT u then .agg cs.toArray else cs.headD undef) w:=by
  have hll:=run_loadCells_list (P:=P) w ad cs hc
  by_cases hagg:isAggT u=true
  · have ha:(isAgg t).run P w=.ok true w:=by
      unfold isAgg
      simp only [Sem.run_bind,run_underlying hu,Result.andThen_ok]
      cases u <;> simp [isAggT] at hagg <;> simp
    rw [if_pos hagg]
    simp only [loadVar,Sem.run_bind,ha,Result.andThen_ok,if_true,sizeOf,typeInfo]
    simp [hi,← hl,hll]
  · have hsz:i.size=1:=hs.resolve_left hagg
    have ha:(isAgg t).run P w=.ok false w:=by
      unfold isAgg
      simp only [Sem.run_bind,run_underlying hu,Result.andThen_ok]
      cases u <;> simp [isAggT] at hagg <;> simp
    rw [if_neg hagg]
    match cs,(hl.trans hsz) with
    | [v],_ =>
      have h0:=hc 0 v rfl
      have e:ad.add 0=ad:=by simp [Addr.add]
      rw [e] at h0
      simp [loadVar,ha,h0]

theorem load_runs (h : Sim x N ⟨env, H⟩ φ a w) {t : TypeId} {p : V} {vp : Value} (hp : VS w (owned x.X φ H) φ p vp)
    {k:V→Prop} (hk:loadD (tinfo P t) p H k):∃ v c ad,vp=.pointer (some ad)∧(Instr.loadAt t vp).run P w=.ok v w∧k c∧VS w (owned x.X φ H) φ c v:=by
  unfold loadD at hk
  split at hk
  · exact hk.elim
  · rename_i ti hti
    obtain ⟨i,u,z,hi,hu,hz,rfl⟩:=tinfo_spec hti
    split at hk
    · rename_i n f
      obtain ⟨hn,hs,hk⟩:=hk
      simp only [VS,DS] at hp
      obtain ⟨ad,rfl,hf⟩:=hp
      simp only at hn hs hk
      obtain ⟨cs,hl,hcs⟩:=exists_list i.size (fun j v=>w.cell? (ad.add j)=some v∧DS w (owned x.X φ H) (f j) v) (fun j hj=>by
        obtain ⟨_,c,hc,hd⟩:=hf j (by omega)
        exact ⟨c,hc,hd⟩)
      have hr:=run_loadVar_gen (P:=P) (w:=w) hu hi ad cs hl (fun j v hv=>(hcs j v hv).1) hs
      refine ⟨_,_,_,rfl,by simpa [Instr.loadAt,Instr.sureAddr] using hr,hk,(asVal_spec (VSs_of _ _ (by simp [upto_length,hl]) fun j c v hc hv=>?_) (hs.imp id (fun e=>by simp [upto_length,e])))⟩
      rw [upto_get] at hc
      split at hc
      · cases hc
        exact (hcs j v hv).2
      · cases hc
    · rename_i id e i1 j1
      split at hk
      · rename_i e' es hid
        obtain ⟨rfl,l,hes,hj,hs,hk⟩:=hk
        simp only [VS] at hp
        obtain ⟨g,o,hφ,rfl⟩:=hp
        obtain ⟨g',o',cs1,t1,h1,h2,h3,h4⟩:=h.hs.live id _ es hid
        rw [hφ] at h1
        obtain ⟨rfl,rfl⟩:=Prod.mk.inj (Option.some.inj h1)
        obtain ⟨hll,hlc⟩:=h4 i1 l hes
        simp only at hj hs hk
        have hcell:∀ m,m < i.size→∃ v,w.cell? ((⟨g,o + i1 * e' + j1,none⟩:Addr).add m)=some v∧∃ c,l[j1 + m]? = some c∧VS w (owned x.X φ H) φ c v:=by
          intro m hm
          have hlt:j1 + m < l.length:=by omega
          obtain ⟨_,y,hy,hv⟩:=hlc (j1 + m) l[j1 + m] (List.getElem?_eq_getElem hlt)
          refine ⟨y, ?_,l[j1 + m],List.getElem?_eq_getElem hlt,hv⟩
          have hadd:(⟨g,o + i1 * e' + j1,none⟩:Addr).add m=⟨g,o + i1 * e' + j1 + m,none⟩:=by unfold Addr.add;split <;> simp_all
          rw [hadd,cell_of_row w g _ cs1 t1 _ h2]
          rw [← hy]
          congr 1
          omega
        obtain ⟨cs,hl,hcs⟩:=exists_list i.size _ hcell
        have hr:=run_loadVar_gen (P:=P) (w:=w) hu hi _ cs hl (fun j v hv=>(hcs j v hv).1) hs
        have hlen:((l.drop j1).take i.size).length=i.size:=by simp;omega
        refine ⟨_,_,_,rfl,by simpa [Instr.loadAt,Instr.sureAddr] using hr,hk,(asVal_spec (VSs_of _ _ (by rw [hlen,hl]) fun j c v hc hv=>?_) (hs.imp (fun q=>q) (fun e=>by rw [hlen,e])))⟩
        obtain ⟨_,c',hc',hv'⟩:=hcs j v hv
        have hj':j < i.size:=by rw [← hl];exact (List.getElem?_eq_some_iff.1 hv).1
        rw [List.getElem?_take,if_pos hj',List.getElem?_drop,hc'] at hc
        cases hc
        exact hv'
      · exact hk.elim
    · exact hk.elim

theorem load_gives (h:Sim x N ⟨env,H⟩ φ a w) {t:TypeId} {p:V} {vp:Value} (hp:VS w (owned x.X φ H) φ p vp)
    {k:V→Prop} (hk:loadD (tinfo P t) p H k):Gives P x N env a w (Instr.loadAt t vp) fun v H'=>k v∧H'=H:=by
  obtain ⟨v,c,ad,_,hr,hk,hv⟩:=load_runs h hp hk
  exact Gives.same h hr ⟨hk,rfl⟩ hv

theorem nilCheck_gives (h:Sim x N ⟨env,H⟩ φ a w) {p:V} {vp:Value} (hp:VS w (owned x.X φ H) φ p vp) {k:V→Prop} (hk:nilCheckD p k) :
    k p∧((∃ ad,vp=.pointer (some ad))∨∃ f cs,vp=.func (.func f) #[] cs):=by
  unfold nilCheckD at hk
  split at hk
  · simp only [VS] at hp
    obtain ⟨g,o,_,rfl⟩:=hp
    exact ⟨hk,.inl ⟨_,rfl⟩⟩
  · simp only [VS,DS] at hp
    obtain ⟨ad,rfl,_⟩:=hp
    exact ⟨hk,.inl ⟨_,rfl⟩⟩
  · simp only [VS] at hp
    obtain ⟨cs,rfl,_⟩:=hp
    exact ⟨hk,.inr ⟨_,_,rfl⟩⟩
  · simp only [VS,DS] at hp
    obtain ⟨cs,rfl,_⟩:=hp
    exact ⟨hk,.inr ⟨_,_,rfl⟩⟩
  · exact hk.elim

theorem optK_spec {o:Option D} {k:V→Prop} (h:optK o k):∃ d,o=some d∧k (.d d):=by
  cases o with
  | none=>exact h.elim
  | some d=>exact ⟨d,rfl,h⟩

def D.val:D→Value
  | .int k n=>.int k n
  | .bool b=>.bool b
  | .str s=>.string s
  | _=>Go.undef
theorem binI_run {op:BinOp} {k:IntKind} {p q:Int} {d:D} (hd:binI op k p q=some d) (t:TypeId) (hsh:op ≠ .shl∧op ≠ .shr) :
    (Go.binOp op t (.int k p) (.int k q)).run P w=.ok d.val w∧DS w (owned x.X φ H) d d.val:=by
  cases op <;> simp only [binI] at hd <;> (try split at hd) <;> (try cases hd) <;>
    simp_all [Go.binOp,Op.intArith,Op.intDiv,Op.intBits,Op.intCmp,D.val,DS]
  all_goals rfl
end

end Go.Proofs.YtcgekblpbheikaaGreatDoor
end

section
/- The abstract machine,part 5: sums,tests,fields,elements and parts of what there is. No condition. -/
namespace Go.Proofs.YtcgekblpbheikaaGreatDoor
set_option linter.unusedVariables false
set_option linter.unusedSimpArgs false

section
variable {P:Program} {x:Ctx} {N:Nat} {env:Env} {H:Heap} {φ:List (Nat × Nat)} {a:Act} {w:World}

theorem shiftI_run {op:BinOp} {k k':IntKind} {p q:Int} {d:D} (hd:shiftI op k p q=some d) (t:TypeId) :
    (Go.binOp op t (.int k p) (.int k' q)).run P w=.ok d.val w∧DS w (owned x.X φ H) d d.val:=by
  unfold shiftI at hd
  split at hd
  · cases hd
  · rename_i hq
    cases op <;> simp only at hd <;> (try cases hd) <;> simp [Go.binOp,Op.shift,D.val,DS,hq]

theorem bytes_eq_iff (p q:ByteArray):(p.toList == q.toList)=decide (p=q):=by
  rw [Bool.eq_iff_iff]
  simp only [beq_iff_eq,decide_eq_true_eq]
  constructor
  · intro h
    rw [ByteArray.toList_eq,ByteArray.toList_eq] at h
    exact ByteArray.ext (Array.ext' h)
  · rintro rfl;rfl

theorem eqGuard_plain (op:BinOp) (t:TypeId) (o1 o2:Operand) (p q:Value) (h1:p ≠ .nilIface) (h2:∀ c,p ≠ .agg c):(eqGuard op t o1 o2 p q).run P w=.ok () w:=by
  cases p with
  | nilIface=>exact absurd rfl h1
  | agg c=>exact absurd rfl (h2 c)
  | _=>cases op <;> rfl

theorem strOp_run {op:BinOp} {p q:ByteArray} {d:D} (hd:eqOp op (decide (p=q))=some d) (t:TypeId):(Go.binOp op t (.string p) (.string q)).run P w=.ok d.val w∧DS w (owned x.X φ H) d d.val:=by
  have e:=bytes_eq_iff p q
  cases op <;> simp only [eqOp] at hd <;> (try cases hd) <;> simp only [Go.binOp,Op.stringOp,D.val,DS,e] <;> exact ⟨rfl,trivial⟩

theorem equalIn_bool (d:Nat) {t:TypeId} (hu:P.underlying t=some .bool) (p q:Bool):(Op.equalIn (d + 1) t (.bool p) (.bool q)).run P w=.ok (p == q) w:=by
  simp [Op.equalIn,run_underlying hu]
theorem equalIn_ptr (d:Nat) {t e:TypeId} (hu:P.underlying t=some (.pointer e)) (p:Option Addr):(Op.equalIn (d + 1) t (.pointer p) (.pointer none)).run P w=.ok p.isNone w:=by
  cases p <;> simp [Op.equalIn,run_underlying hu]
theorem equalIn_slice (d:Nat) {t e:TypeId} (hu:P.underlying t=some (.slice e)) (p:Option Addr) (l c:Nat):(Op.equalIn (d + 1) t (.slice p l c) (.slice none 0 0)).run P w=.ok p.isNone w:=by
  cases p <;> simp [Op.equalIn,run_underlying hu]

set_option maxHeartbeats 400000 in
theorem binD_gives (h : Sim x N ⟨env, H⟩ φ a w) (op : BinOp) (t : TypeId) (o1 o2 : Operand) {p q : V} {vp vq : Value} (hp : VS w (owned x.X φ H) φ p vp) (hq : VS w (owned x.X φ H) φ q vq)
    {k:V→Prop} (hk:binD P op t p q k):Gives P x N env a w (do eqGuard op t o1 o2 vp vq;Go.binOp op t vp vq) fun v H'=>k v∧H'=H:=by
  have fin:∀ {v:Value} {c:V},vp ≠ .nilIface→(∀ c,vp ≠ .agg c)→(Go.binOp op t vp vq).run P w=.ok v w→k c→VS w (owned x.X φ H) φ c v →
      Gives P x N env a w (do eqGuard op t o1 o2 vp vq;Go.binOp op t vp vq) fun v H'=>k v∧H'=H:=by
    intro v c h1 h2 hr hc hv
    refine Gives.same h (v:=v) ?_ ⟨hc,rfl⟩ hv
    rw [Sem.run_bind,eqGuard_plain op t o1 o2 vp vq h1 h2]
    exact hr
  unfold binD at hk
  split at hk
  · rename_i kx p ky q
    simp only [VS,DS] at hp hq
    subst hp
    subst hq
    split at hk
    · obtain ⟨d,hd,hk⟩:=optK_spec hk
      obtain ⟨h1,h2⟩:=shiftI_run (P:=P) (x:=x) (H:=H) (φ:=φ) (w:=w) (k':=ky) hd t
      exact fin (by simp) (by simp) h1 hk (by simpa [VS] using h2)
    · obtain ⟨d,hd,hk⟩:=optK_spec hk
      obtain ⟨h1,h2⟩:=shiftI_run (P:=P) (x:=x) (H:=H) (φ:=φ) (w:=w) (k':=ky) hd t
      exact fin (by simp) (by simp) h1 hk (by simpa [VS] using h2)
    · rename_i hn1 hn2
      obtain ⟨rfl,hk⟩:=hk
      obtain ⟨d,hd,hk⟩:=optK_spec hk
      obtain ⟨h1,h2⟩:=binI_run (P:=P) (x:=x) (H:=H) (φ:=φ) (w:=w) hd t ⟨hn1,hn2⟩
      exact fin (by simp) (by simp) h1 hk (by simpa [VS] using h2)
  · rename_i p q
    simp only [VS,DS] at hp hq
    subst hp
    subst hq
    split at hk
    · obtain ⟨hs,hk⟩:=hk
      refine fin (by simp) (by simp) (v:=.string (p++q)) ?_ hk (by simp [VS,DS])
      have:¬ (((p.size + q.size:Nat):Int) > 9223372036854775807):=by omega
      simp only [Go.binOp,Op.stringOp,IntKind.max,IntKind.signed,IntKind.bits]
      simp at this ⊢
      omega
    · obtain ⟨d,hd,hk⟩:=optK_spec hk
      obtain ⟨h1,h2⟩:=strOp_run (P:=P) (x:=x) (H:=H) (φ:=φ) (w:=w) hd t
      exact fin (by simp) (by simp) h1 hk (by simpa [VS] using h2)
  · rename_i p q
    simp only [VS,DS] at hp hq
    subst hp
    subst hq
    split at hk
    · rename_i hti
      obtain ⟨i,u,z,hi,hu,hz,e⟩:=tinfo_spec hti
      have hu':u=.bool:=tk_bool (by injection e;symm;assumption)
      subst hu'
      obtain ⟨d,hd,hk⟩:=optK_spec hk
      have heq:(Op.equal t (.bool p) (.bool q)).run P w=.ok (p == q) w:=equalIn_bool 9999 hu p q
      cases op <;> simp only [eqOp] at hd <;> cases hd
      · exact fin (by simp) (by simp) (v:=.bool (p == q)) (by simp [Go.binOp,heq]) hk (by simp [VS,DS])
      · exact fin (by simp) (by simp) (v:=.bool (!(p == q))) (by simp [Go.binOp,heq]) hk (by simp [VS,DS])
    · exact hk.elim
  · split at hk
    · rename_i hti
      obtain ⟨i,u,z,hi,hu,hz,e⟩:=tinfo_spec hti
      obtain ⟨et,rfl⟩:∃ et,u=.pointer et:=tk_ptr (by injection e;symm;assumption)
      simp only [VS,DS] at hq
      subst hq
      have go:∀ (b:Bool),(Op.equal t vp (.pointer none)).run P w=.ok b w→(∃ ad,vp=.pointer ad)→optK (eqOp op b) k→Gives P x N env a w (do eqGuard op t o1 o2 vp (.pointer none);Go.binOp op t vp (.pointer none)) fun v H'=>k v∧H'=H:=by
        rintro b hb ⟨ad,rfl⟩ hk
        obtain ⟨d,hd,hk⟩:=optK_spec hk
        cases op <;> simp only [eqOp] at hd <;> cases hd
        · exact fin (by simp) (by simp) (v:=.bool b) (by simp [Go.binOp,hb]) hk (by simp [VS,DS])
        · exact fin (by simp) (by simp) (v:=.bool (!b)) (by simp [Go.binOp,hb]) hk (by simp [VS,DS])
      split at hk
      · simp only [VS,DS] at hp
        subst hp
        exact go true (equalIn_ptr 9999 hu _) ⟨_,rfl⟩ hk
      · simp only [VS] at hp
        obtain ⟨g,o,_,rfl⟩:=hp
        exact go false (equalIn_ptr 9999 hu _) ⟨_,rfl⟩ hk
      · simp only [VS,DS] at hp
        obtain ⟨ad,rfl,_⟩:=hp
        exact go false (equalIn_ptr 9999 hu _) ⟨_,rfl⟩ hk
      · exact hk.elim
    · exact hk.elim
  · split at hk
    · rename_i hti
      obtain ⟨i,u,z,hi,hu,hz,e⟩:=tinfo_spec hti
      obtain rfl:=tk_slice (u:=u) (by injection e;symm;assumption)
      simp only [VS,DS] at hq
      subst hq
      have go:∀ (b:Bool),(Op.equal t vp (.slice none 0 0)).run P w=.ok b w→(∃ ad l c,vp=.slice ad l c)→optK (eqOp op b) k→Gives P x N env a w (do eqGuard op t o1 o2 vp (.slice none 0 0);Go.binOp op t vp (.slice none 0 0)) fun v H'=>k v∧H'=H:=by
        rintro b hb ⟨ad,l,c,rfl⟩ hk
        obtain ⟨d,hd,hk⟩:=optK_spec hk
        cases op <;> simp only [eqOp] at hd <;> cases hd
        · exact fin (by simp) (by simp) (v:=.bool b) (by simp [Go.binOp,hb]) hk (by simp [VS,DS])
        · exact fin (by simp) (by simp) (v:=.bool (!b)) (by simp [Go.binOp,hb]) hk (by simp [VS,DS])
      have eqs:∀ ad l c,(Op.equal t (.slice ad l c) (.slice none 0 0)).run P w=.ok ad.isNone w:=fun ad l c=>equalIn_slice 9999 hu ad l c
      split at hk
      · simp only [VS,DS] at hp
        subst hp
        exact go true (eqs _ _ _) ⟨_,_,_,rfl⟩ hk
      · simp only [VS] at hp
        obtain ⟨g,o,A,cap,_,rfl,_⟩:=hp
        exact go false (eqs _ _ _) ⟨_,_,_,rfl⟩ hk
      · simp only [VS,DS] at hp
        obtain ⟨A,cap,rfl,_,hf⟩:=hp
        refine go A.isNone (eqs _ _ _) ⟨_,_,_,rfl⟩ (hk _ ?_)
        rintro ⟨h1,h2⟩
        obtain ⟨ad,rfl,_⟩:=hf 0 0 h1 h2
        rfl
      · exact hk.elim
    · exact hk.elim
  · exact hk.elim

theorem unD_gives (h:Sim x N ⟨env,H⟩ φ a w) (op:UnOp) {p:V} {vp:Value} (hp:VS w (owned x.X φ H) φ p vp)
    {k:V→Prop} (hk:unD op p k):Gives P x N env a w (Op.unary op vp) fun v H'=>k v∧H'=H:=by
  unfold unD at hk
  split at hk
  · simp only [VS,DS] at hp
    subst hp
    exact Gives.same h (by simp [Op.unary,Op.intArith];rfl) ⟨hk,rfl⟩ (by simp [VS,DS])
  · simp only [VS,DS] at hp
    subst hp
    exact Gives.same h (by simp [Op.unary];rfl) ⟨hk,rfl⟩ (by simp [VS,DS])
  · exact hk.elim

theorem convertD_gives (h:Sim x N ⟨env,H⟩ φ a w) (src dst:TypeId) {p:V} {vp:Value} (hp:VS w (owned x.X φ H) φ p vp)
    {k:V→Prop} (hk:convertD P src dst p k):Gives P x N env a w (Go.convert src dst vp) fun v H'=>k v∧H'=H:=by
  unfold convertD at hk
  split at hk
  · rename_i ts td hs hd
    obtain ⟨i,u,z,hi,hu,hz,e⟩:=tinfo_spec hs
    obtain ⟨i',u',z',hi',hu',hz',e'⟩:=tinfo_spec hd
    split at hk
    · rename_i kd kx n hkind
      obtain rfl:=tk_int (u:=u') (by rw [e'] at hkind;exact hkind)
      simp only [VS,DS] at hp
      subst hp
      refine Gives.same h (v:=.int kd (kd.wrap n)) ?_ ⟨hk,rfl⟩ (by simp [VS,DS])
      cases u <;> simp [Go.convert,run_underlying hu,run_underlying hu',Conv.intToInt]
    · rename_i s hkind
      obtain rfl:=tk_str (u:=u') (by rw [e'] at hkind;exact hkind)
      simp only [VS,DS] at hp
      subst hp
      refine Gives.same h (v:=.string s) ?_ ⟨hk,rfl⟩ (by simp [VS,DS])
      cases u <;> simp [Go.convert,run_underlying hu,run_underlying hu']
    · exact hk.elim
  · exact hk.elim

theorem extractD_gives (h:Sim x N ⟨env,H⟩ φ a w) {p:V} {vp:Value} (hp:VS w (owned x.X φ H) φ p vp) (i:Nat)
    {k:V→Prop} (hk:extractD p i k):Gives P x N env a w (Instr.extract vp i) fun v H'=>k v∧H'=H:=by
  unfold extractD at hk
  split at hk
  · rename_i l
    obtain ⟨c,hc,hk⟩:=hk
    simp only [VS] at hp
    obtain ⟨cs,rfl,hv⟩:=hp
    obtain ⟨v,hv1,hv2⟩:=VSs.get l _ hv i c hc
    refine Gives.same h (v:=v) ?_ ⟨hk,rfl⟩ hv2
    have:cs[i]? = some v:=by simpa using hv1
    simp [Instr.extract,this]
  · exact hk.elim

theorem lenD_gives (h:Sim x N ⟨env,H⟩ φ a w) (t ty:TypeId) {p:V} {vp:Value} (hp:VS w (owned x.X φ H) φ p vp)
    {k:V→Prop} (hk:lenD P t p k):Gives P x N env a w (Builtin.len_ #[t] ty #[vp]) fun v H'=>k v∧H'=H:=by
  unfold lenD at hk
  split at hk
  all_goals first | exact hk.elim | skip
  all_goals
    rename_i hti
    obtain ⟨i,u,z,hi,hu,hz,e⟩:=tinfo_spec hti
  · obtain rfl:=tk_str (u:=u) (by injection e;symm;assumption)
    simp only [VS,DS] at hp
    subst hp
    exact Gives.same h (v:=_) (by simp [Builtin.len_,run_underlying hu,goInt];rfl) ⟨hk,rfl⟩ (by simp [VS,DS])
  · obtain rfl:=tk_slice (u:=u) (by injection e;symm;assumption)
    simp only [VS] at hp
    obtain ⟨g,o,A,cap,_,rfl,_⟩:=hp
    exact Gives.same h (v:=_) (by simp [Builtin.len_,run_underlying hu,goInt];rfl) ⟨hk,rfl⟩ (by simp [VS,DS])
  · obtain rfl:=tk_slice (u:=u) (by injection e;symm;assumption)
    simp only [VS,DS] at hp
    obtain ⟨A,cap,rfl,_⟩:=hp
    exact Gives.same h (v:=_) (by simp [Builtin.len_,run_underlying hu,goInt];rfl) ⟨hk,rfl⟩ (by simp [VS,DS])
  · obtain rfl:=tk_slice (u:=u) (by injection e;symm;assumption)
    simp only [VS,DS] at hp
    subst hp
    exact Gives.same h (v:=_) (by simp [Builtin.len_,run_underlying hu,goInt];rfl) ⟨hk,rfl⟩ (by simp [VS,DS])

end
end Go.Proofs.YtcgekblpbheikaaGreatDoor
end

section
/- The abstract machine,part 6: addresses of fields and elements,parts of slices and strings,structs. No condition. -/
namespace Go.Proofs.YtcgekblpbheikaaGreatDoor
set_option linter.unusedVariables false
set_option linter.unusedSimpArgs false

section
variable {P:Program} {x:Ctx} {N:Nat} {env:Env} {H:Heap} {φ:List (Nat × Nat)} {a:Act} {w:World}

theorem add_add (p:Addr) (i j:Nat):(p.add i).add j=p.add (i + j):=by
  unfold Addr.add
  by_cases hi:i=0 <;> by_cases hj:j=0 <;> simp_all [Nat.add_assoc]
theorem add_plain' (g o n:Nat):(⟨g,o,none⟩:Addr).add n=⟨g,o + n,none⟩:=by unfold Addr.add;split <;> simp_all

theorem fieldAddrD_gives (h:Sim x N ⟨env,H⟩ φ a w) (s:TypeId) {p:V} {vp:Value} (hp:VS w (owned x.X φ H) φ p vp) (f:Nat)
    {k:V→Prop} (hk:fieldAddrD P s p f k):Gives P x N env a w (Instr.fieldAt s vp f) fun v H'=>k v∧H'=H:=by
  unfold fieldAddrD at hk
  split at hk
  case h_2=>exact hk.elim
  rename_i flds hti
  obtain ⟨i,u,z,hi,hu,hz,e⟩:=tinfo_spec hti
  obtain ⟨fs,rfl,hfl⟩:=tk_struct (u:=u) (l:=flds) (by injection e;symm;assumption)
  split at hk
  case h_2=>exact hk.elim
  rename_i off ft size hfld
  obtain ⟨hsz,hk⟩:=hk
  obtain ⟨fd,hfd,hoff,hft,hsize⟩:∃ fd:Field,fs[f]? = some fd∧fd.offset=off∧fd.type=ft∧P.cellsOf fd.type=size:=by
    rw [hfl] at hfld
    simp only [List.getElem?_map,Option.map_eq_some_iff] at hfld
    obtain ⟨fd,h1,h2⟩:=hfld
    simp only [Prod.mk.injEq] at h2
    exact ⟨fd,by simpa using h1,h2.1,h2.2.1,h2.2.2⟩
  have hso:∀ ad:Addr,(fieldPlace ad fd).run P w=.ok (ad.add off) w:=by
    intro ad
    unfold Program.cellsOf at hsize
    cases hq:P.info? fd.type with
    | none=>rw [hq] at hsize;simp at hsize;omega
    | some j =>
      rw [hq] at hsize
      simp at hsize
      have:¬ j.size=0:=by omega
      simp [fieldPlace,sizeOf,typeInfo,hq,this,hoff]
  have hrun:∀ ad:Addr,(Instr.fieldAt s (.pointer (some ad)) f).run P w=.ok (.pointer (some (ad.add off))) w:=by
    intro ad
    simp [Instr.fieldAt,run_underlying hu,hfd,Instr.sureAddr,hso]
  split at hk
  · rename_i n g
    obtain ⟨hlt,hk⟩:=hk
    simp only [VS,DS] at hp
    obtain ⟨ad,rfl,hf⟩:=hp
    refine Gives.same h (hrun ad) ⟨hk,rfl⟩ ?_
    simp only [VS,DS]
    refine ⟨ad.add off,rfl,fun j hj=>?_⟩
    obtain ⟨h1,c,h2,h3⟩:=hf (off + j) (by omega)
    rw [add_block,add_add]
    exact ⟨h1,c,h2,h3⟩
  · rename_i id e i1 j1
    simp only [VS] at hp
    obtain ⟨g,o,hφ,rfl⟩:=hp
    refine Gives.same h (hrun _) ⟨hk,rfl⟩ ?_
    simp only [VS]
    refine ⟨g,o,hφ, ?_⟩
    rw [add_plain']
    simp [Nat.add_assoc]
  · exact hk.elim

theorem VSs.seg {own:Nat→Prop} {l:List V} {cs:Array Value} (h:VSs w own φ l cs.toList) (off n:Nat):VSs w own φ ((l.drop off).take n) ((cs.extract off (off + n)).toList):=by
  have hl:=VSs.length _ _ h
  refine VSs_of _ _ (by simp at hl ⊢;omega) fun j c v hc hv=>?_
  rw [List.getElem?_take] at hc
  split at hc
  · rw [List.getElem?_drop] at hc
    obtain ⟨v',h1,h2⟩:=VSs.get _ _ h _ c hc
    have:v'=v:=by
      simp only [Array.toList_extract,List.extract_eq_take_drop,List.getElem?_take,List.getElem?_drop] at hv
      split at hv
      · rw [h1] at hv;exact Option.some.inj hv
      · cases hv
    exact this ▸ h2
  · cases hc

theorem fieldD_gives (h : Sim x N ⟨env, H⟩ φ a w) (s : TypeId) {p : V} {vp : Value} (hp : VS w (owned x.X φ H) φ p vp) (f : Nat)
    {k:V→Prop} (hk:fieldD P s p f k):Gives P x N env a w (Instr.field s vp f) fun v H'=>k v∧H'=H:=by
  unfold fieldD at hk
  split at hk
  case h_2=>exact hk.elim
  rename_i flds hti
  obtain ⟨i,u,z,hi,hu,hz,e⟩:=tinfo_spec hti
  obtain ⟨fs,rfl,hfl⟩:=tk_struct (u:=u) (l:=flds) (by injection e;symm;assumption)
  split at hk
  case h_2=>exact hk.elim
  rename_i off ft size hfld
  obtain ⟨fd,hfd,hoff,hft⟩:∃ fd:Field,fs[f]? = some fd∧fd.offset=off∧fd.type=ft:=by
    rw [hfl] at hfld
    simp only [List.getElem?_map,Option.map_eq_some_iff] at hfld
    obtain ⟨fd,h1,h2⟩:=hfld
    simp only [Prod.mk.injEq] at h2
    exact ⟨fd,by simpa using h1,h2.1,h2.2.1⟩
  split at hk
  case h_2=>exact hk.elim
  rename_i tf l htf
  obtain ⟨i',u',z',hi',hu',hz',e'⟩:=tinfo_spec htf
  subst e'
  obtain ⟨hlen,hs,hk⟩:=hk
  simp only at hlen hs hk
  simp only [VS] at hp
  obtain ⟨cs,rfl,hv⟩:=hp
  have hl:=VSs.length _ _ hv
  have hseg:=VSs.seg hv off i'.size
  subst hft
  subst hoff
  have hr:(part fd.type cs fd.offset).run P w=.ok (if isAggT u' then .agg (cs.extract fd.offset (fd.offset + i'.size)) else ((cs.extract fd.offset (fd.offset + i'.size)).toList).headD Go.undef) w:=by
    by_cases ha:isAggT u'=true
    · have hi2:(isAgg fd.type).run P w=.ok true w:=by
        unfold isAgg
        simp only [Sem.run_bind,run_underlying hu',Result.andThen_ok]
        cases u' <;> simp [isAggT] at ha <;> simp
      simp [part,hi2,ha,sizeOf,typeInfo,hi']
    · have hi2:(isAgg fd.type).run P w=.ok false w:=by
        unfold isAgg
        simp only [Sem.run_bind,run_underlying hu',Result.andThen_ok]
        cases u' <;> simp [isAggT] at ha <;> simp
      have h1:i'.size=1:=hs.resolve_left ha
      have hlt:fd.offset < cs.size:=by simp at hl;omega
      have hg:cs[fd.offset]? = some cs[fd.offset]:=Array.getElem?_eq_getElem hlt
      have hx:((cs.extract fd.offset (fd.offset + i'.size)).toList).headD Go.undef=cs[fd.offset]:=by
        rw [h1,List.headD_eq_head?_getD,List.head?_eq_getElem?]
        simp [List.getElem?_take,hlt]
      rw [hx]
      simp [part,hi2,ha,hg]
  have hrun:(Instr.field s (.agg cs) f).run P w=(part fd.type cs fd.offset).run P w:=by simp [Instr.field,run_underlying hu,hfd,asAgg]
  refine Gives.same h (hrun.trans hr) ⟨hk,rfl⟩ ?_
  have:=asVal_spec (x:=x) (agg:=isAggT u') hseg (hs.imp (fun q=>q) (fun q=>by simp;omega))
  have e2:(cs.extract fd.offset (fd.offset + i'.size)).toList.toArray=cs.extract fd.offset (fd.offset + i'.size):=rfl
  rw [e2] at this
  exact this

theorem indexAddrD_gives (h:Sim x N ⟨env,H⟩ φ a w) (t:TypeId) {p q:V} {vp vq:Value} (hp:VS w (owned x.X φ H) φ p vp) (hq:VS w (owned x.X φ H) φ q vq)
    {k:V→Prop} (hk:indexAddrD P t p q k):Gives P x N env a w (Instr.indexAt t vp vq) fun v H'=>k v∧H'=H:=by
  unfold indexAddrD at hk
  split at hk
  case h_2=>exact hk.elim
  rename_i et hti
  obtain ⟨i,u,z,hi,hu,hz,e⟩:=tinfo_spec hti
  obtain rfl:=tk_slice (u:=u) (by injection e;symm;assumption)
  split at hk
  case h_2=>exact hk.elim
  rename_i te kq ix hte
  obtain ⟨i',u',z',hi',hu',hz',e'⟩:=tinfo_spec hte
  subst e'
  simp only at hk
  simp only [VS,DS] at hq
  subst hq
  have hrun:∀ (ad:Addr) (n cap:Nat),0≤ix∧ix < n→(Instr.indexAt t (.slice (some ad) n cap) (.int kq ix)).run P w=.ok (.pointer (some (ad.add (ix.toNat * i'.size)))) w:=by
    intro ad n cap hb
    simp [Instr.indexAt,asIntOf,run_underlying hu,sizeOf,typeInfo,hi',hb.1,hb.2]
  split at hk
  · rename_i e1 n f
    obtain ⟨⟨rfl,hpos⟩,hb,hk⟩:=hk
    simp only [VS,DS] at hp
    obtain ⟨A,cap,rfl,_,hf⟩:=hp
    obtain ⟨ad,rfl,_⟩:=hf ix.toNat 0 (by omega) hpos
    · refine Gives.same h (hrun ad n cap hb) ⟨hk,rfl⟩ ?_
      simp only [VS,DS]
      refine ⟨_,rfl,fun j hj=>?_⟩
      obtain ⟨ad',he,h1,c,h2,h3⟩:=hf ix.toNat j (by omega) hj
      cases he
      rw [add_block,add_add]
      exact ⟨h1,c,h2,h3⟩
  · rename_i id e1 off n
    obtain ⟨rfl,hb,hk⟩:=hk
    simp only [VS] at hp
    obtain ⟨g,o,A,cap,hφ,rfl,hcap,hA,hroom⟩:=hp
    have hA':A=⟨g,o + off * i'.size,none⟩:=hA.resolve_left (by omega)
    subst hA'
    refine Gives.same h (hrun _ n cap hb) ⟨hk,rfl⟩ ?_
    simp only [VS]
    refine ⟨g,o,hφ, ?_⟩
    rw [add_plain',Nat.add_mul]
    simp [Nat.add_assoc]
  · exact hk.elim

theorem indexD_gives (h:Sim x N ⟨env,H⟩ φ a w) (t:TypeId) {p q:V} {vp vq:Value} (hp:VS w (owned x.X φ H) φ p vp) (hq:VS w (owned x.X φ H) φ q vq)
    {k:V→Prop} (hk:indexD P t p q k):Gives P x N env a w (Instr.index t vp vq) fun v H'=>k v∧H'=H:=by
  unfold indexD at hk
  split at hk
  case h_2=>exact hk.elim
  rename_i hti
  obtain ⟨i,u,z,hi,hu,hz,e⟩:=tinfo_spec hti
  obtain rfl:=tk_str (u:=u) (by injection e;symm;assumption)
  split at hk
  case h_2=>exact hk.elim
  rename_i s kq ix
  obtain ⟨⟨h0,h1⟩,hk⟩:=hk
  simp only [VS,DS] at hp hq
  subst hp
  subst hq
  have hlt:ix.toNat < s.size:=by omega
  have hg:s[ix.toNat]? = some s[ix.toNat]!:=by rw [getElem?_pos s _ hlt,getElem!_pos s _ hlt]
  refine Gives.same h (v:=.int .u8 (s[ix.toNat]!).toNat) ?_ ⟨hk,rfl⟩ (by simp only [VS,DS])
  simp [Instr.index,asIntOf,run_underlying hu,h0,hg]

end
end Go.Proofs.YtcgekblpbheikaaGreatDoor
end

section
/- The abstract machine,part 7: what makes memory and what writes it. No condition. -/
namespace Go.Proofs.YtcgekblpbheikaaGreatDoor
set_option linter.unusedVariables false
set_option linter.unusedSimpArgs false

section
variable {P:Program} {x:Ctx} {N:Nat} {env:Env} {H:Heap} {φ:List (Nat × Nat)} {a:Act} {w:World}

theorem ones_get {l:List V} (h:ones l=true) {j:Nat} {c:V} (hc:l[j]? = some c):c.one=true:=by
  unfold ones at h
  rw [List.all_eq_true] at h
  exact h c (List.mem_of_getElem? hc)

theorem VS.flat {own:Nat→Prop} {c:V} {v:Value} (h:VS w own φ c v) (ho:ones c.flat=true):VSs w own φ c.flat v.cells.toList:=by
  cases c with
  | agg l =>
    simp only [VS] at h
    obtain ⟨cs,rfl,h⟩:=h
    exact h
  | tup l=>simp [V.flat,ones,V.one] at ho
  | d y =>
    have h1:=VS.one h (by simpa [V.flat,ones] using ho)
    have:v.cells=#[v]:=by cases v <;> simp [Value.cells,Value.oneCell'] at h1 ⊢
    rw [this]
    simp only [V.flat,VSs]
    exact ⟨v,[],by simp,h,rfl⟩
  | ptr id e i j =>
    have h1:=VS.one h (by simpa [V.flat,ones] using ho)
    have:v.cells=#[v]:=by cases v <;> simp [Value.cells,Value.oneCell'] at h1 ⊢
    rw [this]
    simp only [V.flat,VSs]
    exact ⟨v,[],by simp,h,rfl⟩
  | sl id e off n =>
    have h1:=VS.one h (by simpa [V.flat,ones] using ho)
    have:v.cells=#[v]:=by cases v <;> simp [Value.cells,Value.oneCell'] at h1 ⊢
    rw [this]
    simp only [V.flat,VSs]
    exact ⟨v,[],by simp,h,rfl⟩
  | clo fn l =>
    have h1:=VS.one h (by simpa [V.flat,ones] using ho)
    have:v.cells=#[v]:=by cases v <;> simp [Value.cells,Value.oneCell'] at h1 ⊢
    rw [this]
    simp only [V.flat,VSs]
    exact ⟨v,[],by simp,h,rfl⟩

theorem newVar_gives (h:Sim x N ⟨env,H⟩ φ a w) (t:TypeId) {l:List V} {cs:Array Value} (hv:VSs w (owned x.X φ H) φ l cs.toList) (ho:ones l=true)
    {k:V→Heap→Prop} (hk:k (.ptr H.length l.length 0 0) (H++[.row l.length [l]])) :
    Gives P x N env a w (do pure (.pointer (some (← newRow t cs)))) k:=by
  have hl:=VSs.length _ _ hv
  have hs:=h.alloc l.length [l] cs t (by simp;simp at hl;omega) (by
    intro i m hm
    cases i with
    | zero =>
      simp at hm
      subst hm
      refine ⟨rfl,fun j c hc=>⟨ones_get ho hc, ?_⟩⟩
      obtain ⟨v,h1,h2⟩:=VSs.get _ _ hv j c hc
      exact ⟨v,by simpa using h1,h2⟩
    | succ i=>simp at hm)
  refine ⟨.pointer (some ⟨w.heap.size,0,none⟩),w.alloc (.cells cs t),_,_,_, ?_,hk,hs, ?_⟩
  · simp [newRow]
  · simp only [VS]
    exact ⟨w.heap.size,0,by rw [← h.hs.len];simp,by simp⟩

theorem boxD_gives (h:Sim x N ⟨env,H⟩ φ a w) (t:TypeId) {c:V} {v:Value} (hv:VS w (owned x.X φ H) φ c v)
    {k:V→Heap→Prop} (hk:boxD (tinfo P t) c H k):Gives P x N env a w (Instr.box t v) k:=by
  unfold boxD at hk
  split at hk
  · exact hk.elim
  · exact newVar_gives h t (VS.flat hv hk.1) hk.1 hk.2

theorem dOf_cells (l:List Value) {own:Nat→Prop}:VSs w own φ ((l.map dOf).map .d) l:=by
  refine VSs_of _ _ (by simp) fun j c v hc hv=>?_
  simp only [List.map_map,List.getElem?_map,Option.map_eq_some_iff,Function.comp] at hc
  obtain ⟨u,hu,rfl⟩:=hc
  rw [hv] at hu
  cases hu
  exact dOf_spec w own v

theorem allocD_gives (h:Sim x N ⟨env,H⟩ φ a w) (t:TypeId) {k:V→Heap→Prop} (hk:allocD (tinfo P t) H k):Gives P x N env a w (Instr.alloc t true (.tuple #[])) k:=by
  unfold allocD at hk
  split at hk
  · exact hk.elim
  · rename_i ti hti
    obtain ⟨i,u,z,hi,hu,hz,rfl⟩:=tinfo_spec hti
    obtain ⟨ho,hk⟩:=hk
    simp only at ho hk
    have hv:VSs w (owned x.X φ H) φ ((z.cells.toList.map dOf).map .d) z.cells.toList:=dOf_cells _
    have:=newVar_gives (P:=P) h t hv ho (k:=k) (by simpa using hk)
    obtain ⟨v,w',c,H',φ',hr,rest⟩:=this
    refine ⟨v,w',c,H',φ', ?_,rest⟩
    rw [← hr]
    simp [Instr.alloc,zeroValue,typeInfo,hi,hz,newVar]

theorem setMany_length (l cs:List V) (j:Nat):(setMany l j cs).length=l.length:=by
  induction cs generalizing l j with
  | nil=>rfl
  | cons c cs ih=>simp [setMany,ih]
theorem setMany_get (l cs : List V) (j m : Nat) (hj : j + cs.length ≤ l.length) : (setMany l j cs)[m]? = if j ≤ m ∧ m < j + cs.length then cs[m - j]? else l[m]? := by
  induction cs generalizing l j with
  | nil=>simp [setMany];omega
  | cons c cs ih =>
    simp only [setMany]
    rw [ih _ _ (by simp at hj ⊢;omega)]
    simp only [List.length_cons] at hj ⊢
    by_cases h1:j + 1≤m∧m < j + 1 + cs.length
    · rw [if_pos h1,if_pos (by omega)]
      obtain ⟨d,rfl⟩:∃ d,m=j + 1 + d:=⟨m - (j + 1),by omega⟩
      simp [show j + 1 + d - j=d + 1 by omega]
    · rw [if_neg h1]
      by_cases h2:m=j
      · subst h2
        rw [if_pos (by omega),List.getElem?_set_self (by omega)]
        simp
      · rw [if_neg (by omega),List.getElem?_set_ne (fun e=>h2 e.symm)]

theorem storeD_gives (h : Sim x N ⟨env, H⟩ φ a w) (t : TypeId) {p c : V} {vp vc : Value} (hp : VS w (owned x.X φ H) φ p vp) (hc : VS w (owned x.X φ H) φ c vc)
    {k:Heap→Prop} (hk:storeD (tinfo P t) p c H k):∃ w' H',(Instr.storeAt t vp vc).run P w=.ok () w'∧k H'∧Sim x N ⟨env,H'⟩ φ a w':=by
  unfold storeD at hk
  split at hk
  · exact hk.elim
  · rename_i ti hti
    obtain ⟨i,u,z,hi,hu,hz,rfl⟩:=tinfo_spec hti
    split at hk
    case h_2=>exact hk.elim
    rename_i id e i1 j1
    split at hk
    case h_2=>exact hk.elim
    rename_i e' es hid
    obtain ⟨rfl,l,hes,hlen,hj,ho,hk⟩:=hk
    simp only at hlen hj hk
    simp only [VS] at hp
    obtain ⟨g,o,hφ,rfl⟩:=hp
    obtain ⟨g',o',cs,t1,h1,h2,h3,h4⟩:=h.hs.live id _ es hid
    rw [hφ] at h1
    obtain ⟨rfl,rfl⟩:=Prod.mk.inj (Option.some.inj h1)
    have hcells:=VS.flat hc ho
    have hcl:=VSs.length _ _ hcells
    have hi1:i1 < es.length:=(List.getElem?_eq_some_iff.1 hes).1
    obtain ⟨hll,hlc⟩:=h4 i1 l hes
    have hfit:o + i1 * e' + j1 + vc.cells.toList.length≤cs.size:=by
      have:(i1 + 1) * e'≤es.length * e':=Nat.mul_le_mul_right _ hi1
      rw [Nat.add_mul] at this
      omega
    have hone:∀ v∈vc.cells.toList,v.oneCell'=true:=by
      intro v hv
      obtain ⟨m,hm⟩:=List.getElem?_of_mem hv
      have hm':m < c.flat.length:=by rw [hcl];exact (List.getElem?_eq_some_iff.1 hm).1
      obtain ⟨v',hv1,hv2⟩:=VSs.get _ _ hcells m c.flat[m] (List.getElem?_eq_getElem hm')
      rw [hm] at hv1
      cases hv1
      exact VS.one hv2 (ones_get ho (List.getElem?_eq_getElem hm'))
    have hst:=run_storeCells_at P g (o + i1 * e' + j1) t1 vc.cells.toList 0 cs w h2 (by simpa using hfit) hone
    have hsize:vc.cells.size=i.size:=by simp at hcl;omega
    have hrun:(Instr.storeAt t (.pointer (some ⟨g,o + i1 * e' + j1,none⟩)) vc).run P w=(storeCells ⟨g,o + i1 * e' + j1,none⟩ vc.cells.toList).run P w:=by
      simp [Instr.storeAt,Instr.sureAddr,storeVar,sizeOf,typeInfo,hi,hsize]
    refine ⟨_,_,hrun.trans hst,hk, ?_⟩
    have hsz:((cs.toList.take (o + i1 * e' + j1 + 0)++vc.cells.toList++cs.toList.drop (o + i1 * e' + j1 + 0 + vc.cells.toList.length)).toArray).size=cs.size:=by
      simp
      simp at hfit
      omega
    have hget:∀ m,(cs.toList.take (o + i1 * e' + j1 + 0)++vc.cells.toList++cs.toList.drop (o + i1 * e' + j1 + 0 + vc.cells.toList.length)).toArray[m]? =
        if o + i1 * e' + j1≤m∧m < o + i1 * e' + j1 + vc.cells.toList.length then vc.cells.toList[m - (o + i1 * e' + j1)]? else cs[m]?:=by
      intro m
      rw [List.getElem?_toArray]
      have hA:(cs.toList.take (o + i1 * e' + j1 + 0)).length=o + i1 * e' + j1:=by simp;simp at hfit;omega
      by_cases hm1:m < o + i1 * e' + j1
      · rw [if_neg (by omega),List.append_assoc,List.getElem?_append_left (by omega),List.getElem?_take,if_pos (by omega)]
        simp
      · by_cases hm2:m < o + i1 * e' + j1 + vc.cells.toList.length
        · rw [if_pos ⟨by omega,hm2⟩,List.append_assoc,List.getElem?_append_right (by omega),List.getElem?_append_left (by omega),hA]
        · rw [if_neg (by omega),List.getElem?_append_right (by rw [List.length_append];omega),List.getElem?_drop,List.length_append,hA]
          rw [show o + i1 * e' + j1 + 0 + vc.cells.toList.length + (m - (o + i1 * e' + j1 + vc.cells.toList.length))=m by omega]
          simp
    refine h.setRow hid hφ h2 hsz (by rw [hsz];simpa using h3) ?_
    intro i2 l2 hl2
    by_cases hii:i2=i1
    · subst hii
      simp [hi1] at hl2
      subst hl2
      refine ⟨by rw [setMany_length];exact hll,fun j c' hc'=>?_⟩
      rw [setMany_get _ _ _ _ (by omega)] at hc'
      split at hc'
      · rename_i hjj
        obtain ⟨v',hv1,hv2⟩:=VSs.get _ _ hcells _ c' hc'
        refine ⟨ones_get ho hc',v', ?_,hv2⟩
        rw [hget,if_pos (by omega)]
        rw [← hv1]
        congr 1
        omega
      · rename_i hjj
        obtain ⟨h5,y,hy,hv⟩:=hlc j c' hc'
        refine ⟨h5,y, ?_,hv⟩
        rw [hget,if_neg (by omega)]
        exact hy
    · rw [List.getElem?_set_ne (fun e=>hii e.symm)] at hl2
      obtain ⟨h5,h6⟩:=h4 i2 l2 hl2
      refine ⟨h5,fun j c' hc'=>?_⟩
      obtain ⟨h7,y,hy,hv⟩:=h6 j c' hc'
      refine ⟨h7,y, ?_,hv⟩
      have hjlt:j < e':=by rw [← h5];exact (List.getElem?_eq_some_iff.1 hc').1
      rw [hget,if_neg,hy]
      rintro ⟨q1,q2⟩
      rcases Nat.lt_or_gt_of_ne hii with q | q
      · have:(i2 + 1) * e'≤i1 * e':=Nat.mul_le_mul_right _ q
        rw [Nat.add_mul] at this
        omega
      · have:(i1 + 1) * e'≤i2 * e':=Nat.mul_le_mul_right _ q
        rw [Nat.add_mul] at this
        omega
end
end Go.Proofs.YtcgekblpbheikaaGreatDoor
end

section
/- The abstract machine,part 8: structs and slices that are made,slices that are appended to. No condition. -/
namespace Go.Proofs.YtcgekblpbheikaaGreatDoor
set_option linter.unusedVariables false
set_option linter.unusedSimpArgs false

section
variable {P:Program} {x:Ctx} {N:Nat} {env:Env} {H:Heap} {φ:List (Nat × Nat)} {a:Act} {w:World}

theorem foldl_set_list (off : Nat) : ∀ (cs : List Value) (n : Nat) (cells : Array Value) (m : Nat), off + n + cs.length ≤ cells.size →
    ((cs.zipIdx n).foldl (fun (c:Array Value) (q:Value × Nat)=>c.setIfInBounds (off + q.2) q.1) cells)[m]? =
      if off + n≤m∧m < off + n + cs.length then cs[m - (off + n)]? else cells[m]?
  | [],n,cells,m,_=>by simp;omega
  | c :: cs, n, cells, m, h => by
    simp only [List.zipIdx_cons,List.foldl_cons,List.length_cons] at h ⊢
    rw [foldl_set_list off cs (n + 1) _ m (by simp;omega)]
    by_cases h1:off + (n + 1)≤m∧m < off + (n + 1) + cs.length
    · rw [if_pos h1,if_pos (by omega)]
      obtain ⟨d,rfl⟩:∃ d,m=off + (n + 1) + d:=⟨m - (off + (n + 1)),by omega⟩
      simp [show off + (n + 1) + d - (off + n)=d + 1 by omega]
    · rw [if_neg h1]
      by_cases h2:m=off + n
      · subst h2
        rw [if_pos (by omega),Array.getElem?_setIfInBounds_self_of_lt (by omega)]
        simp
      · rw [if_neg (by omega),Array.getElem?_setIfInBounds_ne (fun e=>h2 e.symm)]
theorem foldl_set_size (off:Nat):∀ (cs:List Value) (n:Nat) (cells:Array Value),((cs.zipIdx n).foldl (fun (c:Array Value) (q:Value × Nat)=>c.setIfInBounds (off + q.2) q.1) cells).size=cells.size
  | [],n,cells=>rfl
  | c :: cs,n,cells=>by simp only [List.zipIdx_cons,List.foldl_cons];rw [foldl_set_size off cs (n + 1)];simp

def PartsS (w:World) (own:Nat→Prop) (φ:List (Nat × Nat)):List (Nat × V)→List (Nat × Value)→Prop
  | [],l=>l=[]
  | (i,c) :: rest,l=>∃ v l',l=(i,v) :: l'∧VS w own φ c v∧PartsS w own φ rest l'

theorem fill_sim {own : Nat → Prop} (place : Nat → Option (Nat × Nat)) : ∀ (parts : List (Nat × V)) (parts' : List (Nat × Value)) (l : List V) (cs : Array Value) (l' : List V),
    PartsS w own φ parts parts'→VSs w own φ l cs.toList→fillV place l parts=some l'→∃ cs',Instr.fill place cs parts'=some cs'∧VSs w own φ l' cs'.toList∧cs'.size=cs.size
  | [],parts',l,cs,l',hp,hv,hf=>by
    simp only [PartsS] at hp
    subst hp
    simp only [fillV,Option.some.injEq] at hf
    subst hf
    exact ⟨cs,rfl,hv,rfl⟩
  | (i, c) :: rest, parts', l, cs, l', hp, hv, hf => by
    simp only [PartsS] at hp
    obtain ⟨v,rest',rfl,hc,hp⟩:=hp
    simp only [fillV] at hf
    split at hf
    · cases hf
    · rename_i off size hpl
      split at hf
      · rename_i hcond
        obtain ⟨h1,h2,h3⟩:=hcond
        have hcells:=VS.flat hc h3
        have hcl:=VSs.length _ _ hcells
        have hl:=VSs.length _ _ hv
        have hsz:v.cells.size=size:=by simp at hcl;omega
        have hlen:l.length=cs.size:=by simpa using hl
        have hget:=foldl_set_list off v.cells.toList 0 cs
        have hv':VSs w own φ (setMany l off c.flat) ((v.cells.zipIdx.foldl (fun (cs:Array Value) (q:Value × Nat)=>cs.setIfInBounds (off + q.2) q.1) cs)).toList:=by
          have e:v.cells.zipIdx.foldl (fun (cs:Array Value) (q:Value × Nat)=>cs.setIfInBounds (off + q.2) q.1) cs=(v.cells.toList.zipIdx 0).foldl (fun (cs:Array Value) (q:Value × Nat)=>cs.setIfInBounds (off + q.2) q.1) cs:=by
            rw [← Array.foldl_toList,Array.toList_zipIdx]
          rw [e]
          refine VSs_of _ _ ?_ fun j c' u hc' hu=>?_
          · rw [setMany_length,hlen]
            exact (foldl_set_size off v.cells.toList 0 cs).symm
          · rw [setMany_get _ _ _ _ (by omega)] at hc'
            rw [Array.getElem?_toList,hget j (by simp;omega)] at hu
            simp only [Nat.add_zero,Array.length_toList] at hu
            by_cases hj:off≤j∧j < off + size
            · rw [if_pos (by omega)] at hc' hu
              obtain ⟨u',q1,q2⟩:=VSs.get _ _ hcells _ c' hc'
              rw [hu] at q1
              cases q1
              exact q2
            · rw [if_neg (by omega)] at hc' hu
              obtain ⟨u',q1,q2⟩:=VSs.get _ _ hv _ c' hc'
              rw [Array.getElem?_toList,hu] at q1
              cases q1
              exact q2
        obtain ⟨cs',r1,r2,r3⟩:=fill_sim place rest rest' _ _ l' hp hv' hf
        refine ⟨cs', ?_,r2, ?_⟩
        · simp only [Instr.fill,hpl]
          have hno:¬ (v.cells.size ≠ size∨off + v.cells.size > cs.size):=by omega
          simp only [decide_eq_true_eq,Bool.or_eq_true] 
          rw [if_neg (by simpa using hno)]
          exact r1
        · rw [r3]
          have e:v.cells.zipIdx.foldl (fun (cs:Array Value) (q:Value × Nat)=>cs.setIfInBounds (off + q.2) q.1) cs=(v.cells.toList.zipIdx 0).foldl (fun (cs:Array Value) (q:Value × Nat)=>cs.setIfInBounds (off + q.2) q.1) cs:=by
            rw [← Array.foldl_toList,Array.toList_zipIdx]
          rw [e,foldl_set_size]
      · cases hf

theorem parts_spec (h:Sim x N ⟨env,H⟩ φ a w):∀ (parts:List (Nat × Operand)),PartsS w (owned x.X φ H) φ (parts.map fun p=>(p.1,ev env p.2)) (parts.map fun p=>(p.1,a.eval p.2))
  | []=>rfl
  | (i,o) :: rest=>by
    simp only [List.map_cons,PartsS]
    exact ⟨a.eval o,_,rfl,ev_spec h o,parts_spec h rest⟩

theorem run_mapM_fields:∀ (fs:List Field),(fs.all fun f=>P.cellsOf f.type != 0)=true →
    ((fs.mapM fun f=>(do pure (f.offset,← sizeOf f.type):Sem (Nat × Nat))):Sem (List (Nat × Nat))).run P w=.ok (fs.map fun f=>(f.offset,P.cellsOf f.type)) w
  | [],_=>by simp
  | f :: fs, h => by
    simp only [List.all_cons,Bool.and_eq_true] at h
    have ih:=run_mapM_fields fs h.2
    have hne:P.cellsOf f.type ≠ 0:=by simpa using h.1
    unfold Program.cellsOf at hne
    cases hq:P.info? f.type with
    | none=>rw [hq] at hne;simp at hne
    | some i =>
      have hs:(sizeOf f.type).run P w=.ok i.size w:=by simp [sizeOf,typeInfo,hq]
      have hc:P.cellsOf f.type=i.size:=by simp [Program.cellsOf,hq]
      have hp:∀ {α:Type} (q:α) (w:World),(pure q:Sem α).run P w=.ok q w:=fun _ _=>rfl
      simp only [List.mapM_cons,List.map_cons,Sem.run_bind,hs,Result.andThen_ok,hp,ih,hc]

theorem buildD_gives (h:Sim x N ⟨env,H⟩ φ a w) (t:TypeId) (parts:List (Nat × Operand)) {k:V→Prop} (hk:buildD (tinfo P t) (parts.map fun p=>(p.1,ev env p.2)) k) :
    Gives P x N env a w (Instr.build t (parts.map fun p=>(p.1,a.eval p.2)).toArray) fun v H'=>k v∧H'=H:=by
  unfold buildD at hk
  split at hk
  · exact hk.elim
  · rename_i ti hti
    obtain ⟨i,u,z,hi,hu,hz,rfl⟩:=tinfo_spec hti
    simp only at hk
    split at hk
    case h_2=>exact hk.elim
    rename_i flds hkind
    obtain ⟨fs,rfl,rfl⟩:=tk_struct hkind
    obtain ⟨hall,l,hl,hk⟩:=hk
    obtain ⟨cs',r1,r2,_⟩:=fill_sim (w:=w) (φ:=φ) (own:=owned x.X φ H) _ _ _ _ z.cells l (parts_spec h parts) (dOf_cells _) hl
    refine Gives.same h (v:=.agg cs') ?_ ⟨hk,rfl⟩ (by simp only [VS];exact ⟨cs',rfl,r2⟩)
    have hm:=run_mapM_fields (P:=P) (w:=w) fs.toList (by simpa using hall)
    have hm':((fs.mapM fun f=>(do pure (f.offset,← sizeOf f.type):Sem (Nat × Nat))):Sem (Array (Nat × Nat))).run P w=.ok (fs.toList.map fun f=>(f.offset,P.cellsOf f.type)).toArray w:=by
      rw [Array.mapM_eq_mapM_toList,← bind_pure_comp,Sem.run_bind,hm]
      rfl
    have hplace:(fun (i:Nat)=>((fs.toList.map fun f=>(f.offset,P.cellsOf f.type)).toArray)[i]?)=fun (i:Nat)=>((fs.toList.map fun f=>(f.offset,f.type,P.cellsOf f.type))[i]?).map fun (f:Nat × Nat × Nat)=>(f.1,f.2.2):=by
      funext i
      simp
      cases fs[i]? <;> rfl
    simp only [Instr.build,Sem.run_bind,zeroValue,typeInfo]
    simp [hi,hz,run_underlying hu]
    simp only [bind_pure_comp] at hm'
    rw [hm']
    simp only [Result.andThen_ok]
    have e:Instr.fill (fun i=>((fs.toList.map fun f=>(f.offset,P.cellsOf f.type)).toArray)[i]?) z.cells (parts.map fun p=>(p.1,a.eval p.2))=some cs':=by rw [hplace];exact r1
    simp at e ⊢
    rw [e]
    rfl

theorem elems_get {e:Nat} {es:List (List V)} (he:∀ l∈es,l.length=e) {i j:Nat} {l:List V} (hi:es[i]? = some l) (hj:j < e):(es.flatten)[i * e + j]? = l[j]?:=by
  induction es generalizing i with
  | nil=>simp at hi
  | cons m es ih =>
    have hm:m.length=e:=he m (by simp)
    cases i with
    | zero =>
      simp at hi
      subst hi
      rw [List.flatten_cons,List.getElem?_append_left (by omega)]
      simp
    | succ i =>
      simp at hi
      rw [List.flatten_cons,List.getElem?_append_right (by rw [hm,Nat.add_mul];omega),hm]
      rw [show (i + 1) * e + j - e=i * e + j by rw [Nat.add_mul];omega]
      exact ih (fun l hl=>he l (by simp [hl])) hi
theorem flatten_length {e:Nat} {es:List (List V)} (he:∀ l∈es,l.length=e):es.flatten.length=es.length * e:=by
  induction es with
  | nil=>simp
  | cons m es ih =>
    rw [List.flatten_cons,List.length_append,ih (fun l hl=>he l (by simp [hl])),he m (by simp),List.length_cons,Nat.add_mul]
    omega

theorem newRow_gives (h:Sim x N ⟨env,H⟩ φ a w) (t:TypeId) {e n cap:Nat} {es:List (List V)} (he:∀ l∈es,l.length=e) (ho:∀ l∈es,ones l=true) {cs:Array Value}
    (hlen:es.length=n) (hn:n≤cap) (hsz:cap * e≤cs.size) (hv:∀ (j:Nat) (c:V),(es.flatten)[j]? = some c→∃ v,cs[j]? = some v∧VS w (owned x.X φ H) φ c v)
    {k:V→Heap→Prop} (hk:k (.sl H.length e 0 n) (H++[.row e es])) :
    k (.sl H.length e 0 n) (H++[.row e es])∧Sim x N ⟨env,H++[.row e es]⟩ (φ++[(w.heap.size,0)]) a (w.alloc (.cells cs t)) ∧
      VS (w.alloc (.cells cs t)) (owned x.X (φ++[(w.heap.size,0)]) (H++[.row e es])) (φ++[(w.heap.size,0)]) (.sl H.length e 0 n) (.slice (some ⟨w.heap.size,0,none⟩) n cap):=by
  have hs:=h.alloc e es cs t (by subst hlen;exact Nat.le_trans (Nat.mul_le_mul_right _ hn) hsz) (by
    intro i l hl
    have hl':=he l (List.mem_of_getElem? hl)
    refine ⟨hl',fun j c hc=>⟨ones_get (ho l (List.mem_of_getElem? hl)) hc, ?_⟩⟩
    have hj:j < e:=by rw [← hl'];exact (List.getElem?_eq_some_iff.1 hc).1
    have:=elems_get he hl hj
    rw [hc] at this
    obtain ⟨v,h1,h2⟩:=hv _ c this
    exact ⟨v,h1,h2⟩)
  refine ⟨hk,hs, ?_⟩
  simp only [VS]
  refine ⟨w.heap.size,0,⟨w.heap.size,0,none⟩,cap,by rw [← h.hs.len];simp,rfl,hn,.inr (by simp), ?_⟩
  exact ⟨cs,t,(0,0),heap_alloc_new w _,by simpa using hsz⟩

theorem setMany_append (p q cs:List V) (hl:cs.length≤q.length):setMany (p++q) p.length cs=p++cs++q.drop cs.length:=by
  apply List.ext_getElem?
  intro m
  rw [setMany_get _ _ _ _ (by simp;omega)]
  by_cases h1:m < p.length
  · rw [if_neg (by omega),List.getElem?_append_left h1,List.append_assoc,List.getElem?_append_left h1]
  · by_cases h2:m < p.length + cs.length
    · rw [if_pos ⟨by omega,h2⟩,List.append_assoc,List.getElem?_append_right (by omega),List.getElem?_append_left (by omega)]
    · rw [if_neg (by omega),List.getElem?_append_right (by omega),List.getElem?_append_right (by rw [List.length_append];omega),List.getElem?_drop,List.length_append]
      congr 1
      omega

theorem fillV_inOrder (e:Nat):∀ (parts:List (Nat × V)) (n:Nat) (p q:List V),inOrder e n parts=true→p.length=n * e→q.length=parts.length * e →
    fillV (fun i=>some (i * e,e)) (p++q) parts=some (p++(parts.map fun r=>r.2.flat).flatten)
  | [],n,p,q,_,_,hq=>by
    have:q=[]:=List.eq_nil_of_length_eq_zero (by simpa using hq)
    simp [fillV,this]
  | (i,v) :: rest,n,p,q,ho,hp,hq=>by
    simp only [inOrder,Bool.and_eq_true,beq_iff_eq] at ho
    obtain ⟨⟨⟨rfl,h2⟩,h3⟩,h4⟩:=ho
    simp only [List.length_cons,Nat.add_mul] at hq
    simp only [fillV]
    rw [if_pos ⟨h2,by rw [List.length_append,hp];omega,h3⟩,← hp,setMany_append p q v.flat (by omega)]
    have ih:=fillV_inOrder e rest (i + 1) (p++v.flat) (q.drop v.flat.length) h4 (by rw [List.length_append,hp,h2,Nat.add_mul];omega) (by rw [List.length_drop,h2];omega)
    rw [ih]
    simp

theorem inOrder_mem (e:Nat):∀ (parts:List (Nat × V)) (n:Nat),inOrder e n parts=true→∀ l∈parts.map (fun r=>r.2.flat),l.length=e∧ones l=true
  | [],_,_,l,hl=>by simp at hl
  | (i,v) :: rest,n,ho,l,hl=>by
    simp only [inOrder,Bool.and_eq_true,beq_iff_eq] at ho
    obtain ⟨⟨⟨_,h2⟩,h3⟩,h4⟩:=ho
    simp only [List.map_cons,List.mem_cons] at hl
    rcases hl with rfl | hl
    · exact ⟨h2,h3⟩
    · exact inOrder_mem e rest (n + 1) h4 l hl

theorem buildSliceD_gives (h:Sim x N ⟨env,H⟩ φ a w) (t:TypeId) (len:Nat) (parts:List (Nat × Operand)) {k:V→Heap→Prop}
    (hk:buildSliceD P t len (parts.map fun p=>(p.1,ev env p.2)) H k) :
    Gives P x N env a w (Instr.buildSlice t len (parts.map fun p=>(p.1,a.eval p.2)).toArray) k:=by
  unfold buildSliceD at hk
  split at hk
  case h_2=>exact hk.elim
  rename_i et hti
  obtain ⟨i,u,z,hi,hu,hz,e⟩:=tinfo_spec hti
  obtain rfl:=tk_slice (u:=u) (by injection e;symm;assumption)
  split at hk
  case h_2=>exact hk.elim
  rename_i te hte
  obtain ⟨i',u',z',hi',hu',hz',rfl⟩:=tinfo_spec hte
  simp only at hk
  obtain ⟨⟨hlen,hord,hpos,hzl,h24⟩,hk⟩:=hk
  have hmem:=inOrder_mem _ _ _ hord
  have hzs:z'.cells.size=i'.size:=by simpa using hzl
  -- the cells before they are filled
  obtain ⟨cells,hc0⟩:∃ cells:Array Value,cells=((Array.range (len * i'.size)).map (z'.cells[· % z'.cells.size]!)):=⟨_,rfl⟩
  have hcs:cells.size=len * i'.size:=by rw [hc0];simp
  obtain ⟨l0,hl0,hv0⟩:∃ l0:List V,l0.length=len * i'.size∧VSs w (owned x.X φ H) φ l0 cells.toList:=by
    refine ⟨(cells.toList.map dOf).map .d,by simp [hcs],dOf_cells _⟩
  have hf:=fillV_inOrder i'.size (parts.map fun p=>(p.1,ev env p.2)) 0 [] l0 hord (by simp) (by rw [hl0,hlen])
  simp only [List.nil_append] at hf
  obtain ⟨cs',r1,r2,r3⟩:=fill_sim (w:=w) (φ:=φ) (own:=owned x.X φ H) (fun i=>some (i * i'.size,i'.size)) _ _ _ cells _ (parts_spec h parts) hv0 hf
  have hnew:=newRow_gives h et (e:=i'.size) (n:=len) (cap:=len) (es:=(parts.map fun p=>(p.1,ev env p.2)).map fun p=>p.2.flat) (fun l hl=>(hmem l hl).1) (fun l hl=>(hmem l hl).2) (cs:=cs')
    (by simp at hlen ⊢;omega) (Nat.le_refl _) (by rw [r3,hcs];omega) (fun j c hc=>by
      obtain ⟨v,q1,q2⟩:=VSs.get _ _ r2 j c hc
      exact ⟨v,by simpa using q1,q2⟩) hk
  obtain ⟨k1,k2,k3⟩:=hnew
  refine ⟨_,_,_,_,_, ?_,k1,k2,k3⟩
  have hno:¬ (2 ^ 24 < len * i'.size):=by simpa using h24
  have hfill:Instr.fill (fun i=>some (i * i'.size,i'.size)) cells (parts.map fun p=>(p.1,a.eval p.2))=some cs':=r1
  simp only [Instr.buildSlice,Sem.run_bind,run_underlying hu,Result.andThen_ok]
  by_cases hz0:len=0
  · subst hz0
    have hc:cells=#[]:=by rw [hc0];simp [Array.range_zero']
    rw [hc] at hfill
    simp [sizeOf,typeInfo,hi',newRow,Array.range_zero']
    rw [hfill]
    simp
  · have hne:¬ len * i'.size=0:=by
      intro hh
      rcases Nat.mul_eq_zero.1 hh with q | q <;> omega
    have hne':¬ (len=0∨i'.size=0):=by omega
    simp [sizeOf,typeInfo,hi',newRow,hno,hne,hne',zeroValue,hz']
    rw [← hc0]
    rw [hfill]
    simp
end
end Go.Proofs.YtcgekblpbheikaaGreatDoor
end

section
/- The abstract machine,part 9: make,append,and parts of slices. No condition. -/
namespace Go.Proofs.YtcgekblpbheikaaGreatDoor
set_option linter.unusedVariables false
set_option linter.unusedSimpArgs false

section
variable {P:Program} {x:Ctx} {N:Nat} {env:Env} {H:Heap} {φ:List (Nat × Nat)} {a:Act} {w:World}

theorem flatten_elem {e:Nat} {es:List (List V)} (he:∀ l∈es,l.length=e) {j:Nat} {c:V} (h:es.flatten[j]? = some c) :
    ∃ i l m,es[i]? = some l∧l[m]? = some c∧j=i * e + m:=by
  induction es generalizing j with
  | nil=>simp at h
  | cons l es ih =>
    rw [List.flatten_cons] at h
    have hl:l.length=e:=he l (by simp)
    by_cases hj:j < l.length
    · rw [List.getElem?_append_left hj] at h
      exact ⟨0,l,j,rfl,h,by simp⟩
    · rw [List.getElem?_append_right (by omega)] at h
      obtain ⟨i,l',m,h1,h2,h3⟩:=ih (fun l hl=>he l (by simp [hl])) h
      exact ⟨i + 1,l',m,by simpa using h1,h2,by rw [Nat.add_mul];omega⟩

theorem makeSliceD_gives (h : Sim x N ⟨env, H⟩ φ a w) (t : TypeId) {p q : V} {vp vq : Value} (hp : VS w (owned x.X φ H) φ p vp) (hq : VS w (owned x.X φ H) φ q vq)
    {k:V→Heap→Prop} (hk:makeSliceD P t p q H k):Gives P x N env a w (Instr.makeSlice t vp vq) k:=by
  unfold makeSliceD at hk
  split at hk
  case h_2=>exact hk.elim
  rename_i et hti
  obtain ⟨i,u,z,hi,hu,hz,e⟩:=tinfo_spec hti
  obtain rfl:=tk_slice (u:=u) (by injection e;symm;assumption)
  split at hk
  case h_2=>exact hk.elim
  rename_i te hte
  obtain ⟨i',u',z',hi',hu',hz',rfl⟩:=tinfo_spec hte
  simp only at hk
  split at hk
  case h_2=>exact hk.elim
  rename_i kl l kc c
  obtain ⟨⟨h0,hlc,hbytes,h47,hpos,hzl,hones⟩,hk⟩:=hk
  simp only [VS,DS] at hp hq
  subst hp
  subst hq
  have hzs:z'.cells.size=i'.size:=by simpa using hzl
  have hr:=run_make (P:=P) w t et i' z' hu hi' hz' kl kc l c h0 hlc (by rw [Int.mul_comm];omega) (by omega)
  have hzero:((z'.cells.toList.map dOf).map V.d).length=i'.size:=by simp [hzs]
  have hnew:=newRow_gives h et (e:=i'.size) (n:=l.toNat) (cap:=c.toNat) (es:=List.replicate l.toNat ((z'.cells.toList.map dOf).map V.d)) (cs:=madeCells z'.cells (c.toNat * i'.size))
    (fun m hm=>by rw [List.eq_of_mem_replicate hm];exact hzero) (fun m hm=>by rw [List.eq_of_mem_replicate hm];exact hones) (by simp) (by omega) (by rw [size_madeCells];exact Nat.le_refl _)
    (fun j c' hc=>by
      obtain ⟨i2,l2,m,h1,h2,h3⟩:=flatten_elem (e:=i'.size) (fun m hm=>by rw [List.eq_of_mem_replicate hm];exact hzero) hc
      have hl2:l2=((z'.cells.toList.map dOf).map V.d):=List.eq_of_mem_replicate (List.mem_of_getElem? h1)
      have hi2:i2 < l.toNat:=by have:=(List.getElem?_eq_some_iff.1 h1).1;simpa using this
      have hm:m < i'.size:=by rw [← hzero,← hl2];exact (List.getElem?_eq_some_iff.1 h2).1
      subst h3
      have hlt:i2 * i'.size + m < c.toNat * i'.size:=by
        have:(i2 + 1) * i'.size≤c.toNat * i'.size:=Nat.mul_le_mul_right _ (by omega)
        rw [Nat.add_mul] at this
        omega
      have hmod:(i2 * i'.size + m) % i'.size=m:=by rw [Nat.mul_comm,Nat.mul_add_mod,Nat.mod_eq_of_lt hm]
      have hcell:(madeCells z'.cells (c.toNat * i'.size))[i2 * i'.size + m]? = some (z'.cells[m]!):=by
        unfold madeCells
        rw [Array.getElem?_map,Array.getElem?_range,if_pos hlt]
        simp [hzs,hmod]
      refine ⟨_,hcell, ?_⟩
      rw [hl2] at h2
      obtain ⟨v,q1,q2⟩:=VSs.get _ _ (dOf_cells (own:=owned x.X φ H) (w:=w) (φ:=φ) z'.cells.toList) m c' h2
      have:z'.cells[m]! = v:=by
        have hm':m < z'.cells.size:=by omega
        rw [getElem!_pos z'.cells m hm']
        simpa [hm'] using q1
      rw [this]
      exact q2) hk
  obtain ⟨k1,k2,k3⟩:=hnew
  exact ⟨_,_,_,_,_,hr,k1,k2,k3⟩

def OptS (w:World) (own:Nat→Prop) (φ:List (Nat × Nat)):Option V→Option Value→Prop
  | none,none=>True
  | some c,some u=>VS w own φ c u
  | _,_=>False

theorem boundD_spec {v:Option V} {vv:Option Value} {dflt:Nat} {k:Nat→Prop} (hk:boundD v dflt k)
    (hv:OptS w (owned x.X φ H) φ v vv) :
    ∃ n,k n∧((vv=none∧n=dflt)∨∃ kd i,vv=some (.int kd i)∧0≤i∧n=i.toNat):=by
  unfold boundD at hk
  split at hk
  · cases vv with
    | none=>exact ⟨dflt,hk,.inl ⟨rfl,rfl⟩⟩
    | some u=>exact hv.elim
  · rename_i kd i
    cases vv with
    | none=>exact hv.elim
    | some u =>
      simp only [OptS,VS,DS] at hv
      subst hv
      exact ⟨_,hk.2,.inr ⟨kd,i,rfl,hk.1,rfl⟩⟩
  · exact hk.elim

theorem run_sliceBounds_gen (isSlice:Bool) (len cap:Nat) (lo hi:Option Value) (l h:Nat) (hl:(lo=none∧l=0)∨∃ kd i,lo=some (.int kd i)∧0≤i∧l=i.toNat)
    (hh:(hi=none∧h=len)∨∃ kd i,hi=some (.int kd i)∧0≤i∧h=i.toNat) (h1:l≤h) (h2:h≤cap) :
    (Instr.sliceBounds isSlice len cap lo hi none).run P w=.ok (l,h,cap) w:=by
  rcases hl with ⟨rfl,rfl⟩ | ⟨kl,il,rfl,hl0,rfl⟩ <;> rcases hh with ⟨rfl,rfl⟩ | ⟨kh,ih,rfl,hh0,rfl⟩
  · simp [Instr.sliceBounds]
  · have a1:ih≤(cap:Int):=by omega
    simp [Instr.sliceBounds,Instr.sliceBound,asIntOf,hh0,a1]
  · have a1:il≤(h:Int):=by omega
    simp [Instr.sliceBounds,Instr.sliceBound,asIntOf,hl0,a1]
  · have a1:ih≤(cap:Int):=by omega
    have a2:il≤((ih.toNat:Nat):Int):=by omega
    have a3:il≤max ih 0:=by omega
    simp [Instr.sliceBounds,Instr.sliceBound,asIntOf,hh0,hl0,a1,a2,a3]

theorem sliceD_gives (h : Sim x N ⟨env, H⟩ φ a w) (t : TypeId) {p : V} {vp : Value} (hp : VS w (owned x.X φ H) φ p vp) (lo hi : Option Operand)
    {k:V→Prop} (hk:sliceD P t p (lo.map (ev env)) (hi.map (ev env)) none k):Gives P x N env a w (Instr.sliceAt t vp (lo.map a.eval) (hi.map a.eval) none) fun v H'=>k v∧H'=H:=by
  have hlo:∀ o:Option Operand,OptS w (owned x.X φ H) φ (o.map (ev env)) (o.map a.eval):=by
    intro o
    cases o with
    | none=>trivial
    | some o=>exact ev_spec h o
  unfold sliceD at hk
  split at hk
  case h_3=>exact hk.elim
  · rename_i et hti hmx
    obtain ⟨i,u,z,hi',hu,hz,e⟩:=tinfo_spec hti
    obtain rfl:=tk_slice (u:=u) (by injection e;symm;assumption)
    split at hk
    case h_2=>exact hk.elim
    rename_i te hte
    obtain ⟨i',u',z',hi'',hu',hz',rfl⟩:=tinfo_spec hte
    simp only at hk
    have hrun:∀ (A:Option Addr) (n cap l hh:Nat),((lo.map a.eval)=none∧l=0∨∃ kd i,(lo.map a.eval)=some (.int kd i)∧0≤i∧l=i.toNat) →
        ((hi.map a.eval)=none∧hh=n∨∃ kd i,(hi.map a.eval)=some (.int kd i)∧0≤i∧hh=i.toNat)→l≤hh→hh≤cap →
        (Instr.sliceAt t (.slice A n cap) (lo.map a.eval) (hi.map a.eval) none).run P w=.ok (.slice (if cap=l then A else A.map (·.add (l * i'.size))) (hh - l) (cap - l)) w:=by
      intro A n cap l hh h1 h2 h3 h4
      have:=run_sliceBounds_gen (P:=P) (w:=w) true n cap _ _ l hh h1 h2 h3 h4
      simp [Instr.sliceAt,run_underlying hu,Instr.slice,this,sizeOf,typeInfo,hi'']
    split at hk
    · rename_i e1 n f
      obtain ⟨rfl,hk⟩:=hk
      obtain ⟨hh,hk,hh'⟩:=boundD_spec (x:=x) (φ:=φ) (H:=H) (w:=w) hk (hlo hi)
      obtain ⟨l,hk,hl'⟩:=boundD_spec (x:=x) (φ:=φ) (H:=H) (w:=w) hk (hlo lo)
      obtain ⟨⟨h1,h2⟩,hk⟩:=hk
      simp only [VS,DS] at hp
      obtain ⟨A,cap,rfl,hcap,hf⟩:=hp
      refine Gives.same h (hrun A n cap l hh hl' hh' h1 (by omega)) ⟨hk,rfl⟩ ?_
      simp only [VS,DS]
      refine ⟨_,_,rfl,by omega,fun i2 j2 hi2 hj2=>?_⟩
      obtain ⟨ad,rfl,g1,c,g2,g3⟩:=hf (l + i2) j2 (by omega) hj2
      rw [if_neg (by omega)]
      refine ⟨_,rfl,by rw [add_block];exact g1,c, ?_,g3⟩
      rw [add_add,← g2]
      congr 1
      rw [Nat.add_mul,Nat.add_assoc]
    · rename_i id e1 off n
      obtain ⟨rfl,hk⟩:=hk
      obtain ⟨hh,hk,hh'⟩:=boundD_spec (x:=x) (φ:=φ) (H:=H) (w:=w) hk (hlo hi)
      obtain ⟨l,hk,hl'⟩:=boundD_spec (x:=x) (φ:=φ) (H:=H) (w:=w) hk (hlo lo)
      obtain ⟨⟨h1,h2⟩,hk⟩:=hk
      simp only [VS] at hp
      obtain ⟨g,o,A,cap,hφ,rfl,hcap,hA,hroom⟩:=hp
      refine Gives.same h (hrun (some A) n cap l hh hl' hh' h1 (by omega)) ⟨hk,rfl⟩ ?_
      simp only [VS]
      by_cases hc:cap=l
      · rw [if_pos hc]
        refine ⟨g,o,A,cap - l,hφ,rfl,by omega,.inl (by omega), ?_⟩
        rw [show off + l + (cap - l)=off + cap by omega]
        exact hroom
      · rw [if_neg hc]
        refine ⟨g,o,A.add (l * i'.size),cap - l,hφ,rfl,by omega,.inr ?_, ?_⟩
        · rw [hA.resolve_left (by omega),add_plain',Nat.add_mul,Nat.add_assoc]
        · rw [show off + l + (cap - l)=off + cap by omega]
          exact hroom
    · obtain ⟨hh,hk,hh'⟩:=boundD_spec (x:=x) (φ:=φ) (H:=H) (w:=w) hk (hlo hi)
      obtain ⟨l,hk,hl'⟩:=boundD_spec (x:=x) (φ:=φ) (H:=H) (w:=w) hk (hlo lo)
      obtain ⟨⟨h1,h2⟩,hk3⟩:=hk
      simp only [VS,DS] at hp
      subst hp
      have:=hrun none 0 0 l hh hl' hh' h1 h2
      obtain rfl:l=0:=by omega
      obtain rfl:hh=0:=by omega
      exact Gives.same h this ⟨hk3,rfl⟩ (by simp [VS,DS])
    · exact hk.elim
  · rename_i hti hmx
    obtain ⟨i,u,z,hi',hu,hz,e⟩:=tinfo_spec hti
    obtain rfl:=tk_str (u:=u) (by injection e;symm;assumption)
    split at hk
    case h_2=>exact hk.elim
    rename_i s
    obtain ⟨hh,hk,hh'⟩:=boundD_spec (x:=x) (φ:=φ) (H:=H) (w:=w) hk (hlo hi)
    obtain ⟨l,hk,hl'⟩:=boundD_spec (x:=x) (φ:=φ) (H:=H) (w:=w) hk (hlo lo)
    obtain ⟨⟨h1,h2⟩,hk⟩:=hk
    simp only [VS,DS] at hp
    subst hp
    have hb:=run_sliceBounds_gen (P:=P) (w:=w) false s.size s.size _ _ l hh hl' hh' h1 h2
    refine Gives.same h (v:=.string (s.extract l hh)) ?_ ⟨hk,rfl⟩ (by simp [VS,DS])
    simp [Instr.sliceAt,run_underlying hu,Instr.slice,hb]


structure Src (P:Program) (w:World) (sz:Nat) (v:Value) (m:Nat) (vals:List Value):Prop where
  len:∀ W:World,(Builtin.lenOf v).run P W=.ok m W
  part:∀ n,n≤m→∀ W:World,W.heap=w.heap→(Builtin.firstCells sz n v).run P W=.ok (vals.take (n * sz)).toArray W
  size:vals.length=m * sz
theorem Src.cells {sz:Nat} {v:Value} {m:Nat} {vals:List Value} (h:Src P w sz v m vals) (W:World) (hW:W.heap=w.heap):(Builtin.firstCells sz m v).run P W=.ok vals.toArray W:=by
  have:=h.part m (Nat.le_refl _) W hW
  rwa [List.take_of_length_le (by rw [h.size];exact Nat.le_refl _)] at this

theorem Src.slice {sz:Nat} {ad:Option Addr} {m cap:Nat} {vals:List Value} (hs:vals.length=m * sz) (hsz:0 < sz)
    (hc:∀ j v,vals[j]? = some v→∃ p,ad=some p∧w.cell? (p.add j)=some v):Src P w sz (.slice ad m cap) m vals:=by
  refine ⟨fun W=>by simp [Builtin.lenOf],fun n hn W hW=>?_,hs⟩
  cases ad with
  | none =>
    have:vals=[]:=by
      cases vals with
      | nil=>rfl
      | cons v vs=>obtain ⟨p,hp,_⟩:=hc 0 v rfl;cases hp
    subst this
    simp [Builtin.firstCells]
  | some p =>
    refine run_firstCells_some W sz n p m cap (vals.take (n * sz)) (by rw [List.length_take,hs];exact Nat.min_eq_left (Nat.mul_le_mul_right _ hn)) fun j v hv=>?_
    obtain ⟨p',hp,h1⟩:=hc j v (by rw [List.getElem?_take] at hv;split at hv;exact hv;cases hv)
    cases hp
    unfold World.cell? at h1 ⊢
    rw [hW]
    exact h1

theorem Src.str (s:ByteArray):Src P w 1 (.string s) s.data.toList.length (s.data.toList.map fun b=>.int .u8 (b.toNat:Int)):=by
  refine ⟨fun W=>by simp [Builtin.lenOf],fun n hn W hW=>?_,by simp⟩
  simp only [Builtin.firstCells,Nat.mul_one]
  show Result.ok _ W=_
  congr 1
  apply Array.ext'
  simp [ByteArray.data_extract]
theorem bytesD_spec : ∀ {rows : List (List V)} {K : List UInt8 → Prop}, bytesD rows K → ∃ l : List UInt8, K l ∧ rows = l.map fun b => [.d (.int .u8 (b.toNat : Int))]
  | [],K,h=>⟨[],h,rfl⟩
  | r :: rows, K, h => by
    unfold bytesD at h
    split at h
    · rename_i e;cases e
    · rename_i n l e
      cases e
      obtain ⟨⟨h0,h1⟩,h⟩:=h
      obtain ⟨l,hk,rfl⟩:=bytesD_spec h
      refine ⟨_,hk, ?_⟩
      have:((UInt8.ofNat n.toNat).toNat:Int)=n:=by
        rw [UInt8.toNat_ofNat']
        omega
      rw [List.map_cons,this]
    · exact h.elim
theorem bytesD_map:∀ (l:List UInt8) {K:List UInt8→Prop},K l→bytesD (l.map fun b=>[.d (.int .u8 (b.toNat:Int))]) K
  | [],K,h=>h
  | b :: l,K,h=>by
    have hb:b.toNat < 256:=b.toNat_lt
    simp only [List.map_cons,bytesD]
    refine ⟨⟨by omega,by omega⟩,bytesD_map l ?_⟩
    rw [Int.toNat_natCast,UInt8.ofNat_toNat]
    exact h
theorem convH_mono {src dst : TypeId} {x : V} {H : Heap} {k k' : V → Heap → Prop} (h : convH P src dst x H k) (hk : ∀ v h, k v h → k' v h) : convH P src dst x H k' := by
  unfold convH at h ⊢
  split at h
  · split at h
    · rename_i e1 e2
      try simp only [e1,e2]
      split at h
      · rename_i e3
        try simp only [e3]
        refine ⟨h.1, ?_⟩
        have h:=h.2
        split at h
        · rename_i e4
          try simp only [e4]
          obtain ⟨l,q1,q2⟩:=bytesD_spec h.2.2
          exact ⟨h.1,h.2.1,by rw [q2];exact bytesD_map l (hk _ _ q1)⟩
        · exact h.elim
      · exact h.elim
    · exact h.elim
  · unfold convertD at h ⊢
    split at h
    · rename_i e1 e2
      try simp only [e1,e2]
      split at h
      · exact hk _ _ h
      · exact hk _ _ h
      · exact h.elim
    · exact h.elim
theorem convH_gives (h : Sim x N ⟨env, H⟩ φ a w) (src dst : TypeId) {p : V} {vp : Value} (hp : VS w (owned x.X φ H) φ p vp)
    {k:V→Heap→Prop} (hk:convH P src dst p H k):Gives P x N env a w (Go.convert src dst vp) k:=by
  unfold convH at hk
  split at hk
  · rename_i id e off n
    split at hk
    · rename_i _ _ _ _ et _ _ _ _ hs hd
      obtain ⟨i,u,z,hi,hu,hz,e1⟩:=tinfo_spec hs
      obtain ⟨i',u',z',hi',hu',hz',e1'⟩:=tinfo_spec hd
      obtain rfl:=tk_slice (u:=u) (by injection e1 with _ _ _ _ q;exact q.symm)
      obtain rfl:=tk_str (u:=u') (by injection e1' with _ _ _ _ q;exact q.symm)
      split at hk
      · rename_i _ _ _ he
        obtain ⟨i2,u2,z2,hi2,hu2,hz2,e2⟩:=tinfo_spec he
        obtain rfl:=tk_int (u:=u2) (by injection e2 with _ _ _ _ q;exact q.symm)
        obtain ⟨rfl,hk⟩:=hk
        split at hk
        · rename_i e' es hid
          obtain ⟨rfl,hlen,hk⟩:=hk
          obtain ⟨l,hk,hrow⟩:=bytesD_spec hk
          simp only [VS] at hp
          obtain ⟨g,o,A,cap,hφ,rfl,hcap,hA,hroom⟩:=hp
          obtain ⟨g',o',cs1,t1,h1,h2,h3,h4⟩:=h.hs.live id _ es hid
          rw [hφ] at h1
          obtain ⟨rfl,rfl⟩:=Prod.mk.inj (Option.some.inj h1)
          have hn:l.length=n:=by
            have:=congrArg List.length hrow
            simp at this
            omega
          refine Gives.same h (v:=.string ⟨l.toArray⟩) ?_ hk (by simp [VS,DS])
          rw [← hn]
          refine run_convert_bytes_back w src dst et A cap l hu hu2 hu' fun j hj=>?_
          have hA':A=⟨g,o + off * 1,none⟩:=hA.resolve_left (by omega)
          have hel:es[off + j]? = some [.d (.int .u8 (l[j].toNat:Int))]:=by
            have:=congrArg (·[j]?) hrow
            simp only [List.getElem?_take,List.getElem?_drop,List.getElem?_map,List.getElem?_eq_getElem hj] at this
            rw [if_pos (by omega)] at this
            exact this
          obtain ⟨_,r2⟩:=h4 _ _ hel
          obtain ⟨_,y,hy,hv⟩:=r2 0 _ rfl
          simp only [VS,DS] at hv
          subst hv
          rw [hA',add_plain',cell_of_row w g _ cs1 t1 _ h2,← hy]
          congr 1
          omega
        · exact hk.elim
      · exact hk.elim
    · exact hk.elim
  · obtain ⟨v,w',c,H',φ',q1,⟨q2,rfl⟩,q3,q4⟩:=convertD_gives (k:=fun v=>k v H) h src dst hp hk
    exact ⟨v,w',c,_,φ',q1,q2,q3,q4⟩

theorem elemsD_spec (h : Sim x N ⟨env, H⟩ φ a w) {e : Nat} (hpos : 0 < e) {p : V} {vp : Value} (hp : VS w (owned x.X φ H) φ p vp) {k : List (List V) → Prop} (hk : elemsD e p H k) :
    ∃ news vals,k news∧(∀ l∈news,l.length=e)∧(∀ l∈news,ones l=true)∧VSs w (owned x.X φ H) φ news.flatten vals∧Src P w e vp news.length vals:=by
  unfold elemsD at hk
  split at hk
  · rename_i id e' off n
    obtain ⟨rfl,hk⟩:=hk
    split at hk
    case h_2=>exact hk.elim
    rename_i e'' es hid
    obtain ⟨rfl,hlen,hk⟩:=hk
    simp only [VS] at hp
    obtain ⟨g,o,A,cap,hφ,rfl,hcap,hA,hroom⟩:=hp
    obtain ⟨g',o',cs1,t1,h1,h2,h3,h4⟩:=h.hs.live id _ es hid
    rw [hφ] at h1
    obtain ⟨rfl,rfl⟩:=Prod.mk.inj (Option.some.inj h1)
    have hmem:∀ l∈(es.drop off).take n,l.length=e''∧ones l=true:=by
      intro l hl
      obtain ⟨i,hi⟩:=List.getElem?_of_mem hl
      rw [List.getElem?_take] at hi
      split at hi
      · rw [List.getElem?_drop] at hi
        obtain ⟨q1,q2⟩:=h4 _ l hi
        refine ⟨q1, ?_⟩
        unfold ones
        rw [List.all_eq_true]
        intro c hc
        obtain ⟨j,hj⟩:=List.getElem?_of_mem hc
        exact (q2 j c hj).1
      · cases hi
    have hn:((es.drop off).take n).length=n:=by simp;omega
    have hfl:((es.drop off).take n).flatten.length=n * e'':=by rw [flatten_length (fun l hl=>(hmem l hl).1),hn]
    have hcell:∀ j,j < n * e''→∃ v,w.cell? ((⟨g,o + off * e'',none⟩:Addr).add j)=some v∧∃ c,((es.drop off).take n).flatten[j]? = some c∧VS w (owned x.X φ H) φ c v:=by
      intro j hj
      have hj':j < ((es.drop off).take n).flatten.length:=by omega
      obtain ⟨i,l,m,q1,q2,rfl⟩:=flatten_elem (fun l hl=>(hmem l hl).1) (List.getElem?_eq_getElem hj')
      have q1':=q1
      rw [List.getElem?_take] at q1
      split at q1
      · rw [List.getElem?_drop] at q1
        obtain ⟨_,r2⟩:=h4 _ l q1
        obtain ⟨_,y,hy,hv⟩:=r2 m _ q2
        refine ⟨y, ?_,_,List.getElem?_eq_getElem hj',hv⟩
        rw [add_plain',cell_of_row w g _ cs1 t1 _ h2,← hy]
        congr 1
        rw [Nat.add_mul]
        omega
      · cases q1
    obtain ⟨vals,hvl,hvv⟩:=exists_list (n * e'') _ hcell
    refine ⟨_,vals,hk,fun l hl=>(hmem l hl).1,fun l hl=>(hmem l hl).2,VSs_of _ _ (by omega) fun j c v hc hv=>?_, ?_⟩
    · obtain ⟨_,c',hc',hv'⟩:=hvv j v hv
      rw [hc] at hc'
      cases hc'
      exact hv'
    · rw [hn]
      refine Src.slice hvl hpos fun j v hv=>⟨A,rfl, ?_⟩
      have hjn:j < n * e'':=by rw [← hvl];exact (List.getElem?_eq_some_iff.1 hv).1
      have hcap0:cap ≠ 0:=by
        rintro rfl
        have:n=0:=by omega
        subst this
        simp at hjn
      rw [hA.resolve_left hcap0]
      exact (hvv j v hv).1
  · rename_i e' n f
    obtain ⟨rfl,hone,hk⟩:=hk
    simp only [VS,DS] at hp
    obtain ⟨A,cap,rfl,hcap,hf⟩:=hp
    have hmem:∀ l∈upto n (fun i=>upto e' fun j=>V.d (f i j)),l.length=e'∧ones l=true:=by
      intro l hl
      obtain ⟨i,hi⟩:=List.getElem?_of_mem hl
      rw [upto_get] at hi
      split at hi
      · rename_i hin
        cases hi
        refine ⟨upto_length _ _, ?_⟩
        unfold ones
        rw [List.all_eq_true]
        intro c hc
        obtain ⟨j,hj⟩:=List.getElem?_of_mem hc
        rw [upto_get] at hj
        split at hj
        · cases hj
          exact hone i j hin (by assumption)
        · cases hj
      · cases hi
    have hfl:(upto n (fun i=>upto e' fun j=>V.d (f i j))).flatten.length=n * e':=by rw [flatten_length (fun l hl=>(hmem l hl).1),upto_length]
    have hcell:∀ j,j < n * e'→∃ v,(∃ p,A=some p∧w.cell? (p.add j)=some v)∧∃ c,(upto n (fun i=>upto e' fun j=>V.d (f i j))).flatten[j]? = some c∧VS w (owned x.X φ H) φ c v:=by
      intro j hj
      have hj':j < (upto n (fun i=>upto e' fun j=>V.d (f i j))).flatten.length:=by omega
      obtain ⟨i,l,m,q1,q2,hji⟩:=flatten_elem (fun l hl=>(hmem l hl).1) (List.getElem?_eq_getElem hj')
      subst hji
      rw [upto_get] at q1
      split at q1
      · rename_i hin
        cases q1
        rw [upto_get] at q2
        split at q2
        · rename_i hme
          obtain ⟨p,hp,_,c,hc,hd⟩:=hf i m hin hme
          have q3:=Option.some.inj q2
          exact ⟨c,⟨p,hp,hc⟩,_,List.getElem?_eq_getElem hj',by rw [← q3];simpa [VS] using hd⟩
        · cases q2
      · cases q1
    obtain ⟨vals,hvl,hvv⟩:=exists_list (n * e') _ hcell
    refine ⟨_,vals,hk,fun l hl=>(hmem l hl).1,fun l hl=>(hmem l hl).2,VSs_of _ _ (by omega) fun j c v hc hv=>?_, ?_⟩
    · obtain ⟨_,c',hc',hv'⟩:=hvv j v hv
      rw [hc] at hc'
      cases hc'
      exact hv'
    · rw [upto_length]
      exact Src.slice hvl hpos fun j v hv=>(hvv j v hv).1
  · simp only [VS,DS] at hp
    subst hp
    exact ⟨[],[],hk,by simp,by simp,by simp [VSs],Src.slice (by simp) hpos (by simp)⟩
  · rename_i s
    obtain ⟨rfl,hk⟩:=hk
    simp only [VS,DS] at hp
    subst hp
    refine ⟨_,s.data.toList.map fun b=>.int .u8 (b.toNat:Int),hk,fun l hl=>?_,fun l hl=>?_, ?_, ?_⟩
    · obtain ⟨b,_,rfl⟩:=List.mem_map.1 hl;rfl
    · obtain ⟨b,_,rfl⟩:=List.mem_map.1 hl;rfl
    · generalize s.data.toList=l
      induction l with
      | nil=>simp [VSs]
      | cons b l ih =>
        simp only [List.map_cons,List.flatten_cons,List.cons_append,List.nil_append,VSs]
        exact ⟨_,_,rfl,by simp [VS,DS],ih⟩
    · rw [List.length_map];exact Src.str s
  · exact hk.elim

theorem run_append_in {t t' ty e:TypeId} {i:TypeInfo} (ht:P.underlying t=some (.slice e)) (ht':P.underlying t'=some (.slice e)∨P.underlying t'=some .string) (hi:P.info? e=some i) {v:Value} {m:Nat} {vals:List Value} (hs:Src P w i.size v m vals)
    (g o sLen sCap:Nat) (cs:Array Value) (t1:TypeId) (hg:w.heap[g]? = some (.cells cs t1 (0,0))) (h1:∀ u∈vals,u.oneCell'=true) (hroom:sLen + m≤sCap)
    (hfit:o + sLen * i.size + vals.length≤cs.size) :
    (Builtin.append_ #[t,t'] ty #[.slice (some ⟨g,o,none⟩) sLen sCap,v]).run P w =
      .ok (.slice (some ⟨g,o,none⟩) (sLen + m) sCap) (w.setRow g (cs.toList.take (o + sLen * i.size)++vals++cs.toList.drop (o + sLen * i.size + vals.length)).toArray):=by
  have hst:=run_storeCells_at P g (o + sLen * i.size) t1 vals 0 cs w hg (by simpa using hfit) h1
  simp only [Nat.add_zero] at hst
  rcases ht' with ht' | ht' <;> simp [Builtin.append_,run_underlying ht,run_underlying ht',sizeOf,typeInfo,hi,hs.len w,hroom,hs.cells w rfl,add_plain',hst]
theorem run_append_in0 {t t' ty e:TypeId} {i:TypeInfo} (ht:P.underlying t=some (.slice e)) (ht':P.underlying t'=some (.slice e)∨P.underlying t'=some .string) (hi:P.info? e=some i) {v:Value} (hs:Src P w i.size v 0 [])
    (A:Option Addr) (sLen sCap:Nat) (hroom:sLen≤sCap) :
    (Builtin.append_ #[t,t'] ty #[.slice A sLen sCap,v]).run P w=.ok (.slice A sLen sCap) w:=by
  have hc:=hs.cells w rfl
  rcases ht' with ht' | ht' <;> cases A <;> simp [Builtin.append_,run_underlying ht,run_underlying ht',sizeOf,typeInfo,hi,hs.len w,hroom,hc,storeCells]
theorem run_append_up {t t' ty e : TypeId} {i : TypeInfo} {z : Value} (ht : P.underlying t = some (.slice e)) (ht' : P.underlying t' = some (.slice e) ∨ P.underlying t' = some .string) (hi : P.info? e = some i) (hz : i.zero = some z) {v : Value} {m : Nat} {vals : List Value}
    (hs:Src P w i.size v m vals) (A:Option Addr) (sLen sCap:Nat) (olds:List Value) (ho:∀ W:World,W.heap=w.heap→(Builtin.firstCells i.size sLen (.slice A sLen sCap)).run P W=.ok olds.toArray W)
    (hg:sCap < sLen + m) (h63:sLen + m≤140737488355328) (hb:(sLen + m) * i.bytes≤140737488355328) :
    (Builtin.append_ #[t,t'] ty #[.slice A sLen sCap,v]).run P w =
      .ok (.slice (some ⟨w.heap.size,0,none⟩) (sLen + m) (grownCap w (sLen + m) sCap e))
        (w.drew.alloc (.cells (olds.toArray++vals.toArray++Builtin.zeroCells z.cells (grownCap w (sLen + m) sCap e - (sLen + m))) e)):=by
  have hn:¬ (sLen + m≤sCap):=by omega
  have h63':¬ (9223372036854775807 < ((sLen:Int) + (m:Int))):=by omega
  have hfit:=growslice_fits (old:=sCap) (need:=sLen + m) (bytes:=i.bytes) hg hb
  have h48':¬ (281474976710656 < Builtin.nextslicecap (sLen + m) sCap * i.bytes):=by omega
  have h1:=ho w.drew rfl
  have h2:=hs.cells w.drew rfl
  rcases ht' with ht' | ht' <;> simp [Builtin.append_,run_underlying ht,run_underlying ht',sizeOf,typeInfo,zeroValue,hi,hz,hs.len w,hn,h63',h48',Question.forced,h1,h2,newRow,grownCap]
  all_goals
    congr 2
    apply Array.ext'
    simp [List.append_assoc]
end
end Go.Proofs.YtcgekblpbheikaaGreatDoor
end
