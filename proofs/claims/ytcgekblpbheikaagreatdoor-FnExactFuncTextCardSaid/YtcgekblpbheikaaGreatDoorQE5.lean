/- The abstract machine: trees of places that nobody else holds; calls told by relations. No condition. -/
import Derived.Test.YtcgekblpbheikaaGreatDoorQE4
namespace Go.Proofs.YtcgekblpbheikaaGreatDoor
set_option linter.unusedVariables false
set_option linter.unusedSimpArgs false

def intoQ (env:Env):List (Nat × V)→Prop
  | []=>True
  | (k,v) :: l=>env k=v∧intoQ env l
def IntoH (s:St) (l:List (Nat × V)) (H:Heap):Prop:=s.H=H∧intoQ s.env l
theorem intoQ_mk {env:Env}:∀ (l:List (Nat × V)),intoQ env l→∀ t,mk l t=.d .undef∨mk l t=env t
  | [],_,t=>.inl rfl
  | (k,v) :: l,h,t=>by
    simp only [intoQ] at h
    simp only [mk_cons]
    split
    · rename_i e
      subst e
      exact .inr h.1.symm
    · exact intoQ_mk l h.2 t
theorem IntoH.weak {n0:Nat} {s:St} {l:List (Nat × V)} {H:Heap} (h:IntoH s l H):Weak n0 s ⟨mk l,H⟩:=by
  obtain ⟨env,H0⟩:=s
  obtain ⟨rfl,h2⟩:=h
  intro x N φ a w hx hs
  refine ⟨φ,⟨hs.hs,fun t=>?_,hs.low,hs.defers,hs.size,hs.fr,hs.old,hs.ext,hs.long,hs.len0⟩⟩
  show VS w (owned x.X φ H0) φ (mk l t) _
  rcases intoQ_mk l h2 t with q | q
  · rw [q];simp [VS,DS]
  · rw [q];exact hs.env t
theorem W_loopH {P:Program} {N n0:Nat} {c:Code} {Q:Exit→St→Prop} {s:St} {α:Type} (E:α→List (Nat × V)) (Hp:α→Heap) (Inv:α→Prop) (μ:α→Nat) (a0:α)
    (h0:IntoH s (E a0) (Hp a0)) (hI:Inv a0)
    (round:∀ a,Inv a→W P N n0 c (seqQ (fun s'=>∃ b,Inv b∧μ b < μ a∧IntoH s' (E b) (Hp b)) Q) ⟨mk (E a),Hp a⟩):W P N n0 (.loop c) Q s:=by
  refine W_weak h0.weak (W_loop (fun n s=>∃ a,μ a=n∧Inv a∧s=⟨mk (E a),Hp a⟩) (μ a0) ⟨a0,rfl,hI,rfl⟩ ?_)
  rintro n s ⟨a,rfl,hI,rfl⟩
  refine W_mono (round a hI) ?_
  intro e s' hq
  cases e with
  | normal =>
    obtain ⟨b,hb,hlt,hi⟩:=hq
    exact ⟨μ b,_,hlt,hi.weak,b,rfl,hb,rfl⟩
  | _=>exact hq
attribute [simp] intoQ IntoH

def killP (n0:Nat) (S:List Nat) (i:Nat) (p:Place):Place:=if i < n0∨i∈S then p else .dead
def kill (n0:Nat) (S:List Nat) (H:Heap):Heap:=H.mapIdx (killP n0 S)
theorem kill_length {n0:Nat} {S:List Nat} {H:Heap}:(kill n0 S H).length=H.length:=by simp [kill]
theorem kill_get {n0:Nat} {S:List Nat} {H:Heap} {i:Nat}:(kill n0 S H)[i]? = (H[i]?).map (killP n0 S i):=by simp [kill]
theorem kill_keep {n0:Nat} {S:List Nat} {H:Heap} {i:Nat} (h:i < n0∨i∈S):(kill n0 S H)[i]? = H[i]?:=by
  rw [kill_get]
  cases H[i]? with
  | none=>rfl
  | some p=>simp only [Option.map_some,killP];rw [if_pos h]
theorem kill_row {n0:Nat} {S:List Nat} {H:Heap} {i e:Nat} {es:List (List V)} (h:(kill n0 S H)[i]? = some (.row e es)):H[i]? = some (.row e es)∧(i < n0∨i∈S):=by
  rw [kill_get] at h
  cases hp:H[i]? with
  | none=>rw [hp] at h;cases h
  | some p =>
    rw [hp] at h
    simp only [Option.map_some,killP] at h
    split at h
    · rename_i q;exact ⟨h,q⟩
    · cases h
theorem Fin.kill {n0:Nat} (S:List Nat) {H:Heap} {r:V} (h:n0≤H.length):Fin n0 H r (kill n0 S H) r:=by
  intro X w φ v hs hv
  have hown:∀ g,ownOf φ (Go.Proofs.YtcgekblpbheikaaGreatDoor.kill n0 S H) g→ownOf φ H g:=by
    rintro g ⟨id,e,es,o,h1,h2⟩
    exact ⟨id,e,es,o,(kill_row h1).1,h2⟩
  have less:∀ {c:V} {v:Value},VS w (owned X φ H) φ c v→VS w (owned X φ (Go.Proofs.YtcgekblpbheikaaGreatDoor.kill n0 S H)) φ c v:=fun hv =>
    VS.keeps (fun b _ hn=>⟨rfl,fun h'=>hn (h'.imp (fun q=>q) (hown b))⟩) (Sizes.refl w) (Ext.refl φ) _ _ hv
  refine ⟨φ,⟨by rw [kill_length];exact hs.len, ?_,fun g hg=>hs.disj g (hown g hg), ?_⟩,less hv,fun _ _=>rfl,by rw [kill_length];exact h,hown⟩
  · intro i j e es e' es' g o o' hi hj
    exact hs.inj i j e es e' es' g o o' (kill_row hi).1 (kill_row hj).1
  · intro id e es hid
    obtain ⟨g,o,cs,t,r1,r2,r3,r4⟩:=hs.live id e es (kill_row hid).1
    exact ⟨g,o,cs,t,r1,r2,r3,fun i l hl=>⟨(r4 i l hl).1,fun j c hc=>by
      obtain ⟨p1,y,p2,p3⟩:=(r4 i l hl).2 j c hc
      exact ⟨p1,y,p2,less p3⟩⟩⟩

def D.scl2:D→Bool
  | .int .. | .bool _ | .str _ | .undef | .nilp | .nilsl | .nilf | .nili=>true
  | .ro _ n _=>n == 0
  | _=>false
mutual
def V.scl2:V→Bool
  | .d x=>x.scl2
  | .ptr .. | .sl ..=>true
  | .agg l | .tup l | .clo _ l=>sclL2 l
def sclL2:List V→Bool
  | []=>true
  | c :: l=>c.scl2 && sclL2 l
end
def Scl2 (p:Place):Prop:=match p with
  | .row _ es=>∀ l∈es,∀ c∈l,c.scl2=true
  | .dead=>True
mutual
theorem scl2_any {w:World} {own own':Nat→Prop} {φ:List (Nat × Nat)}:∀ (c:V) (v:Value),c.scl2=true→VS w own φ c v→VS w own' φ c v
  | .d x,v,h,hv=>by
    cases x with
    | ro e n f =>
      have h0:n=0:=by simpa [V.scl2,D.scl2] using h
      subst h0
      obtain ⟨A,cap,h1,h2,h3⟩:=hv
      exact ⟨A,cap,h1,h2,fun i j hi=>by omega⟩
    | _=>first | exact hv | simp [V.scl2,D.scl2] at h
  | .agg l,v,h,hv=>by
    obtain ⟨cs,h1,h2⟩:=hv
    exact ⟨cs,h1,sclL2_any l _ (by simpa [V.scl2] using h) h2⟩
  | .tup l,v,h,hv=>by
    obtain ⟨cs,h1,h2⟩:=hv
    exact ⟨cs,h1,sclL2_any l _ (by simpa [V.scl2] using h) h2⟩
  | .clo f l,v,h,hv=>by
    obtain ⟨cs,h1,h2⟩:=hv
    exact ⟨cs,h1,sclL2_any l _ (by simpa [V.scl2] using h) h2⟩
  | .ptr ..,v,_,hv=>hv
  | .sl ..,v,_,hv=>hv
theorem sclL2_any {w:World} {own own':Nat→Prop} {φ:List (Nat × Nat)}:∀ (l:List V) (vs:List Value),sclL2 l=true→VSs w own φ l vs→VSs w own' φ l vs
  | [],vs,_,hv=>hv
  | c :: l,vs,h,hv=>by
    simp only [sclL2,Bool.and_eq_true] at h
    obtain ⟨v,vs',h1,h2,h3⟩:=hv
    exact ⟨v,vs',h1,scl2_any c v h.1 h2,sclL2_any l vs' h.2 h3⟩
end

abbrev deads (n:Nat):Heap:=List.replicate n .dead
theorem deads_row {n i e:Nat} {es:List (List V)}:¬ (deads n)[i]? = some (.row e es):=by
  intro h
  have:=List.mem_of_getElem? h
  simp at this
theorem own_deads {φ:List (Nat × Nat)} {n:Nat}:ownOf φ (deads n)=fun _=>False:=by
  funext g
  apply propext
  constructor
  · rintro ⟨id,e,es,o,h,_⟩;exact deads_row h
  · exact False.elim
theorem CallsD.peekD {P : Program} {f : FuncId} {vs vs' : List V} {H : Heap} {Q : V → Heap → Prop} (h : CallsD P f vs' (deads H.length) Q) (hv : Reads1 H vs vs')
    (hq:∀ r H1,Q r H1→r.scl2=true∧∃ R,H1=deads H.length++R∧∀ p∈R,Scl2 p) :
    CallsD P f vs H fun r H'=>∃ R,Q r (deads H.length++R)∧H'=H++R:=by
  refine ⟨h.1,fun X w φ args hX hs hvs=>?_⟩
  have hl:φ.length=H.length:=hs.len
  have hsd:HS X w φ (deads H.length):=⟨by simp [hl],fun i j e es e' es' g o o' hi=>(deads_row hi).elim,fun g hg=>(by rw [own_deads] at hg;exact hg.elim),fun id e es hid=>(deads_row hid).elim⟩
  have hX0:owned X φ (deads H.length)=X:=by
    funext g
    apply propext
    unfold owned
    rw [own_deads]
    exact ⟨fun q=>q.elim id False.elim,.inl⟩
  have hargs:VSs w (owned X φ (deads H.length)) φ vs' args.toList:=by
    rw [hX0]
    exact VSs.keeps (fun b _ hn=>⟨rfl,hn⟩) (Sizes.refl w) (fun id hid=>absurd hid (by simp)) _ _ (hv X w φ _ hs hvs)
  refine (h.2 X w φ args ⟨hX.low,by rw [hX0];exact hX.tab.less fun g=>.inl⟩ hsd hargs).mono ?_
  rintro e w' ⟨v,r,φ',H1,rfl,hQ,hs',hv',hfr,hext,hlen,hnew⟩
  obtain ⟨hr,R,rfl,hR⟩:=hq r H1 hQ
  rw [own_deads] at hfr hnew
  have hlow:∀ g,ownOf φ H g→g < w.heap.size:=fun g hg=>owned_lt hs hg
  have getH:∀ {i:Nat},i < H.length→φ'[i]? = φ[i]?:=fun hi=>hext _ (by rw [hl];exact hi)
  have split:∀ {i e:Nat} {es:List (List V)},(H++R)[i]? = some (.row e es)→(i < H.length∧H[i]? = some (.row e es))∨(H.length≤i∧(deads H.length++R)[i]? = some (.row e es)):=by
    intro i e es h
    by_cases hi:i < H.length
    · rw [List.getElem?_append_left hi] at h;exact .inl ⟨hi,h⟩
    · rw [List.getElem?_append_right (by omega)] at h
      exact .inr ⟨by omega,by rw [List.getElem?_append_right (by simp;omega),List.length_replicate];exact h⟩
  have two:∀ g,ownOf φ' (H++R) g→ownOf φ H g∨ownOf φ' (deads H.length++R) g:=by
    rintro g ⟨id,e,es,o,h1,h2⟩
    rcases split h1 with ⟨q,h3⟩ | ⟨_,h3⟩
    · exact .inl ⟨id,e,es,o,h3,by rw [← getH q];exact h2⟩
    · exact .inr ⟨id,e,es,o,h3,h2⟩
  have hk:Keeps w (owned X φ H) w' (owned X φ' (H++R)):=fun b hb hn=>⟨hfr.block b hb (fun h=>h),fun hx=>hx.elim (fun q=>hn (.inl q)) (fun ho=>(two b ho).elim (fun q=>hn (.inr q)) (fun q=>hnew b hb q))⟩
  refine ⟨v,r,φ',H++R,rfl,⟨R,hQ,rfl⟩,⟨?_, ?_, ?_, ?_⟩,scl2_any _ _ hr hv', ?_,hext,by simp, ?_⟩
  · rw [hs'.len];simp
  · intro i j e es e' es' g o o' hi hj hgi hgj
    rcases split hi with ⟨a1,a2⟩ | ⟨a1,a2⟩ <;> rcases split hj with ⟨b1,b2⟩ | ⟨b1,b2⟩
    · rw [getH a1] at hgi
      rw [getH b1] at hgj
      exact hs.inj i j e es e' es' g o o' a2 b2 hgi hgj
    · rw [getH a1] at hgi
      exact (hnew g (hlow g ⟨i,e,es,o,a2,hgi⟩) ⟨j,_,_,_,b2,hgj⟩).elim
    · rw [getH b1] at hgj
      exact (hnew g (hlow g ⟨j,e',es',o',b2,hgj⟩) ⟨i,_,_,_,a2,hgi⟩).elim
    · exact hs'.inj i j e es e' es' g o o' a2 b2 hgi hgj
  · intro g hg
    exact (two g hg).elim (hs.disj g) (hs'.disj g)
  · intro id e es hid
    rcases split hid with ⟨a1,a2⟩ | ⟨a1,a2⟩
    · obtain ⟨g,o,cs,t,h1,h2,h3,h4⟩:=hs.live id e es a2
      refine ⟨g,o,cs,t,by rw [getH a1];exact h1,by rw [hfr.block g (Array.getElem?_eq_some_iff.1 h2).1 (fun h=>h)];exact h2,h3,fun i l hil=>⟨(h4 i l hil).1,fun j c hc=>?_⟩⟩
      obtain ⟨h5,y,h6,h7⟩:=(h4 i l hil).2 j c hc
      exact ⟨h5,y,h6,VS.keeps hk hfr.sizes hext _ _ h7⟩
    · obtain ⟨g,o,cs,t,h1,h2,h3,h4⟩:=hs'.live id e es a2
      refine ⟨g,o,cs,t,h1,h2,h3,fun i l hil=>⟨(h4 i l hil).1,fun j c hc=>?_⟩⟩
      obtain ⟨h5,y,h6,h7⟩:=(h4 i l hil).2 j c hc
      have hm:Place.row e es∈R:=by
        rw [List.getElem?_append_right (by simp;omega)] at a2
        exact List.mem_of_getElem? a2
      exact ⟨h5,y,h6,scl2_any _ _ (hR _ hm l (List.mem_of_getElem? hil) c (List.mem_of_getElem? hc)) h7⟩
  · exact ⟨hfr.os,hfr.tape,hfr.output,hfr.size,fun b hb _=>hfr.block b hb (fun h=>h),hfr.sizes⟩
  · intro g hg ho
    exact (two g ho).elim (fun h=>h) (fun h=>(hnew g hg h).elim)

theorem one_int (k:IntKind) (n:Int):V.one (.d (.int k n))=true:=rfl
theorem one_bool (b:Bool):V.one (.d (.bool b))=true:=rfl
theorem one_str (s:ByteArray):V.one (.d (.str s))=true:=rfl
theorem one_nilp :V.one (.d .nilp)=true:=rfl
theorem one_rp (n:Nat) (f:Nat→D):V.one (.d (.rp n f))=true:=rfl
theorem one_nilsl :V.one (.d .nilsl)=true:=rfl
theorem one_ro (e n:Nat) (f:Nat→Nat→D):V.one (.d (.ro e n f))=true:=rfl
theorem one_cl (g n:Nat) (c:Nat→D):V.one (.d (.clo g n c))=true:=rfl
theorem one_nilf :V.one (.d .nilf)=true:=rfl
theorem one_nili :V.one (.d .nili)=true:=rfl
theorem one_ifc (t:TypeId) (x:D):V.one (.d (.iface t x))=true:=rfl
theorem one_ptr (a b c d:Nat):V.one (.ptr a b c d)=true:=rfl
theorem one_sl (a b c d:Nat):V.one (.sl a b c d)=true:=rfl
theorem one_clo (g:FuncId) (l:List V):V.one (.clo g l)=true:=rfl
theorem flat_d (x:D):V.flat (.d x)=[.d x]:=rfl
theorem flat_ptr (a b c d:Nat):V.flat (.ptr a b c d)=[.ptr a b c d]:=rfl
theorem flat_sl (a b c d:Nat):V.flat (.sl a b c d)=[.sl a b c d]:=rfl
theorem flat_clo (g:FuncId) (l:List V):V.flat (.clo g l)=[.clo g l]:=rfl
theorem flat_agg (l:List V):V.flat (.agg l)=l:=rfl
structure AS (α:Type) where
  v:V
  l:List α
instance {α:Type}:Inhabited (AS α):=⟨⟨.d .nilsl,[]⟩⟩
def V.slId:V→Nat
  | .sl id ..=>id
  | _=>0
def AS.id {α:Type} (s:AS α):Nat:=s.v.slId
def SlV (e n:Nat) (v:V):Prop:=v=.sl v.slId e 0 n∨(n=0∧(v=.d .nilsl∨∃ f,v=.d (.ro e 0 f)))
theorem SlV.scl {e n:Nat} {v:V} (h:SlV e n v):v.scl2=true∧v.one=true:=by
  rcases h with h | ⟨rfl,h | ⟨f,h⟩⟩ <;> rw [h] <;> exact ⟨rfl,rfl⟩
theorem SlV.flat {e n:Nat} {v:V} (h:SlV e n v):v.flat=[v]:=by
  rcases h with h | ⟨rfl,h | ⟨f,h⟩⟩ <;> rw [h] <;> rfl
theorem sclL2_mem {l:List V} (h:sclL2 l=true):∀ c∈l,c.scl2=true:=by
  induction l with
  | nil=>intro c hc;exact absurd hc List.not_mem_nil
  | cons d l ih =>
    simp only [sclL2,Bool.and_eq_true] at h
    intro c hc
    rcases List.mem_cons.1 hc with rfl | hc
    · exact h.1
    · exact ih h.2 c hc
class Tr (α:Type) (β:outParam Type) [Enc β] [Dec β] [Inhabited β] where
  cells:α→List V
  pls:α→List (Nat × Place)
  ok:α→Prop
  era:α→β
  len:∀ a,ok a→(cells a).length=Enc.size β
  one:∀ a,ok a→ones (cells a)=true
  dec:∀ (H:Heap) (a:α),ok a→(∀ q∈pls a,H[q.1]? = some q.2)→(Dec.dec (α:=β) H (cells a)).1∧(Dec.dec (α:=β) H (cells a)).2=era a
class TrS (α:Type) {β:Type} [Enc β] [Dec β] [Inhabited β] [Tr α β]:Prop where
  scl:∀ a:α,Tr.ok a→sclL2 (Tr.cells a)=true∧∀ q∈Tr.pls a,Scl2 q.2
open Tr
section
variable {α β:Type} [Enc β] [Dec β] [Inhabited β] [Tr α β]
def ids (a:α):List Nat:=(pls a).map Prod.fst
structure Own (H:Heap) (a:α):Prop where
  ok:Tr.ok a
  at_:∀ q∈pls a,H[q.1]? = some q.2
  nd:(ids a).Nodup
structure Only (S:List Nat) (H H':Heap):Prop where
  len:H.length≤H'.length
  at_:∀ j,j < H.length→j ∉ S→H'[j]? = H[j]?
theorem Only.refl (S:List Nat) (H:Heap):Only S H H:=⟨Nat.le_refl _,fun _ _ _=>rfl⟩
theorem Only.trans {S T U:List Nat} {a b c:Heap} (h:Only S a b) (k:Only T b c) (hs:∀ j∈S,j∈U) (ht:∀ j∈T,j < a.length→j∈U):Only U a c :=
  ⟨Nat.le_trans h.len k.len,fun j hj hn=>by rw [k.at_ j (Nat.lt_of_lt_of_le hj h.len) (fun q=>hn (ht j q hj)),h.at_ j hj (fun q=>hn (hs j q))]⟩
theorem Only.mono {S T:List Nat} {a b:Heap} (h:Only S a b) (hs:∀ j∈S,j∈T):Only T a b:=⟨h.len,fun j hj hn=>h.at_ j hj (fun q=>hn (hs j q))⟩
theorem Only.app (S:List Nat) (H R:Heap):Only S H (H++R):=⟨by simp,fun j hj _=>List.getElem?_append_left hj⟩
theorem Only.set {H:Heap} {id:Nat} {p:Place}:Only [id] H (H.set id p):=⟨by simp,fun j hj hn=>by rw [List.getElem?_set_ne (fun e=>hn (by simp [e]))]⟩
theorem Own.lt {H:Heap} {a:α} (h:Own H a) {j:Nat} (hj:j∈ids a):j < H.length:=by
  obtain ⟨q,hq,rfl⟩:=List.mem_map.1 hj
  exact (List.getElem?_eq_some_iff.1 (h.at_ q hq)).1
theorem Own.frame {H H':Heap} {a:α} (h:Own H a) {S:List Nat} (hS:Only S H H') (hd:∀ j∈ids a,j ∉ S):Own H' a :=
  ⟨h.ok,fun q hq=>by
    have hm:q.1∈ids a:=List.mem_map.2 ⟨q,hq,rfl⟩
    rw [hS.at_ _ (h.lt hm) (hd _ hm)];exact h.at_ q hq,h.nd⟩
theorem Own.dec {H:Heap} {a:α} (h:Own H a):(Dec.dec (α:=β) H (cells a)).1∧(Dec.dec (α:=β) H (cells a)).2=era a:=Tr.dec H a h.ok h.at_
end

instance trInt:Tr Int Int where
  cells n:=[.d (.int .i64 n)]
  pls _:=[]
  ok _:=True
  era n:=n
  len _ _:=rfl
  one _ _:=rfl
  dec H a _ _:=⟨trivial,rfl⟩
instance trBool:Tr Bool Bool where
  cells n:=[.d (.bool n)]
  pls _:=[]
  ok _:=True
  era n:=n
  len _ _:=rfl
  one _ _:=rfl
  dec H a _ _:=⟨trivial,rfl⟩
instance trStr:Tr ByteArray ByteArray where
  cells n:=[.d (.str n)]
  pls _:=[]
  ok _:=True
  era n:=n
  len _ _:=rfl
  one _ _:=rfl
  dec H a _ _:=⟨trivial,rfl⟩
instance:TrS Int:=⟨fun _ _=>⟨rfl,fun q hq=>absurd hq List.not_mem_nil⟩⟩
instance:TrS Bool:=⟨fun _ _=>⟨rfl,fun q hq=>absurd hq List.not_mem_nil⟩⟩
instance:TrS ByteArray:=⟨fun _ _=>⟨rfl,fun q hq=>absurd hq List.not_mem_nil⟩⟩
section
variable {α β:Type} [Enc β] [Dec β] [Inhabited β] [Tr α β]
def plsS (s:AS α):List (Nat × Place):=match s.v with
  | .sl id _ _ _=>(id,.row (Enc.size β) (s.l.map cells)) :: s.l.flatMap pls
  | _=>[]
def okS (s:AS α):Prop:=SlV (Enc.size β) s.l.length s.v∧∀ a∈s.l,ok a
theorem plsS_sl {s:AS α} {id e o n:Nat} (h:s.v=.sl id e o n):plsS s=(id,.row (Enc.size β) (s.l.map cells)) :: s.l.flatMap pls:=by unfold plsS;rw [h]
theorem dec_slice (H:Heap) (s:AS α) (h:okS s) (hp:∀ q∈plsS s,H[q.1]? = some q.2):(Dec.dec (α:=List β) H [s.v]).1∧(Dec.dec (α:=List β) H [s.v]).2=s.l.map era:=by
  obtain ⟨h1,h2⟩:=h
  rcases h1 with h1 | ⟨h0,h1 | ⟨f,h1⟩⟩
  · rw [plsS_sl h1] at hp
    have hrow:=hp _ List.mem_cons_self
    rw [h1,dec_sl]
    simp only [] at hrow
    rw [hrow]
    simp only [List.drop_zero]
    have e1:(s.l.map cells).take s.l.length=s.l.map cells:=List.take_of_length_le (by simp)
    rw [e1]
    have hel:∀ a∈s.l,(Dec.dec (α:=β) H (cells a)).1∧(Dec.dec (α:=β) H (cells a)).2=era a:=fun a ha =>
      Tr.dec H a (h2 a ha) fun q hq=>hp q (List.mem_cons_of_mem _ (List.mem_flatMap.2 ⟨a,ha,hq⟩))
    refine ⟨⟨by simp,by simp,fun r hr=>?_⟩, ?_⟩
    · obtain ⟨a,ha,rfl⟩:=List.mem_map.1 hr
      exact (hel a ha).1
    · rw [List.map_map]
      exact List.map_congr_left fun a ha=>(hel a ha).2
  · have he:s.l=[]:=List.length_eq_zero_iff.1 h0
    rw [h1,he,dec_nilsl]
    exact ⟨trivial,rfl⟩
  · have he:s.l=[]:=List.length_eq_zero_iff.1 h0
    rw [h1,he]
    have:(Enc.un (α:=List β) fun _=>D.ro (Enc.size β) 0 f)=([]:List β):=rfl
    refine ⟨?_,this⟩
    show DLe _ (Enc.cells (Enc.un (α:=List β) fun _=>D.ro (Enc.size β) 0 f) 0)
    rw [this]
    have e2:Enc.cells ([]:List β) 0=D.ro (Enc.size β) 0 (fun i j=>Enc.cells (([]:List β)[i]?.getD default) j):=rfl
    rw [e2]
    simp [DLe]
instance trAS:Tr (AS α) (List β) where
  cells s:=[s.v]
  pls:=plsS
  ok:=okS
  era s:=s.l.map era
  len _ _:=rfl
  one s h:=by show (s.v.one && true)=true;rw [h.1.scl.2];rfl
  dec H s h hp:=dec_slice H s h hp
instance trsAS [TrS α]:TrS (AS α) where
  scl s h := by
    refine ⟨by show (s.v.scl2 && true)=true;rw [(show okS s from h).1.scl.1];rfl,fun q hq=>?_⟩
    replace hq:q∈plsS s:=hq
    unfold plsS at hq
    split at hq
    · rcases List.mem_cons.1 hq with rfl | hq
      · intro l hl c hc
        obtain ⟨a,ha,rfl⟩:=List.mem_map.1 hl
        exact sclL2_mem (TrS.scl a (h.2 a ha)).1 c hc
      · obtain ⟨a,ha,hq⟩:=List.mem_flatMap.1 hq
        exact (TrS.scl a (h.2 a ha)).2 q hq
    · exact absurd hq List.not_mem_nil
end

section
variable {α β:Type} [Enc β] [Dec β] [Inhabited β] [Tr α β]
theorem ids_flat (l:List α):(l.flatMap pls).map Prod.fst=l.flatMap ids:=by
  rw [List.map_flatMap];rfl
structure OwnL (H:Heap) (l:List α):Prop where
  ok:∀ a∈l,Tr.ok a
  at_:∀ q∈l.flatMap pls,H[q.1]? = some q.2
  nd:(l.flatMap ids).Nodup
theorem OwnL.nil {H:Heap}:OwnL H ([]:List α):=⟨fun _ h=>absurd h List.not_mem_nil,fun _ h=>absurd h List.not_mem_nil,List.nodup_nil⟩
theorem OwnL.lt {H:Heap} {l:List α} (h:OwnL H l) {j:Nat} (hj:j∈l.flatMap ids):j < H.length:=by
  rw [← ids_flat] at hj
  obtain ⟨q,hq,rfl⟩:=List.mem_map.1 hj
  exact (List.getElem?_eq_some_iff.1 (h.at_ q hq)).1
theorem OwnL.frame {H H':Heap} {l:List α} (h:OwnL H l) {S:List Nat} (hS:Only S H H') (hd:∀ j∈l.flatMap ids,j ∉ S):OwnL H' l :=
  ⟨h.ok,fun q hq=>by
    have hm:q.1∈l.flatMap ids:=by rw [← ids_flat];exact List.mem_map.2 ⟨q,hq,rfl⟩
    rw [hS.at_ _ (h.lt hm) (hd _ hm)];exact h.at_ q hq,h.nd⟩
theorem OwnL.snoc {H:Heap} {l:List α} {a:α} (h:OwnL H l) (ha:Own H a) (hd:∀ j∈ids a,j ∉ l.flatMap ids):OwnL H (l++[a]):=by
  refine ⟨fun b hb=>?_,fun q hq=>?_, ?_⟩
  · rcases List.mem_append.1 hb with hb | hb
    · exact h.ok b hb
    · rw [List.mem_singleton.1 hb];exact ha.ok
  · rw [List.flatMap_append] at hq
    rcases List.mem_append.1 hq with hq | hq
    · exact h.at_ q hq
    · exact ha.at_ q (by simpa using hq)
  · rw [List.flatMap_append]
    refine List.nodup_append.2 ⟨h.nd,by simpa using ha.nd,fun x hx y hy e=>?_⟩
    subst e
    exact hd x (by simpa using hy) hx
theorem OwnL.get {H:Heap} {l:List α} (h:OwnL H l) {a:α} (ha:a∈l):Own H a:=by
  refine ⟨h.ok a ha,fun q hq=>h.at_ q (List.mem_flatMap.2 ⟨a,ha,hq⟩), ?_⟩
  obtain ⟨p,r,rfl⟩:=List.append_of_mem ha
  have:=h.nd
  rw [List.flatMap_append,List.flatMap_cons] at this
  exact (List.nodup_append.1 (List.nodup_append.1 this).2.1).1
theorem ids_sl {s:AS α} {id e o n:Nat} (h:s.v=.sl id e o n):ids s=id :: s.l.flatMap ids:=by
  show (plsS s).map Prod.fst=_
  rw [plsS_sl h,List.map_cons,ids_flat]
theorem ids_no {s:AS α} (h:okS s) (hv:¬ s.v=.sl s.id (Enc.size β) 0 s.l.length):ids s=[]∧s.l=[]:=by
  rcases h.1 with q | ⟨q,q2⟩
  · exact absurd q hv
  · refine ⟨?_,List.length_eq_zero_iff.1 q⟩
    show (plsS s).map Prod.fst=_
    unfold plsS
    rcases q2 with q2 | ⟨f,q2⟩ <;> rw [q2] <;> rfl
theorem Own.mkS {H:Heap} {id:Nat} {l:List α} (h:OwnL H l) (hr:H[id]? = some (.row (Enc.size β) (l.map cells))) (hn:id ∉ l.flatMap ids):Own H (⟨.sl id (Enc.size β) 0 l.length,l⟩:AS α):=by
  refine ⟨⟨.inl rfl,h.ok⟩,fun q hq=>?_, ?_⟩
  · rcases List.mem_cons.1 (show q∈(id,Place.row (Enc.size β) (l.map cells)) :: l.flatMap pls from hq) with rfl | hq
    · exact hr
    · exact h.at_ q hq
  · rw [ids_sl (s:=(⟨.sl id (Enc.size β) 0 l.length,l⟩:AS α)) rfl]
    exact List.nodup_cons.2 ⟨hn,h.nd⟩
theorem Own.elems {H:Heap} {s:AS α} (h:Own H s):OwnL H s.l:=by
  by_cases hv:s.v=.sl s.id (Enc.size β) 0 s.l.length
  · refine ⟨h.ok.2,fun q hq=>h.at_ q ?_, ?_⟩
    · show q∈plsS s
      rw [plsS_sl hv];exact List.mem_cons_of_mem _ hq
    · have:=h.nd
      rw [ids_sl hv] at this
      exact (List.nodup_cons.1 this).2
  · rw [(ids_no h.ok hv).2];exact OwnL.nil
theorem Own.row {H:Heap} {s:AS α} (h:Own H s) (hi:0 < s.l.length):s.v=.sl s.id (Enc.size β) 0 s.l.length∧H[s.id]? = some (.row (Enc.size β) (s.l.map cells))∧s.id ∉ s.l.flatMap ids∧ids s=s.id :: s.l.flatMap ids:=by
  have hv:s.v=.sl s.id (Enc.size β) 0 s.l.length:=by
    rcases h.ok.1 with q | ⟨q,_⟩
    · exact q
    · omega
  have hid:=ids_sl hv
  refine ⟨hv,h.at_ (s.id,.row (Enc.size β) (s.l.map cells)) ?_, ?_,hid⟩
  · show _∈plsS s
    rw [plsS_sl hv];exact List.mem_cons_self
  · have:=h.nd
    rw [hid] at this
    exact (List.nodup_cons.1 this).1
theorem Own.putS {H H' : Heap} {v : V} {p r : List α} {a a' : α} (h : Own H (⟨v, p ++ a :: r⟩ : AS α)) (ha : Own H' a') (hc : cells a' = cells a) (hi : ids a' = ids a) (ho : Only (ids a) H H') : Own H' (⟨v, p ++ a' :: r⟩ : AS α) ∧ ids (⟨v, p ++ a' :: r⟩ : AS α) = ids (⟨v, p ++ a :: r⟩ : AS α) := by
  obtain ⟨hv,hrow,hn,hid⟩:=h.row (by simp;omega)
  have hE:=h.elems
  have hlen:(p++a' :: r).length=(p++a :: r).length:=by simp
  have hfl:(p++a' :: r).flatMap ids=(p++a :: r).flatMap ids:=by simp [List.flatMap_append,List.flatMap_cons,hi]
  have hmap:(p++a' :: r).map cells=(p++a :: r).map cells:=by simp [hc]
  have hnd:(p.flatMap ids++(ids a++r.flatMap ids)).Nodup:=by have:=hE.nd;simpa [List.flatMap_append,List.flatMap_cons] using this
  have hid':ids (⟨v,p++a' :: r⟩:AS α)=AS.id (⟨v,p++a :: r⟩:AS α) :: (p++a' :: r).flatMap ids:=ids_sl (s:=⟨v,p++a' :: r⟩) hv
  obtain ⟨n1,n2,n3⟩:=List.nodup_append.1 hnd
  obtain ⟨n4,n5,n6⟩:=List.nodup_append.1 n2
  have hrow':H'[AS.id (⟨v,p++a :: r⟩:AS α)]? = some (.row (Enc.size β) ((p++a' :: r).map cells)):=by
    rw [hmap,← hrow]
    refine ho.at_ _ (List.getElem?_eq_some_iff.1 hrow).1 fun q=>hn (List.mem_flatMap.2 ⟨a,by simp,q⟩)
  have hp:OwnL H p:=⟨fun b hb=>hE.ok b (by simp [hb]),fun q hq=>hE.at_ q (by simp only [List.flatMap_append];exact List.mem_append_left _ hq),n1⟩
  have hr:OwnL H r:=⟨fun b hb=>hE.ok b (by simp [hb]),fun q hq=>hE.at_ q (by simp only [List.flatMap_append,List.flatMap_cons];exact List.mem_append_right _ (List.mem_append_right _ hq)),n5⟩
  have hp':=hp.frame ho fun j hj hja=>n3 j hj j (List.mem_append_left _ hja) rfl
  have hr':=hr.frame ho fun j hj hja=>n6 j hja j hj rfl
  refine ⟨⟨⟨?_,fun b hb=>?_⟩,fun q hq=>?_, ?_⟩, ?_⟩
  · have:=h.ok.1
    simp only [] at this ⊢
    rw [hlen];exact this
  · rcases List.mem_append.1 hb with hb | hb
    · exact hp.ok b hb
    · rcases List.mem_cons.1 hb with rfl | hb
      · exact ha.ok
      · exact hr.ok b hb
  · have hq:q∈plsS (⟨v,p++a' :: r⟩:AS α):=hq
    rw [plsS_sl (s:=⟨v,p++a' :: r⟩) hv] at hq
    rcases List.mem_cons.1 hq with rfl | hq
    · exact hrow'
    · simp only [List.flatMap_append,List.flatMap_cons] at hq
      rcases List.mem_append.1 hq with hq | hq
      · exact hp'.at_ q hq
      · rcases List.mem_append.1 hq with hq | hq
        · exact ha.at_ q hq
        · exact hr'.at_ q hq
  · rw [hid',hfl,← hid];exact h.nd
  · rw [hid',hfl,← hid]
end

section
variable {α β:Type} [Enc β] [Dec β] [Inhabited β] [Tr α β]
structure New (H H':Heap) (a:α):Prop where
  own:Own H' a
  only:Only [] H H'
  fresh:∀ j∈ids a,H.length≤j
  clean:∀ i p,H.length≤i→H'[i]? = some p→Scl2 p
theorem New.kill [TrS α] {H0 H : Heap} {a : α} (h : Own H a) (ho : Only [] H0 H) (hf : ∀ j ∈ ids a, H0.length ≤ j) : New H0 (kill H0.length (ids a) H) a := by
  refine ⟨⟨h.ok,fun q hq=>?_,h.nd⟩,⟨by rw [kill_length];exact ho.len,fun j hj hn=>by rw [kill_keep (.inl hj)];exact ho.at_ j hj hn⟩,hf,fun i p hi hp=>?_⟩
  · have hm:q.1∈ids a:=List.mem_map.2 ⟨q,hq,rfl⟩
    rw [kill_keep (.inr hm)];exact h.at_ q hq
  · cases p with
    | dead=>trivial
    | row e es =>
      obtain ⟨h1,h2⟩:=kill_row hp
      rcases h2 with h2 | h2
      · omega
      · obtain ⟨q,hq,rfl⟩:=List.mem_map.1 h2
        have:=h.at_ q hq
        rw [h1] at this
        have e1:Place.row e es=q.2:=Option.some.inj this
        rw [e1]
        exact (TrS.scl a h.ok).2 q hq
theorem fin_new [TrS α] {H0 H:Heap} {a:α} {r:V} {Q:V→Heap→Prop} (h:Own H a) (ho:Only [] H0 H) (hf:∀ j∈ids a,H0.length≤j) (hq:∀ H',New H0 H' a→Q r H'):∃ r' H',Fin H0.length H r H' r'∧Q r' H' :=
  ⟨r,_,Fin.kill (ids a) ho.len,hq _ (New.kill h ho hf)⟩
end

def Rd1 (H:Heap) (x y:V):Prop:=∀ (X:Nat→Prop) (w:World) (φ:List (Nat × Nat)) (v:Value),HS X w φ H→VS w (owned X φ H) φ x v→VS w X [] y v
def Rds (H:Heap):List V→List V→Prop
  | [],[]=>True
  | x :: l,y :: l'=>Rd1 H x y∧Rds H l l'
  | _,_=>False
theorem Rd1.list {H:Heap}:∀ {vs vs':List V},Rds H vs vs'→Reads1 H vs vs'
  | [],[],_=>fun X w φ xs hs hv=>hv
  | x :: vs,y :: vs',h=>by
    intro X w φ xs hs hv
    obtain ⟨v,l,e,q1,q2⟩:=hv
    exact ⟨v,l,e,h.1 X w φ v hs q1,Rd1.list h.2 X w φ l hs q2⟩
theorem Rd1.d {H:Heap} {x:D}:Rd1 H (.d x) (.d x):=fun X w φ v hs hv=>DS.keeps (fun b _ hn=>⟨rfl,fun hx=>hn (.inl hx)⟩) _ _ hv
theorem Rd1.dec {α:Type} [Enc α] [Shaped α] [Dec α] {H:Heap} {x:V} {a:α} (h:(decA (α:=α) H x).1∧(decA (α:=α) H x).2=a):Rd1 H x (argV a):=fun X w φ v hs hv=>by rw [← h.2];exact decA_ok h.1 hs hv
theorem Rd1.slice {α β:Type} [Enc β] [Dec β] [Inhabited β] [Tr α β] {H:Heap} {s:AS α} (h:Own H s):Rd1 H s.v (argV (era s)):=by
  have hd:=h.dec
  rcases h.ok.1 with q | ⟨_,q | ⟨f,q⟩⟩
  all_goals
    refine Rd1.dec ?_
    unfold decA
    have e:cells s=[s.v]:=rfl
    rw [e] at hd
    rw [q] at hd ⊢
    exact ⟨⟨rfl,hd.1⟩,hd.2⟩

section
variable {α β:Type} [Enc β] [Dec β] [Inhabited β] [Tr α β]
def partT (m:List α) (n:Nat) (z:List V):List (List V):=m.map cells++List.replicate (n - m.length) z
theorem partT_nil {n:Nat} {z:List V}:List.replicate n z=partT ([]:List α) n z:=by simp [partT]
theorem partT_set {m:List α} {n:Nat} {z:List V} (a:α) (h:m.length < n):(partT m n z).set m.length (cells a)=partT (m++[a]) n z:=by
  unfold partT
  obtain ⟨k,hk⟩:∃ k,n - m.length=k + 1:=⟨n - m.length - 1,by omega⟩
  rw [hk,List.length_append,List.length_singleton,show n - (m.length + 1)=k by omega,List.replicate_succ,List.set_append_right _ _ (by simp),List.length_map,Nat.sub_self]
  simp
theorem partT_done {m:List α} {n:Nat} {z:List V} (h:m.length=n):partT m n z=m.map cells:=by
  subst h;simp [partT]
end
theorem ownL_ints {H:Heap} (l:List Int):OwnL H l:=by
  have e:∀ l:List Int,l.flatMap (ids (β:=Int))=[]:=fun l=>by induction l with | nil=>rfl | cons a l ih=>rw [List.flatMap_cons,ih];rfl
  have e2:∀ l:List Int,l.flatMap (pls (β:=Int))=[]:=fun l=>by induction l with | nil=>rfl | cons a l ih=>rw [List.flatMap_cons,ih];rfl
  exact ⟨fun _ _=>trivial,fun q hq=>by rw [e2] at hq;exact absurd hq List.not_mem_nil,by rw [e];exact List.nodup_nil⟩
theorem ids_ints (l:List Int):l.flatMap (ids (β:=Int))=[]:=by induction l with | nil=>rfl | cons a l ih=>rw [List.flatMap_cons,ih];rfl
theorem era_ints (l:List Int):l.map (era (β:=Int))=l:=List.map_id' l

theorem Only.tail {H H':Heap} (h:Only [] H H'):∃ R,H'=H++R:=by
  refine ⟨H'.drop H.length,List.ext_getElem? fun i=>?_⟩
  by_cases hi:i < H.length
  · rw [List.getElem?_append_left hi];exact h.at_ i hi List.not_mem_nil
  · rw [List.getElem?_append_right (by omega),List.getElem?_drop];congr 1;omega
theorem only_mid {H R R2:Heap} {p p':Place}:Only [H.length] (H++p :: R) (H++p' :: (R++R2)):=by
  refine ⟨by simp,fun j hj hn=>?_⟩
  by_cases h:j < H.length
  · rw [List.getElem?_append_left h,List.getElem?_append_left h]
  · have:j ≠ H.length:=fun e=>hn (by simp [e])
    obtain ⟨k,rfl⟩:∃ k,j=H.length + (k + 1):=⟨j - H.length - 1,by omega⟩
    rw [List.getElem?_append_right (by omega),List.getElem?_append_right (by omega),Nat.add_sub_cancel_left]
    simp only [List.getElem?_cons_succ]
    rw [List.getElem?_append_left]
    simp at hj;omega
section
variable {α β:Type} [Enc β] [Dec β] [Inhabited β] [Tr α β]
theorem Own.same {H H':Heap} {a:α} (h:Own H a) (he:∀ j∈ids a,j < H.length→H'[j]? = H[j]?):Own H' a :=
  ⟨h.ok,fun q hq=>by
    have hm:q.1∈ids a:=List.mem_map.2 ⟨q,hq,rfl⟩
    rw [he _ hm (h.lt hm)];exact h.at_ q hq,h.nd⟩
theorem Own.behind {P Q R:Heap} (R':Heap) {a:α} (h:Own (P++R) a) (hf:∀ j∈ids a,P.length≤j) (hl:P.length=Q.length):Own (Q++(R++R')) a :=
  h.same fun j hj hlt=>by
    have:=hf j hj
    rw [List.getElem?_append_right (by omega),List.getElem?_append_right this,List.getElem?_append_left (by simp at hlt;omega),hl]
theorem OwnL.same {H H':Heap} {l:List α} (h:OwnL H l) (he:∀ j∈l.flatMap ids,j < H.length→H'[j]? = H[j]?):OwnL H' l :=
  ⟨h.ok,fun q hq=>by
    have hm:q.1∈l.flatMap ids:=by rw [← ids_flat];exact List.mem_map.2 ⟨q,hq,rfl⟩
    rw [he _ hm (h.lt hm)];exact h.at_ q hq,h.nd⟩
end

theorem take_snocD {α:Type} [Inhabited α] {l:List α} {i:Nat} (h:i < l.length):l.take (i + 1)=l.take i++[l[i]?.getD default]:=by
  rw [List.take_succ_eq_append_getElem h,List.getElem?_eq_getElem h];rfl
section
variable {α β γ:Type} [Enc β] [Dec β] [Inhabited β] [Tr α β]
structure Fill (H:Heap) (l:List γ) (z:List V) (g:γ→β) (m:List α) (R:Heap):Prop where
  le:m.length≤l.length
  own:OwnL (H++Place.row (Enc.size β) (partT m l.length z) :: R) m
  ge:∀ j∈m.flatMap ids,H.length < j
  era:m.map Tr.era=(l.take m.length).map g
theorem Fill.nil {H:Heap} {l:List γ} {z:List V} {g:γ→β}:Fill H l z g ([]:List α) []:=⟨Nat.zero_le _,OwnL.nil,fun j hj=>absurd hj List.not_mem_nil,rfl⟩
theorem Fill.step' [Inhabited γ] {H:Heap} {l:List γ} {m:List α} {R R2:Heap} {z:List V} {a:α} {g:γ→β} (k:Fill H l z g m R) (h:m.length < l.length)
    (ho:Own (H++Place.row (Enc.size β) (partT m l.length z) :: R++R2) a) (hf:∀ j∈ids a,(H++Place.row (Enc.size β) (partT m l.length z) :: R).length≤j) (he:Tr.era a=g (l[m.length]?.getD default)):Fill H l z g (m++[a]) (R++R2):=by
  obtain ⟨hl,hO,hge,hm⟩:=k
  have h1:=hO.frame (only_mid (R2:=R2) (p':=Place.row (Enc.size β) (partT (m++[a]) l.length z))) fun j hj hx=>by
    have:=hge j hj
    rw [List.mem_singleton.1 hx] at this;omega
  have h2:Own (H++Place.row (Enc.size β) (partT (m++[a]) l.length z) :: (R++R2)) a:=ho.same fun j hj hlt=>by
    have:=hf j hj
    simp only [List.length_append,List.length_cons] at this
    obtain ⟨k,rfl⟩:∃ k,j=H.length + (k + 1):=⟨j - H.length - 1,by omega⟩
    rw [List.append_assoc,List.getElem?_append_right (by omega),List.getElem?_append_right (by omega),Nat.add_sub_cancel_left]
    rfl
  refine ⟨by simp;omega,h1.snoc h2 fun j hj hx=>?_,fun j hj=>?_, ?_⟩
  · have a1:=hf j hj
    have a2:=hO.lt hx
    omega
  · rw [List.flatMap_append] at hj
    rcases List.mem_append.1 hj with q | q
    · exact hge j q
    · have:=hf j (by simpa using q)
      simp only [List.length_append,List.length_cons] at this
      omega
  · rw [List.map_append,hm,List.length_append,List.length_singleton,take_snocD h,List.map_append]
    simp [he]
theorem Fill.step [Inhabited γ] {H:Heap} {l:List γ} {m:List α} {R R2:Heap} {z:List V} {a:α} {g:γ→β} (k:Fill H l z g m R) (h:m.length < l.length)
    (hn:New (H++Place.row (Enc.size β) (partT m l.length z) :: R) (H++Place.row (Enc.size β) (partT m l.length z) :: R++R2) a) (he:Tr.era a=g (l[m.length]?.getD default)):Fill H l z g (m++[a]) (R++R2) :=
  k.step' h hn.own hn.fresh he
theorem Fill.done [TrS α] {H:Heap} {l:List γ} {m:List α} {R:Heap} {z:List V} {g:γ→β} {Q:V→Heap→Prop} (k:Fill H l z g m R) (h:l.length≤m.length)
    (hQ:∀ (s:AS α) H',s.v=.sl H.length (Enc.size β) 0 l.length→s.l.map Tr.era=l.map g→New H H' s→Q s.v H'):∃ r' H',Fin H.length (H++Place.row (Enc.size β) (partT m l.length z) :: R) (.sl H.length (Enc.size β) 0 l.length) H' r'∧Q r' H':=by
  obtain ⟨hl,hO,hge,hm⟩:=k
  have h:m.length=l.length:=Nat.le_antisymm hl h
  have key:=fun H' (h':New H H' (⟨.sl H.length (Enc.size β) 0 m.length,m⟩:AS α))=>hQ ⟨.sl H.length (Enc.size β) 0 m.length,m⟩ H' (by rw [h]) (by rw [hm,h,List.take_length]) h'
  rw [show (V.sl H.length (Enc.size β) 0 l.length)=(⟨.sl H.length (Enc.size β) 0 m.length,m⟩:AS α).v by rw [h]]
  refine fin_new (a:=(⟨.sl H.length (Enc.size β) 0 m.length,m⟩:AS α)) (Own.mkS hO ?_ fun q=>?_) (Only.app _ _ _) (fun j hj=>?_) key
  · rw [List.getElem?_append_right (Nat.le_refl _),Nat.sub_self,List.getElem?_cons_zero,partT_done h]
  · have:=hge _ q;omega
  · rw [ids_sl (s:=(⟨.sl H.length (Enc.size β) 0 m.length,m⟩:AS α)) rfl] at hj
    rcases List.mem_cons.1 hj with rfl | q
    · exact Nat.le_refl _
    · have:=hge _ q;omega
end

def mkL {β:Type} (f:β→Int→β × Int):List β→Int→List β × Int
  | [],k=>([],k)
  | x :: l,k=>((f x k).1 :: (mkL f l (f x k).2).1,(mkL f l (f x k).2).2)
theorem mkL_append {β:Type} (f:β→Int→β × Int):∀ (l r:List β) (k:Int),mkL f (l++r) k=((mkL f l k).1++(mkL f r (mkL f l k).2).1,(mkL f r (mkL f l k).2).2)
  | [],r,k=>rfl
  | x :: l,r,k=>by simp only [List.cons_append,mkL,mkL_append f l r]
section
variable {α β:Type} [Enc β] [Dec β] [Inhabited β] [Tr α β]
def rowL (m:List α) (a:α) (r:List α):List (List V):=(m++a :: r).map cells
structure Mk (f:β→Int→β × Int) (H0:Heap) (s:AS α) (k0:Int) (m l:List α) (k:Int) (H:Heap):Prop where
  own:Own H (⟨s.v,m++l⟩:AS α)
  len:H.length=H0.length
  ids:ids (⟨s.v,m++l⟩:AS α)=ids s
  only:Only (Go.Proofs.YtcgekblpbheikaaGreatDoor.ids s) H0 H
  left:l=s.l.drop m.length
  le:m.length≤s.l.length
  era:mkL f ((s.l.take m.length).map Tr.era) k0=(m.map Tr.era,k)
theorem Mk.nil {f:β→Int→β × Int} {H:Heap} {s:AS α} {k:Int} (h:Own H s):Mk f H s k [] s.l k H:=⟨h,rfl,rfl,Only.refl _ _,rfl,Nat.zero_le _,rfl⟩
theorem Mk.lt {f:β→Int→β × Int} {H0 H:Heap} {s:AS α} {k0 k:Int} {m l:List α} {a:α} (h:Mk f H0 s k0 m (a :: l) k H):m.length < s.l.length:=by
  have:=congrArg List.length h.left
  simp only [List.length_drop,List.length_cons] at this
  omega
theorem Mk.ge {f:β→Int→β × Int} {H0 H:Heap} {s:AS α} {k0 k:Int} {m:List α} (h:Mk f H0 s k0 m [] k H):s.l.length≤m.length:=by
  have:=congrArg List.length h.left
  simp only [List.length_drop,List.length_nil] at this
  omega
theorem Mk.row {f:β→Int→β × Int} {H0 H:Heap} {s:AS α} {k0 k:Int} {m l:List α} {a:α} (h:Mk f H0 s k0 m (a :: l) k H):H[s.id]? = some (.row (Enc.size β) (rowL m a l))∧s.id < H.length∧s.id∈Go.Proofs.YtcgekblpbheikaaGreatDoor.ids s:=by
  obtain ⟨q1,q2,q3,q4⟩:=h.own.row (by simp;omega)
  have hi:=h.ids
  rw [q4] at hi
  refine ⟨q2,(List.getElem?_eq_some_iff.1 q2).1, ?_⟩
  rw [← hi];exact List.mem_cons_self
theorem Mk.sub {f:β→Int→β × Int} {H0 H:Heap} {s:AS α} {k0 k:Int} {m l:List α} {a:α} (h:Mk f H0 s k0 m (a :: l) k H):∀ j∈Go.Proofs.YtcgekblpbheikaaGreatDoor.ids a,j∈Go.Proofs.YtcgekblpbheikaaGreatDoor.ids s:=by
  obtain ⟨q1,q2,q3,q4⟩:=h.own.row (by simp;omega)
  have hi:=h.ids
  rw [q4] at hi
  intro j hj
  rw [← hi]
  exact List.mem_cons_of_mem _ (List.mem_flatMap.2 ⟨a,by simp,hj⟩)
structure Made (H H':Heap) (a a':α):Prop where
  own:Own H' a'
  len:H'.length=H.length
  cells:Tr.cells a'=Tr.cells a
  ids:ids a'=ids a
  only:Only (Go.Proofs.YtcgekblpbheikaaGreatDoor.ids a) H H'
theorem Mk.done {f:β→Int→β × Int} {H0 H:Heap} {s:AS α} {k0 k:Int} {m l:List α} (h:Mk f H0 s k0 m l k H) (hm:s.l.length≤m.length):Made H0 H s ⟨s.v,m⟩∧(m.map Tr.era,k)=mkL f (Tr.era s) k0:=by
  have e:m.length=s.l.length:=Nat.le_antisymm h.le hm
  have hl:l=[]:=by rw [h.left,e,List.drop_length]
  subst hl
  have ho:=h.own
  have hi:=h.ids
  rw [List.append_nil] at ho hi
  refine ⟨⟨ho,h.len,rfl,hi,h.only⟩, ?_⟩
  rw [← h.era,e,List.take_length];rfl
theorem Made.refl {H:Heap} {a:α} (h:Own H a):Made H H a a:=⟨h,rfl,rfl,rfl,Only.refl _ _⟩
structure Wk (s:AS α) (H0:Heap) (m l:List α) (H:Heap) (b:α):Prop where
  own:Own H (⟨s.v,m++b :: l⟩:AS α)
  len:H.length=H0.length
  ids:ids (⟨s.v,m++b :: l⟩:AS α)=ids s
  only:Only (Go.Proofs.YtcgekblpbheikaaGreatDoor.ids s) H0 H
theorem Wk.row {s:AS α} {H0 H:Heap} {m l:List α} {b:α} (h:Wk s H0 m l H b):H[s.id]? = some (.row (Enc.size β) (rowL m b l))∧s.id < H.length∧s.id∈Go.Proofs.YtcgekblpbheikaaGreatDoor.ids s:=by
  obtain ⟨q1,q2,q3,q4⟩:=h.own.row (by simp;omega)
  have hi:=h.ids
  rw [q4] at hi
  refine ⟨q2,(List.getElem?_eq_some_iff.1 q2).1, ?_⟩
  rw [← hi];exact List.mem_cons_self
theorem Wk.sub {s:AS α} {H0 H:Heap} {m l:List α} {b:α} (h:Wk s H0 m l H b):∀ j∈Go.Proofs.YtcgekblpbheikaaGreatDoor.ids b,j∈Go.Proofs.YtcgekblpbheikaaGreatDoor.ids s:=by
  obtain ⟨q1,q2,q3,q4⟩:=h.own.row (by simp;omega)
  have hi:=h.ids
  rw [q4] at hi
  intro j hj
  rw [← hi]
  exact List.mem_cons_of_mem _ (List.mem_flatMap.2 ⟨b,by simp,hj⟩)
theorem Wk.call {s:AS α} {H0 H H':Heap} {m l:List α} {b b':α} (h:Wk s H0 m l H b) (hm:Made H H' b b'):Wk s H0 m l H' b':=by
  obtain ⟨o1,o2⟩:=h.own.putS hm.own hm.cells hm.ids hm.only
  exact ⟨o1,hm.len.trans h.len,o2.trans h.ids,h.only.trans hm.only (fun j hj=>hj) fun j hj _=>h.sub j hj⟩
theorem Mk.close {f : β → Int → β × Int} {H0 H H' : Heap} {s : AS α} {k0 k : Int} {m l : List α} {a b : α} (h : Mk f H0 s k0 m (a :: l) k H) (w : Wk s H0 m l H' b) (he : Tr.era b = (f (Tr.era a) k).1) : Mk f H0 s k0 (m ++ [b]) l (f (Tr.era a) k).2 H' := by
  have e:m++[b]++l=m++b :: l:=by simp
  have hd:s.l.drop m.length=a :: l:=h.left.symm
  have hlt:=h.lt
  refine ⟨by rw [e];exact w.own,w.len,by rw [e,w.ids],w.only, ?_,by simp;omega, ?_⟩
  · rw [List.length_append,List.length_singleton,← List.drop_drop,hd];rfl
  · have ht:s.l.take (m++[b]).length=s.l.take m.length++[a]:=by
      rw [List.length_append,List.length_singleton,List.take_succ_eq_append_getElem hlt]
      have:s.l[m.length]=a:=by
        have:=congrArg (fun l=>l[0]?) hd
        simp only [List.getElem?_drop,Nat.add_zero,List.getElem?_cons_zero,List.getElem?_eq_getElem hlt] at this
        exact Option.some.inj this
      rw [this]
    rw [ht,List.map_append,mkL_append,h.era]
    simp [mkL,he]
end

section
variable {α β:Type} [Enc β] [Dec β] [Inhabited β] [Tr α β]
theorem New.land {H R:Heap} {a:α} (h:New (deads H.length) (deads H.length++R) a):New H (H++R) a:=by
  have hl:(deads H.length).length=H.length:=by simp
  refine ⟨by have:=h.own.behind (Q:=H) [] h.fresh hl;rwa [List.append_nil] at this,Only.app _ _ _,fun j hj=>by have:=h.fresh j hj;omega,fun i p hi hp=>h.clean i p (by omega) ?_⟩
  rw [List.getElem?_append_right hi] at hp
  rw [List.getElem?_append_right (by omega),hl]
  exact hp
theorem CallsD.peekN {P:Program} {f:FuncId} {vs vs':List V} {H:Heap} {T:V→α→Prop} (h:CallsD P f vs' (deads H.length) fun r H'=>∃ a,T r a∧New (deads H.length) H' a) (hv:Reads1 H vs vs')
    (hr:∀ r a,Tr.ok a→T r a→r.scl2=true):CallsD P f vs H fun r H'=>∃ a,T r a∧New H H' a:=by
  refine (CallsD.peekD h hv ?_).mono ?_
  · rintro r H1 ⟨a,h1,h2⟩
    obtain ⟨R,rfl⟩:=h2.only.tail
    refine ⟨hr r a h2.own.ok h1,R,rfl,fun p hp=>?_⟩
    obtain ⟨i,hi⟩:=List.getElem?_of_mem hp
    exact h2.clean ((deads H.length).length + i) p (by omega) (by rw [List.getElem?_append_right (by omega),Nat.add_sub_cancel_left];exact hi)
  · rintro r H' ⟨R,⟨a,h1,h2⟩,rfl⟩
    exact ⟨a,h1,h2.land⟩
end
theorem decA_int {H:Heap} {n:Int}:decA (α:=Int) H (.d (.int .i64 n))=(True,n):=Prod.ext (eq_true ⟨rfl,trivial⟩) rfl
theorem decA_bool {H:Heap} {n:Bool}:decA (α:=Bool) H (.d (.bool n))=(True,n):=Prod.ext (eq_true ⟨rfl,trivial⟩) rfl
theorem decA_str {H:Heap} {n:ByteArray}:decA (α:=ByteArray) H (.d (.str n))=(True,n):=Prod.ext (eq_true ⟨rfl,trivial⟩) rfl
theorem PureP.of_own {P:Program} {f:FuncId} {vs:List V} {r0:V} (h:CallsD P f vs [] fun r H'=>Rd1 H' r r0):PureP P f vs (· = r0):=by
  refine ⟨h.1,fun X w φ args hX hs hv=>(h.2 X w φ args hX hs hv).mono ?_⟩
  rintro e w' ⟨v,r,φ',H',rfl,hq,hs',hv',hfr,hext,hlen,hnew⟩
  have hφ:φ=[]:=List.length_eq_zero_iff.1 hs.len
  subst hφ
  have ho:owned X [] []=X:=owned_nil X
  refine ⟨v,r0,[],[],rfl,⟨rfl,rfl⟩,HS.nil _ _,by rw [ho];exact hq X w' φ' v hs' hv',hfr,fun id hid=>absurd hid (by simp),Nat.le_refl _, ?_⟩
  rintro g hg ⟨id,e,es,o,h1,_⟩
  simp at h1
section
variable {α β:Type} [Enc β] [Dec β] [Inhabited β] [Tr α β]
end

section
variable {α β γ:Type} [Enc β] [Dec β] [Inhabited β] [Tr α β]
structure Fl (id:Nat) (l:List γ) (z:List V) (g:γ→β) (m:List α) (H:Heap):Prop where
  le:m.length≤l.length
  row:H[id]? = some (.row (Enc.size β) (partT m l.length z))
  own:OwnL H m
  ge:∀ j∈m.flatMap ids,id < j
  era:m.map Tr.era=(l.take m.length).map g
theorem Fl.lt {id:Nat} {l:List γ} {z:List V} {g:γ→β} {m:List α} {H:Heap} (k:Fl id l z g m H):id < H.length:=(List.getElem?_eq_some_iff.1 k.row).1
theorem Fl.nil {id:Nat} {l:List γ} {z:List V} {g:γ→β} {H:Heap} (h:H[id]? = some (.row (Enc.size β) (List.replicate l.length z))):Fl id l z g ([]:List α) H :=
  ⟨Nat.zero_le _,by rw [h,partT_nil (α:=α)],OwnL.nil,fun j hj=>absurd hj List.not_mem_nil,rfl⟩
theorem Fl.frame {id:Nat} {l:List γ} {z:List V} {g:γ→β} {m:List α} {H H':Heap} {S:List Nat} (k:Fl id l z g m H) (ho:Only S H H') (h1:id ∉ S) (h2:∀ j∈m.flatMap ids,j ∉ S):Fl id l z g m H' :=
  ⟨k.le,(ho.at_ id k.lt h1).trans k.row,k.own.frame ho h2,k.ge,k.era⟩
theorem Fl.step [Inhabited γ] {id:Nat} {l:List γ} {z:List V} {g:γ→β} {m:List α} {H:Heap} {a:α} (k:Fl id l z g m H) (h:m.length < l.length) (ha:Own H a) (hi:∀ j∈ids a,id < j∧j ∉ m.flatMap ids) (he:Tr.era a=g (l[m.length]?.getD default)) :
    Fl id l z g (m++[a]) (H.set id (.row (Enc.size β) (partT (m++[a]) l.length z))):=by
  have ho:Only [id] H (H.set id (.row (Enc.size β) (partT (m++[a]) l.length z))):=Only.set
  refine ⟨by simp;omega,List.getElem?_set_self k.lt,(k.own.snoc ha fun j hj=>(hi j hj).2).frame ho fun j hj hx=>?_,fun j hj=>?_, ?_⟩
  · rw [List.mem_singleton.1 hx,List.flatMap_append] at hj
    rcases List.mem_append.1 hj with q | q
    · exact Nat.lt_irrefl _ (k.ge _ q)
    · exact Nat.lt_irrefl _ (hi _ (by simpa using q)).1
  · rw [List.flatMap_append] at hj
    rcases List.mem_append.1 hj with q | q
    · exact k.ge j q
    · exact (hi j (by simpa using q)).1
  · rw [List.map_append,k.era,List.length_append,List.length_singleton,take_snocD h,List.map_append]
    simp [he]
theorem Fl.done {id:Nat} {l:List γ} {z:List V} {g:γ→β} {m:List α} {H:Heap} (k:Fl id l z g m H) (h:l.length≤m.length):Own H (⟨.sl id (Enc.size β) 0 l.length,m⟩:AS α)∧m.map Tr.era=l.map g∧ids (⟨.sl id (Enc.size β) 0 l.length,m⟩:AS α)=id :: m.flatMap ids:=by
  have e:m.length=l.length:=Nat.le_antisymm k.le h
  have hr:=k.row
  rw [partT_done e] at hr
  refine ⟨by rw [← e];exact Own.mkS k.own hr fun q=>Nat.lt_irrefl _ (k.ge _ q),by rw [k.era,e,List.take_length],ids_sl rfl⟩
end
end Go.Proofs.YtcgekblpbheikaaGreatDoor
