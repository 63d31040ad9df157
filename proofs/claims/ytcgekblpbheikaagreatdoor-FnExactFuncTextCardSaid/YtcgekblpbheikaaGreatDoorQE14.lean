/- A thing beside the places, part 2: places are cut off or handed over; pieces of a code one behind another; a call that is walked so. No condition. -/
import Derived.Test.YtcgekblpbheikaaGreatDoorQE13
namespace Go.Proofs.YtcgekblpbheikaaGreatDoor
set_option linter.unusedVariables false
set_option linter.unusedSimpArgs false
theorem cut_own {s:St} {l:List (Nat × V)} {H:Heap} {n0:Nat} (h:Into n0 s l H) {φ:List (Nat × Nat)} {g:Nat} (ho:ownOf (φ.take H.length) H g):ownOf φ s.H g:=by
  obtain ⟨id,e,es,o,q1,q2⟩:=ho
  have hid:=(List.getElem?_eq_some_iff.1 q1).1
  rw [take_φ hid] at q2
  have:=congrArg (fun l=>l[id]?) h.2.1
  simp only [List.getElem?_take,if_pos hid] at this
  exact ⟨id,e,es,o,by rw [this];exact q1,q2⟩
theorem cutS {x:Ctx} {N n0:Nat} {s:St} {φ:List (Nat × Nat)} {a:Act} {w:World} {l:List (Nat × V)} {H:Heap} (hs:Sim x N s φ a w) (h:Into n0 s l H) :
    Sim ⟨x.X,w,φ.take H.length,H⟩ N ⟨mk l,H⟩ (φ.take H.length) a w:=by
  have hown:∀ g,ownOf (φ.take H.length) H g→ownOf φ s.H g:=fun g ho=>cut_own h ho
  obtain ⟨h1,h2,h3,h4⟩:=h
  have hle:H.length≤s.H.length:=by
    have:=congrArg List.length h2
    rw [List.length_take] at this
    omega
  have hget:∀ id,id < H.length→s.H[id]? = H[id]?:=fun id hid=>by
    have:=congrArg (fun l=>l[id]?) h2
    simp only [List.getElem?_take,if_pos hid] at this
    exact this
  have less:∀ {c:V} {v:Value},VS w (owned x.X φ s.H) φ c v→VS w (owned x.X (φ.take H.length) H) φ c v:=fun hv =>
    VS.keeps (fun b _ hn=>⟨rfl,fun h'=>hn (h'.imp (fun q=>q) (hown b))⟩) (Sizes.refl w) (Ext.refl φ) _ _ hv
  have hlen:(φ.take H.length).length=H.length:=by rw [List.length_take,hs.hs.len];omega
  refine ⟨⟨hlen, ?_,fun g hg=>hs.hs.disj g (hown g hg), ?_⟩, ?_,⟨hs.lo.low,hs.lo.tab.less fun g q=>q.imp (fun q=>q) (hown g)⟩,hs.defers,hs.size,Fr.refl w _,fun g _ q=>q,Ext.refl _,Nat.le_refl _,hlen⟩
  · intro i j e es e' es' g o o' hi hj hgi hgj
    have li:=(List.getElem?_eq_some_iff.1 hi).1
    have lj:=(List.getElem?_eq_some_iff.1 hj).1
    rw [take_φ li] at hgi
    rw [take_φ lj] at hgj
    exact hs.hs.inj i j e es e' es' g o o' (by rw [hget i li];exact hi) (by rw [hget j lj];exact hj) hgi hgj
  · intro id e es hid
    have hl:=(List.getElem?_eq_some_iff.1 hid).1
    obtain ⟨g,o,cs,t,r1,r2,r3,r4⟩:=hs.hs.live id e es (by rw [hget id hl];exact hid)
    refine ⟨g,o,cs,t,by rw [take_φ hl];exact r1,r2,r3,fun i m hm=>⟨(r4 i m hm).1,fun j c hc=>?_⟩⟩
    obtain ⟨ho,y,hy,hv⟩:=(r4 i m hm).2 j c hc
    refine ⟨ho,y,hy,below_take _ _ ?_ (less hv)⟩
    have:=placesBelow_get h3 hid
    simp only [placeBelow,List.all_eq_true] at this
    exact this m (List.mem_of_getElem? hm) c (List.mem_of_getElem? hc)
  · intro t
    show VS w (owned x.X (φ.take H.length) H) (φ.take H.length) (mk l t) _
    rcases intoE_mk l h4 t with h | ⟨h,hb⟩
    · rw [h];simp [VS,DS]
    · refine below_take _ _ hb (less ?_)
      rw [h]
      exact hs.env t
theorem Sim.from0 {X:Nat→Prop} {N:Nat} {s s':St} {φ φ':List (Nat × Nat)} {a a':Act} {w0 w w':World} (h:Sim ⟨X,w0,[],[]⟩ N s φ a w) (k:Sim ⟨X,w,φ,s.H⟩ N s' φ' a' w'):Sim ⟨X,w0,[],[]⟩ N s' φ' a' w' :=
  ⟨k.hs,k.env,h.low,k.defers,k.size,Fr.trans h.fr k.fr fun g hg ho=>h.old g hg ho,fun g hg ho=>h.old g hg (k.old g (Nat.lt_of_lt_of_le hg h.fr.size) ho),fun i hi=>absurd hi (by simp),Nat.zero_le _,rfl⟩
theorem Sim.own0 {X:Nat→Prop} {N:Nat} {s:St} {φ:List (Nat × Nat)} {a:Act} {w0 w:World} (h:Sim ⟨X,w0,[],[]⟩ N s φ a w) {g:Nat} (ho:ownOf φ s.H g):w0.heap.size≤g:=by
  rcases Nat.lt_or_ge g w0.heap.size with q | q
  · obtain ⟨id,e,es,o,h1,_⟩:=h.old g q ho
    simp at h1
  · exact q
theorem Sim.below0 {X:Nat→Prop} {N:Nat} {s:St} {φ:List (Nat × Nat)} {a:Act} {w0 w:World} (h:Sim ⟨X,w0,[],[]⟩ N s φ a w):Go.RowKit.Below w0.heap.size w0 w :=
  ⟨h.fr.os,h.fr.tape,h.fr.output,h.fr.size,fun g hg=>h.fr.block g hg fun ⟨id,e,es,o,h1,_⟩=>by simp at h1⟩
theorem Sim.piece {P:Program} {X:Nat→Prop} {w0:World} {N:Nat} {c d:Code} {Q:Exit→Act→World→Prop} {s:St} {φ:List (Nat × Nat)} {a:Act} {w:World} (l:List (Nat × V)) (H:Heap) (hs:Sim ⟨X,w0,[],[]⟩ N s φ a w)
    (h:W P N 0 c (seqQ (fun s'=>Into 0 s' l H) fun _ _=>False) s) (g:∀ φ a w,Sim ⟨X,w0,[],[]⟩ N ⟨Go.Proofs.YtcgekblpbheikaaGreatDoor.mk l,H⟩ φ a w→d.wp P Q a w):(Code.seq c d).wp P Q a w:=by
  refine wp_seq (wp_mono (h _ φ a w rfl hs) ?_)
  rintro e a' w' ⟨s',φ',q,r⟩
  cases e with
  | normal =>
    obtain ⟨φ'',r'⟩:=Into.weak q ⟨X,w0,[],[]⟩ N φ' a' w' rfl r
    exact g _ _ _ r'
  | _=>exact q.elim
theorem Sim.give {x:Ctx} {N:Nat} {env:Env} {H:Heap} {φ:List (Nat × Nat)} {a:Act} {w:World} (h:Sim x N ⟨env,H⟩ φ a w) {id e b o:Nat} {es:List (List V)} (hid:H[id]? = some (.row e es)) (hφ:φ[id]? = some (b,o)) :
    Sim ⟨fun g=>x.X g∨g=b,w,φ,H.set id .dead⟩ N ⟨env,H.set id .dead⟩ φ a w:=by
  have hl:=(List.getElem?_eq_some_iff.1 hid).1
  have get:∀ {k e1:Nat} {es1:List (List V)},(H.set id .dead)[k]? = some (.row e1 es1)→k ≠ id∧H[k]? = some (.row e1 es1):=by
    intro k e1 es1 hk
    by_cases hkid:k=id
    · subst hkid
      simp [hl] at hk
    · rw [List.getElem?_set_ne (fun h=>hkid h.symm)] at hk
      exact ⟨hkid,hk⟩
  have hbo:ownOf φ H b:=⟨id,e,es,o,hid,hφ⟩
  have hown:∀ {g},ownOf φ (H.set id .dead) g→ownOf φ H g∧g ≠ b:=by
    rintro g ⟨k,e1,es1,o1,h1,h2⟩
    obtain ⟨hk,h1⟩:=get h1
    refine ⟨⟨k,e1,es1,o1,h1,h2⟩,fun e2=>?_⟩
    subst e2
    exact hk (h.hs.inj k id e1 es1 e es g o1 o h1 hid h2 hφ)
  have hless:∀ g,owned (fun g=>x.X g∨g=b) φ (H.set id .dead) g→owned x.X φ H g:=by
    rintro g ((q | rfl) | q)
    · exact .inl q
    · exact .inr hbo
    · exact .inr (hown q).1
  have less:∀ {c:V} {v:Value},VS w (owned x.X φ H) φ c v→VS w (owned (fun g=>x.X g∨g=b) φ (H.set id .dead)) φ c v:=fun hv =>
    VS.keeps (fun k _ hn=>⟨rfl,fun h'=>hn (hless k h')⟩) (Sizes.refl w) (Ext.refl φ) _ _ hv
  refine ⟨⟨by show φ.length=_;rw [List.length_set];exact h.hs.len, ?_,fun g ho q=>?_, ?_⟩,fun t=>less (h.env t),⟨fun g q=>?_,h.lo.tab.less hless⟩,h.defers,h.size,Fr.refl w _,fun g _ q=>q,Ext.refl _,Nat.le_refl _,by show φ.length=_;rw [List.length_set];exact h.hs.len⟩
  · intro i j e1 es1 e2 es2 g o1 o2 hi hj hgi hgj
    exact h.hs.inj i j e1 es1 e2 es2 g o1 o2 (get hi).2 (get hj).2 hgi hgj
  · obtain ⟨q1,q2⟩:=hown ho
    rcases q with q | q
    · exact h.hs.disj g q1 q
    · exact q2 q
  · intro k e1 es1 hk
    obtain ⟨_,hk⟩:=get hk
    obtain ⟨g,o1,cs,t,r1,r2,r3,r4⟩:=h.hs.live k e1 es1 hk
    refine ⟨g,o1,cs,t,r1,r2,r3,fun i m hm=>⟨(r4 i m hm).1,fun j c hc=>?_⟩⟩
    obtain ⟨ho,y,hy,hv⟩:=(r4 i m hm).2 j c hc
    exact ⟨ho,y,hy,less hv⟩
  · rcases q with q | rfl
    · exact h.lo.low g q
    · exact owned_lt h.hs hbo
section
variable {κ:Type} {Θ:Thing κ} {P:Program} {w0:World} {id b N:Nat}
theorem cutT {x:Ctx} {s:St} {φ:List (Nat × Nat)} {a:Act} {w:World} {k:κ} {l:List (Nat × V)} {H:Heap} (h:SimT Θ w0 id b x N s φ a w k) (i:Into 0 s l H) (hd:H[id]? = some .dead) :
    SimT Θ w0 id b ⟨x.X,w,φ.take H.length,H⟩ N ⟨mk l,H⟩ (φ.take H.length) a w k :=
  ⟨cutS h.sim i,h.th,(take_φ (List.getElem?_eq_some_iff.1 hd).1).trans h.phi,hd,h.below,fun g ho=>h.own g (cut_own i ho)⟩
theorem Wt_into {c:Code} {Q:Exit→St→κ→Prop} {s:St} {k:κ} {l:List (Nat × V)} {H:Heap} (i:Into 0 s l H) (hd:H[id]? = some .dead) (g:Wt Θ P w0 id b N c Q ⟨mk l,H⟩ k):Wt Θ P w0 id b N c Q s k :=
  fun x φ a w hs=>g _ _ a w (cutT hs i hd)
theorem Into.dead {s:St} {l:List (Nat × V)} {H:Heap} {n0:Nat} (h:Into n0 s l H) (hd:H[id]? = some .dead):s.H[id]? = some .dead:=by
  have hid:=(List.getElem?_eq_some_iff.1 hd).1
  have:=congrArg (fun l=>l[id]?) h.2.1
  simp only [List.getElem?_take,if_pos hid] at this
  exact this.trans hd
theorem Wt_next {c d:Code} {Q:Exit→St→κ→Prop} {s:St} {k:κ} {n0:Nat} (l:List (Nat × V)) (H:Heap) (hn:n0=s.H.length) (hd:H[id]? = some .dead) (h:W P N n0 c (seqQ (fun s'=>Into 0 s' l H) fun _ _=>False) s) (g:Wt Θ P w0 id b N d Q ⟨mk l,H⟩ k):Wt Θ P w0 id b N (.seq c d) Q s k:=by
  refine Wt_seq (Wt_of hn h fun e s' q=>?_)
  cases e with
  | normal=>exact ⟨Into.dead q hd,Wt_into q hd g⟩
  | _=>exact q.elim
theorem Wt_leave {c d:Code} {Q:Exit→St→κ→Prop} {s:St} {k:κ} {n0 i:Nat} (l:List (Nat × V)) (H:Heap) (hn:n0=s.H.length) (hd:H[id]? = some .dead) (h:W P N n0 c (fun e s'=>e=.exit i∧Into 0 s' l H) s) (hq:∀ s',Into 0 s' l H→Q (.exit i) s' k):Wt Θ P w0 id b N (.seq c d) Q s k:=by
  refine Wt_seq (Wt_of hn h fun e s' q=>?_)
  obtain ⟨rfl,q⟩:=q
  exact ⟨Into.dead q hd,hq s' q⟩
theorem Wt_callN (C:Cfg P) (hN:C.N=N) {rid:Nat} {ops:Array Oper} {d:Code} (m:Nat) {dst:Option Nat} {f:FuncId} (t1 t2:Nat) {ats:Array TypeId} {ty:TypeId} {pos:String} {aft:Array Edge} (K:List Nat) {Q:Exit→St→κ→Prop} {s:St} {k k':κ} {str:ByteArray} (l:List (Nat × V)) (H:Heap) (hd:H[id]? = some .dead)
    (hc:ThCall Θ P b f str k k')
    (ho:ops[m]? = some ⟨dst,.call ⟨.value (.func f),#[.tmp t1,.tmp t2],ats⟩,ty,pos,aft,none⟩) (hm:ops.size=m + 1)
    (hok:(ops.toList.take m).all (opOk C.N)=true) (hgs:(ops.toList.take m).all (fun o=>o.guard.isNone)=true) (hdt:∀ t,dst=some t→t < C.N)
    (h:den C [.code (.ops (stripOps (ops.toList.take m)))] (fun _ s'=>s'.env t1=.ptr id 2 0 0∧s'.env t2=.d (.str str)∧Into 0 ⟨keep K (updO s'.env dst (.d .undef)),s'.H⟩ l H) .normal s)
    (g:Wt Θ P w0 id b N d Q ⟨mk l,H⟩ k'):Wt Θ P w0 id b N (.seq (.region rid ops false) d) Q s k:=by
  refine Wt_seq (Wt_call C hN m t1 t2 K ho hm hok hgs hdt h fun s' q=>?_)
  obtain ⟨q1,q2,q3⟩:=q
  have q4:=Into.dead (id:=id) q3 hd
  exact ⟨str,k',q1,q2,q4,hc,Wt_into q3 hd g⟩
theorem Wt_callE (C:Cfg P) (hN:C.N=N) {rid:Nat} {ops:Array Oper} (m:Nat) {dst:Option Nat} {f:FuncId} (t1 t2:Nat) {ats:Array TypeId} {ty:TypeId} {pos:String} {aft:Array Edge} (K:List Nat) {Q:Exit→St→κ→Prop} {s:St} {k k':κ} {str:ByteArray} (l:List (Nat × V)) (H:Heap) (hd:H[id]? = some .dead)
    (hc:ThCall Θ P b f str k k')
    (ho:ops[m]? = some ⟨dst,.call ⟨.value (.func f),#[.tmp t1,.tmp t2],ats⟩,ty,pos,aft,none⟩) (hm:ops.size=m + 1)
    (hok:(ops.toList.take m).all (opOk C.N)=true) (hgs:(ops.toList.take m).all (fun o=>o.guard.isNone)=true) (hdt:∀ t,dst=some t→t < C.N)
    (h:den C [.code (.ops (stripOps (ops.toList.take m)))] (fun _ s'=>s'.env t1=.ptr id 2 0 0∧s'.env t2=.d (.str str)∧Into 0 ⟨keep K (updO s'.env dst (.d .undef)),s'.H⟩ l H) .normal s)
    (g:∀ s',Into 0 s' l H→Q .normal s' k'):Wt Θ P w0 id b N (.region rid ops false) Q s k:=by
  refine Wt_call C hN m t1 t2 K ho hm hok hgs hdt h fun s' q=>?_
  obtain ⟨q1,q2,q3⟩:=q
  have q4:=Into.dead (id:=id) q3 hd
  exact ⟨str,k',q1,q2,q4,hc,g _ q3⟩
theorem Wt_loopT {c:Code} {Q:Exit→St→κ→Prop} {s:St} {k:κ} {α:Type} (E:α→List (Nat × V)) (Hp:α→Heap) (C:α→κ) (Inv:α→Prop) (μ:α→Nat) (a0:α)
    (h0:Into 0 s (E a0) (Hp a0)) (hk:k=C a0) (hI:Inv a0) (hd:∀ a,Inv a→(Hp a)[id]? = some .dead)
    (round:∀ a,Inv a→Wt Θ P w0 id b N c (seqT (fun s' k'=>∃ b,Inv b∧μ b < μ a∧Into 0 s' (E b) (Hp b)∧k'=C b) Q) ⟨mk (E a),Hp a⟩ (C a)):Wt Θ P w0 id b N (.loop c) Q s k:=by
  subst hk
  refine Wt_into h0 (hd a0 hI) ?_
  intro x φ a w hs
  refine wp_loop_ghost (fun n a w=>∃ y x φ,μ y=n∧Inv y∧SimT Θ w0 id b x N ⟨mk (E y),Hp y⟩ φ a w (C y)) (μ a0) ⟨a0,x,φ,rfl,hI,hs⟩ ?_
  rintro n a w ⟨y,x,φ,rfl,hy,hs⟩
  refine wp_mono (round y hy x φ a w hs) ?_
  rintro e a' w' ⟨x',s',φ',k',q,r⟩
  cases e with
  | normal =>
    obtain ⟨z,hz,hm,hi,rfl⟩:=q
    exact ⟨μ z,hm,z,_,_,rfl,hz,cutT r hi (hd z hz)⟩
  | _=>exact ⟨x',s',φ',k',q,r⟩
end
theorem Wt_run {κ:Type} {Θ:Thing κ} {P:Program} {w0:World} {id b N t:Nat} {str:ByteArray} {x:Ctx} {s:St} {φ:List (Nat × Nat)} {a:Act} {w:World} {k:κ} {c:Code} (hT:SimT Θ w0 id b x N s φ a w k)
    (hW:Wt Θ P w0 id b N c (fun e s' _=>(e=.normal∨e=.ret)∧s'.env t=.d (.str str)) s k):c.wp P (fun e a' w'=>(e=.normal∨e=.ret)∧a'.defers=[]∧a'.tmps.getD t undef=.string str∧Go.RowKit.Below w0.heap.size w0 w') a w:=by
  refine wp_mono (hW x φ a w hT) ?_
  rintro e a' w' ⟨x',s',φ',k',⟨he,h2⟩,hT'⟩
  have h3:=hT'.sim.env t
  rw [h2] at h3
  exact ⟨he,hT'.sim.defers,h3,hT'.below⟩
theorem PureP.th {P : Program} {f : FuncId} {fn : Go.Func} {c : Code} {vs : List V} {t : Nat} {str : ByteArray} (hf : P.funcs[f]? = some fn) (he : enters P f = true) (hb : fn.body = some c) (hn : vs.length ≤ fn.ntmps) (hres : fn.results = #[.tmp t])
    (h:∀ (X:Nat→Prop) (w:World) (a:Act),Sim ⟨X,w,[],[]⟩ fn.ntmps ⟨envOf vs,[]⟩ [] a w→c.wp P (fun e a' w'=>(e=.normal∨e=.ret)∧a'.defers=[]∧a'.tmps.getD t undef=.string str∧Go.RowKit.Below w.heap.size w w') a w):PureP P f vs (· = .d (.str str)):=by
  refine ⟨he,fun X w φ args hX hs hv=>?_⟩
  have hφ:φ=[]:=List.length_eq_zero_iff.1 hs.len
  subst hφ
  refine calls_of_wp hf hb ?_
  have hlen:=VSs.length _ _ hv
  have hal:args.size=vs.length:=by simpa using hlen.symm
  have hsim:Sim ⟨X,w,[],[]⟩ fn.ntmps ⟨envOf vs,[]⟩ [] { tmps:=args++Array.replicate (fn.ntmps - args.size) Go.undef,defers:=[] } w:=by
    refine ⟨hs,fun t=>?_,hX,rfl,by simp;omega,Fr.refl w _,fun g _ h=>h,Ext.refl _,Nat.le_refl _,hs.len⟩
    have hme:=mk_envFrom vs 0 t
    rw [Nat.zero_add] at hme
    simp only [envOf]
    rw [hme,List.getD_eq_getElem?_getD]
    cases hq:vs[t]? with
    | none=>simp [VS,DS]
    | some c =>
      obtain ⟨v,h1,h2⟩:=VSs.get _ _ hv t c hq
      have ht:t < args.size:=by rw [hal];exact (List.getElem?_eq_some_iff.1 hq).1
      have:(args++Array.replicate (fn.ntmps - args.size) Go.undef).getD t Go.undef=v:=by
        rw [Array.getD_eq_getD_getElem?,Array.getElem?_append_left ht]
        rw [Array.getElem?_toList] at h1
        rw [h1]
        rfl
      simp only [Option.getD_some]
      rw [this]
      exact h2
  refine wp_mono (h X w _ hsim) ?_
  rintro e a' w' ⟨he,h1,h2,hb⟩
  have fin:a'.defers=[]∧∃ v,(results fn a'.tmps).run P w'=.ok v w'∧∃ v' r φ' H',Ending.returned v=.returned v'∧(H'=[]∧r=V.d (.str str))∧HS X w' φ' H'∧VS w' (owned X φ' H') φ' r v'∧Fr w (ownOf [] []) w' ∧
      Ext [] φ'∧0≤H'.length∧∀ g,g < w.heap.size→ownOf φ' H' g→ownOf [] [] g:=by
    refine ⟨h1,.string str, ?_,_,.d (.str str),[],[],rfl,⟨rfl,rfl⟩,HS.nil _ _,by simp [VS,DS],⟨hb.os,hb.tape,hb.output,hb.size,fun g hg _=>hb.block g hg,fun g cs t fr hg=>⟨cs,fr,by rw [hb.block g (Array.getElem?_eq_some_iff.1 hg).1];exact hg,rfl⟩⟩,fun id hid=>absurd hid (by simp),Nat.le_refl _,fun g _ q=>q⟩
    unfold results
    rw [hres]
    rw [Array.getD_eq_getD_getElem?] at h2
    simp [h2]
  rcases he with rfl | rfl
  · exact fin
  · exact fin
end Go.Proofs.YtcgekblpbheikaaGreatDoor
