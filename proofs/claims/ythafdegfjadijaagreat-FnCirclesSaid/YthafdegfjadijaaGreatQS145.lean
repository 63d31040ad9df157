/- Sorting and packing a row of at most two numbers. No condition. -/
import Derived.Test.YthafdegfjadijaaGreatQE9
import Derived.Test.YthafdegfjadijaaGreatQS141
section
namespace Go.Proofs.YthafdegfjadijaaGreat
set_option linter.unusedVariables false
set_option linter.unusedSimpArgs false
set_option maxRecDepth 100000
def stripQ (S:List Nat) (O:Nat→List Nat):Code→XCode
  | .region id ops d=>bif S.contains id then .other (.region id ops d) else stripX O (.region id ops d)
  | .seq a b=>.seq (stripQ S O a) (stripQ S O b)
  | .cond c a b=>.cond c (stripQ S O a) (stripQ S O b)
  | .block id c=>.block id (stripQ S O c)
  | c=>stripX O c
def codeOkQ (S:List Nat) (N:Nat) (own:List FuncId) (O:Nat→List Nat):Code→Bool
  | .region id ops d=>bif S.contains id then true else codeOkX N own O (.region id ops d)
  | .seq a b | .cond _ a b=>codeOkQ S N own O a && codeOkQ S N own O b
  | .block _ c=>codeOkQ S N own O c
  | c=>codeOkX N own O c
theorem W_ofQ {P:Program} {Γ:Table} {N n0:Nat} {own:List FuncId} {S:List Nat} {O:Nat→List Nat} (hm:P.follows .mixedOrders=true) (hΓ:Good P Γ) (K:List Nat):∀ {c:Code} {Q:Exit→St→Prop} {s:St},codeOkQ S N own O c=true→wpX P Γ own N n0 K (stripQ S O c) Q s→W P N n0 c Q s:=by
  intro c
  induction c with
  | region id ops draw =>
    intro Q s hok h
    simp only [codeOkQ] at hok
    simp only [stripQ] at h
    cases hc:S.contains id with
    | true=>rw [hc] at h;exact h
    | false=>rw [hc] at h hok;exact W_ofX hm hΓ K hok h
  | seq a b iha ihb =>
    intro Q s hok h
    simp only [codeOkQ,Bool.and_eq_true] at hok
    refine W_seq (W_mono (iha hok.1 h) ?_)
    intro e s' hq
    cases e with
    | normal=>exact ihb hok.2 hq
    | _=>exact hq
  | cond c a b iha ihb =>
    intro Q s hok h
    simp only [codeOkQ,Bool.and_eq_true] at hok
    simp only [stripQ,wpX] at h
    split at h
    · rename_i t ht
      refine W_cond (t:=t) (fun x φ a w hx hs=>?_) (fun e=>iha hok.1 (h.1 e)) (fun e=>ihb hok.2 (h.2 e))
      have:=ev_spec hs c
      rw [ht] at this
      simpa only [VS,DS] using this
    · exact h.elim
  | block id c ih=>intro Q s hok h;exact W_block (ih hok h)
  | _=>intro Q s hok h;exact W_ofX hm hΓ K hok h
theorem W_runQ {P:Program} (hm:P.follows .mixedOrders=true) (S:List Nat) (C:Cfg P) (O:Nat→List Nat) {c:Code} {Q:Exit→St→Prop} {s:St} (hc:codeOkQ S C.N C.own O c=true) (h:den C [.code (stripQ S O c)] Q .normal s):W P C.N C.n0 c Q s:=by
  rw [den_eq] at h
  exact W_ofQ hm (tabG_good C.l) C.K hc (wpR_X _ (fun _ _ q=>q) _ h)
theorem opsD_wpP {P:Program} {x:Ctx} {N:Nat} {Γ:Table} (hΓ:Good P Γ) {all:Array Oper} {Q:Exit→Act→World→Prop} {k:Env→Heap→Prop} {is2:List Nat}:∀ (os:List Oper) (is:List Nat) (env:Env) (H:Heap) (φ:List (Nat × Nat)) (a:Act) (w:World),
    Idx all is os→(∀ o∈os,o.guard=none)→os.all (opOk N)=true→Sim x N ⟨env,H⟩ φ a w→opsD P Γ (all.toList.map (·.dst)) (stripOps os) env H k →
    (∀ env H φ a w,k env H→Sim x N ⟨env,H⟩ φ a w→wpOps P all Q is2 a w)→wpOps P all Q (is++is2) a w
  | [],is,env,H,φ,a,w,hi,_,_,h,hk,hq=>by
    cases hi
    exact hq env H φ a w hk h
  | o :: os, is, env, H, φ, a, w, hi, hg, hok, h, hk, hq => by
    cases hi with
    | cons ho ht =>
      rename_i i is
      simp only [List.all_cons,Bool.and_eq_true] at hok
      have hdst:(match o.dst with | some t=>decide (t < N) | none=>true)=true:=hok.1
      have hgo:=hg o List.mem_cons_self
      simp only [stripOps,opsD,hgo] at hk
      simp only [wpOps,ho,List.cons_append]
      have hw:Region.wanted o (yielded all a.tmps)=true:=by simp [Region.wanted,hgo]
      rw [if_pos hw]
      exact .inl (op_wp hΓ h hk fun v c H' φ' w' hk' hs hv=>opsD_wpP hΓ os is _ _ _ _ _ ht (fun o h=>hg o (List.mem_cons_of_mem _ h)) hok.2 (hs.putO hdst hv) hk' hq)
theorem clear_run {P:Program} {t ty et:TypeId} (hu:P.underlying t=some (.slice et)) {i:TypeInfo} {z:Value} (hi:P.info? et=some i) (hz:i.zero=some z) (hs:i.size=1) (hc:z.cells=#[.int .i64 0]) (A:Addr) (cap:Nat) (w:World) :
    (Builtin.clear_ #[t] ty #[.slice (some A) 1 cap]).run P w=((Instr.storeAt et (.pointer (some A)) (.int .i64 0)).run P w).andThen fun _ w=>.ok (.tuple #[]) w:=by
  have hv:(Value.int .i64 0).cells=#[.int .i64 0]:=rfl
  simp [Builtin.clear_,run_underlying hu,zeroValue,typeInfo,hi,hz,Builtin.zeroCells,Instr.storeAt,Instr.sureAddr,storeVar,sizeOf,hs,hc,hv]
theorem cells_one {z:Value} (h:z.cells.toList.map dOf=[.int .i64 0]):z.cells=#[.int .i64 0]:=by
  obtain ⟨v,h1,h2⟩:∃ v,z.cells.toList=[v]∧dOf v=.int .i64 0:=by
    cases hq:z.cells.toList with
    | nil=>rw [hq] at h;cases h
    | cons v l =>
      rw [hq] at h
      cases l with
      | nil=>exact ⟨v,rfl,(List.cons.inj h).1⟩
      | cons _ _=>exact absurd (congrArg List.length h) (by simp)
  have h3:v=.int .i64 0:=by
    cases v with
    | int k n=>simp only [dOf] at h2;injection h2 with e1 e2;rw [e1,e2]
    | pointer a=>simp only [dOf] at h2;split at h2 <;> cases h2
    | slice a l c=>simp only [dOf] at h2;split at h2 <;> cases h2
    | _=>simp [dOf] at h2
  rw [h3] at h1
  exact Array.ext' h1
theorem W_clear {P : Program} {N n0 id : Nat} {os : List Oper} {o : Oper} {Q : Exit → St → Prop} {s : St} {u : Nat} {t et : TypeId} (hg : ∀ o ∈ os, o.guard = none) (hok : os.all (opOk N) = true)
    (ho:o.op=.call ⟨.builtin .clear,#[.tmp u],#[t]⟩∧o.dst=none∧o.guard=none)
    {ag ag2:Bool} {sz bt bt2:Nat} {zs:List D} {kk:TK} (ht:tinfo P t=some ⟨ag,sz,bt,zs,.slice et⟩) (hti:tinfo P et=some ⟨ag2,1,bt2,[.int .i64 0],kk⟩)
    (h:opsD P (fun _ _=>none) (dstsOf (stripOps (os++[o]))) (stripOps os) s.env s.H fun env H=>∃ sid off row,env u=.sl sid 1 off 1∧off < row.length∧H[sid]? = some (.row 1 row)∧Q .normal ⟨env,H.set sid (.row 1 (row.set off [.d (.int .i64 0)]))⟩) :
    W P N n0 (.region id (os++[o]).toArray false) Q s:=by
  intro x φ a w hx hsim
  obtain ⟨i0,u0,z0,_,hu,_,e0⟩:=tinfo_spec ht
  obtain rfl:=tk_slice (u:=u0) (by injection e0;symm;assumption)
  obtain ⟨i,d,z,hi,hd,hz,e1⟩:=tinfo_spec hti
  have hs:i.size=1:=by injection e1;symm;assumption
  have hc:z.cells=#[.int .i64 0]:=cells_one (by injection e1;symm;assumption)
  rw [dsts_spec] at h
  refine wp_region ?_
  have ei:List.range (os++[o]).toArray.size=List.range os.length++[os.length]:=by simp [List.range_succ]
  have hI:=idx_range (os++[o]).toArray
  have hI2:Idx (os++[o]).toArray (List.range os.length) os:=by
    have:∀ (is:List Nat) (l:List Oper) (j:Nat) (o:Oper) (all:Array Oper),Idx all (is++[j]) (l++[o])→Idx all is l:=by
      intro is l
      induction l generalizing is with
      | nil =>
        intro j o all h
        cases is with
        | nil=>exact .nil
        | cons a is=>cases h with | cons _ h=>cases is <;> cases h
      | cons b l ih =>
        intro j o all h
        cases is with
        | nil=>cases h with | cons _ h=>cases l <;> cases h
        | cons a is=>cases h with | cons h1 h=>exact .cons h1 (ih _ _ _ _ h)
    rw [ei] at hI
    exact this _ _ _ _ _ (by simpa using hI)
  rw [ei]
  refine opsD_wpP (Good.none P) os _ s.env s.H φ a w hI2 hg hok hsim h ?_
  rintro env H φ a w ⟨sid,off,row,e1,hoff,e2,hq⟩ hsim
  have hget:(os++[o]).toArray[os.length]? = some o:=by simp
  simp only [wpOps,hget]
  have hw:Region.wanted o (yielded (os++[o]).toArray a.tmps)=true:=by simp [Region.wanted,ho.2.2]
  rw [if_pos hw]
  refine .inl ?_
  have hv:=hsim.env u
  dsimp only at hv
  rw [e1] at hv
  simp only [VS] at hv
  obtain ⟨g,o',A,cap,h1,h2,h3,h4,h5⟩:=hv
  have hA:=h4.resolve_left (by omega)
  have hp:VS w (owned x.X φ H) φ (.ptr sid 1 off 0) (.pointer (some A)):=by
    simp only [VS];exact ⟨g,o',h1,by rw [hA];rfl⟩
  obtain ⟨w',H',r1,r2,r3⟩:=storeD_gives (P:=P) (k:=fun H'=>H'=H.set sid (.row 1 (row.set off [.d (.int .i64 0)]))) hsim et hp (c:=.d (.int .i64 0)) (vc:=.int .i64 0) (by simp [VS,DS]) (by
    unfold storeD
    rw [hti]
    simp only [e2]
    have hl:(row[off]).length=1:=(hsim.hs.live sid 1 row e2).elim fun _ h=>h.elim fun _ h=>h.elim fun _ h=>h.elim fun _ h=>(h.2.2.2 off row[off] (List.getElem?_eq_getElem hoff)).1
    refine ⟨trivial,row[off],List.getElem?_eq_getElem hoff,rfl,by omega,rfl, ?_⟩
    obtain ⟨c,hc⟩:=List.length_eq_one_iff.1 hl
    rw [hc];rfl)
  subst r2
  have hr:(execOp a.eval o).run P w=.ok (.value (.tuple #[])) w':=by
    obtain ⟨dst,op,type,pos,after,guard⟩:=o
    obtain ⟨o1,o2,o3⟩:=ho
    dsimp only at o1
    subst o1
    have ev:a.eval (.tmp u)=.slice (some A) 1 cap:=h2
    have:=clear_run (ty:=type) hu hi hz hs hc A cap w
    rw [r1] at this
    simp [execOp,resolve,invoke,builtin,ev,this]
  unfold Oper.wp
  rw [hr]
  have r4:Sim x N ⟨env,H.set sid (.row 1 (row.set off [.d (.int .i64 0)]))⟩ φ (a.put o.dst (.tuple #[])) w':=by rw [ho.2.1];exact r3
  exact ⟨_,φ,hq,r4⟩
end Go.Proofs.YthafdegfjadijaaGreat
end

section
namespace Go.Proofs.YthafdegfjadijaaGreat
set_option maxRecDepth 100000
set_option linter.unusedSimpArgs false
set_option linter.unusedVariables false
theorem nan_c (x:Int):PureP Tryz.prog 118 [.d (.int .i64 x)] (· = .d (.bool false)):=by
  refine pure_of Tryz.func118 en_118 rfl rfl (W_run mixed ⟨[],[],[],6,0,[0,2],[]⟩ (fun _=>[]) (by kernel_rfl) ?_)
  simp only [Tryz.f118,stripX,stripOps,pickOps]
  simp []
noncomputable def K_118:Ent Tryz.prog:=Ent.p1 (α:=Int) 118 (fun x=>True) (fun x=>.d (.bool false)) (fun x hc=>nan_c x)
theorem K_118_f:K_118.f=118:=rfl
theorem K_118_e (x:Int):K_118.e [.d (.int .i64 x)]=some (True,.d (.bool false),[]):=by unfold K_118;exact Ent.p1_eq (α:=Int) x
noncomputable def K_118h:EntH Tryz.prog:=EntH.pk1 (α:=Int) 118 (fun x=>True) (fun x=>.d (.bool false)) (fun x=>[]) (fun x hc=>PureP.ans (nan_c x))
theorem K_118h_f:K_118h.f=118:=rfl
theorem K_118h_g:K_118h.gro=true:=rfl
theorem K_118h_e {x1:V} {H:Heap}:K_118h.e [x1] H=guardR ((decA (α:=Int) H x1).1) (peekR (True) (.d (.bool false)) ([]) H):=rfl
theorem less_c (x y:Int):PureP Tryz.prog 97 [.d (.int .i64 x),.d (.int .i64 y)] (· = .d (.bool (decide (x < y)))):=by
  refine pure_of Tryz.func97 en_97 rfl rfl (W_run mixed ⟨[K_118],[K_118h],[],17,0,[0,1,4],[7,12]⟩ (fun _=>[]) (by kernel_rfl) ?_)
  simp only [Tryz.f97,stripX,stripOps,pickOps]
  simp [K_118_f,K_118_e,K_118h_f,K_118h_e,K_118h_g]
noncomputable def K_97:Ent Tryz.prog:=Ent.p2 (α:=Int) (β:=Int) 97 (fun x y=>True) (fun x y=>.d (.bool (decide (x < y)))) (fun x y hc=>less_c x y)
theorem K_97_f:K_97.f=97:=rfl
theorem K_97_e (x:Int) (y:Int):K_97.e [.d (.int .i64 x),.d (.int .i64 y)]=some (True,.d (.bool (decide (x < y))),[]):=by unfold K_97;exact Ent.p2_eq (α:=Int) (β:=Int) x y
noncomputable def K_97h:EntH Tryz.prog:=EntH.pk2 (α:=Int) (β:=Int) 97 (fun x y=>True) (fun x y=>.d (.bool (decide (x < y)))) (fun x y=>[]) (fun x y hc=>PureP.ans (less_c x y))
theorem K_97h_f:K_97h.f=97:=rfl
theorem K_97h_g:K_97h.gro=true:=rfl
theorem K_97h_e {x1 x2:V} {H:Heap}:K_97h.e [x1,x2] H=guardR ((decA (α:=Int) H x1).1∧(decA (α:=Int) H x2).1) (peekR (True) (.d (.bool (decide ((decA (α:=Int) H x1).2 < (decA (α:=Int) H x2).2)))) ([]) H):=rfl
theorem len64_p (k:Nat) (hk:k≤2):PureP Tryz.prog 101 [.d (.int .u64 k)] fun r=>∃ n:Int,r=.d (.int .i64 n):=by
  rcases (by omega:k=0∨k=1∨k=2) with rfl | rfl | rfl
  · refine pure_of Tryz.func101 en_101 rfl rfl (W_run mixed ⟨[],[],[],25,0,[0,2,4,8,14],[4,8,14]⟩ (fun _=>[]) (by kernel_rfl) ?_)
    simp only [Tryz.f101,stripX,stripOps,pickOps]
    simp []
    exact ⟨by decide,by decide⟩
  · refine pure_of Tryz.func101 en_101 rfl rfl (W_run mixed ⟨[],[],[],25,0,[0,2,4,8,14],[4,8,14]⟩ (fun _=>[]) (by kernel_rfl) ?_)
    simp only [Tryz.f101,stripX,stripOps,pickOps]
    simp []
    exact ⟨by decide,by decide⟩
  · refine pure_of Tryz.func101 en_101 rfl rfl (W_run mixed ⟨[],[],[],25,0,[0,2,4,8,14],[4,8,14]⟩ (fun _=>[]) (by kernel_rfl) ?_)
    simp only [Tryz.f101,stripX,stripOps,pickOps]
    simp []
    exact ⟨by decide,by decide⟩
theorem len_p (k:Nat) (hk:k≤2):PureP Tryz.prog 74 [.d (.int .u64 k)] fun r=>∃ n:Int,r=.d (.int .i64 n):=by
  refine pure_of Tryz.func74 en_74 rfl rfl (W_run mixed ⟨[],[],[100,101],8,0,[0,2],[]⟩ (fun _=>[]) (by kernel_rfl) ?_)
  simp only [Tryz.f74,stripX,stripOps,pickOps]
  simp []
  rw [aft_call]
  refine ((len64_p k hk).calls rfl).mono ?_
  rintro r H1 ⟨rfl,n,rfl⟩
  simp []
def so2 (a b:Int):List Int:=if b < a then [b,a] else [a,b]
theorem ins0_own (H:Heap) (v:V) (n:Nat) (hn:n≤1):CallsD Tryz.prog 91 [v,.d (.int .i64 0),.d (.int .i64 n)] H fun r H'=>r=.tup []∧H'=H:=by
  have h1:¬ (1:Int) < n:=by omega
  have w1:IntKind.i64.wrap 1=1:=by decide
  refine calls_of Tryz.func91 en_91 rfl (of_decide_eq_true rfl) (W_run mixed ⟨[K_97],[K_97h],[],49,H.length,[0,1,2,6,7,12,30],[12,19,30]⟩ (fun | 4=>[0,1,2,3,4,5,6,8,9,10,11,7,12,13,14] | 6=>[0,1,2,3,4,5,6,7,8,10,11,12,9,13,14,15,16,17] | _=>[]) (by kernel_rfl) ?_)
  simp only [Tryz.f91,stripX,stripOps,pickOps]
  simp [K_97_f,K_97_e,K_97h_f,K_97h_e,K_97h_g,-V.flat,-V.one,one_int,one_bool,one_str,one_nilp,one_rp,one_nilsl,one_ro,one_cl,one_nilf,one_nili,one_ifc,one_ptr,one_sl,one_clo,flat_d,flat_ptr,flat_sl,flat_clo,flat_agg,h1,w1]
  refine W_rounds 1 (WR_succ ?_)
  refine W_run mixed ⟨[K_97],[K_97h],[],49,H.length,[0,1,2,6,7,12,30],[12,19,30]⟩ (fun | 4=>[0,1,2,3,4,5,6,8,9,10,11,7,12,13,14] | 6=>[0,1,2,3,4,5,6,7,8,10,11,12,9,13,14,15,16,17] | _=>[]) (by kernel_rfl) ?_
  simp only [stripX,stripOps,pickOps]
  simp [K_97_f,K_97_e,K_97h_f,K_97h_e,K_97h_g,-V.flat,-V.one,one_int,one_bool,one_str,one_nilp,one_rp,one_nilsl,one_ro,one_cl,one_nilf,one_nili,one_ifc,one_ptr,one_sl,one_clo,flat_d,flat_ptr,flat_sl,flat_clo,flat_agg,h1,w1,retQ]
  exact Fin.same (Nat.le_refl _)
theorem ins2_own (H:Heap) (id:Nat) (a b:Int) (h:H[id]? = some (.row 1 (rI [a,b]))):CallsD Tryz.prog 91 [.sl id 1 0 2,.d (.int .i64 0),.d (.int .i64 2)] H fun r H'=>r=.tup []∧H'=H.set id (.row 1 (rI (so2 a b))):=by
  have hl:=(List.getElem?_eq_some_iff.1 h).1
  have w1:IntKind.i64.wrap 1=1:=by decide
  have w2:IntKind.i64.wrap 2=2:=by decide
  have w0:IntKind.i64.wrap 0=0:=by decide
  have hs:∀ p,(H.set id p)[id]? = some p:=fun p=>List.getElem?_set_self hl
  clear hl
  by_cases hb:b < a
  · refine calls_of Tryz.func91 en_91 rfl (of_decide_eq_true rfl) (W_run mixed ⟨[K_97],[K_97h],[],49,H.length,[0,1,2,6,7,12,30],[12,19,30]⟩ (fun | 4=>[0,1,2,3,4,5,6,8,9,10,11,7,12,13,14] | 6=>[0,1,2,3,4,5,6,7,8,10,11,12,9,13,14,15,16,17] | _=>[]) (by kernel_rfl) ?_)
    simp only [Tryz.f91,stripX,stripOps,pickOps]
    simp [K_97_f,K_97_e,K_97h_f,K_97h_e,K_97h_g,-V.flat,-V.one,one_int,one_bool,one_str,one_nilp,one_rp,one_nilsl,one_ro,one_cl,one_nilf,one_nili,one_ifc,one_ptr,one_sl,one_clo,flat_d,flat_ptr,flat_sl,flat_clo,flat_agg,w0,w1,w2,h,hs,hb]
    refine W_rounds 2 (WR_succ ?_)
    refine W_run mixed ⟨[K_97],[K_97h],[],49,H.length,[0,1,2,6,7,12,30],[12,19,30]⟩ (fun | 4=>[0,1,2,3,4,5,6,8,9,10,11,7,12,13,14] | 6=>[0,1,2,3,4,5,6,7,8,10,11,12,9,13,14,15,16,17] | _=>[]) (by kernel_rfl) ?_
    simp only [stripX,stripOps,pickOps]
    simp [K_97_f,K_97_e,K_97h_f,K_97h_e,K_97h_g,-V.flat,-V.one,one_int,one_bool,one_str,one_nilp,one_rp,one_nilsl,one_ro,one_cl,one_nilf,one_nili,one_ifc,one_ptr,one_sl,one_clo,flat_d,flat_ptr,flat_sl,flat_clo,flat_agg,w0,w1,w2,h,hs,hb]
    refine W_rounds 2 (WR_succ ?_)
    refine W_run mixed ⟨[K_97],[K_97h],[],49,H.length,[0,1,2,6,7,12,30],[12,19,30]⟩ (fun | 4=>[0,1,2,3,4,5,6,8,9,10,11,7,12,13,14] | 6=>[0,1,2,3,4,5,6,7,8,10,11,12,9,13,14,15,16,17] | _=>[]) (by kernel_rfl) ?_
    simp only [stripX,stripOps,pickOps]
    simp [K_97_f,K_97_e,K_97h_f,K_97h_e,K_97h_g,-V.flat,-V.one,one_int,one_bool,one_str,one_nilp,one_rp,one_nilsl,one_ro,one_cl,one_nilf,one_nili,one_ifc,one_ptr,one_sl,one_clo,flat_d,flat_ptr,flat_sl,flat_clo,flat_agg,w0,w1,w2,h,hs,hb]
    refine WR_succ ?_
    refine W_run mixed ⟨[K_97],[K_97h],[],49,H.length,[0,1,2,6,7,12,30],[12,19,30]⟩ (fun | 4=>[0,1,2,3,4,5,6,8,9,10,11,7,12,13,14] | 6=>[0,1,2,3,4,5,6,7,8,10,11,12,9,13,14,15,16,17] | _=>[]) (by kernel_rfl) ?_
    simp only [stripX,stripOps,pickOps]
    simp [K_97_f,K_97_e,K_97h_f,K_97h_e,K_97h_g,-V.flat,-V.one,one_int,one_bool,one_str,one_nilp,one_rp,one_nilsl,one_ro,one_cl,one_nilf,one_nili,one_ifc,one_ptr,one_sl,one_clo,flat_d,flat_ptr,flat_sl,flat_clo,flat_agg,w0,w1,w2,h,hs,hb]
    refine WR_succ ?_
    refine W_run mixed ⟨[K_97],[K_97h],[],49,H.length,[0,1,2,6,7,12,30],[12,19,30]⟩ (fun | 4=>[0,1,2,3,4,5,6,8,9,10,11,7,12,13,14] | 6=>[0,1,2,3,4,5,6,7,8,10,11,12,9,13,14,15,16,17] | _=>[]) (by kernel_rfl) ?_
    simp only [stripX,stripOps,pickOps]
    simp [K_97_f,K_97_e,K_97h_f,K_97h_e,K_97h_g,-V.flat,-V.one,one_int,one_bool,one_str,one_nilp,one_rp,one_nilsl,one_ro,one_cl,one_nilf,one_nili,one_ifc,one_ptr,one_sl,one_clo,flat_d,flat_ptr,flat_sl,flat_clo,flat_agg,w0,w1,w2,h,hs,hb,retQ]
    have e:so2 a b=[b,a]:=if_pos hb
    rw [e]
    exact Fin.same (by simp)
  · refine calls_of Tryz.func91 en_91 rfl (of_decide_eq_true rfl) (W_run mixed ⟨[K_97],[K_97h],[],49,H.length,[0,1,2,6,7,12,30],[12,19,30]⟩ (fun | 4=>[0,1,2,3,4,5,6,8,9,10,11,7,12,13,14] | 6=>[0,1,2,3,4,5,6,7,8,10,11,12,9,13,14,15,16,17] | _=>[]) (by kernel_rfl) ?_)
    simp only [Tryz.f91,stripX,stripOps,pickOps]
    simp [K_97_f,K_97_e,K_97h_f,K_97h_e,K_97h_g,-V.flat,-V.one,one_int,one_bool,one_str,one_nilp,one_rp,one_nilsl,one_ro,one_cl,one_nilf,one_nili,one_ifc,one_ptr,one_sl,one_clo,flat_d,flat_ptr,flat_sl,flat_clo,flat_agg,w0,w1,w2,h,hs,hb]
    refine W_rounds 2 (WR_succ ?_)
    refine W_run mixed ⟨[K_97],[K_97h],[],49,H.length,[0,1,2,6,7,12,30],[12,19,30]⟩ (fun | 4=>[0,1,2,3,4,5,6,8,9,10,11,7,12,13,14] | 6=>[0,1,2,3,4,5,6,7,8,10,11,12,9,13,14,15,16,17] | _=>[]) (by kernel_rfl) ?_
    simp only [stripX,stripOps,pickOps]
    simp [K_97_f,K_97_e,K_97h_f,K_97h_e,K_97h_g,-V.flat,-V.one,one_int,one_bool,one_str,one_nilp,one_rp,one_nilsl,one_ro,one_cl,one_nilf,one_nili,one_ifc,one_ptr,one_sl,one_clo,flat_d,flat_ptr,flat_sl,flat_clo,flat_agg,w0,w1,w2,h,hs,hb]
    refine W_rounds 1 (WR_succ ?_)
    refine W_run mixed ⟨[K_97],[K_97h],[],49,H.length,[0,1,2,6,7,12,30],[12,19,30]⟩ (fun | 4=>[0,1,2,3,4,5,6,8,9,10,11,7,12,13,14] | 6=>[0,1,2,3,4,5,6,7,8,10,11,12,9,13,14,15,16,17] | _=>[]) (by kernel_rfl) ?_
    simp only [stripX,stripOps,pickOps]
    simp [K_97_f,K_97_e,K_97h_f,K_97h_e,K_97h_g,-V.flat,-V.one,one_int,one_bool,one_str,one_nilp,one_rp,one_nilsl,one_ro,one_cl,one_nilf,one_nili,one_ifc,one_ptr,one_sl,one_clo,flat_d,flat_ptr,flat_sl,flat_clo,flat_agg,w0,w1,w2,h,hs,hb]
    refine WR_succ ?_
    refine W_run mixed ⟨[K_97],[K_97h],[],49,H.length,[0,1,2,6,7,12,30],[12,19,30]⟩ (fun | 4=>[0,1,2,3,4,5,6,8,9,10,11,7,12,13,14] | 6=>[0,1,2,3,4,5,6,7,8,10,11,12,9,13,14,15,16,17] | _=>[]) (by kernel_rfl) ?_
    simp only [stripX,stripOps,pickOps]
    simp [K_97_f,K_97_e,K_97h_f,K_97h_e,K_97h_g,-V.flat,-V.one,one_int,one_bool,one_str,one_nilp,one_rp,one_nilsl,one_ro,one_cl,one_nilf,one_nili,one_ifc,one_ptr,one_sl,one_clo,flat_d,flat_ptr,flat_sl,flat_clo,flat_agg,w0,w1,w2,h,hs,hb,retQ]
    have e:so2 a b=[a,b]:=if_neg hb
    have e2:H.set id (.row 1 (rI [a,b]))=H:=by
      obtain ⟨hl,he⟩:=List.getElem?_eq_some_iff.1 h
      rw [← he];exact List.set_getElem_self hl
    rw [e,e2]
    exact Fin.same (Nat.le_refl _)
def sv (id:Nat):List Int→V
  | []=>.d .nilsl
  | a :: l=>.sl id 1 0 (l.length + 1)
def so (l:List Int):List Int:=match l with | [a,b]=>so2 a b | l=>l
theorem pdq_own (H:Heap) (id:Nat) (l:List Int) (k:Int) (h2:l.length≤2) (h:l ≠ []→H[id]? = some (.row 1 (rI l))):CallsD Tryz.prog 73 [sv id l,.d (.int .i64 0),.d (.int .i64 l.length),.d (.int .i64 k)] H fun r H'=>r=.tup []∧H'=if l=[] then H else H.set id (.row 1 (rI (so l))):=by
  have w0:IntKind.i64.wrap 0=0:=by decide
  have w1:IntKind.i64.wrap 1=1:=by decide
  have w2:IntKind.i64.wrap 2=2:=by decide
  match l,h2 with
  | [],_ =>
    refine calls_of Tryz.func73 en_73 rfl (of_decide_eq_true rfl) (W_run mixed ⟨[K_97],[K_97h],[91,92,93,94,95,96,98,99,73],134,H.length,[0,1,2,3,8,9,10,11,12,13,14,15,16,17,18,23,29,35,50,68,72,87,113],[23,29,35,50,62,65,68,72,75,87,113]⟩ (fun | 17=>[0,1,2,3,4,5,6,8,9,10,7,11,12,13,14] | _=>[]) (by kernel_rfl) ?_)
    simp only [Tryz.f73,stripX,stripOps,pickOps]
    simp [K_97_f,K_97_e,K_97h_f,K_97h_e,K_97h_g,-V.flat,-V.one,one_int,one_bool,one_str,one_nilp,one_rp,one_nilsl,one_ro,one_cl,one_nilf,one_nili,one_ifc,one_ptr,one_sl,one_clo,flat_d,flat_ptr,flat_sl,flat_clo,flat_agg,w0,w1,w2,sv]
    refine W_rounds 1 (WR_succ ?_)
    refine W_run mixed ⟨[K_97],[K_97h],[91,92,93,94,95,96,98,99,73],134,H.length,[0,1,2,3,8,9,10,11,12,13,14,15,16,17,18,23,29,35,50,68,72,87,113],[23,29,35,50,62,65,68,72,75,87,113]⟩ (fun | 17=>[0,1,2,3,4,5,6,8,9,10,7,11,12,13,14] | _=>[]) (by kernel_rfl) ?_
    simp only [stripX,stripOps,pickOps]
    simp [K_97_f,K_97_e,K_97h_f,K_97h_e,K_97h_g,-V.flat,-V.one,one_int,one_bool,one_str,one_nilp,one_rp,one_nilsl,one_ro,one_cl,one_nilf,one_nili,one_ifc,one_ptr,one_sl,one_clo,flat_d,flat_ptr,flat_sl,flat_clo,flat_agg,w0,w1,w2,sv]
    rw [aft_call]
    refine (ins0_own H _ 0 (by omega)).mono ?_
    rintro r H1 ⟨rfl,rfl⟩
    simp [K_97_f,K_97_e,K_97h_f,K_97h_e,K_97h_g,-V.flat,-V.one,one_int,one_bool,one_str,one_nilp,one_rp,one_nilsl,one_ro,one_cl,one_nilf,one_nili,one_ifc,one_ptr,one_sl,one_clo,flat_d,flat_ptr,flat_sl,flat_clo,flat_agg,retQ]
    exact Fin.same (Nat.le_refl _)
  | [a],_ =>
    have e:H.set id (.row 1 (rI [a]))=H:=by
      obtain ⟨hl,he⟩:=List.getElem?_eq_some_iff.1 (h (by simp))
      rw [← he];exact List.set_getElem_self hl
    refine calls_of Tryz.func73 en_73 rfl (of_decide_eq_true rfl) (W_run mixed ⟨[K_97],[K_97h],[91,92,93,94,95,96,98,99,73],134,H.length,[0,1,2,3,8,9,10,11,12,13,14,15,16,17,18,23,29,35,50,68,72,87,113],[23,29,35,50,62,65,68,72,75,87,113]⟩ (fun | 17=>[0,1,2,3,4,5,6,8,9,10,7,11,12,13,14] | _=>[]) (by kernel_rfl) ?_)
    simp only [Tryz.f73,stripX,stripOps,pickOps]
    simp [K_97_f,K_97_e,K_97h_f,K_97h_e,K_97h_g,-V.flat,-V.one,one_int,one_bool,one_str,one_nilp,one_rp,one_nilsl,one_ro,one_cl,one_nilf,one_nili,one_ifc,one_ptr,one_sl,one_clo,flat_d,flat_ptr,flat_sl,flat_clo,flat_agg,w0,w1,w2,sv]
    refine W_rounds 1 (WR_succ ?_)
    refine W_run mixed ⟨[K_97],[K_97h],[91,92,93,94,95,96,98,99,73],134,H.length,[0,1,2,3,8,9,10,11,12,13,14,15,16,17,18,23,29,35,50,68,72,87,113],[23,29,35,50,62,65,68,72,75,87,113]⟩ (fun | 17=>[0,1,2,3,4,5,6,8,9,10,7,11,12,13,14] | _=>[]) (by kernel_rfl) ?_
    simp only [stripX,stripOps,pickOps]
    simp [K_97_f,K_97_e,K_97h_f,K_97h_e,K_97h_g,-V.flat,-V.one,one_int,one_bool,one_str,one_nilp,one_rp,one_nilsl,one_ro,one_cl,one_nilf,one_nili,one_ifc,one_ptr,one_sl,one_clo,flat_d,flat_ptr,flat_sl,flat_clo,flat_agg,w0,w1,w2,sv]
    rw [aft_call]
    refine (ins0_own H _ 1 (by omega)).mono ?_
    rintro r H1 ⟨rfl,rfl⟩
    simp [K_97_f,K_97_e,K_97h_f,K_97h_e,K_97h_g,-V.flat,-V.one,one_int,one_bool,one_str,one_nilp,one_rp,one_nilsl,one_ro,one_cl,one_nilf,one_nili,one_ifc,one_ptr,one_sl,one_clo,flat_d,flat_ptr,flat_sl,flat_clo,flat_agg,retQ,so]
    have e':H1.set id (.row 1 [[V.d (.int .i64 a)]])=H1:=e
    rw [e']
    exact Fin.same (Nat.le_refl _)
  | [a,b],_ =>
    refine calls_of Tryz.func73 en_73 rfl (of_decide_eq_true rfl) (W_run mixed ⟨[K_97],[K_97h],[91,92,93,94,95,96,98,99,73],134,H.length,[0,1,2,3,8,9,10,11,12,13,14,15,16,17,18,23,29,35,50,68,72,87,113],[23,29,35,50,62,65,68,72,75,87,113]⟩ (fun | 17=>[0,1,2,3,4,5,6,8,9,10,7,11,12,13,14] | _=>[]) (by kernel_rfl) ?_)
    simp only [Tryz.f73,stripX,stripOps,pickOps]
    simp [K_97_f,K_97_e,K_97h_f,K_97h_e,K_97h_g,-V.flat,-V.one,one_int,one_bool,one_str,one_nilp,one_rp,one_nilsl,one_ro,one_cl,one_nilf,one_nili,one_ifc,one_ptr,one_sl,one_clo,flat_d,flat_ptr,flat_sl,flat_clo,flat_agg,w0,w1,w2,sv]
    refine W_rounds 1 (WR_succ ?_)
    refine W_run mixed ⟨[K_97],[K_97h],[91,92,93,94,95,96,98,99,73],134,H.length,[0,1,2,3,8,9,10,11,12,13,14,15,16,17,18,23,29,35,50,68,72,87,113],[23,29,35,50,62,65,68,72,75,87,113]⟩ (fun | 17=>[0,1,2,3,4,5,6,8,9,10,7,11,12,13,14] | _=>[]) (by kernel_rfl) ?_
    simp only [stripX,stripOps,pickOps]
    simp [K_97_f,K_97_e,K_97h_f,K_97h_e,K_97h_g,-V.flat,-V.one,one_int,one_bool,one_str,one_nilp,one_rp,one_nilsl,one_ro,one_cl,one_nilf,one_nili,one_ifc,one_ptr,one_sl,one_clo,flat_d,flat_ptr,flat_sl,flat_clo,flat_agg,w0,w1,w2,sv]
    rw [aft_call]
    refine (ins2_own H id a b (h (by simp))).mono ?_
    rintro r H1 ⟨rfl,rfl⟩
    simp [K_97_f,K_97_e,K_97h_f,K_97h_e,K_97h_g,-V.flat,-V.one,one_int,one_bool,one_str,one_nilp,one_rp,one_nilsl,one_ro,one_cl,one_nilf,one_nili,one_ifc,one_ptr,one_sl,one_clo,flat_d,flat_ptr,flat_sl,flat_clo,flat_agg,retQ,so]
    exact Fin.same (by simp)
theorem sort_own (H:Heap) (id:Nat) (l:List Int) (h2:l.length≤2) (h:l ≠ []→H[id]? = some (.row 1 (rI l))):CallsD Tryz.prog 45 [sv id l] H fun r H'=>r=.tup []∧H'=if l=[] then H else H.set id (.row 1 (rI (so l))):=by
  have wl:∀ n:Nat,n≤2→IntKind.u64.wrap (n:Int)=n:=fun n hn=>by
    rcases (by omega:n=0∨n=1∨n=2) with rfl | rfl | rfl <;> decide
  cases l with
  | nil =>
    have w:IntKind.u64.wrap 0=((0:Nat):Int):=by decide
    refine calls_of Tryz.func45 en_45 rfl (of_decide_eq_true rfl) (W_run mixed ⟨[],[],[74,73],11,H.length,[0,2],[]⟩ (fun _=>[]) (by kernel_rfl) ?_)
    simp only [Tryz.f45,stripX,stripOps,pickOps]
    simp [-V.flat,-V.one,one_int,one_bool,one_str,one_nilp,one_rp,one_nilsl,one_ro,one_cl,one_nilf,one_nili,one_ifc,one_ptr,one_sl,one_clo,flat_d,flat_ptr,flat_sl,flat_clo,flat_agg,sv]
    rw [w,aft_call]
    refine ((len_p 0 (by omega)).calls rfl).mono ?_
    rintro r H1 ⟨rfl,n,rfl⟩
    simp [-V.flat,-V.one,one_int,one_bool,one_str,one_nilp,one_rp,one_nilsl,one_ro,one_cl,one_nilf,one_nili,one_ifc,one_ptr,one_sl,one_clo,flat_d,flat_ptr,flat_sl,flat_clo,flat_agg,sv]
    rw [aft_call]
    refine (pdq_own H1 id [] n (by decide) (fun h=>absurd rfl h)).mono ?_
    rintro r H2 ⟨rfl,rfl⟩
    simp [-V.flat,-V.one,one_int,one_bool,one_str,one_nilp,one_rp,one_nilsl,one_ro,one_cl,one_nilf,one_nili,one_ifc,one_ptr,one_sl,one_clo,flat_d,flat_ptr,flat_sl,flat_clo,flat_agg,retQ]
    exact Fin.same (Nat.le_refl _)
  | cons a l =>
    have w:IntKind.u64.wrap ((l.length:Int) + 1)=((l.length + 1:Nat):Int):=wl (l.length + 1) h2
    refine calls_of Tryz.func45 en_45 rfl (of_decide_eq_true rfl) (W_run mixed ⟨[],[],[74,73],11,H.length,[0,2],[]⟩ (fun _=>[]) (by kernel_rfl) ?_)
    simp only [Tryz.f45,stripX,stripOps,pickOps]
    simp [-V.flat,-V.one,one_int,one_bool,one_str,one_nilp,one_rp,one_nilsl,one_ro,one_cl,one_nilf,one_nili,one_ifc,one_ptr,one_sl,one_clo,flat_d,flat_ptr,flat_sl,flat_clo,flat_agg,sv]
    rw [w,aft_call]
    refine ((len_p (l.length + 1) h2).calls rfl).mono ?_
    rintro r H1 ⟨rfl,n,rfl⟩
    simp [-V.flat,-V.one,one_int,one_bool,one_str,one_nilp,one_rp,one_nilsl,one_ro,one_cl,one_nilf,one_nili,one_ifc,one_ptr,one_sl,one_clo,flat_d,flat_ptr,flat_sl,flat_clo,flat_agg,sv]
    rw [aft_call]
    refine (pdq_own H1 id (a :: l) n h2 h).mono ?_
    rintro r H2 ⟨rfl,rfl⟩
    simp [-V.flat,-V.one,one_int,one_bool,one_str,one_nilp,one_rp,one_nilsl,one_ro,one_cl,one_nilf,one_nili,one_ifc,one_ptr,one_sl,one_clo,flat_d,flat_ptr,flat_sl,flat_clo,flat_agg,retQ]
    exact Fin.same (by simp)
end Go.Proofs.YthafdegfjadijaaGreat
end
