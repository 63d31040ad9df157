/- Some instructions more for the function that is built. No condition. -/
import Derived.Test.YthafdegfjadijaaGreatQS104
namespace Go.Proofs.YthafdegfjadijaaGreat
set_option maxRecDepth 100000
set_option linter.unusedSimpArgs false
set_option linter.unusedVariables false
def okB (m:Int) (b:ABlock):Prop:=(b.insts_.l=[]→b.insts_.v=.d .nilsl)∧Enc.good (Tr.era b)∧(b.insts_.l.length:Int)≤m
structure Dw (H0:Heap) (C B:Nat) (code:List Byt) (p:Int) (bs0:AS ABlock) (H:Heap) (a s m:Int) (bs:AS ABlock):Prop where
  cur:H[C]? = some (rC code a s)
  bd:Bd H B p bs m
  ne:C ≠ B
  nC:C ∉ ids bs
  ok:∀ b∈bs.l,okB m b
  len:bs.l.length=bs0.l.length
  mono:∀ (i:Nat) (b:ABlock),bs0.l[i]? = some b→∃ b':ABlock,bs.l[i]? = some b'∧b.insts_.l.length≤b'.insts_.l.length
  v:bs.v=bs0.v
  idb:∀ j∈ids bs,j∈ids bs0∨H0.length≤j
  only:Only (C :: B :: ids bs0) H0 H
theorem Dw.start {H:Heap} {C B:Nat} {code:List Byt} {p a s m:Int} {bs:AS ABlock} (h1:H[C]? = some (rC code a s)) (h2:Bd H B p bs m) (h3:C ≠ B) (h4:C ∉ ids bs) (h5:∀ b∈bs.l,okB m b):Dw H C B code p bs H a s m bs :=
  ⟨h1,h2,h3,h4,h5,rfl,fun i b h=>⟨b,h,Nat.le_refl _⟩,rfl,fun j h=>.inl h,Only.refl _ _⟩
section
variable {H0:Heap} {C B:Nat} {code:List Byt} {p:Int} {bs0:AS ABlock} {H:Heap} {a s m:Int} {bs:AS ABlock}
theorem Dw.more (q:Dw H0 C B code p bs0 H a s m bs) (R:Heap):Dw H0 C B code p bs0 (H++R) a s m bs :=
  ⟨(List.getElem?_append_left (List.getElem?_eq_some_iff.1 q.cur).1).trans q.cur,q.bd.frame (Only.app [] _ _) List.not_mem_nil fun j _ h=>absurd h List.not_mem_nil,q.ne,q.nC,q.ok,q.len,q.mono,q.v,q.idb,
    q.only.trans (Only.app [] _ _) (fun j h=>h) fun j h _=>absurd h List.not_mem_nil⟩
theorem Dw.move (q:Dw H0 C B code p bs0 H a s m bs) {k:Int} {H':Heap} (h:Cu H C code a k H'):∃ a' s':Int,(a≤a'∧a'≤a + k)∧Dw H0 C B code p bs0 H' a' s' m bs∧(∀ j,j ≠ C→H'[j]? = H[j]?)∧H'.length=H.length:=by
  obtain ⟨a',s',h1,rfl⟩:=h
  have hl:=(List.getElem?_eq_some_iff.1 q.cur).1
  refine ⟨a',s',h1,⟨List.getElem?_set_self hl,q.bd.frame (S:=[C]) Only.set (fun h=>q.ne (List.mem_singleton.1 h).symm) fun j hj h=>q.nC (List.mem_singleton.1 h ▸ hj),q.ne,q.nC,q.ok,q.len,q.mono,q.v,q.idb,
    q.only.trans Only.set (fun j h=>h) fun j h _=>by rw [List.mem_singleton.1 h];exact List.mem_cons_self⟩,fun j hj=>List.getElem?_set_ne fun e=>hj e.symm,by simp⟩
end
theorem Dw.kill {H0:Heap} {C B:Nat} {code:List Byt} {p:Int} {bs0:AS ABlock} {H:Heap} {a s m:Int} {bs:AS ABlock} (q:Dw H0 C B code p bs0 H a s m bs) {id:Nat} (h1:id ≠ C) (h2:id ≠ B) (h3:id ∉ ids bs) (h4:H0.length≤id) (P:Place):Dw H0 C B code p bs0 (H.set id P) a s m bs :=
  ⟨(List.getElem?_set_ne h1).trans q.cur,q.bd.frame (S:=[id]) Only.set (fun h=>h2 (List.mem_singleton.1 h).symm) fun j hj h=>h3 (List.mem_singleton.1 h ▸ hj),q.ne,q.nC,q.ok,q.len,q.mono,q.v,q.idb,
    ⟨by simpa using q.only.len,fun j hj hn=>(List.getElem?_set_ne (by omega)).trans (q.only.at_ j hj hn)⟩⟩
theorem Dw.lt {H0:Heap} {C B:Nat} {code:List Byt} {p:Int} {bs0:AS ABlock} {H:Heap} {a s m:Int} {bs:AS ABlock} (q:Dw H0 C B code p bs0 H a s m bs):C < H.length∧B < H.length∧∀ j∈ids bs,j < H.length :=
  ⟨(List.getElem?_eq_some_iff.1 q.cur).1,q.bd.lt,fun j hj=>q.bd.own.lt hj⟩
theorem Dw.inst {H0 : Heap} {C B : Nat} {code : List Byt} {p : Int} {bs0 : AS ABlock} {H : Heap} {a s m : Int} {bs : AS ABlock} (q : Dw H0 C B code p bs0 H a s m bs) {k : Nat} {b : ABlock} (hb : bs.l[k]? = some b) {op n : Int} {args : AS Int} (hop : Enc.good op) (hn : Enc.good n) (hal : args.l.length ≤ 100) (hag : ∀ x ∈ args.l, Enc.good x)
    (hai:∀ j∈ids args,H0.length≤j∧j ≠ C) (hm:0≤m∧m≤1000) {H':Heap} {iv:V} (hB:Bd H' B p ⟨bs.v,bs.l.set k (withI b iv ⟨op,n,args⟩)⟩ (m + 1)) (hid:∀ j∈ids (⟨bs.v,bs.l.set k (withI b iv ⟨op,n,args⟩)⟩:AS ABlock),j∈ids bs∨j∈ids args∨H.length≤j) (ho:Only (B :: ids bs) H H') :
    Dw H0 C B code p bs0 H' a s (m + 1) ⟨bs.v,bs.l.set k (withI b iv ⟨op,n,args⟩)⟩:=by
  obtain ⟨lC,lB,lb⟩:=q.lt
  have hkl:=(List.getElem?_eq_some_iff.1 hb).1
  refine ⟨(ho.at_ C lC fun h=>?_).trans q.cur,hB,q.ne,fun h=>?_,fun c hc=>?_,by rw [List.length_set];exact q.len,fun i b0 h0=>?_,q.v,fun j hj=>?_,q.only.trans ho (fun j h=>h) fun j hj hl=>?_⟩
  · rcases List.mem_cons.1 h with h | h
    · exact q.ne h
    · exact q.nC h
  · rcases hid C h with h | h | h
    · exact q.nC h
    · exact (hai C h).2 rfl
    · omega
  · rcases List.mem_or_eq_of_mem_set hc with hc | rfl
    · obtain ⟨h1,h2,h3⟩:=q.ok c hc
      exact ⟨h1,h2,by omega⟩
    · obtain ⟨h1,h2,h3⟩:=q.ok b (List.mem_of_getElem? hb)
      obtain ⟨g1,g2,g3,g4,g5⟩:=h2
      have el:(Tr.era b).insts_.length=b.insts_.l.length:=List.length_map _
      refine ⟨fun h=>absurd h (by unfold withI;simp),⟨g1,⟨?_,fun x hx=>?_⟩,g3,g4,g5⟩,by unfold withI;simp;omega⟩
      · show ((b.insts_.l++[(⟨op,n,args⟩:AInst)]).map Tr.era).length≤_
        simp;omega
      · have hx:x∈(b.insts_.l++[(⟨op,n,args⟩:AInst)]).map Tr.era:=hx
        rw [List.map_append] at hx
        rcases List.mem_append.1 hx with h | h
        · exact g2.2 x h
        · rw [List.mem_singleton.1 h]
          refine ⟨hop,hn, ?_,fun y hy=>?_⟩
          · show (args.l.map Tr.era).length≤_
            rw [List.length_map];omega
          · have hy:y∈args.l.map Tr.era:=hy
            obtain ⟨z,hz,rfl⟩:=List.mem_map.1 hy
            exact hag z hz
  · obtain ⟨b',h1,h2⟩:=q.mono i b0 h0
    by_cases e:k=i
    · subst e
      rw [hb] at h1
      cases h1
      exact ⟨_,List.getElem?_set_self hkl,by unfold withI;simp;omega⟩
    · exact ⟨b',(List.getElem?_set_ne e).trans h1,h2⟩
  · rcases hid j hj with h | h | h
    · exact q.idb j h
    · exact .inr (hai j h).1
    · exact .inr (by have:=q.only.len;omega)
  · rcases List.mem_cons.1 hj with rfl | hj
    · exact List.mem_cons_of_mem _ List.mem_cons_self
    · rcases q.idb j hj with h | h
      · exact List.mem_cons_of_mem _ (List.mem_cons_of_mem _ h)
      · omega
theorem l1Own_pl (H:Heap) (lid:Nat) (l:List Int) (hl:H[lid]? = some (.row 1 (rI l))) (h1:l.length≤1000):CallsD Tryz.prog 71 [.sl lid 1 0 l.length] H fun r H'=>r=.sl (H.length + 1) 1 0 l.length∧H'=H++[.dead,.row 1 (rI l)]:=by
  have hlR:∀ R:Heap,(H++R)[lid]? = some (.row 1 (rI l)):=fun R=>(List.getElem?_append_left (List.getElem?_eq_some_iff.1 hl).1).trans hl
  have f1:l.length * 8≤140737488355328:=by omega
  have f2:l.length≤140737488355328:=by omega
  refine calls_of Tryz.func71 en_71 rfl (of_decide_eq_true rfl) (W_run mixed ⟨[],[],[],6,H.length,[0,2],[]⟩ (fun _=>[]) (by kernel_rfl) ?_)
  simp only [Tryz.f71,stripX,stripOps,pickOps]
  simp [-V.flat,-V.one,one_int,one_bool,one_str,one_nilp,one_rp,one_nilsl,one_ro,one_cl,one_nilf,one_nili,one_ifc,one_ptr,one_sl,one_clo,flat_d,flat_ptr,flat_sl,flat_clo,flat_agg,hl,hlR,f1,f2,retQ]
  exact Fin.same (by simp)
structure Sn (H:Heap) (C B:Nat) (bs:AS ABlock) (sid:Nat) (l:List Int):Prop where
  row:H[sid]? = some (.row 1 (rI l))
  nC:sid ≠ C
  nB:sid ≠ B
  nb:sid ∉ ids bs
  pos:0 < l.length
  le:l.length≤500
  good:∀ x∈l,0≤x∧x≤1000
theorem Sn.lt {H:Heap} {C B:Nat} {bs:AS ABlock} {sid:Nat} {l:List Int} (q:Sn H C B bs sid l):sid < H.length:=(List.getElem?_eq_some_iff.1 q.row).1
theorem Sn.keep {H H':Heap} {C B:Nat} {bs:AS ABlock} {sid:Nat} {l:List Int} (q:Sn H C B bs sid l) (h:H'[sid]? = H[sid]?):Sn H' C B bs sid l:=⟨h.trans q.row,q.nC,q.nB,q.nb,q.pos,q.le,q.good⟩
def drwL:List Int:=[1,1,4,4,6,5,3,9,10,11,7,12,13]
theorem drwL_ok {x:Int} (h:x∈drwL):1≤x∧x≤13∧x ≠ 2:=by
  simp [drwL] at h
  omega
theorem arity_rng {x:Int} (h:1≤x∧x≤13∧x ≠ 2):0≤arity x∧arity x≤3:=by
  unfold arity arity1 inR
  simp only [decide_eq_true_eq,Bool.and_eq_true]
  repeat' split
  all_goals omega
set_option maxHeartbeats 8000000 in
theorem insts_own (H : Heap) (C B : Nat) (code : List Byt) (hg : Enc.good code) (p a s m : Int) (bs : AS ABlock) (sid : Nat) (l : List Int) (k : Nat) (q : Dw H C B code p bs H a s m bs) (hs : Sn H C B bs sid l) (hb : 0 < bs.l.length ∧ bs.l.length ≤ 8) (hm : 0 ≤ m ∧ m + k ≤ 400) (ha : 0 ≤ a ∧ a + 100 * k ≤ 100000000) (hl : l.length + k ≤ 500) :
    CallsD Tryz.prog 105 [.ptr C 3 0 0,.ptr B 3 0 0,.sl sid 1 0 l.length,.d (.int .i64 k)] H fun r H'=>∃ (a' s':Int) (bs':AS ABlock) (sid':Nat) (l':List Int),r=.sl sid' 1 0 l'.length∧Dw H C B code p bs H' a' s' (m + k) bs'∧Sn H' C B bs' sid' l'∧(a≤a'∧a'≤a + 100 * k) ∧
      (0 < k→H.length≤sid'∧l'.length≤l.length + k∧∃ b,bs'.l[bs.l.length - 1]? = some b∧0 < b.insts_.l.length):=by
  refine calls_of Tryz.func105 en_105 rfl (of_decide_eq_true rfl) (W_run mixed ⟨[K_66],[K_66h],[119,79,120,78,71,107],59,H.length,[0,1,2,3,8,9,10,11,12,14,21,24,26,30,36],[14,21,24,26,30,36]⟩ (fun _=>[]) (by kernel_rfl) ?_)
  simp only [Tryz.f105,stripX,stripOps,pickOps]
  simp [K_66_f,K_66_e,K_66h_f,K_66h_e,K_66h_g,-V.flat,-V.one,one_int,one_bool,one_str,one_nilp,one_rp,one_nilsl,one_ro,one_cl,one_nilf,one_nili,one_ifc,one_ptr,one_sl,one_clo,flat_d,flat_ptr,flat_sl,flat_clo,flat_agg]
  refine W_loopH (α:=Nat × Nat × List Int × Heap) (fun b=>[(0,.ptr C 3 0 0),(1,.ptr B 3 0 0),(2,.sl b.2.1 1 0 b.2.2.1.length),(3,.d (.int .i64 b.1))]) (fun b=>b.2.2.2)
    (fun b=>b.1≤k∧∃ (a1 s1:Int) (bs1:AS ABlock),Dw H C B code p bs b.2.2.2 a1 s1 (m + ((k:Int) - b.1)) bs1∧Sn b.2.2.2 C B bs1 b.2.1 b.2.2.1∧(a≤a1∧a1≤a + 100 * ((k:Int) - b.1))∧b.2.2.1.length≤l.length + (k - b.1) ∧
      (b.1 < k→H.length≤b.2.1∧∃ b,bs1.l[bs.l.length - 1]? = some b∧0 < b.insts_.l.length)) (fun b=>b.1) (k,sid,l,H) ?_ ⟨Nat.le_refl _,a,s,bs,by simpa using q,hs,⟨by omega,by omega⟩,by simp,fun h=>absurd h (Nat.lt_irrefl _)⟩ ?_
  · simp
  rintro ⟨r,sd,lv,H1⟩ ⟨hr,a1,s1,bs1,qw,qs,ha1,hlv,hfresh⟩
  simp only [] at hr qw qs ha1 hlv hfresh ⊢
  by_cases hr0:0 < r
  · refine W_runCut mixed 1 ⟨[K_66],[K_66h],[119,79,120,78,71,107],59,H.length,[0,1,2,3,8,9,10,11,12,14,21,24,26,30,36],[14,21,24,26,30,36]⟩ (fun _=>[]) (by kernel_rfl) ?_
    simp only [stripCut,stripX,stripOps,pickOps]
    simp [K_66_f,K_66_e,K_66h_f,K_66h_e,K_66h_g,-V.flat,-V.one,one_int,one_bool,one_str,one_nilp,one_rp,one_nilsl,one_ro,one_cl,one_nilf,one_nili,one_ifc,one_ptr,one_sl,one_clo,flat_d,flat_ptr,flat_sl,flat_clo,flat_agg,hr0]
    clear hfresh
    have hll:=qs.le
    have hlp:=qs.pos
    refine W_seqR (α:=Nat × List Int × Heap) (fun b=>[(0,.ptr C 3 0 0),(1,.ptr B 3 0 0),(2,.sl b.1 1 0 b.2.1.length),(3,.d (.int .i64 r))]) (fun b=>b.2.2)
      (fun b=>∃ (a1 s1:Int) (bs1:AS ABlock),Dw H C B code p bs b.2.2 a1 s1 (m + ((k:Int) - (r - 1:Nat))) bs1∧Sn b.2.2 C B bs1 b.1 b.2.1∧(a≤a1∧a1≤a + 100 * ((k:Int) - (r - 1:Nat)))∧b.2.1.length≤l.length + (k - (r - 1))∧H.length≤b.1∧∃ b,bs1.l[bs.l.length - 1]? = some b∧0 < b.insts_.l.length) ?_ ?_
    · refine W_block ?_
      -- an operation is chosen
      refine W_seqR (α:=Int × Heap) (fun b=>[(0,.ptr C 3 0 0),(1,.ptr B 3 0 0),(2,.sl sd 1 0 lv.length),(3,.d (.int .i64 r)),(9,.d (.int .i64 b.1))]) (fun b=>b.2)
        (fun b=>b.1∈drwL∧∃ (a2 s2:Int),(a1≤a2∧a2≤a1 + 2)∧Dw H C B code p bs b.2 a2 s2 (m + ((k:Int) - r)) bs1∧Sn b.2 C B bs1 sd lv) ?_ ?_
      · refine W_run mixed ⟨[K_66],[K_66h],[119,79,120,78,71,107],59,H.length,[0,1,2,3,8,9,10,11,12,14,21,24,26,30,36],[14,21,24,26,30,36]⟩ (fun _=>[]) (by kernel_rfl) ?_
        simp only [stripX,stripOps,pickOps]
        simp [K_66_f,K_66_e,K_66h_f,K_66h_e,K_66h_g,-V.flat,-V.one,one_int,one_bool,one_str,one_nilp,one_rp,one_nilsl,one_ro,one_cl,one_nilf,one_nili,one_ifc,one_ptr,one_sl,one_clo,flat_d,flat_ptr,flat_sl,flat_clo,flat_agg]
        rw [aft_call]
        have qw2:=qw.more [Place.row 1 (rI drwL)]
        have hC1:=(List.getElem?_eq_some_iff.1 qw.cur).1
        refine (among_own _ C H1.length code a1 s1 drwL qw2.cur hg (by omega) (by omega) (by simp) (by omega) (by decide) (by decide)).mono ?_
        rintro rv H2 ⟨x,rfl,hx,hcu⟩
        obtain ⟨a2,s2,hb2,qw3,hk3,hl3⟩:=qw2.move hcu
        simp [K_66_f,K_66_e,K_66h_f,K_66h_e,K_66h_g,-V.flat,-V.one,one_int,one_bool,one_str,one_nilp,one_rp,one_nilsl,one_ro,one_cl,one_nilf,one_nili,one_ifc,one_ptr,one_sl,one_clo,flat_d,flat_ptr,flat_sl,flat_clo,flat_agg]
        exact ⟨x,H2,⟨hx,a2,hb2,⟨s2,qw3⟩,qs.keep ((hk3 sd qs.nC).trans (List.getElem?_append_left qs.lt))⟩,HLe.refl _,rfl⟩
      rintro ⟨x,H2⟩ ⟨hx,a2,s2,hb2,qw2,qs2⟩
      simp only [] at hx qw2 qs2 ⊢
      refine W_seqR (α:=Int × Heap) (fun b=>[(0,.ptr C 3 0 0),(1,.ptr B 3 0 0),(2,.sl sd 1 0 lv.length),(3,.d (.int .i64 r)),(9,.d (.int .i64 b.1))]) (fun b=>b.2)
        (fun b=>(1≤b.1∧b.1≤13∧b.1 ≠ 2)∧∃ (a3 s3:Int),(a1≤a3∧a3≤a1 + 4)∧Dw H C B code p bs b.2 a3 s3 (m + ((k:Int) - r)) bs1∧Sn b.2 C B bs1 sd lv) ?_ ?_
      · refine W_run mixed ⟨[K_66],[K_66h],[119,79,120,78,71,107],59,H.length,[0,1,2,3,8,9,10,11,12,14,21,24,26,30,36],[14,21,24,26,30,36]⟩ (fun _=>[]) (by kernel_rfl) ?_
        simp only [stripX,stripOps,pickOps]
        simp [K_66_f,K_66_e,K_66h_f,K_66h_e,K_66h_g,-V.flat,-V.one,one_int,one_bool,one_str,one_nilp,one_rp,one_nilsl,one_ro,one_cl,one_nilf,one_nili,one_ifc,one_ptr,one_sl,one_clo,flat_d,flat_ptr,flat_sl,flat_clo,flat_agg]
        rw [aft_call]
        refine (one_own _ C code a2 s2 15 qw2.cur hg (by omega) (by omega)).mono ?_
        rintro rv H3 ⟨bb,rfl,hcu⟩
        obtain ⟨a3,s3,hb3,qw3,hk3,hl3⟩:=qw2.move hcu
        have qs3:=qs2.keep (hk3 sd qs.nC)
        cases bb with
        | true =>
          simp [K_66_f,K_66_e,K_66h_f,K_66h_e,K_66h_g,-V.flat,-V.one,one_int,one_bool,one_str,one_nilp,one_rp,one_nilsl,one_ro,one_cl,one_nilf,one_nili,one_ifc,one_ptr,one_sl,one_clo,flat_d,flat_ptr,flat_sl,flat_clo,flat_agg]
          exact ⟨8,H3,⟨⟨by decide,by decide,by decide⟩,a3,⟨by omega,by omega⟩,⟨s3,qw3⟩,qs3⟩,HLe.refl _,rfl⟩
        | false =>
          simp [K_66_f,K_66_e,K_66h_f,K_66h_e,K_66h_g,-V.flat,-V.one,one_int,one_bool,one_str,one_nilp,one_rp,one_nilsl,one_ro,one_cl,one_nilf,one_nili,one_ifc,one_ptr,one_sl,one_clo,flat_d,flat_ptr,flat_sl,flat_clo,flat_agg]
          exact ⟨x,H3,⟨drwL_ok hx,a3,⟨by omega,by omega⟩,⟨s3,qw3⟩,qs3⟩,HLe.refl _,rfl⟩
      rintro ⟨op,H3⟩ ⟨hop,a3,s3,hb3,qw3,qs3⟩
      simp only [] at hop qw3 qs3 ⊢
      have hne:¬ lv.length=0:=by omega
      have hne2:lv ≠ []:=fun e=>by rw [e] at hlp;exact absurd hlp (by decide)
      refine W_runCut mixed 3 ⟨[K_66],[K_66h],[119,79,120,78,71,107],59,H.length,[0,1,2,3,8,9,10,11,12,14,21,24,26,30,36],[14,21,24,26,30,36]⟩ (fun _=>[]) (by kernel_rfl) ?_
      simp only [stripCut,stripX,stripOps,pickOps]
      simp [K_66_f,K_66_e,K_66h_f,K_66h_e,K_66h_g,-V.flat,-V.one,one_int,one_bool,one_str,one_nilp,one_rp,one_nilsl,one_ro,one_cl,one_nilf,one_nili,one_ifc,one_ptr,one_sl,one_clo,flat_d,flat_ptr,flat_sl,flat_clo,flat_agg,hne,hne2]
      refine W_seqR (α:=Int × Heap) (fun b=>[(0,.ptr C 3 0 0),(1,.ptr B 3 0 0),(2,.sl sd 1 0 lv.length),(3,.d (.int .i64 r)),(9,.d (.int .i64 op)),(10,.d .nilsl),(11,.d (.int .i64 b.1))]) (fun b=>b.2)
        (fun b=>Enc.good b.1∧∃ (a4 s4:Int),(a1≤a4∧a4≤a1 + 40)∧Dw H C B code p bs b.2 a4 s4 (m + ((k:Int) - r)) bs1∧Sn b.2 C B bs1 sd lv) ?_ ?_
      · by_cases ho:op=1
        · refine W_run mixed ⟨[K_66],[K_66h],[119,79,120,78,71,107],59,H.length,[0,1,2,3,8,9,10,11,12,14,21,24,26,30,36],[14,21,24,26,30,36]⟩ (fun _=>[]) (by kernel_rfl) ?_
          simp only [stripX,stripOps,pickOps]
          simp [K_66_f,K_66_e,K_66h_f,K_66h_e,K_66h_g,-V.flat,-V.one,one_int,one_bool,one_str,one_nilp,one_rp,one_nilsl,one_ro,one_cl,one_nilf,one_nili,one_ifc,one_ptr,one_sl,one_clo,flat_d,flat_ptr,flat_sl,flat_clo,flat_agg,ho]
          rw [aft_call]
          refine (num_own _ C code a3 s3 qw3.cur hg (by omega) (by omega)).mono ?_
          rintro rv H4 ⟨n,rfl,hn,hcu⟩
          obtain ⟨a4,s4,hb4,qw4,hk4,hl4⟩:=qw3.move hcu
          have qs4:=qs3.keep (hk4 sd qs.nC)
          simp [K_66_f,K_66_e,K_66h_f,K_66h_e,K_66h_g,-V.flat,-V.one,one_int,one_bool,one_str,one_nilp,one_rp,one_nilsl,one_ro,one_cl,one_nilf,one_nili,one_ifc,one_ptr,one_sl,one_clo,flat_d,flat_ptr,flat_sl,flat_clo,flat_agg]
          rw [aft_call]
          refine (one_own _ C code a4 s4 2 qw4.cur hg (by omega) (by omega)).mono ?_
          rintro rv H5 ⟨bb,rfl,hcu⟩
          obtain ⟨a5,s5,hb5,qw5,hk5,hl5⟩:=qw4.move hcu
          have qs5:=qs4.keep (hk5 sd qs.nC)
          cases bb with
          | true =>
            simp [K_66_f,K_66_e,K_66h_f,K_66h_e,K_66h_g,-V.flat,-V.one,one_int,one_bool,one_str,one_nilp,one_rp,one_nilsl,one_ro,one_cl,one_nilf,one_nili,one_ifc,one_ptr,one_sl,one_clo,flat_d,flat_ptr,flat_sl,flat_clo,flat_agg]
            rw [aft_call]
            refine (pick_own _ C code a5 s5 4 qw5.cur hg (by omega) (by omega)).mono ?_
            rintro rv H6 ⟨y,rfl,hy,hcu⟩
            obtain ⟨a6,s6,hb6,qw6,hk6,hl6⟩:=qw5.move hcu
            have qs6:=qs5.keep (hk6 sd qs.nC)
            simp [K_66_f,K_66_e,K_66h_f,K_66h_e,K_66h_g,-V.flat,-V.one,one_int,one_bool,one_str,one_nilp,one_rp,one_nilsl,one_ro,one_cl,one_nilf,one_nili,one_ifc,one_ptr,one_sl,one_clo,flat_d,flat_ptr,flat_sl,flat_clo,flat_agg]
            exact ⟨y,H6,⟨⟨by have:=hy.1;omega,by have:=hy.1;omega⟩,a6,⟨by omega,by omega⟩,⟨s6,qw6⟩,qs6⟩,HLe.refl _,rfl⟩
          | false =>
            simp [K_66_f,K_66_e,K_66h_f,K_66h_e,K_66h_g,-V.flat,-V.one,one_int,one_bool,one_str,one_nilp,one_rp,one_nilsl,one_ro,one_cl,one_nilf,one_nili,one_ifc,one_ptr,one_sl,one_clo,flat_d,flat_ptr,flat_sl,flat_clo,flat_agg]
            exact ⟨n,H5,⟨hn,a5,⟨by omega,by omega⟩,⟨s5,qw5⟩,qs5⟩,HLe.refl _,rfl⟩
        · refine W_run mixed ⟨[K_66],[K_66h],[119,79,120,78,71,107],59,H.length,[0,1,2,3,8,9,10,11,12,14,21,24,26,30,36],[14,21,24,26,30,36]⟩ (fun _=>[]) (by kernel_rfl) ?_
          simp only [stripX,stripOps,pickOps]
          simp [K_66_f,K_66_e,K_66h_f,K_66h_e,K_66h_g,-V.flat,-V.one,one_int,one_bool,one_str,one_nilp,one_rp,one_nilsl,one_ro,one_cl,one_nilf,one_nili,one_ifc,one_ptr,one_sl,one_clo,flat_d,flat_ptr,flat_sl,flat_clo,flat_agg,ho]
          exact ⟨0,H3,⟨⟨by decide,by decide⟩,a3,⟨by omega,by omega⟩,⟨s3,qw3⟩,qs3⟩,HLe.refl _,rfl⟩
      rintro ⟨n,H4⟩ ⟨hn,a4,s4,hb4,qw4,qs4⟩
      simp only [] at hn qw4 qs4 ⊢
      obtain ⟨ar0,ar3⟩:=arity_rng hop
      obtain ⟨ar,har⟩:∃ n:Nat,arity op=n:=⟨(arity op).toNat,by omega⟩
      obtain ⟨l4C,l4B,l4b⟩:=qw4.lt
      -- its arguments
      refine W_seqR (α:=V × List Int × Heap) (fun b=>[(0,.ptr C 3 0 0),(1,.ptr B 3 0 0),(2,.sl sd 1 0 lv.length),(3,.d (.int .i64 r)),(9,.d (.int .i64 op)),(10,b.1),(11,.d (.int .i64 n))]) (fun b=>b.2.2)
        (fun b=>Gr H4.length b.2.1 b.1 b.2.2∧b.2.1.length≤3∧(∀ x∈b.2.1,0≤x∧x≤1000)∧H4.length≤b.2.2.length∧∃ (a5 s5:Int),(a1≤a5∧a5≤a1 + 60)∧Dw H C B code p bs b.2.2 a5 s5 (m + ((k:Int) - r)) bs1∧Sn b.2.2 C B bs1 sd lv) ?_ ?_
      · refine W_run mixed ⟨[K_66],[K_66h],[119,79,120,78,71,107],59,H.length,[0,1,2,3,8,9,10,11,12,14,21,24,26,30,36],[14,21,24,26,30,36]⟩ (fun _=>[]) (by kernel_rfl) ?_
        simp only [stripX,stripOps,pickOps]
        simp [K_66_f,K_66_e,K_66h_f,K_66h_e,K_66h_g,-V.flat,-V.one,one_int,one_bool,one_str,one_nilp,one_rp,one_nilsl,one_ro,one_cl,one_nilf,one_nili,one_ifc,one_ptr,one_sl,one_clo,flat_d,flat_ptr,flat_sl,flat_clo,flat_agg,har]
        refine W_loopH (α:=Nat × V × List Int × Heap) (fun b=>[(0,.ptr C 3 0 0),(1,.ptr B 3 0 0),(2,.sl sd 1 0 lv.length),(3,.d (.int .i64 r)),(9,.d (.int .i64 op)),(10,b.2.1),(11,.d (.int .i64 n)),(12,.d (.int .i64 b.1))]) (fun b=>b.2.2.2)
          (fun b=>b.1≤ar∧Gr H4.length b.2.2.1 b.2.1 b.2.2.2∧b.2.2.1.length + b.1=ar∧(∀ x∈b.2.2.1,0≤x∧x≤1000)∧H4.length≤b.2.2.2.length∧∃ (a5 s5:Int),(a1≤a5∧a5≤a1 + 40 + 2 * ((ar:Int) - b.1))∧Dw H C B code p bs b.2.2.2 a5 s5 (m + ((k:Int) - r)) bs1∧Sn b.2.2.2 C B bs1 sd lv) (fun b=>b.1) (ar,.d .nilsl,[],H4) ?_ ⟨Nat.le_refl _,.inl ⟨rfl,rfl⟩,by simp,fun x h=>absurd h List.not_mem_nil,Nat.le_refl _,a4,s4,⟨by omega,by simp;omega⟩,qw4,qs4⟩ ?_
        · simp
        rintro ⟨j,v,al,H5⟩ ⟨hj,hgr,hal,hag,hl5,a5,s5,hb5,qw5,qs5⟩
        simp only [] at hj hgr hal hag hl5 hb5 qw5 qs5 ⊢
        have hv1:v.one=true∧v.flat=[v]:=by rcases hgr with ⟨_,rfl⟩ | ⟨id,rfl,_⟩ <;> exact ⟨rfl,rfl⟩
        obtain ⟨hv1,hv2⟩:=hv1
        by_cases hj0:0 < j
        · refine W_run mixed ⟨[K_66],[K_66h],[119,79,120,78,71,107],59,H.length,[0,1,2,3,8,9,10,11,12,14,21,24,26,30,36],[14,21,24,26,30,36]⟩ (fun _=>[]) (by kernel_rfl) ?_
          simp only [stripX,stripOps,pickOps]
          simp [K_66_f,K_66_e,K_66h_f,K_66h_e,K_66h_g,-V.flat,-V.one,one_int,one_bool,one_str,one_nilp,one_rp,one_nilsl,one_ro,one_cl,one_nilf,one_nili,one_ifc,one_ptr,one_sl,one_clo,flat_d,flat_ptr,flat_sl,flat_clo,flat_agg,hj0,hv1,hv2]
          rw [aft_call]
          refine (pick_own _ C code a5 s5 lv.length qw5.cur hg (by omega) (by omega)).mono ?_
          rintro rv H6 ⟨y,rfl,hy,hcu⟩
          obtain ⟨a6,s6,hb6,qw6,hk6,hl6⟩:=qw5.move hcu
          have qs6:=qs5.keep (hk6 sd qs.nC)
          obtain ⟨hy0,hy1⟩:=hy.lt (by omega)
          obtain ⟨y,rfl⟩:=Int.eq_ofNat_of_zero_le hy0
          have hyl:y < lv.length:=by omega
          obtain ⟨z,hz⟩:∃ z,lv[y]? = some z:=⟨_,List.getElem?_eq_getElem hyl⟩
          have hz1:lv[y]?.getD 0=z:=by rw [hz];rfl
          have hz2:∀ h:y < lv.length,lv[y]=z:=fun h=>Option.some.inj ((List.getElem?_eq_getElem h).symm.trans hz)
          have hzg:=qs.good z (List.mem_of_getElem? hz)
          have hrow:=qs6.row
          have hgr6:Gr H4.length al v H6:=by
            rcases hgr with h | ⟨id,h1,h2,h3,h4⟩
            · exact .inl h
            · exact .inr ⟨id,h1,h2,h3,(hk6 id (by omega)).trans h4⟩
          have wj:IntKind.i64.wrap ((j:Int) - 1)=((j - 1:Nat):Int):=by rw [wrap_id] <;> omega
          have hrowR:∀ R:Heap,(H6++R)[sd]? = some (.row 1 (rI lv)):=fun R=>(List.getElem?_append_left qs6.lt).trans hrow
          have hagz:∀ x∈al++[z],0≤x∧x≤1000:=fun x hx=>by
            rcases List.mem_append.1 hx with h | h
            · exact hag x h
            · rw [List.mem_singleton.1 h];exact hzg
          have hl46:H4.length≤H6.length:=by omega
          have hpz:0 < (al++[z]).length:=by simp
          rcases hgr6 with ⟨rfl,rfl⟩ | ⟨id,rfl,hp,hid0,hr6⟩
          · simp [K_66_f,K_66_e,K_66h_f,K_66h_e,K_66h_g,-V.flat,-V.one,one_int,one_bool,one_str,one_nilp,one_rp,one_nilsl,one_ro,one_cl,one_nilf,one_nili,one_ifc,one_ptr,one_sl,one_clo,flat_d,flat_ptr,flat_sl,flat_clo,flat_agg,hrow,hrowR,hyl,hz,hz1,hz2]
            exact ⟨j - 1,_,[z],_,⟨by omega,Gr.new (l:=[z]) hl46 (by simp) rfl rfl,by simp at hal ⊢;omega,hagz,by simp;omega,a6,⟨by omega,by omega⟩,⟨s6,qw6.more _⟩,qs6.keep (List.getElem?_append_left qs6.lt)⟩,by omega,rfl,rfl,wj⟩
          · have hidl:=(List.getElem?_eq_some_iff.1 hr6).1
            have hrR:∀ R:Heap,(H6++R)[id]? = some (.row 1 (rI al)):=fun R=>(List.getElem?_append_left hidl).trans hr6
            have hsR:∀ (R:Heap) P,(H6++R).set id P=H6.set id P++R:=fun R P=>List.set_append_left _ _ hidl
            have hal3:al.length≤3:=by omega
            simp [K_66_f,K_66_e,K_66h_f,K_66h_e,K_66h_g,-V.flat,-V.one,one_int,one_bool,one_str,one_nilp,one_rp,one_nilsl,one_ro,one_cl,one_nilf,one_nili,one_ifc,one_ptr,one_sl,one_clo,flat_d,flat_ptr,flat_sl,flat_clo,flat_agg,hrow,hrowR,hyl,hz,hz1,hz2,hrR,hsR]
            have hnb:id ∉ ids bs1:=fun h=>by have:=l4b id h;omega
            have qs7:Sn (H6.set id .dead) C B bs1 sd lv:=qs6.keep (List.getElem?_set_ne (fun e=>by have:=qs4.lt;omega))
            refine ⟨by omega,j - 1,_,al++[z],_,⟨by omega,Gr.new2 hl46 hpz (by simp) (by simp),by simp;omega,hagz,by simp;omega,a6,⟨by omega,by omega⟩,⟨s6,(qw6.kill (by omega) (by omega) hnb (by have:=qw4.only.len;omega) _).more _⟩,qs7.keep (List.getElem?_append_left qs7.lt)⟩,by omega,rfl,rfl,wj⟩
        · refine W_run mixed ⟨[K_66],[K_66h],[119,79,120,78,71,107],59,H.length,[0,1,2,3,8,9,10,11,12,14,21,24,26,30,36],[14,21,24,26,30,36]⟩ (fun _=>[]) (by kernel_rfl) ?_
          simp only [stripX,stripOps,pickOps]
          simp [K_66_f,K_66_e,K_66h_f,K_66h_e,K_66h_g,-V.flat,-V.one,one_int,one_bool,one_str,one_nilp,one_rp,one_nilsl,one_ro,one_cl,one_nilf,one_nili,one_ifc,one_ptr,one_sl,one_clo,flat_d,flat_ptr,flat_sl,flat_clo,flat_agg,hj0,hv1,hv2]
          exact ⟨_,al,H5,⟨hgr,by omega,hag,hl5,a5,⟨by omega,by omega⟩,⟨s5,qw5⟩,qs5⟩,HLe.refl _,rfl⟩
      rintro ⟨v,al,H5⟩ ⟨hgr,hal,hag,hl5,a5,s5,hb5,qw5,qs5⟩
      simp only [] at hgr hal hag hl5 qw5 qs5 ⊢
      have hv1:v.one=true∧v.flat=[v]:=by rcases hgr with ⟨_,rfl⟩ | ⟨id,rfl,_⟩ <;> exact ⟨rfl,rfl⟩
      refine W_run mixed ⟨[K_66],[K_66h],[119,79,120,78,71,107],59,H.length,[0,1,2,3,8,9,10,11,12,14,21,24,26,30,36],[14,21,24,26,30,36]⟩ (fun _=>[]) (by kernel_rfl) ?_
      simp only [stripX,stripOps,pickOps]
      simp [K_66_f,K_66_e,K_66h_f,K_66h_e,K_66h_g,-V.flat,-V.one,one_int,one_bool,one_str,one_nilp,one_rp,one_nilsl,one_ro,one_cl,one_nilf,one_nili,one_ifc,one_ptr,one_sl,one_clo,flat_d,flat_ptr,flat_sl,flat_clo,flat_agg,hv1]
      rw [aft_call]
      refine (l1Own_pl H5 sd lv qs5.row (by omega)).mono ?_
      rintro rv H6 ⟨rfl,rfl⟩
      obtain ⟨hv1,hv2⟩:=hv1
      simp [K_66_f,K_66_e,K_66h_f,K_66h_e,K_66h_g,-V.flat,-V.one,one_int,one_bool,one_str,one_nilp,one_rp,one_nilsl,one_ro,one_cl,one_nilf,one_nili,one_ifc,one_ptr,one_sl,one_clo,flat_d,flat_ptr,flat_sl,flat_clo,flat_agg,hv1,hv2]
      rw [aft_call]
      have qw6:=qw5.more [Place.dead,.row 1 (rI lv)]
      have oA:Own (H5++[Place.dead,.row 1 (rI lv)]) (⟨v,al⟩:AS Int)∧∀ j∈ids (⟨v,al⟩:AS Int),H4.length≤j∧j < H5.length:=by
        rcases hgr with ⟨rfl,rfl⟩ | ⟨id,rfl,h1,h2,h3⟩
        · exact ⟨own_nil _,fun j hj=>absurd hj List.not_mem_nil⟩
        · have hl:=(List.getElem?_eq_some_iff.1 h3).1
          exact ⟨own_row ((List.getElem?_append_left hl).trans h3),fun j hj=>by rw [ids_row] at hj;rw [List.mem_singleton.1 hj];exact ⟨h2,hl⟩⟩
      obtain ⟨oA,iA'⟩:=oA
      have iA:∀ j∈ids (⟨v,al⟩:AS Int),H4.length≤j:=fun j hj=>(iA' j hj).1
      obtain ⟨kb,hkb⟩:∃ kb,bs1.l.length=kb + 1:=⟨bs1.l.length - 1,by have:=qw5.len;omega⟩
      have hlen:=qw5.len
      obtain ⟨b,hbl⟩:∃ b,bs1.l[kb]? = some b:=⟨_,List.getElem?_eq_getElem (by omega)⟩
      obtain ⟨ok1,ok2,ok3⟩:=qw5.ok b (List.mem_of_getElem? hbl)
      have l4:=qw4.only.len
      refine (inst_own _ B p (m + ((k:Int) - r)) op n bs1 qw6.bd hkb (by omega) hbl ⟨v,al⟩ oA ⟨hv1,hv2⟩ (fun j hj=>⟨fun h=>by have:=l4b j h;have:=iA j hj;omega,fun e=>by have:=iA j hj;omega⟩) (by omega) (by omega) ok1).mono ?_
      rintro rv H7 ⟨rfl,iv,hB7,hid7,ho7⟩
      have qw7:=qw6.inst hbl (op:=op) (n:=n) (args:=⟨v,al⟩) ⟨by omega,by omega⟩ hn (by show al.length≤100;omega) (fun x hx=>⟨by have:=hag x hx;omega,by have:=hag x hx;omega⟩) (fun j hj=>⟨by have:=iA j hj;omega,fun e=>by have:=iA j hj;omega⟩) (by omega) hB7 hid7 ho7
      have l7:=ho7.len
      simp only [List.length_append,List.length_cons,List.length_nil] at l7
      have r7:H7[H5.length + 1]? = some (.row 1 (rI lv)):=(ho7.at_ _ (by simp) fun h=>by
        rcases List.mem_cons.1 h with h | h
        · omega
        · have:=l4b _ h;omega).trans (by simp)
      have r7R:∀ R:Heap,(H7++R)[H5.length + 1]? = some (.row 1 (rI lv)):=fun R=>(List.getElem?_append_left (by omega)).trans r7
      have s7R:∀ (R:Heap) P,(H7++R).set (H5.length + 1) P=H7.set (H5.length + 1) P++R:=fun R P=>List.set_append_left _ _ (by omega)
      simp [K_66_f,K_66_e,K_66h_f,K_66h_e,K_66h_g,-V.flat,-V.one,one_int,one_bool,one_str,one_nilp,one_rp,one_nilsl,one_ro,one_cl,one_nilf,one_nili,one_ifc,one_ptr,one_sl,one_clo,flat_d,flat_ptr,flat_sl,flat_clo,flat_agg,r7,r7R,s7R]
      have em:m + ((k:Int) - ((r - 1:Nat):Int))=m + ((k:Int) - r) + 1:=by omega
      have hnid:H5.length + 1 ∉ ids (⟨bs1.v,bs1.l.set kb (withI b iv ⟨op,n,⟨v,al⟩⟩)⟩:AS ABlock):=fun h=>by
        rcases hid7 _ h with h | h | h
        · have:=l4b _ h;omega
        · have:=(iA' _ h).2;omega
        · exact absurd h (by simp)
      refine ⟨⟨by omega,by omega⟩,H7.length + 1,lv++[m + ((k:Int) - r)],_,⟨a5,s5,⟨bs1.v,bs1.l.set kb (withI b iv ⟨op,n,⟨v,al⟩⟩)⟩,by rw [em];exact (qw7.kill (by omega) (by omega) hnid (by omega) .dead).more _,⟨?_,by omega,by omega,fun h=>by have:=qw7.bd.own.lt h;omega,by simp,by simp;omega,fun x hx=>?_⟩,⟨by omega,by omega⟩,by simp;omega,by omega, ?_⟩,HLe.refl _,rfl,by simp⟩
      · rw [List.getElem?_append_right (by simp)];simp
      · rcases List.mem_append.1 hx with h | h
        · exact qs.good x h
        · rw [List.mem_singleton.1 h];exact ⟨by omega,by omega⟩
      · exact ⟨_,by rw [show bs.l.length - 1=kb by omega];exact List.getElem?_set_self (by omega),by unfold withI;simp⟩
    rintro ⟨sd2,lv2,H8⟩ ⟨a8,s8,bs8,qw8,qs8,ha8,hlv8,hsd8,hb8⟩
    simp only [] at qw8 qs8 hlv8 hsd8 ⊢
    have wr:IntKind.i64.wrap ((r:Int) - 1)=((r - 1:Nat):Int):=by rw [wrap_id] <;> omega
    refine W_run mixed ⟨[K_66],[K_66h],[119,79,120,78,71,107],59,H.length,[0,1,2,3,8,9,10,11,12,14,21,24,26,30,36],[14,21,24,26,30,36]⟩ (fun _=>[]) (by kernel_rfl) ?_
    simp only [stripX,stripOps,pickOps]
    simp [K_66_f,K_66_e,K_66h_f,K_66h_e,K_66h_g,-V.flat,-V.one,one_int,one_bool,one_str,one_nilp,one_rp,one_nilsl,one_ro,one_cl,one_nilf,one_nili,one_ifc,one_ptr,one_sl,one_clo,flat_d,flat_ptr,flat_sl,flat_clo,flat_agg,wr]
    exact ⟨r - 1,sd2,lv2,H8,⟨by omega,a8,s8,bs8,qw8,qs8,ha8,hlv8,fun _=>⟨hsd8,hb8⟩⟩,by omega,rfl,⟨rfl,rfl⟩,rfl⟩
  · refine W_run mixed ⟨[K_66],[K_66h],[119,79,120,78,71,107],59,H.length,[0,1,2,3,8,9,10,11,12,14,21,24,26,30,36],[14,21,24,26,30,36]⟩ (fun _=>[]) (by kernel_rfl) ?_
    simp only [stripX,stripOps,pickOps]
    simp [K_66_f,K_66_e,K_66h_f,K_66h_e,K_66h_g,-V.flat,-V.one,one_int,one_bool,one_str,one_nilp,one_rp,one_nilsl,one_ro,one_cl,one_nilf,one_nili,one_ifc,one_ptr,one_sl,one_clo,flat_d,flat_ptr,flat_sl,flat_clo,flat_agg,hr0,retQ]
    have hr00:r=0:=by omega
    subst hr00
    refine ⟨_,_,Fin.same qw.only.len,a1,s1,bs1,sd,lv,rfl, ?_,qs,⟨by omega,by omega⟩,fun hk=>?_⟩
    · have e:m + ((k:Int) - ((0:Nat):Int))=m + k:=by omega
      rw [e] at qw
      exact qw
    · obtain ⟨h1,h2⟩:=hfresh hk
      exact ⟨h1,by omega,h2⟩
end Go.Proofs.YthafdegfjadijaaGreat
