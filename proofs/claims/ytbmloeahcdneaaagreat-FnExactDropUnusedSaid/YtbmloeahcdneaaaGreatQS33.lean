/- The laws' marks: mark.. and held.., contracts by trees. No condition. -/
import Derived.Test.YtbmloeahcdneaaaGreatQS32
namespace Go.Proofs.YtbmloeahcdneaaaGreat
set_option maxRecDepth 100000
set_option linter.unusedSimpArgs false
set_option linter.unusedVariables false
def mI (x k:Int):Int × Int:=(k,k + 1)
theorem mI_mono (l:List Int) (k:Int):k≤(mkL mI l k).2:=mkL_mono (fun x k=>by show k≤k + 1;omega) l k
theorem era_AS_ints (s:AS Int):Tr.era s=s.l:=era_ints s.l
theorem markIntS_own (H : Heap) (s : AS Int) (k : Int) (h : Own H s) (h0 : 0 ≤ k) (hb : (mkL mI s.l k).2 ≤ 4000000000000000000) (hn : s.l.length ≤ 4000000000000000000) :
    CallsD Tryz.prog 151 [s.v,.d (.int .i64 k)] H fun r H'=>r=.d (.int .i64 (mkL mI s.l k).2)∧∃ s':AS Int,Made H H' s s'∧s'.l=(mkL mI s.l k).1:=by
  rcases h.ok.1 with hv | ⟨h0',hv⟩
  · rw [hv]
    refine calls_of Tryz.func151 en_151 rfl (of_decide_eq_true rfl) (W_run mixed ⟨[],[],[],19,H.length,[0,1,4,5,9],[9]⟩ (fun _=>[]) (by kernel_rfl) ?_)
    simp only [Tryz.f151,stripX,stripOps,pickOps]
    simp [-V.flat,-V.one,one_int,one_bool,one_str,one_nilp,one_rp,one_nilsl,one_ro,one_cl,one_nilf,one_nili,one_ifc,one_ptr,one_sl,one_clo,flat_d,flat_ptr,flat_sl,flat_clo,flat_agg]
    refine W_loopH (α:=List Int × List Int × Int × Heap) (fun a=>[(0,.sl s.id 1 0 s.l.length),(1,.d (.int .i64 a.2.2.1)),(5,.d (.int .i64 a.1.length))]) (fun a=>a.2.2.2)
      (fun a=>Mk mI H s k a.1 a.2.1 a.2.2.1 a.2.2.2) (fun a=>s.l.length - a.1.length) ([],s.l,k,H) ?_ ?_ ?_
    · simp;rfl
    · exact Mk.nil h
    rintro ⟨m,l,j,H1⟩ hm
    dsimp only at hm
    have ht:=hm.total
    cases l with
    | nil =>
      have hge:=hm.ge
      obtain ⟨q1,q2⟩:=hm.done hge
      refine W_run mixed ⟨[],[],[],19,H.length,[0,1,4,5,9],[9]⟩ (fun _=>[]) (by kernel_rfl) ?_
      simp only [stripX,stripOps,pickOps]
      simp [-V.flat,-V.one,one_int,one_bool,one_str,one_nilp,one_rp,one_nilsl,one_ro,one_cl,one_nilf,one_nili,one_ifc,one_ptr,one_sl,one_clo,flat_d,flat_ptr,flat_sl,flat_clo,flat_agg,retQ,Nat.not_lt.2 hge]
      rw [era_AS_ints] at q2
      refine ⟨_,_,Fin.same (Nat.le_of_eq q1.len.symm),by rw [← q2],_,q1, ?_⟩
      rw [← q2];exact (era_ints m).symm
    | cons a l =>
      have hlt:=hm.lt
      obtain ⟨r1,r2,r3⟩:=hm.row
      have hset:∀ c:Int,(rowL m a l).set m.length [.d (.int .i64 c)]=rowL m c l:=fun c=>rowL_set c
      have hj:j + 1≤4000000000000000000:=by
        rw [era_AS_ints] at ht
        have:=mI_mono l (j + 1)
        have e:(mkL mI (List.map Tr.era (a :: l)) j).2=(mkL mI l (j + 1)).2:=by rw [era_ints];rfl
        omega
      have hj0:0≤j:=by
        have:=mI_mono (s.l.take m.length) k
        have e:=congrArg Prod.snd hm.era
        rw [era_ints] at e
        have e':(mkL mI (s.l.take m.length) k).2=j:=e
        omega
      refine W_run mixed ⟨[],[],[],19,H.length,[0,1,4,5,9],[9]⟩ (fun _=>[]) (by kernel_rfl) ?_
      simp only [stripX,stripOps,pickOps]
      simp [-V.flat,-V.one,one_int,one_bool,one_str,one_nilp,one_rp,one_nilsl,one_ro,one_cl,one_nilf,one_nili,one_ifc,one_ptr,one_sl,one_clo,flat_d,flat_ptr,flat_sl,flat_clo,flat_agg,retQ,hlt,r1,rowL_len,rowL_get,rowL_at,hset]
      obtain ⟨o1,o2⟩:=hm.own.setS (a':=j) trivial rfl
      exact ⟨m++[j],l,j + 1,_,hm.next o1 (by simp) o2 (Only.set.mono fun x hx=>by rw [List.mem_singleton.1 hx];exact r3) rfl,by simp;omega,rfl,by rw [wrap_id] <;> omega,by rw [wrap_id] <;> (try simp) <;> omega⟩
  · have he:s.l=[]:=List.length_eq_zero_iff.1 h0'
    have hm:Made H H s s:=⟨h,rfl,rfl,rfl,Only.refl _ _⟩
    rcases hv with hv | ⟨f,hv⟩
    all_goals
      rw [hv]
      refine calls_of Tryz.func151 en_151 rfl (of_decide_eq_true rfl) (W_run mixed ⟨[],[],[],19,H.length,[0,1,4,5,9],[9]⟩ (fun _=>[]) (by kernel_rfl) ?_)
      simp only [Tryz.f151,stripX,stripOps,pickOps]
      simp [-V.flat,-V.one,one_int,one_bool,one_str,one_nilp,one_rp,one_nilsl,one_ro,one_cl,one_nilf,one_nili,one_ifc,one_ptr,one_sl,one_clo,flat_d,flat_ptr,flat_sl,flat_clo,flat_agg]
      refine W_loopH (α:=Unit) (fun a=>[(0,s.v),(1,.d (.int .i64 k)),(5,.d (.int .i64 0))]) (fun a=>H) (fun a=>True) (fun a=>0) () ?_ ?_ ?_
      · simp [hv]
      · trivial
      rintro ⟨⟩ _
      rw [hv]
      refine W_run mixed ⟨[],[],[],19,H.length,[0,1,4,5,9],[9]⟩ (fun _=>[]) (by kernel_rfl) ?_
      simp only [stripX,stripOps,pickOps]
      simp [-V.flat,-V.one,one_int,one_bool,one_str,one_nilp,one_rp,one_nilsl,one_ro,one_cl,one_nilf,one_nili,one_ifc,one_ptr,one_sl,one_clo,flat_d,flat_ptr,flat_sl,flat_clo,flat_agg,retQ]
      exact ⟨_,_,Fin.same (Nat.le_refl _),by rw [he];rfl,s,hm,by rw [he];rfl⟩
def mInst (x:Inst) (k:Int):Inst × Int:=(⟨k,k + 1,(mkL mI x.args_ (k + 1 + 1)).1⟩,(mkL mI x.args_ (k + 1 + 1)).2)
theorem mInst_mono (l:List Inst) (k:Int):k≤(mkL mInst l k).2:=mkL_mono (fun x k=>by show k≤(mkL mI x.args_ (k + 1 + 1)).2;have:=mI_mono x.args_ (k + 1 + 1);omega) l k
def mJump (x:Jump) (k:Int):Jump × Int:=(⟨k,(mkL mI x.args_ (k + 1)).1⟩,(mkL mI x.args_ (k + 1)).2)
theorem mJump_mono (l:List Jump) (k:Int):k≤(mkL mJump l k).2:=mkL_mono (fun x k=>by show k≤(mkL mI x.args_ (k + 1)).2;have:=mI_mono x.args_ (k + 1);omega) l k
theorem len_mI (l:List Int) (k:Int):(mkL mI l k).2=k + l.length:=by
  induction l generalizing k with
  | nil=>simp [mkL]
  | cons a l ih=>simp only [mkL,mI,ih,List.length_cons];omega
theorem markInstS_own (H : Heap) (s : AS AInst) (k : Int) (h : Own H s) (h0 : 0 ≤ k) (hb : (mkL mInst (Tr.era s) k).2 ≤ 4000000000000000000) (hn : s.l.length ≤ 4000000000000000000) :
    CallsD Tryz.prog 94 [s.v,.d (.int .i64 k)] H fun r H'=>r=.d (.int .i64 (mkL mInst (Tr.era s) k).2)∧∃ s':AS AInst,Made H H' s s'∧Tr.era s'=(mkL mInst (Tr.era s) k).1:=by
  rcases h.ok.1 with hv | ⟨h0',hv⟩
  · rw [hv]
    refine calls_of Tryz.func94 en_94 rfl (of_decide_eq_true rfl) (W_run mixed ⟨[],[],[151],34,H.length,[0,1,4,5,9],[9]⟩ (fun _=>[]) (by kernel_rfl) ?_)
    simp only [Tryz.f94,stripX,stripOps,pickOps]
    simp [-V.flat,-V.one,one_int,one_bool,one_str,one_nilp,one_rp,one_nilsl,one_ro,one_cl,one_nilf,one_nili,one_ifc,one_ptr,one_sl,one_clo,flat_d,flat_ptr,flat_sl,flat_clo,flat_agg]
    refine W_loopH (α:=List AInst × List AInst × Int × Heap) (fun a=>[(0,.sl s.id 3 0 s.l.length),(1,.d (.int .i64 a.2.2.1)),(5,.d (.int .i64 a.1.length))]) (fun a=>a.2.2.2)
      (fun a=>Mk mInst H s k a.1 a.2.1 a.2.2.1 a.2.2.2) (fun a=>s.l.length - a.1.length) ([],s.l,k,H) ?_ ?_ ?_
    · simp;rfl
    · exact Mk.nil h
    rintro ⟨m,l,j,H1⟩ hm
    dsimp only at hm
    have ht:=hm.total
    cases l with
    | nil =>
      have hge:=hm.ge
      obtain ⟨q1,q2⟩:=hm.done hge
      refine W_run mixed ⟨[],[],[151],34,H.length,[0,1,4,5,9],[9]⟩ (fun _=>[]) (by kernel_rfl) ?_
      simp only [stripX,stripOps,pickOps]
      simp [-V.flat,-V.one,one_int,one_bool,one_str,one_nilp,one_rp,one_nilsl,one_ro,one_cl,one_nilf,one_nili,one_ifc,one_ptr,one_sl,one_clo,flat_d,flat_ptr,flat_sl,flat_clo,flat_agg,retQ,Nat.not_lt.2 hge]
      refine ⟨_,_,Fin.same (Nat.le_of_eq q1.len.symm),by rw [← q2],_,q1, ?_⟩
      rw [← q2];rfl
    | cons a l =>
      have hlt:=hm.lt
      obtain ⟨r1,r2,r3⟩:=hm.row
      have hsub:=hm.sub
      have hj0:0≤j:=by
        have:=mInst_mono ((s.l.take m.length).map Tr.era) k
        have e':(mkL mInst ((s.l.take m.length).map Tr.era) k).2=j:=congrArg Prod.snd hm.era
        omega
      have hbt:(mkL mInst (l.map Tr.era) (mInst (Tr.era a) j).2).2≤4000000000000000000:=by
        have e:(mkL mInst (List.map Tr.era (a :: l)) j).2=(mkL mInst (l.map Tr.era) (mInst (Tr.era a) j).2).2:=rfl
        omega
      have hbj:=mInst_mono (l.map Tr.era) (mInst (Tr.era a) j).2
      have hja:j + 1 + 1 + a.args_.l.length≤4000000000000000000:=by
        have e:(mInst (Tr.era a) j).2=j + 1 + 1 + a.args_.l.length:=by show (mkL mI (Tr.era a.args_) (j + 1 + 1)).2=_;rw [len_mI,era_AS_ints]
        omega
      have w1:IntKind.i64.wrap (j + 1)=j + 1:=by rw [wrap_id] <;> omega
      have w2:IntKind.i64.wrap (j + 1 + 1)=j + 1 + 1:=by rw [wrap_id] <;> omega
      have hset:∀ (x:AInst) (c d:Int),(rowL m x l).set m.length [.d (.int .i64 c),.d (.int .i64 d),x.args_.v]=rowL m ⟨c,d,x.args_⟩ l:=fun x c d=>rowL_set (⟨c,d,x.args_⟩:AInst)
      have hgs:∀ p,(H1.set s.id p)[s.id]? = some p:=fun p=>List.getElem?_set_self r2
      have wk:=hm.wk.write (⟨j,j + 1,a.args_⟩:AInst) hm.wk.elem.ok rfl
      refine W_run mixed ⟨[],[],[151],34,H.length,[0,1,4,5,9],[9]⟩ (fun _=>[]) (by kernel_rfl) ?_
      simp only [stripX,stripOps,pickOps]
      simp [-V.flat,-V.one,one_int,one_bool,one_str,one_nilp,one_rp,one_nilsl,one_ro,one_cl,one_nilf,one_nili,one_ifc,one_ptr,one_sl,one_clo,flat_d,flat_ptr,flat_sl,flat_clo,flat_agg,retQ,hlt,r1,hgs,rowL_len,rowL_get,rowL_at,hset,w1,w2]
      refine (markIntS_own _ a.args_ (j + 1 + 1) (AInst.own_args_ (x:=(⟨j,j + 1,a.args_⟩:AInst)) wk.elem) (by omega) (by rw [len_mI];omega) (by omega)).mono ?_
      rintro r H' ⟨rfl,s2,hmade,hs2⟩
      have hc:=hm.close (wk.call (AInst.made_args_ (x:=(⟨j,j + 1,a.args_⟩:AInst)) hmade)) (by show Inst.mk j (j + 1) (Tr.era s2)=Inst.mk j (j + 1) (mkL mI (Tr.era a.args_) (j + 1 + 1)).1;rw [era_AS_ints,era_AS_ints,hs2])
      simp [-V.flat,-V.one,one_int,one_bool,one_str,one_nilp,one_rp,one_nilsl,one_ro,one_cl,one_nilf,one_nili,one_ifc,one_ptr,one_sl,one_clo,flat_d,flat_ptr,flat_sl,flat_clo,flat_agg]
      have e3:(mInst (Tr.era a) j).2=(mkL mI a.args_.l (j + 1 + 1)).2:=by show (mkL mI (Tr.era a.args_) (j + 1 + 1)).2=_;rw [era_AS_ints]
      exact ⟨_,l,_,_,hc,by simp;omega,rfl,e3.symm,by rw [wrap_id] <;> (try simp) <;> omega⟩
  · have he:s.l=[]:=List.length_eq_zero_iff.1 h0'
    have hm:Made H H s s:=⟨h,rfl,rfl,rfl,Only.refl _ _⟩
    rcases hv with hv | ⟨f,hv⟩
    all_goals
      rw [hv]
      refine calls_of Tryz.func94 en_94 rfl (of_decide_eq_true rfl) (W_run mixed ⟨[],[],[151],34,H.length,[0,1,4,5,9],[9]⟩ (fun _=>[]) (by kernel_rfl) ?_)
      simp only [Tryz.f94,stripX,stripOps,pickOps]
      simp [-V.flat,-V.one,one_int,one_bool,one_str,one_nilp,one_rp,one_nilsl,one_ro,one_cl,one_nilf,one_nili,one_ifc,one_ptr,one_sl,one_clo,flat_d,flat_ptr,flat_sl,flat_clo,flat_agg]
      refine W_loopH (α:=Unit) (fun a=>[(0,s.v),(1,.d (.int .i64 k)),(5,.d (.int .i64 0))]) (fun a=>H) (fun a=>True) (fun a=>0) () ?_ ?_ ?_
      · simp [hv]
      · trivial
      rintro ⟨⟩ _
      rw [hv]
      refine W_run mixed ⟨[],[],[151],34,H.length,[0,1,4,5,9],[9]⟩ (fun _=>[]) (by kernel_rfl) ?_
      simp only [stripX,stripOps,pickOps]
      simp [-V.flat,-V.one,one_int,one_bool,one_str,one_nilp,one_rp,one_nilsl,one_ro,one_cl,one_nilf,one_nili,one_ifc,one_ptr,one_sl,one_clo,flat_d,flat_ptr,flat_sl,flat_clo,flat_agg,retQ]
      have e0:Tr.era s=[]:=by show s.l.map Tr.era=[];rw [he];rfl
      exact ⟨_,_,Fin.same (Nat.le_refl _),by rw [e0];rfl,s,hm,by rw [e0];rfl⟩
theorem markJumpS_own (H : Heap) (s : AS AJump) (k : Int) (h : Own H s) (h0 : 0 ≤ k) (hb : (mkL mJump (Tr.era s) k).2 ≤ 4000000000000000000) (hn : s.l.length ≤ 4000000000000000000) :
    CallsD Tryz.prog 95 [s.v,.d (.int .i64 k)] H fun r H'=>r=.d (.int .i64 (mkL mJump (Tr.era s) k).2)∧∃ s':AS AJump,Made H H' s s'∧Tr.era s'=(mkL mJump (Tr.era s) k).1:=by
  rcases h.ok.1 with hv | ⟨h0',hv⟩
  · rw [hv]
    refine calls_of Tryz.func95 en_95 rfl (of_decide_eq_true rfl) (W_run mixed ⟨[],[],[151],27,H.length,[0,1,4,5,9],[9]⟩ (fun _=>[]) (by kernel_rfl) ?_)
    simp only [Tryz.f95,stripX,stripOps,pickOps]
    simp [-V.flat,-V.one,one_int,one_bool,one_str,one_nilp,one_rp,one_nilsl,one_ro,one_cl,one_nilf,one_nili,one_ifc,one_ptr,one_sl,one_clo,flat_d,flat_ptr,flat_sl,flat_clo,flat_agg]
    refine W_loopH (α:=List AJump × List AJump × Int × Heap) (fun a=>[(0,.sl s.id 2 0 s.l.length),(1,.d (.int .i64 a.2.2.1)),(5,.d (.int .i64 a.1.length))]) (fun a=>a.2.2.2)
      (fun a=>Mk mJump H s k a.1 a.2.1 a.2.2.1 a.2.2.2) (fun a=>s.l.length - a.1.length) ([],s.l,k,H) ?_ ?_ ?_
    · simp;rfl
    · exact Mk.nil h
    rintro ⟨m,l,j,H1⟩ hm
    dsimp only at hm
    have ht:=hm.total
    cases l with
    | nil =>
      have hge:=hm.ge
      obtain ⟨q1,q2⟩:=hm.done hge
      refine W_run mixed ⟨[],[],[151],27,H.length,[0,1,4,5,9],[9]⟩ (fun _=>[]) (by kernel_rfl) ?_
      simp only [stripX,stripOps,pickOps]
      simp [-V.flat,-V.one,one_int,one_bool,one_str,one_nilp,one_rp,one_nilsl,one_ro,one_cl,one_nilf,one_nili,one_ifc,one_ptr,one_sl,one_clo,flat_d,flat_ptr,flat_sl,flat_clo,flat_agg,retQ,Nat.not_lt.2 hge]
      refine ⟨_,_,Fin.same (Nat.le_of_eq q1.len.symm),by rw [← q2],_,q1, ?_⟩
      rw [← q2];rfl
    | cons a l =>
      have hlt:=hm.lt
      obtain ⟨r1,r2,r3⟩:=hm.row
      have hsub:=hm.sub
      have hj0:0≤j:=by
        have:=mJump_mono ((s.l.take m.length).map Tr.era) k
        have e':(mkL mJump ((s.l.take m.length).map Tr.era) k).2=j:=congrArg Prod.snd hm.era
        omega
      have hbt:(mkL mJump (l.map Tr.era) (mJump (Tr.era a) j).2).2≤4000000000000000000:=by
        have e:(mkL mJump (List.map Tr.era (a :: l)) j).2=(mkL mJump (l.map Tr.era) (mJump (Tr.era a) j).2).2:=rfl
        omega
      have hbj:=mJump_mono (l.map Tr.era) (mJump (Tr.era a) j).2
      have hja:j + 1 + a.args_.l.length≤4000000000000000000:=by
        have e:(mJump (Tr.era a) j).2=j + 1 + a.args_.l.length:=by show (mkL mI (Tr.era a.args_) (j + 1)).2=_;rw [len_mI,era_AS_ints]
        omega
      have w1:IntKind.i64.wrap (j + 1)=j + 1:=by rw [wrap_id] <;> omega
      have hset:∀ (x:AJump) (c:Int),(rowL m x l).set m.length [.d (.int .i64 c),x.args_.v]=rowL m ⟨c,x.args_⟩ l:=fun x c=>rowL_set (⟨c,x.args_⟩:AJump)
      have hgs:∀ p,(H1.set s.id p)[s.id]? = some p:=fun p=>List.getElem?_set_self r2
      have wk:=hm.wk.write (⟨j,a.args_⟩:AJump) hm.wk.elem.ok rfl
      refine W_run mixed ⟨[],[],[151],27,H.length,[0,1,4,5,9],[9]⟩ (fun _=>[]) (by kernel_rfl) ?_
      simp only [stripX,stripOps,pickOps]
      simp [-V.flat,-V.one,one_int,one_bool,one_str,one_nilp,one_rp,one_nilsl,one_ro,one_cl,one_nilf,one_nili,one_ifc,one_ptr,one_sl,one_clo,flat_d,flat_ptr,flat_sl,flat_clo,flat_agg,retQ,hlt,r1,hgs,rowL_len,rowL_get,rowL_at,hset,w1]
      refine (markIntS_own _ a.args_ (j + 1) (AJump.own_args_ (x:=(⟨j,a.args_⟩:AJump)) wk.elem) (by omega) (by rw [len_mI];omega) (by omega)).mono ?_
      rintro r H' ⟨rfl,s2,hmade,hs2⟩
      have hc:=hm.close (wk.call (AJump.made_args_ (x:=(⟨j,a.args_⟩:AJump)) hmade)) (by show Jump.mk j (Tr.era s2)=Jump.mk j (mkL mI (Tr.era a.args_) (j + 1)).1;rw [era_AS_ints,era_AS_ints,hs2])
      simp [-V.flat,-V.one,one_int,one_bool,one_str,one_nilp,one_rp,one_nilsl,one_ro,one_cl,one_nilf,one_nili,one_ifc,one_ptr,one_sl,one_clo,flat_d,flat_ptr,flat_sl,flat_clo,flat_agg]
      have e3:(mJump (Tr.era a) j).2=(mkL mI a.args_.l (j + 1)).2:=by show (mkL mI (Tr.era a.args_) (j + 1)).2=_;rw [era_AS_ints]
      exact ⟨_,l,_,_,hc,by simp;omega,rfl,e3.symm,by rw [wrap_id] <;> (try simp) <;> omega⟩
  · have he:s.l=[]:=List.length_eq_zero_iff.1 h0'
    have hm:Made H H s s:=⟨h,rfl,rfl,rfl,Only.refl _ _⟩
    rcases hv with hv | ⟨f,hv⟩
    all_goals
      rw [hv]
      refine calls_of Tryz.func95 en_95 rfl (of_decide_eq_true rfl) (W_run mixed ⟨[],[],[151],27,H.length,[0,1,4,5,9],[9]⟩ (fun _=>[]) (by kernel_rfl) ?_)
      simp only [Tryz.f95,stripX,stripOps,pickOps]
      simp [-V.flat,-V.one,one_int,one_bool,one_str,one_nilp,one_rp,one_nilsl,one_ro,one_cl,one_nilf,one_nili,one_ifc,one_ptr,one_sl,one_clo,flat_d,flat_ptr,flat_sl,flat_clo,flat_agg]
      refine W_loopH (α:=Unit) (fun a=>[(0,s.v),(1,.d (.int .i64 k)),(5,.d (.int .i64 0))]) (fun a=>H) (fun a=>True) (fun a=>0) () ?_ ?_ ?_
      · simp [hv]
      · trivial
      rintro ⟨⟩ _
      rw [hv]
      refine W_run mixed ⟨[],[],[151],27,H.length,[0,1,4,5,9],[9]⟩ (fun _=>[]) (by kernel_rfl) ?_
      simp only [stripX,stripOps,pickOps]
      simp [-V.flat,-V.one,one_int,one_bool,one_str,one_nilp,one_rp,one_nilsl,one_ro,one_cl,one_nilf,one_nili,one_ifc,one_ptr,one_sl,one_clo,flat_d,flat_ptr,flat_sl,flat_clo,flat_agg,retQ]
      have e0:Tr.era s=[]:=by show s.l.map Tr.era=[];rw [he];rfl
      exact ⟨_,_,Fin.same (Nat.le_refl _),by rw [e0];rfl,s,hm,by rw [e0];rfl⟩
def mBlock (x:Block) (k:Int):Block × Int :=
  (⟨k,(mkL mInst x.insts_ (k + 1)).1,(mkL mInst x.insts_ (k + 1)).2,(mkL mInst x.insts_ (k + 1)).2 + 1,(mkL mJump x.jumps_ ((mkL mInst x.insts_ (k + 1)).2 + 1 + 1)).1⟩,(mkL mJump x.jumps_ ((mkL mInst x.insts_ (k + 1)).2 + 1 + 1)).2)
theorem mBlock_mono (l:List Block) (k:Int):k≤(mkL mBlock l k).2:=mkL_mono (fun x k=>by
  show k≤(mkL mJump x.jumps_ ((mkL mInst x.insts_ (k + 1)).2 + 1 + 1)).2
  have:=mInst_mono x.insts_ (k + 1)
  have:=mJump_mono x.jumps_ ((mkL mInst x.insts_ (k + 1)).2 + 1 + 1)
  omega) l k
theorem len_mInst (l:List Inst):∀ k,k + l.length≤(mkL mInst l k).2:=by
  induction l with
  | nil=>intro k;simp [mkL]
  | cons a l ih =>
    intro k
    have:=ih (mInst a k).2
    have e:(mInst a k).2=k + 1 + 1 + a.args_.length:=len_mI a.args_ (k + 1 + 1)
    simp only [mkL,List.length_cons];omega
theorem len_mJump (l:List Jump):∀ k,k + l.length≤(mkL mJump l k).2:=by
  induction l with
  | nil=>intro k;simp [mkL]
  | cons a l ih =>
    intro k
    have:=ih (mJump a k).2
    have e:(mJump a k).2=k + 1 + a.args_.length:=len_mI a.args_ (k + 1)
    simp only [mkL,List.length_cons];omega
theorem markBlockS_own (H : Heap) (s : AS ABlock) (k : Int) (h : Own H s) (h0 : 0 ≤ k) (hb : (mkL mBlock (Tr.era s) k).2 ≤ 4000000000000000000) (hn : s.l.length ≤ 4000000000000000000) :
    CallsD Tryz.prog 51 [s.v,.d (.int .i64 k)] H fun r H'=>r=.d (.int .i64 (mkL mBlock (Tr.era s) k).2)∧∃ s':AS ABlock,Made H H' s s'∧Tr.era s'=(mkL mBlock (Tr.era s) k).1:=by
  rcases h.ok.1 with hv | ⟨h0',hv⟩
  · rw [hv]
    refine calls_of Tryz.func51 en_51 rfl (of_decide_eq_true rfl) (W_run mixed ⟨[],[],[94,95],48,H.length,[0,1,4,5,9],[9]⟩ (fun _=>[]) (by kernel_rfl) ?_)
    simp only [Tryz.f51,stripX,stripOps,pickOps]
    simp [-V.flat,-V.one,one_int,one_bool,one_str,one_nilp,one_rp,one_nilsl,one_ro,one_cl,one_nilf,one_nili,one_ifc,one_ptr,one_sl,one_clo,flat_d,flat_ptr,flat_sl,flat_clo,flat_agg]
    refine W_loopH (α:=List ABlock × List ABlock × Int × Heap) (fun a=>[(0,.sl s.id 5 0 s.l.length),(1,.d (.int .i64 a.2.2.1)),(5,.d (.int .i64 a.1.length))]) (fun a=>a.2.2.2)
      (fun a=>Mk mBlock H s k a.1 a.2.1 a.2.2.1 a.2.2.2) (fun a=>s.l.length - a.1.length) ([],s.l,k,H) ?_ ?_ ?_
    · simp;rfl
    · exact Mk.nil h
    rintro ⟨m,l,j,H1⟩ hm
    dsimp only at hm
    have ht:=hm.total
    cases l with
    | nil =>
      have hge:=hm.ge
      obtain ⟨q1,q2⟩:=hm.done hge
      refine W_run mixed ⟨[],[],[94,95],48,H.length,[0,1,4,5,9],[9]⟩ (fun _=>[]) (by kernel_rfl) ?_
      simp only [stripX,stripOps,pickOps]
      simp [-V.flat,-V.one,one_int,one_bool,one_str,one_nilp,one_rp,one_nilsl,one_ro,one_cl,one_nilf,one_nili,one_ifc,one_ptr,one_sl,one_clo,flat_d,flat_ptr,flat_sl,flat_clo,flat_agg,retQ,Nat.not_lt.2 hge]
      refine ⟨_,_,Fin.same (Nat.le_of_eq q1.len.symm),by rw [← q2],_,q1, ?_⟩
      rw [← q2];rfl
    | cons a l =>
      have hlt:=hm.lt
      obtain ⟨r1,r2,r3⟩:=hm.row
      have hsub:=hm.sub
      have hj0:0≤j:=by
        have:=mBlock_mono ((s.l.take m.length).map Tr.era) k
        have e':(mkL mBlock ((s.l.take m.length).map Tr.era) k).2=j:=congrArg Prod.snd hm.era
        omega
      have hbt:(mkL mBlock (l.map Tr.era) (mBlock (Tr.era a) j).2).2≤4000000000000000000:=by
        have e:(mkL mBlock (List.map Tr.era (a :: l)) j).2=(mkL mBlock (l.map Tr.era) (mBlock (Tr.era a) j).2).2:=rfl
        omega
      have hbj:=mBlock_mono (l.map Tr.era) (mBlock (Tr.era a) j).2
      obtain ⟨k1,hk1⟩:∃ k1,(mkL mInst (Tr.era a.insts_) (j + 1)).2=k1:=⟨_,rfl⟩
      have hk2:(mBlock (Tr.era a) j).2=(mkL mJump (Tr.era a.jumps_) (k1 + 1 + 1)).2:=by rw [← hk1];rfl
      have b1:=len_mInst (Tr.era a.insts_) (j + 1)
      have b2:=len_mJump (Tr.era a.jumps_) (k1 + 1 + 1)
      have bl1:(Tr.era a.insts_).length=a.insts_.l.length:=List.length_map _
      have bl2:(Tr.era a.jumps_).length=a.jumps_.l.length:=List.length_map _
      have w1:IntKind.i64.wrap (j + 1)=j + 1:=by rw [wrap_id] <;> omega
      have w2:IntKind.i64.wrap (k1 + 1)=k1 + 1:=by rw [wrap_id] <;> omega
      have w3:IntKind.i64.wrap (k1 + 1 + 1)=k1 + 1 + 1:=by rw [wrap_id] <;> omega
      have hset:∀ (x:ABlock) (c d e:Int),(rowL m x l).set m.length [.d (.int .i64 c),x.insts_.v,.d (.int .i64 d),.d (.int .i64 e),x.jumps_.v]=rowL m ⟨c,x.insts_,d,e,x.jumps_⟩ l:=fun x c d e=>rowL_set (⟨c,x.insts_,d,e,x.jumps_⟩:ABlock)
      have hgs:∀ p,(H1.set s.id p)[s.id]? = some p:=fun p=>List.getElem?_set_self r2
      have wk:=hm.wk.write (⟨j,a.insts_,a.end_,a.value_,a.jumps_⟩:ABlock) hm.wk.elem.ok rfl
      refine W_run mixed ⟨[],[],[94,95],48,H.length,[0,1,4,5,9],[9]⟩ (fun _=>[]) (by kernel_rfl) ?_
      simp only [stripX,stripOps,pickOps]
      simp [-V.flat,-V.one,one_int,one_bool,one_str,one_nilp,one_rp,one_nilsl,one_ro,one_cl,one_nilf,one_nili,one_ifc,one_ptr,one_sl,one_clo,flat_d,flat_ptr,flat_sl,flat_clo,flat_agg,retQ,hlt,r1,hgs,rowL_len,rowL_get,rowL_at,hset,w1]
      refine (markInstS_own _ a.insts_ (j + 1) (ABlock.own_insts_ (x:=(⟨j,a.insts_,a.end_,a.value_,a.jumps_⟩:ABlock)) wk.elem) (by omega) (by omega) (by omega)).mono ?_
      rintro r H' ⟨rfl,s2,hmade,hs2⟩
      have wk2:=wk.call (ABlock.made_insts_ (x:=(⟨j,a.insts_,a.end_,a.value_,a.jumps_⟩:ABlock)) wk.elem hmade)
      obtain ⟨r1',r2',r3'⟩:=wk2.row
      have hgs':∀ p,(H'.set s.id p)[s.id]? = some p:=fun p=>List.getElem?_set_self r2'
      have wk3:=wk2.write (⟨j,s2,k1,k1 + 1,a.jumps_⟩:ABlock) wk2.elem.ok rfl
      rw [hk1]
      simp [-V.flat,-V.one,one_int,one_bool,one_str,one_nilp,one_rp,one_nilsl,one_ro,one_cl,one_nilf,one_nili,one_ifc,one_ptr,one_sl,one_clo,flat_d,flat_ptr,flat_sl,flat_clo,flat_agg,hlt,r1',hgs',rowL_len,rowL_get,rowL_at,hset,w2,w3]
      refine (markJumpS_own _ a.jumps_ (k1 + 1 + 1) (ABlock.own_jumps_ (x:=(⟨j,s2,k1,k1 + 1,a.jumps_⟩:ABlock)) wk3.elem) (by omega) (by omega) (by omega)).mono ?_
      rintro r H2 ⟨rfl,s3,hmade3,hs3⟩
      have hc:=hm.close (wk3.call (ABlock.made_jumps_ (x:=(⟨j,s2,k1,k1 + 1,a.jumps_⟩:ABlock)) wk3.elem hmade3)) (by
        show Block.mk j (Tr.era s2) k1 (k1 + 1) (Tr.era s3)=(mBlock (Tr.era a) j).1
        rw [hs2,hs3,← hk1];rfl)
      simp [-V.flat,-V.one,one_int,one_bool,one_str,one_nilp,one_rp,one_nilsl,one_ro,one_cl,one_nilf,one_nili,one_ifc,one_ptr,one_sl,one_clo,flat_d,flat_ptr,flat_sl,flat_clo,flat_agg]
      exact ⟨_,l,_,_,hc,by simp;omega,rfl,hk2.symm,by rw [wrap_id] <;> (try simp) <;> omega⟩
  · have he:s.l=[]:=List.length_eq_zero_iff.1 h0'
    have hm:Made H H s s:=⟨h,rfl,rfl,rfl,Only.refl _ _⟩
    rcases hv with hv | ⟨f,hv⟩
    all_goals
      rw [hv]
      refine calls_of Tryz.func51 en_51 rfl (of_decide_eq_true rfl) (W_run mixed ⟨[],[],[94,95],48,H.length,[0,1,4,5,9],[9]⟩ (fun _=>[]) (by kernel_rfl) ?_)
      simp only [Tryz.f51,stripX,stripOps,pickOps]
      simp [-V.flat,-V.one,one_int,one_bool,one_str,one_nilp,one_rp,one_nilsl,one_ro,one_cl,one_nilf,one_nili,one_ifc,one_ptr,one_sl,one_clo,flat_d,flat_ptr,flat_sl,flat_clo,flat_agg]
      refine W_loopH (α:=Unit) (fun a=>[(0,s.v),(1,.d (.int .i64 k)),(5,.d (.int .i64 0))]) (fun a=>H) (fun a=>True) (fun a=>0) () ?_ ?_ ?_
      · simp [hv]
      · trivial
      rintro ⟨⟩ _
      rw [hv]
      refine W_run mixed ⟨[],[],[94,95],48,H.length,[0,1,4,5,9],[9]⟩ (fun _=>[]) (by kernel_rfl) ?_
      simp only [stripX,stripOps,pickOps]
      simp [-V.flat,-V.one,one_int,one_bool,one_str,one_nilp,one_rp,one_nilsl,one_ro,one_cl,one_nilf,one_nili,one_ifc,one_ptr,one_sl,one_clo,flat_d,flat_ptr,flat_sl,flat_clo,flat_agg,retQ]
      have e0:Tr.era s=[]:=by show s.l.map Tr.era=[];rw [he];rfl
      exact ⟨_,_,Fin.same (Nat.le_refl _),by rw [e0];rfl,s,hm,by rw [e0];rfl⟩
def mFunc (x:Func) (k:Int):Func × Int:=(⟨x.params_,(mkL mBlock x.blocks_ k).1⟩,(mkL mBlock x.blocks_ k).2)
theorem markFunc_own (H:Heap) (x:AFunc) (k:Int) (h:Own H x) (h0:0≤k) (hb:(mFunc (Tr.era x) k).2≤4000000000000000000) (hn:x.blocks_.l.length≤4000000000000000000) :
    CallsD Tryz.prog 19 [.agg (Tr.cells x),.d (.int .i64 k)] H fun r H'=>r=.d (.int .i64 (mFunc (Tr.era x) k).2)∧∃ x':AFunc,Own H' x'∧ids x'=ids x∧Tr.cells x'=Tr.cells x∧Only (ids x) H H'∧Tr.era x'=(mFunc (Tr.era x) k).1:=by
  have hfl:=h.ok.1.flat
  have h1:=h.ok.1.scl.2
  refine calls_of Tryz.func19 en_19 rfl (of_decide_eq_true rfl) (W_run mixed ⟨[],[],[51],10,H.length,[0,1,2,4],[]⟩ (fun _=>[]) (by kernel_rfl) ?_)
  simp only [Tryz.f19,stripX,stripOps,pickOps]
  simp [-V.flat,-V.one,one_int,one_bool,one_str,one_nilp,one_rp,one_nilsl,one_ro,one_cl,one_nilf,one_nili,one_ifc,one_ptr,one_sl,one_clo,flat_d,flat_ptr,flat_sl,flat_clo,flat_agg,hfl,h1]
  refine (markBlockS_own _ x.blocks_ k (AFunc.own_blocks_ (h.frame (Only.app [] H _) fun j _ hj=>absurd hj List.not_mem_nil)) h0 hb hn).mono ?_
  rintro r H' ⟨rfl,s2,hmade,hs2⟩
  simp [-V.flat,-V.one,one_int,one_bool,one_str,one_nilp,one_rp,one_nilsl,one_ro,one_cl,one_nilf,one_nili,one_ifc,one_ptr,one_sl,one_clo,flat_d,flat_ptr,flat_sl,flat_clo,flat_agg,retQ]
  refine ⟨_,_,Fin.same (by rw [hmade.len];simp),rfl,(⟨x.params_,s2⟩:AFunc),⟨hmade.own.ok,hmade.own.at_,hmade.own.nd⟩,hmade.ids,⟨rfl,List.head_eq_of_cons_eq hmade.cells⟩,(Only.app [] H _).trans hmade.only (fun j hj=>absurd hj List.not_mem_nil) fun j hj _=>hj, ?_⟩
  show Func.mk x.params_ (Tr.era s2)=Func.mk x.params_ _
  rw [hs2];rfl
theorem mkL_idem {β:Type} {f:β→Int→β × Int} (h:∀ x k,f (f x k).1 k=f x k):∀ (l:List β) (k:Int),mkL f (mkL f l k).1 k=mkL f l k
  | [],k=>rfl
  | x :: l,k=>by simp only [mkL,h x k,mkL_idem h l]
theorem heldIntS_c (l : List Int) (k : Int) (h : (mkL mI l k).1 = l) (h0 : 0 ≤ k) (hb : (mkL mI l k).2 ≤ 4000000000000000000) : PureP Tryz.prog 152 [.d (dIntS l), .d (.int .i64 k)] (· = .d (.int .i64 (mkL mI l k).2)) := by
  have hl:=len_mI l k
  refine pure_of Tryz.func152 en_152 rfl rfl (W_run mixed ⟨[],[],[],21,0,[0,1,4,5,9,17],[9,17]⟩ (fun _=>[]) (by kernel_rfl) ?_)
  simp only [Tryz.f152,stripX,stripOps,pickOps]
  simp []
  refine W_loopA (fun i:Nat=>[(0,.d (dIntS l)),(1,.d (.int .i64 (k + i))),(5,.d (.int .i64 i))]) (fun _=>[]) (fun i=>i≤l.length) (fun i=>l.length - i) 0 ?_ ?_ ?_
  · simp
  · simp
  intro i hi
  have hx:∀ (l:List Int) (k:Int) (i:Nat),i < l.length→(mkL mI l k).1[i]?.getD 0=k + i:=by
    intro l
    induction l with
    | nil=>intro k i h;simp at h
    | cons a l ih =>
      intro k i h
      cases i with
      | zero=>simp [mkL,mI]
      | succ i =>
        have:=ih (k + 1) i (by simpa using h)
        simp only [mkL,mI,List.getElem?_cons_succ]
        rw [this];omega
  have hxi:=hx l k i
  rw [h] at hxi
  refine W_run mixed ⟨[],[],[],21,0,[0,1,4,5,9,17],[9,17]⟩ (fun _=>[]) (by kernel_rfl) ?_
  simp only [stripX,stripOps,pickOps]
  simp []
  refine ⟨fun q=>⟨q,fun e=>absurd (hxi q) e,fun _=>⟨i + 1,by omega,by omega,by rw [wrap_id] <;> omega,by rw [wrap_id] <;> omega⟩⟩,fun q=>?_⟩
  rw [hl];omega
noncomputable def K_152:Ent Tryz.prog:=Ent.p2 (α:=List Int) (β:=Int) 152 (fun l k=>(mkL mI l k).1=l∧0≤k∧(mkL mI l k).2≤4000000000000000000) (fun l k=>.d (.int .i64 (mkL mI l k).2)) (fun l k hc=>heldIntS_c l k hc.1 hc.2.1 hc.2.2)
theorem K_152_f:K_152.f=152:=rfl
theorem K_152_e (l:List Int) (k:Int):K_152.e [.d (dIntS l),.d (.int .i64 k)]=some ((mkL mI l k).1=l∧0≤k∧(mkL mI l k).2≤4000000000000000000,.d (.int .i64 (mkL mI l k).2),[]):=by unfold K_152;exact Ent.p2_eq (α:=List Int) (β:=Int) l k
noncomputable def K_152h:EntH Tryz.prog:=EntH.pk2 (α:=List Int) (β:=Int) 152 (fun l k=>(mkL mI l k).1=l∧0≤k∧(mkL mI l k).2≤4000000000000000000) (fun l k=>.d (.int .i64 (mkL mI l k).2)) (fun l k=>[]) (fun l k hc=>PureP.ans (heldIntS_c l k hc.1 hc.2.1 hc.2.2))
theorem K_152h_f:K_152h.f=152:=rfl
theorem K_152h_g:K_152h.gro=true:=rfl
theorem K_152h_e {x1 x2:V} {H:Heap}:K_152h.e [x1,x2] H=guardR ((decA (α:=List Int) H x1).1∧(decA (α:=Int) H x2).1) (peekR ((mkL mI (decA (α:=List Int) H x1).2 (decA (α:=Int) H x2).2).1=(decA (α:=List Int) H x1).2∧0≤(decA (α:=Int) H x2).2∧(mkL mI (decA (α:=List Int) H x1).2 (decA (α:=Int) H x2).2).2≤4000000000000000000) (.d (.int .i64 (mkL mI (decA (α:=List Int) H x1).2 (decA (α:=Int) H x2).2).2)) ([]) H):=rfl
theorem mkL_le {β:Type} {f:β→Int→β × Int} {c:Int} (hc:0≤c):∀ (l:List β) (k:Int),(∀ x∈l,∀ k,(f x k).2≤k + c)→(mkL f l k).2≤k + l.length * c
  | [],k,_=>by simp [mkL]
  | x :: l,k,h=>by
    have h1:=h x List.mem_cons_self k
    have h2:=mkL_le hc l (f x k).2 fun y hy=>h y (List.mem_cons_of_mem _ hy)
    simp only [mkL,List.length_cons]
    have e:((l.length + 1:Nat):Int) * c=l.length * c + c:=by rw [Int.natCast_add,Int.add_mul];simp
    rw [e];omega
theorem mkL_le' {β:Type} {f:β→Int→β × Int} {c:Int} (hc:0≤c) (l:List β) (k:Int) (hl:l.length≤1048576) (h:∀ x∈l,∀ k,(f x k).2≤k + c):(mkL f l k).2≤k + 1048576 * c:=by
  have h1:=mkL_le hc l k h
  have h2:(l.length:Int) * c≤1048576 * c:=Int.mul_le_mul_of_nonneg_right (by omega) hc
  omega
theorem mFunc_le {F:Func} (h:Sm.sm F) (k:Int):(mFunc F k).2≤k + 2400000000000000000:=by
  have hi:∀ x:Inst,Sm.sm x→∀ k,(mInst x k).2≤k + 1048578:=fun x hx k=>by
    show (mkL mI x.args_ (k + 1 + 1)).2≤_
    have:=small_len hx.2.2
    rw [len_mI];omega
  have hj:∀ x:Jump,Sm.sm x→∀ k,(mJump x k).2≤k + 1048577:=fun x hx k=>by
    show (mkL mI x.args_ (k + 1)).2≤_
    have:=small_len hx.2
    rw [len_mI];omega
  have hb:∀ x:Block,Sm.sm x→∀ k,(mBlock x k).2≤k + 2199030000000:=fun x hx k=>by
    show (mkL mJump x.jumps_ ((mkL mInst x.insts_ (k + 1)).2 + 1 + 1)).2≤_
    have h1:=mkL_le' (f:=mInst) (c:=1048578) (by decide) x.insts_ (k + 1) (small_len hx.2.1) fun y hy=>hi y (hx.2.1.2 y hy)
    have h2:=mkL_le' (f:=mJump) (c:=1048577) (by decide) x.jumps_ ((mkL mInst x.insts_ (k + 1)).2 + 1 + 1) (small_len hx.2.2.2.2) fun y hy=>hj y (hx.2.2.2.2.2 y hy)
    omega
  have h1:=mkL_le' (f:=mBlock) (c:=2199030000000) (by decide) F.blocks_ k (small_len h.2) fun y hy=>hb y (h.2.2 y hy)
  show (mkL mBlock F.blocks_ k).2≤_
  omega
end Go.Proofs.YtbmloeahcdneaaaGreat
