/- The laws' copies own their memory: to.., contracts by trees. No condition. -/
import Derived.Test.YtbmloeahcdneaaaGreatQS31
namespace Go.Proofs.YtbmloeahcdneaaaGreat
set_option maxRecDepth 100000
set_option linter.unusedSimpArgs false
set_option linter.unusedVariables false
theorem toIntS_own (H:Heap) (l:List Int) (hl:Sm.sm l):CallsD Tryz.prog 189 [.d (dIntS l)] H fun r H'=>∃ s:AS Int,r=s.v∧s.l=l∧New H H' s:=by
  have hlen:=small_len hl
  refine calls_of Tryz.func189 en_189 rfl (of_decide_eq_true rfl) (W_run mixed ⟨[],[],[],22,H.length,[0,2,3,4,11],[11]⟩ (fun _=>[]) (by kernel_rfl) ?_)
  simp only [Tryz.f189,stripX,stripOps,pickOps]
  simp [hlen]
  refine ⟨by omega, ?_⟩
  rw [partT_nil (α:=Int)]
  refine W_loopH (α:=List Int) (fun m=>[(0,.d (dIntS l)),(3,.sl H.length 1 0 l.length),(4,.d (.int .i64 m.length))]) (fun m=>H++[.row 1 (partT m l.length [.d (.int .i64 0)])]) (fun m=>m.length≤l.length∧m=l.take m.length) (fun m=>l.length - m.length) [] ?_ ?_ ?_
  · simp
  · simp
  rintro m ⟨hi,hm⟩
  have hpl:=partT_len (z:=[V.d (.int .i64 0)]) hi
  have hpg:=fun h=>partT_get (z:=[V.d (.int .i64 0)]) (m:=m) (n:=l.length) h
  refine W_run mixed ⟨[],[],[],22,H.length,[0,2,3,4,11],[11]⟩ (fun _=>[]) (by kernel_rfl) ?_
  simp only [stripX,stripOps,pickOps]
  simp [retQ,hpl]
  refine ⟨fun h=>⟨h,m++[l[m.length]?.getD 0],⟨by simp;omega, ?_⟩,by simp;omega, ?_, ?_⟩,fun h=>?_⟩
  · rw [List.length_append,List.length_singleton,take_snocD h,← hm];rfl
  · rw [hpg h]
    exact partT_set _ h
  · rw [wrap_id] <;> (try simp) <;> omega
  · have e:m.length=l.length:=by omega
    rw [partT_done e]
    have em:m=l:=by rw [hm,e,List.take_length]
    subst em
    refine fin_new (a:=(⟨.sl H.length 1 0 m.length,m⟩:AS Int)) ?_ (Only.app _ _ _) ?_ fun H' h'=>⟨_,rfl,rfl,h'⟩
    · exact Own.mkS (ownL_ints m) (List.getElem?_concat_length) (by rw [ids_ints];exact List.not_mem_nil)
    · intro j hj
      rw [ids_sl (s:=(⟨.sl H.length 1 0 m.length,m⟩:AS Int)) rfl,ids_ints] at hj
      rw [List.mem_singleton.1 hj];exact Nat.le_refl _
theorem toInst_own (H:Heap) (x:Inst) (hx:Sm.sm x):CallsD Tryz.prog 171 [vInst x] H fun r H'=>∃ a:AInst,r=.agg (Tr.cells a)∧Tr.era a=x∧New H H' a:=by
  have q2:Sm.sm x.args_:=hx.2.2
  refine calls_of Tryz.func171 en_171 rfl (of_decide_eq_true rfl) (W_run mixed ⟨[],[],[189],15,H.length,[0,1,2,3],[]⟩ (fun _=>[]) (by kernel_rfl) ?_)
  simp only [Tryz.f171,stripX,stripOps,pickOps]
  simp []
  refine (toIntS_own _ x.args_ q2).mono ?_
  rintro r H' ⟨s,rfl,hs,hn⟩
  obtain ⟨R,rfl⟩:=hn.only.tail
  have hfl:=hn.own.ok.1.flat
  have h1:=hn.own.ok.1.scl.2
  simp [-V.flat,-V.one,one_int,one_bool,one_str,one_nilp,one_rp,one_nilsl,one_ro,one_cl,one_nilf,one_nili,one_ifc,one_ptr,one_sl,one_clo,flat_d,flat_ptr,flat_sl,flat_clo,flat_agg,retQ,hfl,h1]
  refine fin_new (a:=(⟨x.op_,x.n_,s⟩:AInst)) (AInst.own (hn.own.beh0 [_,_,_] hn.fresh rfl)) (Only.app _ _ _) (fun j hj=>?_) fun H' h'=>⟨_,rfl, ?_,h'⟩
  · have:=hn.fresh j hj
    simp only [List.length_append] at this;omega
  · show Inst.mk _ _ (s.l.map Tr.era)=x
    rw [hs];exact congrArg (Inst.mk _ _) (era_ints _)
theorem toInstS_own (H:Heap) (l:List Inst) (hl:Sm.sm l):CallsD Tryz.prog 136 [.d (dInstS l)] H fun r H'=>∃ s:AS AInst,r=s.v∧s.l.map Tr.era=l∧New H H' s:=by
  have hlen:=small_len hl
  have hg:=small_get hl
  refine calls_of Tryz.func136 en_136 rfl (of_decide_eq_true rfl) (W_run mixed ⟨[],[],[171],23,H.length,[0,2,3,4,11],[11]⟩ (fun _=>[]) (by kernel_rfl) ?_)
  simp only [Tryz.f136,stripX,stripOps,pickOps]
  simp [hlen]
  refine ⟨by omega, ?_⟩
  rw [partT_nil (α:=AInst)]
  refine W_loopH (α:=List AInst × Heap) (fun a=>[(0,.d (dInstS l)),(3,.sl H.length 3 0 l.length),(4,.d (.int .i64 a.1.length))]) (fun a=>H++.row 3 (partT a.1 l.length [.d (.int .i64 0),.d (.int .i64 0),.d .nilsl]) :: a.2)
    (fun a=>Fill H l [.d (.int .i64 0),.d (.int .i64 0),.d .nilsl] id a.1 a.2) (fun a=>l.length - a.1.length) ([],[]) ?_ ?_ ?_
  · simp
  · exact Fill.nil
  rintro ⟨m,R⟩ k
  have hpl:=partT_len (z:=[V.d (.int .i64 0),V.d (.int .i64 0),V.d .nilsl]) k.le
  refine W_run mixed ⟨[],[],[171],23,H.length,[0,2,3,4,11],[11]⟩ (fun _=>[]) (by kernel_rfl) ?_
  simp only [stripX,stripOps,pickOps]
  simp [retQ,hpl]
  refine ⟨fun h=>⟨h, ?_⟩,fun h=>?_⟩
  · refine (toInst_own _ _ (hg _)).mono ?_
    rintro r H' ⟨a,rfl,ha,hn⟩
    obtain ⟨R2,rfl⟩:=hn.only.tail
    have k2:=k.step h hn ha
    have hpg:=partT_get (z:=[V.d (.int .i64 0),V.d (.int .i64 0),V.d .nilsl]) h
    have h1:=AInst.own_args_ hn.own |>.ok.1.scl.2
    simp [-V.flat,-V.one,one_int,one_bool,one_str,one_nilp,one_rp,one_nilsl,one_ro,one_cl,one_nilf,one_nili,one_ifc,one_ptr,one_sl,one_clo,flat_d,flat_ptr,flat_sl,flat_clo,flat_agg,hpl,hpg,h1]
    exact ⟨h,_,_,k2,by simp;omega,⟨partT_set a h,rfl⟩,by rw [wrap_id] <;> (try simp) <;> omega⟩
  · exact k.done h fun s H' e1 e2 e3=>⟨s,rfl,by rw [e2,List.map_id],e3⟩
theorem toJump_own (H:Heap) (x:Jump) (hx:Sm.sm x):CallsD Tryz.prog 172 [vJump x] H fun r H'=>∃ a:AJump,r=.agg (Tr.cells a)∧Tr.era a=x∧New H H' a:=by
  have q2:Sm.sm x.args_:=hx.2
  refine calls_of Tryz.func172 en_172 rfl (of_decide_eq_true rfl) (W_run mixed ⟨[],[],[189],12,H.length,[0,1,2,3],[]⟩ (fun _=>[]) (by kernel_rfl) ?_)
  simp only [Tryz.f172,stripX,stripOps,pickOps]
  simp []
  refine (toIntS_own _ x.args_ q2).mono ?_
  rintro r H' ⟨s,rfl,hs,hn⟩
  obtain ⟨R,rfl⟩:=hn.only.tail
  have hfl:=hn.own.ok.1.flat
  have h1:=hn.own.ok.1.scl.2
  simp [-V.flat,-V.one,one_int,one_bool,one_str,one_nilp,one_rp,one_nilsl,one_ro,one_cl,one_nilf,one_nili,one_ifc,one_ptr,one_sl,one_clo,flat_d,flat_ptr,flat_sl,flat_clo,flat_agg,retQ,hfl,h1]
  refine fin_new (a:=(⟨x.to_,s⟩:AJump)) (AJump.own (hn.own.beh0 [_,_,_] hn.fresh rfl)) (Only.app _ _ _) (fun j hj=>?_) fun H' h'=>⟨_,rfl, ?_,h'⟩
  · have:=hn.fresh j hj
    simp only [List.length_append] at this;omega
  · show Jump.mk _ (s.l.map _)=x
    rw [hs];exact congrArg (Jump.mk _) (era_ints _)
theorem toJumpS_own (H:Heap) (l:List Jump) (hl:Sm.sm l):CallsD Tryz.prog 137 [.d (dJumpS l)] H fun r H'=>∃ s:AS AJump,r=s.v∧s.l.map Tr.era=l∧New H H' s:=by
  have hlen:=small_len hl
  have hg:=small_get hl
  refine calls_of Tryz.func137 en_137 rfl (of_decide_eq_true rfl) (W_run mixed ⟨[],[],[172],23,H.length,[0,2,3,4,11],[11]⟩ (fun _=>[]) (by kernel_rfl) ?_)
  simp only [Tryz.f137,stripX,stripOps,pickOps]
  simp [hlen]
  refine ⟨by omega, ?_⟩
  rw [partT_nil (α:=AJump)]
  refine W_loopH (α:=List AJump × Heap) (fun a=>[(0,.d (dJumpS l)),(3,.sl H.length 2 0 l.length),(4,.d (.int .i64 a.1.length))]) (fun a=>H++.row 2 (partT a.1 l.length [.d (.int .i64 0),.d .nilsl]) :: a.2)
    (fun a=>Fill H l [.d (.int .i64 0),.d .nilsl] id a.1 a.2) (fun a=>l.length - a.1.length) ([],[]) ?_ ?_ ?_
  · simp
  · exact Fill.nil
  rintro ⟨m,R⟩ k
  have hpl:=partT_len (z:=[V.d (.int .i64 0),V.d .nilsl]) k.le
  refine W_run mixed ⟨[],[],[172],23,H.length,[0,2,3,4,11],[11]⟩ (fun _=>[]) (by kernel_rfl) ?_
  simp only [stripX,stripOps,pickOps]
  simp [retQ,hpl]
  refine ⟨fun h=>⟨h, ?_⟩,fun h=>?_⟩
  · refine (toJump_own _ _ (hg _)).mono ?_
    rintro r H' ⟨a,rfl,ha,hn⟩
    obtain ⟨R2,rfl⟩:=hn.only.tail
    have k2:=k.step h hn ha
    have hpg:=partT_get (z:=[V.d (.int .i64 0),V.d .nilsl]) h
    have h1:=AJump.own_args_ hn.own |>.ok.1.scl.2
    simp [-V.flat,-V.one,one_int,one_bool,one_str,one_nilp,one_rp,one_nilsl,one_ro,one_cl,one_nilf,one_nili,one_ifc,one_ptr,one_sl,one_clo,flat_d,flat_ptr,flat_sl,flat_clo,flat_agg,hpl,hpg,h1]
    exact ⟨h,_,_,k2,by simp;omega,⟨partT_set a h,rfl⟩,by rw [wrap_id] <;> (try simp) <;> omega⟩
  · exact k.done h fun s H' e1 e2 e3=>⟨s,rfl,by rw [e2,List.map_id],e3⟩
theorem toBlock_own (H:Heap) (x:Block) (hx:Sm.sm x):CallsD Tryz.prog 83 [vBlock x] H fun r H'=>∃ a:ABlock,r=.agg (Tr.cells a)∧Tr.era a=x∧New H H' a:=by
  have q2:Sm.sm x.insts_:=hx.2.1
  have q3:Sm.sm x.jumps_:=hx.2.2.2.2
  refine calls_of Tryz.func83 en_83 rfl (of_decide_eq_true rfl) (W_run mixed ⟨[],[],[136,137],22,H.length,[0,1,2,3],[]⟩ (fun _=>[]) (by kernel_rfl) ?_)
  simp only [Tryz.f83,stripX,stripOps,pickOps]
  simp []
  refine (toInstS_own _ x.insts_ q2).mono ?_
  rintro r H' ⟨s,rfl,hs,hn⟩
  obtain ⟨R,rfl⟩:=hn.only.tail
  have hfl:=hn.own.ok.1.flat
  have h1:=hn.own.ok.1.scl.2
  simp [-V.flat,-V.one,one_int,one_bool,one_str,one_nilp,one_rp,one_nilsl,one_ro,one_cl,one_nilf,one_nili,one_ifc,one_ptr,one_sl,one_clo,flat_d,flat_ptr,flat_sl,flat_clo,flat_agg,hfl,h1]
  refine (toJumpS_own _ x.jumps_ q3).mono ?_
  rintro r H' ⟨s2,rfl,hs2,hn2⟩
  obtain ⟨R2,rfl⟩:=hn2.only.tail
  have hfl2:=hn2.own.ok.1.flat
  have h2:=hn2.own.ok.1.scl.2
  simp [-V.flat,-V.one,one_int,one_bool,one_str,one_nilp,one_rp,one_nilsl,one_ro,one_cl,one_nilf,one_nili,one_ifc,one_ptr,one_sl,one_clo,flat_d,flat_ptr,flat_sl,flat_clo,flat_agg,retQ,hfl,h1,hfl2,h2]
  refine fin_new (a:=(⟨x.params_,s,x.end_,x.value_,s2⟩:ABlock)) (ABlock.own (hn.own.beh [_,_,_] R2 hn.fresh rfl) (hn2.own.beh0 (_ :: _ :: _ :: R) hn2.fresh rfl) (fun j hj hk=>?_)) (Only.app _ _ _) (fun j hj=>?_) fun H' h'=>⟨_,rfl, ?_,h'⟩
  · have a1:=hn.own.lt hj
    have a2:=hn2.fresh j hk
    simp only [List.length_append,List.length_cons,List.length_nil] at a1 a2
    omega
  · rw [ids_ABlock] at hj
    rcases List.mem_append.1 hj with q | q
    · have:=hn.fresh j q
      simp only [List.length_append] at this;omega
    · have:=hn2.fresh j q
      simp only [List.length_append] at this;omega
  · show Block.mk x.params_ (s.l.map Tr.era) x.end_ x.value_ (s2.l.map Tr.era)=x
    rw [hs,hs2]
abbrev zBlock:List V:=[.d (.int .i64 0),.d .nilsl,.d (.int .i64 0),.d (.int .i64 0),.d .nilsl]
theorem toBlockS_own (H:Heap) (l:List Block) (hl:Sm.sm l):CallsD Tryz.prog 45 [.d (dBlockS l)] H fun r H'=>∃ s:AS ABlock,r=s.v∧(s.v=.sl H.length 5 0 l.length∧s.l.map Tr.era=l)∧New H H' s:=by
  have hlen:=small_len hl
  have hg:=small_get hl
  refine calls_of Tryz.func45 en_45 rfl (of_decide_eq_true rfl) (W_run mixed ⟨[],[],[83],23,H.length,[0,2,3,4,11],[11]⟩ (fun _=>[]) (by kernel_rfl) ?_)
  simp only [Tryz.f45,stripX,stripOps,pickOps]
  simp [hlen]
  refine ⟨by omega, ?_⟩
  rw [partT_nil (α:=ABlock)]
  refine W_loopH (α:=List ABlock × Heap) (fun a=>[(0,.d (dBlockS l)),(3,.sl H.length 5 0 l.length),(4,.d (.int .i64 a.1.length))]) (fun a=>H++.row 5 (partT a.1 l.length zBlock) :: a.2)
    (fun a=>Fill H l zBlock id a.1 a.2) (fun a=>l.length - a.1.length) ([],[]) ?_ ?_ ?_
  · simp
  · exact Fill.nil
  rintro ⟨m,R⟩ k
  have hpl:=partT_len (z:=zBlock) k.le
  refine W_run mixed ⟨[],[],[83],23,H.length,[0,2,3,4,11],[11]⟩ (fun _=>[]) (by kernel_rfl) ?_
  simp only [stripX,stripOps,pickOps]
  simp [retQ,hpl]
  refine ⟨fun h=>⟨h, ?_⟩,fun h=>?_⟩
  · refine (toBlock_own _ _ (hg _)).mono ?_
    rintro r H' ⟨a,rfl,ha,hn⟩
    obtain ⟨R2,rfl⟩:=hn.only.tail
    have k2:=k.step h hn ha
    have hpg:=partT_get (z:=zBlock) h
    have h1:=(ABlock.own_insts_ hn.own).ok.1.scl.2
    have h2:=(ABlock.own_jumps_ hn.own).ok.1.scl.2
    simp [-V.flat,-V.one,one_int,one_bool,one_str,one_nilp,one_rp,one_nilsl,one_ro,one_cl,one_nilf,one_nili,one_ifc,one_ptr,one_sl,one_clo,flat_d,flat_ptr,flat_sl,flat_clo,flat_agg,hpl,hpg,h1,h2]
    exact ⟨h,_,_,k2,by simp;omega,⟨partT_set a h,rfl⟩,by rw [wrap_id] <;> (try simp) <;> omega⟩
  · exact k.done h fun s H' e1 e2 e3=>⟨s,rfl,⟨e1,by rw [e2,List.map_id]⟩,e3⟩
theorem toFunc_own (H:Heap) (x:Func) (hx:Sm.sm x):CallsD Tryz.prog 16 [vFunc x] H fun r H'=>∃ a:AFunc,r=.agg (Tr.cells a)∧(a.blocks_.v=.sl a.blocks_.id 5 0 x.blocks_.length∧Tr.era a=x)∧New H H' a:=by
  have q2:Sm.sm x.blocks_:=hx.2
  refine calls_of Tryz.func16 en_16 rfl (of_decide_eq_true rfl) (W_run mixed ⟨[],[],[45],12,H.length,[0,1,2,3],[]⟩ (fun _=>[]) (by kernel_rfl) ?_)
  simp only [Tryz.f16,stripX,stripOps,pickOps]
  simp []
  refine (toBlockS_own _ x.blocks_ q2).mono ?_
  rintro r H' ⟨s,rfl,⟨hsv,hs⟩,hn⟩
  obtain ⟨R,rfl⟩:=hn.only.tail
  have hfl:=hn.own.ok.1.flat
  have h1:=hn.own.ok.1.scl.2
  simp [-V.flat,-V.one,one_int,one_bool,one_str,one_nilp,one_rp,one_nilsl,one_ro,one_cl,one_nilf,one_nili,one_ifc,one_ptr,one_sl,one_clo,flat_d,flat_ptr,flat_sl,flat_clo,flat_agg,retQ,hfl,h1]
  refine fin_new (a:=(⟨x.params_,s⟩:AFunc)) (AFunc.own (hn.own.beh0 [_,_,_] hn.fresh rfl)) (Only.app _ _ _) (fun j hj=>?_) fun H' h'=>⟨_,rfl,⟨?_, ?_⟩,h'⟩
  · have:=hn.fresh j hj
    simp only [List.length_append] at this;omega
  · show s.v=.sl s.v.slId 5 0 _
    rw [hsv];rfl
  · show Func.mk x.params_ (s.l.map Tr.era)=x
    rw [hs]
end Go.Proofs.YtbmloeahcdneaaaGreat
