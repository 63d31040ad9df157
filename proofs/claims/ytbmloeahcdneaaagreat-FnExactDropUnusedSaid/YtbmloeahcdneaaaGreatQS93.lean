/- spec.l15Leave: a function without one value that nothing uses, by the reference. No condition. -/
import Derived.Test.YtbmloeahcdneaaaGreatQS42
import Derived.Test.YtbmloeahcdneaaaGreatQS46
import Derived.Test.YtbmloeahcdneaaaGreatQS61
import Derived.Test.YtbmloeahcdneaaaGreatQS92
section
namespace Go.Proofs.YtbmloeahcdneaaaGreat
set_option maxRecDepth 100000
set_option linter.unusedSimpArgs false
set_option linter.unusedVariables false
theorem Own.setAt {α β:Type} [Enc β] [Dec β] [Inhabited β] [Tr α β] {H H':Heap} {s:AS α} {i:Nat} {a':α} (h:Own H s) (hi:i < s.l.length) (ha:Own H' a') (hid:∀ j∈ids a',j∈ids s.l[i]∨H.length≤j)
    (hrow:H'[s.id]? = some (.row (Enc.size β) ((s.l.set i a').map Tr.cells))) (hs:∀ j∈ids s,j ≠ s.id→j ∉ ids s.l[i]→H'[j]? = H[j]?) :
    Own H' (⟨s.v,s.l.set i a'⟩:AS α)∧∀ j∈ids (⟨s.v,s.l.set i a'⟩:AS α),j∈ids s∨H.length≤j:=by
  obtain ⟨rv,rr,rn,ri⟩:=h.row (by omega)
  have hlt:=(List.getElem?_eq_some_iff.1 rr).1
  have es:s.l=s.l.take i++s.l[i] :: s.l.drop (i + 1):=by rw [← List.drop_eq_getElem_cons hi,List.take_append_drop]
  have et:s.l.set i a'=s.l.take i++a' :: s.l.drop (i + 1):=List.set_eq_take_append_cons_drop.trans (if_pos hi)
  have hE:=h.elems
  have hnd:=hE.nd
  rw [es] at hE hnd
  have oL:=hE.put ha hid fun j hj=>by
    have hm:j∈s.l.flatMap ids:=by
      rw [es,List.flatMap_append,List.flatMap_cons]
      rcases List.mem_append.1 hj with q | q
      · exact List.mem_append_left _ q
      · exact List.mem_append_right _ (List.mem_append_right _ q)
    refine hs j (by rw [ri];exact List.mem_cons_of_mem _ hm) (fun e=>rn (e ▸ hm)) fun q=>?_
    rw [List.flatMap_append,List.flatMap_cons] at hnd
    obtain ⟨n1,n2,n3⟩:=List.nodup_append.1 hnd
    obtain ⟨n4,n5,n6⟩:=List.nodup_append.1 n2
    rcases List.mem_append.1 hj with w | w
    · exact n3 j w j (List.mem_append_left _ q) rfl
    · exact n6 j q j w rfl
  rw [← et] at oL
  have up:∀ j∈(s.l.set i a').flatMap ids,j∈s.l.flatMap ids∨H.length≤j:=fun j hj=>by
    rw [et,List.flatMap_append,List.flatMap_cons] at hj
    rw [es,List.flatMap_append,List.flatMap_cons]
    rcases List.mem_append.1 hj with q | q
    · exact .inl (List.mem_append_left _ q)
    · rcases List.mem_append.1 q with q | q
      · exact (hid j q).imp (fun w=>List.mem_append_right _ (List.mem_append_left _ w)) id
      · exact .inl (List.mem_append_right _ (List.mem_append_right _ q))
  have nn:s.id ∉ (s.l.set i a').flatMap ids:=fun q=>by
    rcases up _ q with w | w
    · exact rn w
    · omega
  have hv:(⟨s.v,s.l.set i a'⟩:AS α).v=.sl s.id (Enc.size β) 0 (s.l.set i a').length:=by rw [List.length_set];exact rv
  have o:=Own.mkS oL hrow nn
  rw [← hv] at o
  refine ⟨o,fun j hj=>?_⟩
  rw [ids_sl hv] at hj
  rw [ri]
  rcases List.mem_cons.1 hj with rfl | hj
  · exact .inl List.mem_cons_self
  · exact (up j hj).imp (List.mem_cons_of_mem _) id
end Go.Proofs.YtbmloeahcdneaaaGreat
end

section
namespace Go.Proofs.YtbmloeahcdneaaaGreat
set_option maxRecDepth 100000
set_option linter.unusedSimpArgs false
set_option linter.unusedVariables false
theorem inst_in {F:Func} (hg:goodF F=true) {v k0:Nat} (h:InB F v k0):instS F v F.blocks_ 0=((k0:Int),((v - (fstN F k0 + (F.blocks_[k0]?.getD default).params_.toNat):Nat):Int)):=by
  have hL:=lay hg
  obtain ⟨m0,m80⟩:=many_rng hg
  have hm:=fstN_mono F (show k0 + 1≤F.blocks_.length from h.k)
  have hmn:=hL.many
  have hv:=h.hi
  have hlo:=h.lo
  obtain ⟨p0,p4,_⟩:=blk_head hg h.k
  have hb:bk (viewD F) (v:Int)=k0:=hL.bkB k0 v h.k (by omega) h.hi
  have ha:atV (viewD F) (v:Int)=((v - (fstN F k0 + (F.blocks_[k0]?.getD default).params_.toNat):Nat):Int):=by
    unfold atV blkAt
    rw [hb,Int.toNat_natCast,hL.first k0 h.k]
    show IntKind.i64.wrap (IntKind.i64.wrap ((v:Int) - (fstN F k0:Int)) - (F.blocks_[k0]?.getD default).params_)=_
    rw [wrap_id (n:=(v:Int) - (fstN F k0:Int)) (by omega) (by omega),wrap_id (by omega) (by omega)]
    omega
  have:=(inst_same hg (n:=(v:Int)) (by omega) (by omega) (by rw [hb];omega) (by rw [ha];omega)).1
  rw [this,hb,ha]
def lvT (tot v u:Nat):List Int:=(List.range tot).map fun j=>if v < j∧j < u then (j:Int) - 1 else j
theorem lvT_zero (tot v:Nat):lvT tot v (v + 1)=sgl tot:=by
  unfold lvT sgl
  refine List.map_congr_left fun j hj=>?_
  rw [if_neg (by omega)]
theorem lvT_len (tot v u:Nat):(lvT tot v u).length=tot:=by simp [lvT]
theorem lvT_set {tot v u:Nat} (h:u < tot) (hv:v < u) {n:Int} (hn:n=(u:Int) - 1):(lvT tot v u).set u n=lvT tot v (u + 1):=by
  refine List.ext_getElem (by simp [lvT]) fun j h1 h2=>?_
  rw [List.getElem_set]
  simp only [lvT,List.getElem_map,List.getElem_range]
  by_cases e:u=j
  · subst e;rw [if_pos rfl,if_pos (by omega),hn]
  · rw [if_neg e]
    by_cases e2:v < j∧j < u
    · rw [if_pos e2,if_pos (by omega)]
    · rw [if_neg e2,if_neg (by omega)]
theorem lv_map {F:Func} (hg:goodF F=true) {v k0:Nat} (h:InB F v k0) (hu:∀ b∈F.blocks_,∀ x∈allU b,x ≠ (v:Int)) {tot:Nat} (ht:many F=tot):mpF (mapL (lvT tot v tot)) F=mpF (fun x=>numW F (only1 v) pv0 x.toNat) F :=
  mpF_congr fun b hb x hx=>by
    have h1:=good_all hg hb x hx
    have h2:=hu b hb x hx
    rw [num1 F h.par (show x.toNat ≠ v by omega)]
    unfold mapL lvT
    rw [List.getElem?_map,List.getElem?_range (by omega)]
    show (if v < x.toNat∧x.toNat < tot then _ else _)=_
    by_cases e:v < x.toNat
    · rw [if_pos ⟨e,by omega⟩,if_pos e]
    · rw [if_neg (fun q=>e q.1),if_neg e]
set_option maxHeartbeats 4000000 in
theorem l15Leave_own (F : Func) (v : Nat) (hF : Enc.good F) (hg : goodF F = true) {k0 : Nat} (hin : InB F v k0) (hu : ∀ b ∈ F.blocks_, ∀ x ∈ allU b, x ≠ (v : Int)) :
    CallsD Tryz.prog 114 [vFunc F,.d (.int .i64 v)] [] fun r H'=>∃ A:CFunc,r=.agg (Tr.cells A)∧Own H' A∧Tr.era A=leaveF F v:=by
  have hL:=lay hg
  obtain ⟨m0,m80⟩:=many_rng hg
  obtain ⟨tot,htot⟩:∃ n:Nat,many F=n:=⟨(many F).toNat,by omega⟩
  have hmany:cntB F.blocks_ F.params_=tot:=htot
  have hmn:=hL.many
  have hm0:=fstN_mono F (show k0 + 1≤F.blocks_.length from hin.k)
  have hvi:=hin.hi
  have hvt:v < tot:=by omega
  have hin2:=inst_in hg hin
  obtain ⟨ai,hai⟩:∃ ai:Nat,v - (fstN F k0 + (F.blocks_[k0]?.getD default).params_.toNat)=ai:=⟨_,rfl⟩
  rw [hai] at hin2
  have hi1:(instS F (v:Int) F.blocks_ 0).1=k0:=by rw [hin2]
  have hi2:(instS F (v:Int) F.blocks_ 0).2=ai:=by rw [hin2]
  refine calls_of Tryz.func114 en_114 rfl (of_decide_eq_true rfl) (W_runCut mixed 4 ⟨[K_111,K_80],[K_111h,K_80h],[81,82],61,0,[0,1,2,4,5,6,7,8,9,24],[24]⟩ (fun | 8=>[0,2,4,6,10,13,15,19,20,1,5,7,8,9,11,14,16,17,18,21,3,12,22,23,24,25] | _=>[]) (by kernel_rfl) ?_)
  simp only [Tryz.f114,stripCut,stripX,stripOps,pickOps]
  simp [K_111_f,K_111_e,K_80_f,K_80_e,K_111h_f,K_111h_e,K_80h_f,K_80h_e,K_111h_g,K_80h_g,-V.flat,-V.one,one_int,one_bool,one_str,one_nilp,one_rp,one_nilsl,one_ro,one_cl,one_nilf,one_nili,one_ifc,one_ptr,one_sl,one_clo,flat_d,flat_ptr,flat_sl,flat_clo,flat_agg,-decA,decA_int,decA_bool,decA_str,hF,hi1,hi2,hmany]
  rw [aft_call]
  refine (l11Single_own _ tot (by omega) (by omega)).mono ?_
  rintro r G ⟨s,rfl,hs,hn⟩
  rw [Int.toNat_natCast] at hs
  obtain ⟨rv,rr,rn,ri⟩:=hn.own.row (by rw [hs,sgl_len];omega)
  have hsl:s.l.length=tot:=by rw [hs,sgl_len]
  have hsr:s.l.map Tr.cells=rI (lvT tot v (v + 1)):=by rw [hs,lvT_zero];rfl
  rw [hsl] at rv
  rw [hsr] at rr
  have hid0:2≤s.id:=by have:=hn.fresh s.id (by rw [ri];exact List.mem_cons_self);exact this
  have hidl:=(List.getElem?_eq_some_iff.1 rr).1
  have g0:G[0]? = some (.row 2 [[.d (.int .i64 F.params_),.d (dBlockS F.blocks_)]]):=hn.only.at_ 0 (by simp) List.not_mem_nil
  have g1:G[1]? = some (.row 2 [[.d (.int .i64 0),.d .nilsl]]):=hn.only.at_ 1 (by simp) List.not_mem_nil
  have tl:(tot:Int)≤80:=by omega
  simp [K_111_f,K_111_e,K_80_f,K_80_e,K_111h_f,K_111h_e,K_80h_f,K_80h_e,K_111h_g,K_80h_g,-V.flat,-V.one,one_int,one_bool,one_str,one_nilp,one_rp,one_nilsl,one_ro,one_cl,one_nilf,one_nili,one_ifc,one_ptr,one_sl,one_clo,flat_d,flat_ptr,flat_sl,flat_clo,flat_agg,-decA,decA_int,decA_bool,decA_str,rv]
  refine W_loopH (α:=Nat) (fun a=>[(2,.ptr 0 2 0 0),(4,.ptr 1 2 0 0),(5,.d (.int .i64 k0)),(6,.d (.int .i64 ai)),(7,.sl s.id 1 0 tot),(8,.d (.int .i64 a))]) (fun a=>G.set s.id (.row 1 (rI (lvT tot v a))))
    (fun a=>v < a∧a≤tot) (fun a=>tot - a) (v + 1) ?_ ⟨Nat.lt_succ_self _,hvt⟩ ?_
  · have e:G.set s.id (.row 1 (rI (lvT tot v (v + 1))))=G:=by
      refine List.ext_getElem? fun j=>?_
      by_cases hj:j=s.id
      · rw [hj,List.getElem?_set_self hidl,rr];rfl
      · rw [List.getElem?_set_ne (fun q=>hj q.symm)]
    have wv:IntKind.i64.wrap ((v:Int) + 1)=(v:Int) + 1:=wrap_id (by omega) (by omega)
    simp [e,wv]
  rintro u ⟨hu1,hu2⟩
  have e0:(G.set s.id (.row 1 (rI (lvT tot v u))))[0]? = some (.row 2 [[.d (.int .i64 F.params_),.d (dBlockS F.blocks_)]]):=(List.getElem?_set_ne (by omega)).trans g0
  have es:(G.set s.id (.row 1 (rI (lvT tot v u))))[s.id]? = some (.row 1 (rI (lvT tot v u))):=List.getElem?_set_self hidl
  by_cases hut:u < tot
  · have wu:IntKind.i64.wrap ((u:Int) + 1)=((u + 1:Nat):Int):=by rw [wrap_id] <;> omega
    have wu2:IntKind.i64.wrap ((u:Int) - 1)=(u:Int) - 1:=wrap_id (by omega) (by omega)
    refine W_run mixed ⟨[K_111,K_80],[K_111h,K_80h],[81,82],61,0,[0,1,2,4,5,6,7,8,9,24],[24]⟩ (fun | 8=>[0,2,4,6,10,13,15,19,20,1,5,7,8,9,11,14,16,17,18,21,3,12,22,23,24,25] | _=>[]) (by kernel_rfl) ?_
    simp only [stripX,stripOps,pickOps]
    simp [K_111_f,K_111_e,K_80_f,K_80_e,K_111h_f,K_111h_e,K_80h_f,K_80h_e,K_111h_g,K_80h_g,-V.flat,-V.one,one_int,one_bool,one_str,one_nilp,one_rp,one_nilsl,one_ro,one_cl,one_nilf,one_nili,one_ifc,one_ptr,one_sl,one_clo,flat_d,flat_ptr,flat_sl,flat_clo,flat_agg,-decA,decA_int,decA_bool,decA_str,es,hut,wu2,lvT_len]
    exact ⟨u + 1,⟨by omega,hut⟩,by omega,by rw [← lvT_set hut (by omega) rfl];simp,wu⟩
  · have hue:u=tot:=by omega
    refine W_run mixed ⟨[K_111,K_80],[K_111h,K_80h],[81,82],61,0,[0,1,2,4,5,6,7,8,9,24],[24]⟩ (fun | 8=>[0,2,4,6,10,13,15,19,20,1,5,7,8,9,11,14,16,17,18,21,3,12,22,23,24,25] | _=>[]) (by kernel_rfl) ?_
    simp only [stripX,stripOps,pickOps]
    simp [K_111_f,K_111_e,K_80_f,K_80_e,K_111h_f,K_111h_e,K_80h_f,K_80h_e,K_111h_g,K_80h_g,-V.flat,-V.one,one_int,one_bool,one_str,one_nilp,one_rp,one_nilsl,one_ro,one_cl,one_nilf,one_nili,one_ifc,one_ptr,one_sl,one_clo,flat_d,flat_ptr,flat_sl,flat_clo,flat_agg,-decA,decA_int,decA_bool,decA_str,es,hut,e0]
    have n0:(G.set s.id (.row 1 (rI (lvT tot v u))))[1]? = some (.row 2 [[.d (.int .i64 0),.d .nilsl]]):=(List.getElem?_set_ne (by omega)).trans g1
    have nT:DLe (closeK [0,1] (G.set s.id (.row 1 (rI (lvT tot v u)))) 4 (.sl s.id 1 0 tot)) (dIntS (lvT tot v u)):=by
      have:=dle_closeK (K:=[0,1]) (l:=lvT tot v u) (H:=G.set s.id (.row 1 (rI (lvT tot v u)))) (id:=s.id) (by simp;omega) es
      rw [lvT_len] at this
      exact this
    refine W_weak (IntoF.weak (σ:=[0,1]) (l:=[(2,.ptr 0 2 0 0),(4,.ptr 1 2 0 0),(5,.d (.int .i64 k0)),(6,.d (.int .i64 ai)),(7,.d (dIntS (lvT tot v u)))]) (H:=[.row 2 [[.d (.int .i64 F.params_),.d (dBlockS F.blocks_)]],.row 2 [[.d (.int .i64 0),.d .nilsl]]]) ⟨rfl, ?_, ?_⟩) ?_
    · simp [e0,n0]
      exact ⟨.inl (by simp),.inl (by simp)⟩
    · simp [nT]
    refine W_runS mixed [8] ⟨[K_111,K_80,K_81],[K_111h,K_80h,K_81h],[82],61,0,[0,1,2,4,5,6,7,8,9,24],[24]⟩ (fun | 8=>[0,2,4,6,10,13,15,19,20,1,5,7,8,9,11,14,16,17,18,21,3,12,22,23,24,25] | _=>[]) (by kernel_rfl) ?_
    simp only [stripS,skip_cons,skip_nil,Nat.reduceBEq,Bool.or_false,Bool.or_self,Bool.or_true,Bool.true_or,cond_true,cond_false,stripX,stripOps,pickOps]
    simp [K_111_f,K_111_e,K_80_f,K_80_e,K_81_f,K_81_e,K_111h_f,K_111h_e,K_80h_f,K_80h_e,K_81h_f,K_81h_e,K_111h_g,K_80h_g,K_81h_g,-V.flat,-V.one,one_int,one_bool,one_str,one_nilp,one_rp,one_nilsl,one_ro,one_cl,one_nilf,one_nili,one_ifc,one_ptr,one_sl,one_clo,flat_d,flat_ptr,flat_sl,flat_clo,flat_agg,-decA,decA_int,decA_bool,decA_str,hF]
    rw [hue]
    rw [aft_call]
    refine (l15Map_own _ F (lvT tot v tot) (by have:=hL.len.1;omega) (good_map hg (by rw [lvT_len];omega))).mono ?_
    rintro r G5 ⟨A,rfl,oA,eA,ho5,iA⟩
    rw [lv_map hg hin hu htot] at eA
    have hfl:=oA.ok.1.flat
    have hone:=oA.ok.1.scl.2
    have l5:2≤G5.length:=ho5.len
    have iA':∀ j∈ids A,2≤j∧j < G5.length:=fun j hj=>⟨iA j hj,oA.lt hj⟩
    have o5:G5[1]? = some (.row 2 [[.d (.int .i64 0),.d .nilsl]]):=ho5.at_ 1 (by simp) List.not_mem_nil
    have eAp:A.params_=F.params_:=congrArg Func.params_ eA
    have eAb:A.blocks_.l.map Tr.era=F.blocks_.map (mpB (fun x=>numW F (only1 v) pv0 x.toNat)):=congrArg Func.blocks_ eA
    have lA:A.blocks_.l.length=F.blocks_.length:=by have:=congrArg List.length eAb;simpa using this
    obtain ⟨rv5,rr5,rn5,ri5⟩:=(CFunc.own_blocks_ oA).row (by have:=hin.k;omega)
    have rv':A.blocks_.v=.sl A.blocks_.id 5 0 F.blocks_.length:=by rw [← lA];exact rv5
    simp [K_111_f,K_111_e,K_80_f,K_80_e,K_81_f,K_81_e,K_111h_f,K_111h_e,K_80h_f,K_80h_e,K_81h_f,K_81h_e,K_111h_g,K_80h_g,K_81h_g,-V.flat,-V.one,one_int,one_bool,one_str,one_nilp,one_rp,one_nilsl,one_ro,one_cl,one_nilf,one_nili,one_ifc,one_ptr,one_sl,one_clo,flat_d,flat_ptr,flat_sl,flat_clo,flat_agg,-decA,decA_int,decA_bool,decA_str,hfl,hone,rv']
    obtain ⟨c,hc⟩:∃ c:CBlock,A.blocks_.l[k0]? = some c:=⟨_,List.getElem?_eq_getElem (by have:=hin.k;omega)⟩
    have hkl:=hin.k
    have hc2:∀ h:k0 < A.blocks_.l.length,A.blocks_.l[k0]=c:=fun h=>Option.some.inj ((List.getElem?_eq_getElem h).symm.trans hc)
    have hc3:A.blocks_.l[k0]?.getD default=c:=by rw [hc];rfl
    have ec:Tr.era c=mpB (fun x=>numW F (only1 v) pv0 x.toNat) (F.blocks_[k0]?.getD default):=by
      have h1:=congrArg (fun l=>l[k0]?) eAb
      simp only [List.getElem?_map,hc,List.getElem?_eq_getElem hkl,Option.map_some] at h1
      rw [List.getElem?_eq_getElem hkl]
      exact Option.some.inj h1
    have lc:c.insts_.l.length=(F.blocks_[k0]?.getD default).insts_.length:=by
      have h1:=congrArg (fun b=>b.insts_.length) ec
      have h2:(Tr.era c).insts_.length=c.insts_.l.length:=List.length_map _
      rw [← h2,h1];exact List.length_map _
    have hfs:=fstN_succ (F:=F) hkl
    unfold szN at hfs
    have hlo:=hin.lo
    have hail:ai < c.insts_.l.length:=by omega
    have oc:Own G5 c:=(CFunc.own_blocks_ oA).elems.get (List.mem_of_getElem? hc)
    obtain ⟨rvc,rrc,rnc,ric⟩:=(CBlock.own_insts_ oc).row (by omega)
    have blR:∀ R:Heap,(G5++R)[A.blocks_.id]? = some (.row 5 (A.blocks_.l.map Tr.cells)):=fun R=>(List.getElem?_append_left (List.getElem?_eq_some_iff.1 rr5).1).trans rr5
    have inR:∀ R:Heap,(G5++R)[c.insts_.id]? = some (.row 3 (c.insts_.l.map Tr.cells)):=fun R=>(List.getElem?_append_left (List.getElem?_eq_some_iff.1 rrc).1).trans rrc
    have wa:IntKind.i64.wrap ((ai:Int) + 1)=((ai + 1:Nat):Int):=by rw [wrap_id] <;> omega
    have hidb:=(List.getElem?_eq_some_iff.1 rr5).1
    have hidA:A.blocks_.id∈ids A:=by show A.blocks_.id∈ids A.blocks_;rw [ri5];exact List.mem_cons_self
    have hidA2:=iA' _ hidA
    have hset:∀ (R:Heap) p,(G5++R).set A.blocks_.id p=G5.set A.blocks_.id p++R:=fun R p=>List.set_append_left _ _ hidb
    have hset1:∀ (R:Heap) p q,(G5.set A.blocks_.id p++R).set 1 q=(G5.set A.blocks_.id p).set 1 q++R:=fun R p q=>List.set_append_left _ _ (by simp;omega)
    have hg1:∀ (R:Heap) p,(G5.set A.blocks_.id p++R)[1]? = some (.row 2 [[.d (.int .i64 0),.d .nilsl]]):=fun R p=>(List.getElem?_append_left (by simp;omega)).trans ((List.getElem?_set_ne (by omega)).trans o5)
    have hg1':∀ (R:Heap) p (h:1 < (G5.set A.blocks_.id p++R).length),(G5.set A.blocks_.id p++R)[1]=.row 2 [[.d (.int .i64 0),.d .nilsl]]:=fun R p h=>Option.some.inj ((List.getElem?_eq_getElem h).symm.trans (hg1 R p))
    have hs1:∀ (R:Heap) p q,((G5.set A.blocks_.id p).set 1 q++R)[1]? = some q:=fun R p q=>(List.getElem?_append_left (by simp;omega)).trans (List.getElem?_set_self (by simp;omega))
    have hmin:min ai c.insts_.l.length=ai:=by omega
    have hc80:c.insts_.l.length≤80:=by omega
    refine W_drawB mixed ⟨[K_111,K_80],[K_111h,K_80h],[81,82],61,0,[0,1,2,4,5,6,7,8,9,24],[24]⟩ 81 [0,1,2,4,5,6,7,8,9,10,11,13,14,15,16,17,18,19,20,21] [3,12,22] [23,24,25] (.alt 3 (.alt 12 (.alt 22 .leaf .nil) .nil) .nil) [0,1,2,4,5,6,7,8,9,24,35,36,37,38,39,40,41,42,43,44,45,46,47,48,49,50,51,52,53,54,55,56,57,58,59] (by kernel_rfl) (by kernel_rfl) (by intro vs;simp [tabG,tab,K_111_f,K_80_f,K_111h_f,K_80h_f]) ?_
    simp only [stripOps,pickOps]
    simp [denB,demB,isDem,isSt,newS,stripOps,pickOps,K_111_f,K_111_e,K_80_f,K_80_e,K_111h_f,K_111h_e,K_80h_f,K_80h_e,K_111h_g,K_80h_g,-V.flat,-V.one,one_int,one_bool,one_str,one_nilp,one_rp,one_nilsl,one_ro,one_cl,one_nilf,one_nili,one_ifc,one_ptr,one_sl,one_clo,flat_d,flat_ptr,flat_sl,flat_clo,flat_agg,-decA,decA_int,decA_bool,decA_str,blR,hset,hset1,hg1,hg1',hs1,hmin, inR,hc,hc2,hc3,rvc,hkl,lA,hail,wa]
    refine ⟨by omega,by omega,by omega,by omega,⟨by omega,by omega⟩,by omega,⟨by omega,by omega⟩, ?_⟩
    have hs1':∀ (R:Heap) p q (h:1 < ((G5.set A.blocks_.id p).set 1 q++R).length),((G5.set A.blocks_.id p).set 1 q++R)[1]=q:=fun R p q h=>Option.some.inj ((List.getElem?_eq_getElem h).symm.trans (hs1 R p q))
    simp [retQ,hs1']
    obtain ⟨ni,hni⟩:∃ ni,ai + (c.insts_.l.length - (ai + 1))=ni:=⟨_,rfl⟩
    rw [hni]
    have hel:(c.insts_.l.eraseIdx ai).length=ni:=by rw [List.length_eraseIdx,if_pos hail];omega
    obtain ⟨c',hc'⟩:∃ c':CBlock,c'=⟨c.params_,⟨.sl (G5.length + 3) 3 0 ni,c.insts_.l.eraseIdx ai⟩,c.end_,c.value_,c.jumps_⟩:=⟨_,rfl⟩
    have hrows:List.take ai (List.take ai (List.map Tr.cells c.insts_.l))++List.take (c.insts_.l.length - (ai + 1)) (List.drop (ai + 1) (List.map Tr.cells c.insts_.l))=(c.insts_.l.eraseIdx ai).map Tr.cells:=by
      rw [List.take_take,Nat.min_self,List.take_of_length_le (l:=List.drop (ai + 1) _) (by simp),List.eraseIdx_eq_take_drop_succ,List.map_append,List.map_take,List.map_drop]
    have hcell:[V.d (D.int IntKind.i64 c.params_),V.sl (G5.length + 3) 3 0 ni,V.d (D.int IntKind.i64 c.end_),V.d (D.int IntKind.i64 c.value_),c.jumps_.v]=Tr.cells c':=by rw [hc'];rfl
    rw [hcell,hrows]
    generalize hGF:(G5.set A.blocks_.id (.row 5 ((A.blocks_.l.map Tr.cells).set k0 (Tr.cells c')))).set 1 (.row 2 [[V.d (D.int IntKind.i64 A.params_),V.sl A.blocks_.id 5 0 F.blocks_.length]])++[Place.row 2 [[V.d (D.int IntKind.i64 A.params_),V.sl A.blocks_.id 5 0 F.blocks_.length]],Place.dead,Place.dead,Place.row 3 ((c.insts_.l.eraseIdx ai).map Tr.cells)]=GF
    have at_:∀ j,j < G5.length→j ≠ A.blocks_.id→j ≠ 1→GF[j]? = G5[j]?:=fun j h1 h2 h3=>by
      rw [← hGF,List.getElem?_append_left (by simpa using h1),List.getElem?_set_ne (by omega),List.getElem?_set_ne (by omega)]
    have at_b:GF[A.blocks_.id]? = some (.row 5 ((A.blocks_.l.map Tr.cells).set k0 (Tr.cells c'))):=by
      rw [← hGF,List.getElem?_append_left (by simpa using hidb),List.getElem?_set_ne (by omega),List.getElem?_set_self hidb]
    have at_n:GF[G5.length + 3]? = some (.row 3 ((c.insts_.l.eraseIdx ai).map Tr.cells)):=by
      rw [← hGF,List.getElem?_append_right (by simp)];simp
    obtain ⟨oI,iI⟩:=ownL_C (H:=GF) (l:=c.insts_.l.eraseIdx ai) (fun _=>rfl) (fun _=>trivial)
    have oS:Own GF (⟨.sl (G5.length + 3) 3 0 ni,c.insts_.l.eraseIdx ai⟩:AS Inst):=by
      rw [← hel];exact Own.mkS (id:=G5.length + 3) oI at_n (by rw [iI];exact List.not_mem_nil)
    have iS:ids (⟨.sl (G5.length + 3) 3 0 ni,c.insts_.l.eraseIdx ai⟩:AS Inst)=[G5.length + 3]:=by
      rw [← hel,ids_sl (s:=(⟨.sl (G5.length + 3) 3 0 (c.insts_.l.eraseIdx ai).length,c.insts_.l.eraseIdx ai⟩:AS Inst)) rfl,iI]
    have mc:∀ j∈ids c,j∈A.blocks_.l.flatMap ids:=fun j hj=>List.mem_flatMap.2 ⟨c,List.mem_of_getElem? hc,hj⟩
    have mc2:∀ j∈ids c,j ≠ A.blocks_.id∧2≤j:=fun j hj=>⟨fun e=>rn5 (e ▸ mc j hj),(iA' j (by show j∈ids A.blocks_;rw [ri5];exact List.mem_cons_of_mem _ (mc j hj))).1⟩
    have mj:∀ j∈ids c.jumps_,j∈ids c:=fun j hj=>by rw [ids_CBlock];exact List.mem_append_right _ hj
    have oJ:Own GF c.jumps_:=(CBlock.own_jumps_ oc).same fun j hj hl=>at_ j hl (mc2 j (mj j hj)).1 (by have:=(mc2 j (mj j hj)).2;omega)
    have oc':Own GF c':=by
      rw [hc']
      refine CBlock.own (x:=⟨c.params_,⟨.sl (G5.length + 3) 3 0 ni,c.insts_.l.eraseIdx ai⟩,c.end_,c.value_,c.jumps_⟩) oS oJ fun j hj hk=>?_
      rw [iS] at hj
      have:=(CBlock.own_jumps_ oc).lt hk
      rw [List.mem_singleton.1 hj] at this;omega
    have ic':∀ j∈ids c',j∈ids c∨G5.length≤j:=fun j hj=>by
      rw [hc',ids_CBlock] at hj
      rcases List.mem_append.1 hj with q | q
      · rw [show ids (CBlock.mk c.params_ ⟨.sl (G5.length + 3) 3 0 ni,c.insts_.l.eraseIdx ai⟩ c.end_ c.value_ c.jumps_).insts_=[G5.length + 3] from iS] at q
        rw [List.mem_singleton.1 q];exact .inr (by omega)
      · exact .inl (mj j q)
    have hkA:k0 < A.blocks_.l.length:=by omega
    obtain ⟨oB,_⟩:=(CFunc.own_blocks_ oA).setAt hkA oc' (fun j hj=>by rw [hc2 hkA];exact ic' j hj) (by rw [at_b,List.map_set];rfl) fun j hj h1 h2=>by
      have hj2:j∈ids A:=hj
      exact at_ j (iA' j hj2).2 h1 (by have:=(iA' j hj2).1;omega)
    refine ⟨_,_,Fin.same (Nat.zero_le _),⟨A.params_,⟨A.blocks_.v,A.blocks_.l.set k0 c'⟩⟩, ?_,CFunc.own oB, ?_⟩
    · rw [rv']
    · show Func.mk A.params_ ((A.blocks_.l.set k0 c').map Tr.era)=leaveF F v
      have e1:(A.blocks_.l.set k0 c').map Tr.era=(leaveF F v).blocks_:=by
        rw [List.map_set,eAb,leave_blocks]
        refine List.ext_getElem (by simp) fun k h1 h2=>?_
        have hkf:k < F.blocks_.length:=by simpa using h1
        rw [List.getElem_set]
        simp only [List.getElem_map,List.getElem_range]
        have hgd:F.blocks_[k]?.getD default=F.blocks_[k]:=by rw [List.getElem?_eq_getElem hkf];rfl
        have hj:∀ b∈F.blocks_,((mpB (fun x=>numW F (only1 v) pv0 x.toNat) b).jumps_.map (toJ pv0))=(mpB (fun x=>numW F (only1 v) pv0 x.toNat) b).jumps_:=fun b hb=>by
          refine (List.map_congr_left fun z hz=>?_).trans (List.map_id _)
          obtain ⟨j,hj,rfl⟩:=List.mem_map.1 (show z∈b.jumps_.map (mpJ _) from hz)
          have:=jump_to hg hb hj
          show Jump.mk (bnoW pv0 j.to_.toNat) _=Jump.mk j.to_ _
          rw [bno0,Int.toNat_of_nonneg this.1];rfl
        have hwj:(wB F (only1 v) pv0 k).jumps_=(mpB (fun x=>numW F (only1 v) pv0 x.toNat) F.blocks_[k]).jumps_:=by
          unfold wB
          rw [hgd]
          exact hj _ (List.getElem_mem hkf)
        have hwi:=leave_insts hin hkf
        rw [hgd] at hwi
        have hw:wB F (only1 v) pv0 k=⟨F.blocks_[k].params_,(wB F (only1 v) pv0 k).insts_,F.blocks_[k].end_,(mpB (fun x=>numW F (only1 v) pv0 x.toNat) F.blocks_[k]).value_,(wB F (only1 v) pv0 k).jumps_⟩:=by
          unfold wB
          rw [hgd];rfl
        rw [hw,hwj,hwi]
        by_cases e:k0=k
        · subst e
          rw [if_pos rfl,if_pos rfl,hc']
          have ec1:Tr.era c=mpB (fun x=>numW F (only1 v) pv0 x.toNat) F.blocks_[k0]:=by rw [ec,hgd]
          have p1:=congrArg Block.params_ ec1
          have p2:=congrArg Block.insts_ ec1
          have p3:=congrArg Block.end_ ec1
          have p4:=congrArg Block.value_ ec1
          have p5:=congrArg Block.jumps_ ec1
          have p2':c.insts_.l=F.blocks_[k0].insts_.map (mpI fun x=>numW F (only1 v) pv0 x.toNat):=by
            have:c.insts_.l.map Tr.era=_:=p2
            rw [show (Tr.era:Inst→Inst)=id from rfl,List.map_id] at this;exact this
          show Block.mk c.params_ ((c.insts_.l.eraseIdx ai).map Tr.era) c.end_ c.value_ (c.jumps_.l.map Tr.era)=_
          rw [show (Tr.era:Inst→Inst)=id from rfl,List.map_id,p2',← hai,hgd]
          rw [show c.params_=F.blocks_[k0].params_ from p1,show c.end_=F.blocks_[k0].end_ from p3,show c.value_=(mpB (fun x=>numW F (only1 v) pv0 x.toNat) F.blocks_[k0]).value_ from p4,show c.jumps_.l.map Tr.era=(mpB (fun x=>numW F (only1 v) pv0 x.toNat) F.blocks_[k0]).jumps_ from p5]
        · rw [if_neg e,if_neg (fun q=>e q.symm)];rfl
      rw [e1,eAp];rfl
theorem l15Leave_c (F:Func) (v:Int) (hF:Enc.good F) (hg:goodF F=true) (h:∃ k0,InB F v.toNat k0) (hu:∀ b∈F.blocks_,∀ x∈allU b,x ≠ v) (hv:0≤v):PureP Tryz.prog 114 [vFunc F,.d (.int .i64 v)] (· = vFunc (leaveF F v.toNat)):=by
  obtain ⟨v,rfl⟩:=Int.eq_ofNat_of_zero_le hv
  obtain ⟨k0,hin⟩:=h
  rw [Int.toNat_natCast] at hin ⊢
  exact PureP.of_own ((l15Leave_own F v hF hg hin hu).mono fun r H' ⟨A,e,oA,eA⟩=>by
    have h1:=Rd1.aggs oA rfl
    rw [eA] at h1
    rw [e]
    exact h1)
noncomputable def K_114:Ent Tryz.prog:=Ent.p2 (α:=Func) (β:=Int) 114 (fun F v=>Enc.good F∧goodF F=true∧(∃ k0,InB F v.toNat k0)∧(∀ b∈F.blocks_,∀ x∈allU b,x ≠ v)∧0≤v) (fun F v=>vFunc (leaveF F v.toNat)) (fun F v hc=>l15Leave_c F v hc.1 hc.2.1 hc.2.2.1 hc.2.2.2.1 hc.2.2.2.2)
theorem K_114_f:K_114.f=114:=rfl
theorem K_114_e (F0:Int) (F1:List Block) (v:Int):K_114.e [.agg [.d (.int .i64 F0),.d (dBlockS F1)],.d (.int .i64 v)]=some (Enc.good (Func.mk F0 F1)∧goodF (Func.mk F0 F1)=true∧(∃ k0,InB (Func.mk F0 F1) v.toNat k0)∧(∀ b∈(Func.mk F0 F1).blocks_,∀ x∈allU b,x ≠ v)∧0≤v,vFunc (leaveF (Func.mk F0 F1) v.toNat),[]):=by unfold K_114;exact Ent.p2_eq (α:=Func) (β:=Int) (Func.mk F0 F1) v
noncomputable def K_114h:EntH Tryz.prog:=EntH.pk2 (α:=Func) (β:=Int) 114 (fun F v=>Enc.good F∧goodF F=true∧(∃ k0,InB F v.toNat k0)∧(∀ b∈F.blocks_,∀ x∈allU b,x ≠ v)∧0≤v) (fun F v=>vFunc (leaveF F v.toNat)) (fun F v=>[]) (fun F v hc=>PureP.ans (l15Leave_c F v hc.1 hc.2.1 hc.2.2.1 hc.2.2.2.1 hc.2.2.2.2))
theorem K_114h_f:K_114h.f=114:=rfl
theorem K_114h_g:K_114h.gro=true:=rfl
theorem K_114h_e {x1 x2:V} {H:Heap}:K_114h.e [x1,x2] H=guardR ((decA (α:=Func) H x1).1∧(decA (α:=Int) H x2).1) (peekR (Enc.good (decA (α:=Func) H x1).2∧goodF (decA (α:=Func) H x1).2=true∧(∃ k0,InB (decA (α:=Func) H x1).2 (decA (α:=Int) H x2).2.toNat k0)∧(∀ b∈(decA (α:=Func) H x1).2.blocks_,∀ x∈allU b,x ≠ (decA (α:=Int) H x2).2)∧0≤(decA (α:=Int) H x2).2) (vFunc (leaveF (decA (α:=Func) H x1).2 (decA (α:=Int) H x2).2.toNat)) ([]) H):=rfl
end Go.Proofs.YtbmloeahcdneaaaGreat
end
