/- impl.dropUnused. No condition. -/
import Derived.Test.YtbmloeahcdneaaaGreatQS90
import Derived.Test.YtbmloeahcdneaaaGreatQS89
namespace Go.Proofs.YtbmloeahcdneaaaGreat
set_option maxRecDepth 100000
set_option linter.unusedSimpArgs false
set_option linter.unusedVariables false
theorem CallsD.clo0' {P:Program} {f fn:FuncId} {g:Nat→D} {a b:V} {H:Heap} {Q:V→Heap→Prop} (h:CallsD P f [a,b,.clo fn []] H Q):CallsD P f [a,b,.d (.clo fn 0 g)] H Q :=
  ⟨h.1,fun X w φ args hX hs hv=>h.2 X w φ args hX hs (by
    obtain ⟨v,vs,e,h1,v2,vs2,e2,h3,v4,vs4,e4,⟨cs,h2,hn,_⟩,h5⟩:=hv
    exact ⟨v,vs,e,h1,v2,vs2,e2,h3,v4,vs4,e4,⟨cs,h2,by rw [Array.eq_empty_of_size_eq_zero hn];rfl⟩,h5⟩)⟩
theorem only1_pd (last t6:Nat):Pd 117 [.ptr t6 1 0 0] (fun H=>H[t6]? = some (.row 1 [[.d (.int .i64 last)]])) [t6] (fun _=>True) (only1 last):=by
  refine ⟨fun H n hE _=>?_,fun H H' hk hE=>(hk t6 (by simp)).trans hE⟩
  unfold only1
  refine calls_of Tryz.func117 en_117 rfl (of_decide_eq_true rfl) (W_run mixed ⟨[],[],[],7,H.length,[0,1,3],[]⟩ (fun _=>[]) (by kernel_rfl) ?_)
  simp only [Tryz.f117,stripX,stripOps,pickOps]
  simp [retQ,hE]
  exact Fin.same (by simp)
noncomputable def candU (F:Func) (k:Nat):Bool:=decide (usesN F.blocks_ k=0) && pureV (viewD F) k
noncomputable def lastN (F:Func):Nat→Int
  | 0=>-1
  | n + 1=>if candU F n=true then (n:Int) else lastN F n
theorem lastN_rng (F:Func):∀ n,-1≤lastN F n∧lastN F n < n∧(0≤lastN F n→candU F (lastN F n).toNat=true)
  | 0=>⟨Int.le_refl _,by show (-1:Int) < 0;decide,fun h=>absurd h (by show ¬ (0:Int)≤-1;decide)⟩
  | n + 1=>by
    obtain ⟨h1,h2,h3⟩:=lastN_rng F n
    unfold lastN
    by_cases h:candU F n=true
    · rw [if_pos h];exact ⟨by omega,by omega,fun _=>by rw [Int.toNat_natCast];exact h⟩
    · rw [if_neg h];exact ⟨h1,by omega,h3⟩
noncomputable def lastU (F:Func):Int:=lastN F (many F).toNat
noncomputable def duP:Nat→Func × Int→Func × Int
  | 0,p=>p
  | n + 1,p=>if lastU p.1 < 0 then p else duP n (leaveF p.1 (lastU p.1).toNat,p.2 + 1)
theorem sum_le {α:Type} (f:α→Nat) (c:Nat):∀ l:List α,(∀ x∈l,f x≤c)→(l.map f).sum≤c * l.length
  | [],_=>by simp
  | x :: l,h=>by
    have:=sum_le f c l fun y hy=>h y (List.mem_cons_of_mem _ hy)
    have h1:=h x List.mem_cons_self
    rw [List.map_cons,List.sum_cons,List.length_cons,Nat.mul_succ];omega
theorem allU_len {F:Func} (hg:goodF F=true):(F.blocks_.flatMap allU).length≤1000000000:=by
  obtain ⟨h1,h2⟩:=good_small hg
  have hb:∀ b∈F.blocks_,(allU b).length≤1000 * 80 + (1 + 1000 * 2):=fun b hb=>by
    obtain ⟨q1,q2,q3,q4⟩:=h2 b hb
    have e1:=sum_le (fun x:Inst=>x.args_.length) 1000 b.insts_ q3
    have e2:=sum_le (fun x:Jump=>x.args_.length) 1000 b.jumps_ q4
    have e3:((if b.end_=2 then [] else [b.value_]):List Int).length≤1:=by split <;> simp
    unfold allU usedL
    rw [List.length_append,List.length_append,List.length_flatMap,List.length_flatMap]
    have e4:1000 * b.insts_.length≤1000 * 80:=Nat.mul_le_mul_left _ q1
    have e5:1000 * b.jumps_.length≤1000 * 2:=Nat.mul_le_mul_left _ q2
    omega
  have:=sum_le (fun b=>(allU b).length) _ F.blocks_ hb
  rw [List.length_flatMap]
  have e:(1000 * 80 + (1 + 1000 * 2)) * F.blocks_.length≤(1000 * 80 + (1 + 1000 * 2)) * 8:=Nat.mul_le_mul_left _ h1
  omega
theorem unused_ne {bs:List Block} {v:Nat} (h:usesN bs v=0):∀ b∈bs,∀ x∈allU b,x ≠ (v:Int):=fun b hb x hx e=>by
  have h2:((bs.flatMap allU).filter fun x=>x.toNat == v).length=0:=by unfold usesN at h;omega
  have h3:=List.length_eq_zero_iff.1 h2
  have:x∈(bs.flatMap allU).filter fun x=>x.toNat == v:=List.mem_filter.2 ⟨List.mem_flatMap.2 ⟨b,hb,hx⟩,by rw [e];simp⟩
  rw [h3] at this
  exact absurd this List.not_mem_nil
theorem pure_inB {F:Func} (hg:goodF F=true) {v:Nat} (hv:(v:Int) < many F) (h:pureV (viewD F) v=true):∃ k0,InB F v k0:=by
  have hL:=lay hg
  unfold pureV at h
  simp only [Bool.and_eq_true,decide_eq_true_eq] at h
  obtain ⟨h1,h2,_⟩:=h
  rcases hL.find v (by have:=hL.many;omega) with q | ⟨k0,q1,q2,q3⟩
  · rw [hL.bkP v q] at h1;omega
  · refine ⟨k0,q1, ?_,q3⟩
    have hb:=hL.bkB k0 v q1 q2 q3
    obtain ⟨p0,p4,_⟩:=blk_head hg q1
    have hm:=fstN_mono F (show k0 + 1≤F.blocks_.length from q1)
    obtain ⟨_,m80⟩:=many_rng hg
    have hmn:=hL.many
    unfold atV blkAt at h2
    rw [hb,Int.toNat_natCast,hL.first k0 q1] at h2
    have h3:0≤IntKind.i64.wrap (IntKind.i64.wrap ((v:Int) - (fstN F k0:Int)) - (F.blocks_[k0]?.getD default).params_):=h2
    rw [wrap_id (n:=(v:Int) - (fstN F k0:Int)) (by omega) (by omega),wrap_id (by omega) (by omega)] at h3
    omega
noncomputable def duG (F:Func):Func:=(duP (many F).toNat (F,0)).1
noncomputable def duK (F:Func):Int:=(duP (many F).toNat (F,0)).2
set_option maxHeartbeats 4000000 in
theorem dropUnused_pass : PassOwn 61 duG duK := by
  intro H A idf q
  refine calls_of Tryz.func61 en_61 rfl (of_decide_eq_true rfl) (W_run mixed ⟨[],[K_116h],[84,115,107,108],41,H.length,[0,2,3,4,5,6,7,8,17,18,19,20,30,34],[20,26,30,34]⟩ (fun _=>[]) (by kernel_rfl) ?_)
  simp only [Tryz.f61,stripX,stripOps,pickOps]
  simp [K_116h_f,K_116h_e,K_116h_g,-V.flat,-V.one,one_int,one_bool,one_str,one_nilp,one_rp,one_nilsl,one_ro,one_cl,one_nilf,one_nili,one_ifc,one_ptr,one_sl,one_clo,flat_d,flat_ptr,flat_sl,flat_clo,flat_agg,-decA,decA_int,decA_bool,decA_str]
  refine W_loopH (α:=Nat × AFunc × Int × Heap) (fun a=>[(0,.ptr idf 2 0 0),(2,.d (.int .i64 0)),(3,.d (.int .i64 a.2.2.1))]) (fun a=>a.2.2.2)
    (fun a=>(many (Tr.era a.2.1)≤a.1∧0≤a.2.2.1∧a.2.2.1 + a.1≤80)∧duP a.1 (Tr.era a.2.1,a.2.2.1)=duP (many (Tr.era A)).toNat (Tr.era A,0)∧PR H idf A a.2.1 a.2.2.2) (fun a=>a.1) ((many (Tr.era A)).toNat,A,0,H) ?_ ?_ ?_
  · simp
  · have:=many_rng q.good
    exact ⟨⟨by show many (Tr.era A)≤((many (Tr.era A)).toNat:Int);omega,Int.le_refl _,by show (0:Int) + ((many (Tr.era A)).toNat:Int)≤80;omega⟩,rfl,PR.refl q⟩
  rintro ⟨n,A1,m,H1⟩ ⟨⟨hn,hm0,hm1⟩,he,pr⟩
  simp only [] at hn hm0 hm1 he pr ⊢
  have q1:=pr.at_
  have r1:=q1.row
  have fl1:=q1.own.ok.1.flat
  have on1:=q1.own.ok.1.scl.2
  obtain ⟨g0,g80⟩:=many_rng q1.good
  refine W_run mixed ⟨[],[K_116h],[84,115,107,108],41,H.length,[0,2,3,4,5,6,7,8,17,18,19,20,30,34],[20,26,30,34]⟩ (fun _=>[]) (by kernel_rfl) ?_
  simp only [stripX,stripOps,pickOps]
  simp [K_116h_f,K_116h_e,K_116h_g,-V.flat,-V.one,one_int,one_bool,one_str,one_nilp,one_rp,one_nilsl,one_ro,one_cl,one_nilf,one_nili,one_ifc,one_ptr,one_sl,one_clo,flat_d,flat_ptr,flat_sl,flat_clo,flat_agg,-decA,decA_int,decA_bool,decA_str,r1,fl1,on1]
  have hvw1:=viewOf_own H1 A1 q1.own q1.sol q1.good q1.enc
  rw [cells_AFunc] at hvw1
  refine hvw1.mono ?_
  rintro r H2 ⟨w,f,b,rfl,hw,ho2⟩
  have hd2:=hw.decA (q1.postO ho2).own q1.sol rfl
  generalize hF:Tr.era A1=F at *
  have hg1:goodF F=true:=hF ▸ q1.good
  simp [K_116h_f,K_116h_e,K_116h_g,-V.flat,-V.one,one_int,one_bool,one_str,one_nilp,one_rp,one_nilsl,one_ro,one_cl,one_nilf,one_nili,one_ifc,one_ptr,one_sl,one_clo,flat_d,flat_ptr,flat_sl,flat_clo,flat_agg,-decA,decA_int,decA_bool,decA_str]
  rw [aft_call]
  refine (counts_own hd2 (v:=viewD F) ⟨g0,by show many F≤1000;omega⟩ (by have:=(lay hg1).len.1;show F.blocks_.length≤1000;omega) (fun b hb=>?_) (fun x hx=>?_) (allU_len hg1)).mono ?_
  · obtain ⟨p1,p2,p3,p4⟩:=(good_small hg1).2 b hb
    exact ⟨by omega,by omega,p3,p4⟩
  · obtain ⟨b,hb,hx⟩:=List.mem_flatMap.1 hx
    exact good_all hg1 hb x hx
  rintro r H3 ⟨rfl,kd,rfl⟩
  have hcl:(cntsL (viewD F)).length=(many F).toNat:=by unfold cntsL;rw [List.length_map,List.length_range];rfl
  generalize hH3:H2++List.replicate kd Place.dead=H3
  have ho3:Only [] H2 H3:=by rw [← hH3];exact Only.app [] _ _
  simp [K_116h_f,K_116h_e,K_116h_g,-V.flat,-V.one,one_int,one_bool,one_str,one_nilp,one_rp,one_nilsl,one_ro,one_cl,one_nilf,one_nili,one_ifc,one_ptr,one_sl,one_clo,flat_d,flat_ptr,flat_sl,flat_clo,flat_agg,-decA,decA_int,decA_bool,decA_str,hcl]
  obtain ⟨tot,htot⟩:∃ n:Nat,many F=n:=⟨(many F).toNat,by omega⟩
  have htn:(many F).toNat=tot:=by omega
  have l3:H3.length < (H3++[Place.row 1 [[.d (.int .i64 (-1))]]]).length:=by simp
  refine W_loopH (α:=Nat) (fun k=>[(0,.ptr idf 2 0 0),(2,.d (.int .i64 0)),(3,.d (.int .i64 m)),(4,.ptr w 5 0 0),(6,.ptr H3.length 1 0 0),(17,.d (dIntS (cntsL (viewD F)))),(18,.d (.int .i64 tot)),(19,.d (.int .i64 k))]) (fun k=>H3++[.row 1 [[.d (.int .i64 (lastN F k))]]])
    (fun k=>k≤tot) (fun k=>tot - k) 0 ?_ (Nat.zero_le _) ?_
  · have hmx:max (many F) 0=(tot:Int):=by omega
    simp [hmx,lastN]
  intro k hk
  replace hk:k≤tot:=hk
  have q3:=(q1.postO ho2).postO ho3
  have hw3:=hw.keep ho3 List.not_mem_nil List.not_mem_nil List.not_mem_nil
  have hw4:=fun R:Heap=>hw3.keep (Only.app [] H3 R) List.not_mem_nil List.not_mem_nil List.not_mem_nil
  have hdR:∀ R:Heap,decA (α:=Ptr View) (H3++R) (.ptr w 5 0 0)=(True,⟨viewD F⟩):=fun R=>(hw4 R).decA (q3.more R).own q1.sol hF
  by_cases hkt:k < tot
  · have hc1:(cntsL (viewD F))[k]? = some (usesN F.blocks_ k):=by
      unfold cntsL
      rw [List.getElem?_map,List.getElem?_range (show k < (viewD F).total_.toNat by show k < (many F).toNat;omega)];rfl
    have hc2:∀ h:k < (cntsL (viewD F)).length,(cntsL (viewD F))[k]=usesN F.blocks_ k:=fun h=>Option.some.inj ((List.getElem?_eq_getElem h).symm.trans hc1)
    have hok:=(view_spec hg1 (n:=(k:Int)) (by omega) (by omega)).1
    have wk:IntKind.i64.wrap ((k:Int) + 1)=((k + 1:Nat):Int):=by rw [wrap_id] <;> omega
    have hkl:k < (cntsL (viewD F)).length:=by rw [hcl];omega
    cases hcd:candU F k with
    | true =>
      have hcs:lastN F (k + 1)=k:=by unfold lastN;rw [if_pos hcd]
      have hcd2:=hcd
      unfold candU at hcd2
      rw [Bool.and_eq_true,decide_eq_true_eq] at hcd2
      obtain ⟨u0,u1⟩:=hcd2
      refine W_run mixed ⟨[],[K_116h],[84,115,107,108],41,H.length,[0,2,3,4,5,6,7,8,17,18,19,20,30,34],[20,26,30,34]⟩ (fun _=>[]) (by kernel_rfl) ?_
      simp only [stripX,stripOps,pickOps]
      simp [K_116h_f,K_116h_e,K_116h_g,-V.flat,-V.one,one_int,one_bool,one_str,one_nilp,one_rp,one_nilsl,one_ro,one_cl,one_nilf,one_nili,one_ifc,one_ptr,one_sl,one_clo,flat_d,flat_ptr,flat_sl,flat_clo,flat_agg,-decA,decA_int,decA_bool,decA_str,hkt,hkl,hc1,hc2,hok,hdR,decA_int,u0,u1]
      exact ⟨k + 1,hkt,by omega,hcs.symm,wk⟩
    | false =>
      have hcs:lastN F (k + 1)=lastN F k:=by
        show (if candU F k=true then (k:Int) else lastN F k)=_
        rw [if_neg (by rw [hcd];decide)]
      by_cases u0:usesN F.blocks_ k=0
      · have u1:pureV (viewD F) k=false:=by
          unfold candU at hcd
          rw [decide_eq_true u0,Bool.true_and] at hcd
          exact hcd
        refine W_run mixed ⟨[],[K_116h],[84,115,107,108],41,H.length,[0,2,3,4,5,6,7,8,17,18,19,20,30,34],[20,26,30,34]⟩ (fun _=>[]) (by kernel_rfl) ?_
        simp only [stripX,stripOps,pickOps]
        simp [K_116h_f,K_116h_e,K_116h_g,-V.flat,-V.one,one_int,one_bool,one_str,one_nilp,one_rp,one_nilsl,one_ro,one_cl,one_nilf,one_nili,one_ifc,one_ptr,one_sl,one_clo,flat_d,flat_ptr,flat_sl,flat_clo,flat_agg,-decA,decA_int,decA_bool,decA_str,hkt,hkl,hc1,hc2,hok,hdR,decA_int,u0,u1]
        exact ⟨k + 1,hkt,by omega,hcs.symm,wk⟩
      · refine W_run mixed ⟨[],[K_116h],[84,115,107,108],41,H.length,[0,2,3,4,5,6,7,8,17,18,19,20,30,34],[20,26,30,34]⟩ (fun _=>[]) (by kernel_rfl) ?_
        simp only [stripX,stripOps,pickOps]
        simp [K_116h_f,K_116h_e,K_116h_g,-V.flat,-V.one,one_int,one_bool,one_str,one_nilp,one_rp,one_nilsl,one_ro,one_cl,one_nilf,one_nili,one_ifc,one_ptr,one_sl,one_clo,flat_d,flat_ptr,flat_sl,flat_clo,flat_agg,-decA,decA_int,decA_bool,decA_str,hkt,hkl,hc1,hc2,u0]
        exact ⟨k + 1,hkt,by omega,hcs.symm,wk⟩
  · have hke:k=tot:=by omega
    subst hke
    refine W_run mixed ⟨[],[K_116h],[84,115,107,108],41,H.length,[0,2,3,4,5,6,7,8,17,18,19,20,30,34],[20,26,30,34]⟩ (fun _=>[]) (by kernel_rfl) ?_
    simp only [stripX,stripOps,pickOps]
    simp [K_116h_f,K_116h_e,K_116h_g,-V.flat,-V.one,one_int,one_bool,one_str,one_nilp,one_rp,one_nilsl,one_ro,one_cl,one_nilf,one_nili,one_ifc,one_ptr,one_sl,one_clo,flat_d,flat_ptr,flat_sl,flat_clo,flat_agg,-decA,decA_int,decA_bool,decA_str,hkt]
    have eU:lastU F=lastN F k:=by unfold lastU;rw [htn]
    obtain ⟨lr1,lr2,lr3⟩:=lastN_rng F k
    have pr3:PR H idf A A1 H3:=(pr.postO ho2).postO ho3
    refine ⟨fun hneg=>?_,fun hpos=>?_⟩
    · have hd0:duP n (F,m)=(F,m):=by
        cases n with
        | zero=>rfl
        | succ n=>unfold duP;rw [if_pos (by show lastU F < 0;omega)]
      rw [hd0] at he
      simp [retQ]
      refine ⟨_,_,Fin.same (by simp;have:=pr3.only.len;omega), ?_,A1, ?_,pr3.postO (Only.app [] _ _)⟩
      · unfold duK;rw [← he]
      · rw [hF];unfold duG;rw [← he]
    · rw [aft_call]
      obtain ⟨last,hlast⟩:∃ last:Nat,lastN F k=(last:Int):=⟨(lastN F k).toNat,by omega⟩
      have hcd:=lr3 hpos
      rw [hlast,Int.toNat_natCast] at hcd
      rw [hlast] at lr2 eU ⊢
      unfold candU at hcd
      rw [Bool.and_eq_true,decide_eq_true_eq] at hcd
      obtain ⟨k0,hin⟩:=pure_inB hg1 (by omega) hcd.2
      have hu:=unused_ne hcd.1
      have hG:=leave_good hg1 hin hu
      have q4:=q3.more [.row 1 [[.d (.int .i64 last)]]]
      have w4:=hw4 [.row 1 [[.d (.int .i64 last)]]]
      have hgF:Enc.good F:=hF ▸ q1.enc
      refine (CallsD.clo0' (without_own _ A1 F w f b ⟨w4.view,w4.fr,w4.br,⟨Nat.zero_le _,Nat.zero_le _,Nat.zero_le _⟩⟩ q4.own q1.sol hF hg1 (pv:=only1 last) (pb:=pv0) (Ev:=fun G=>G[H3.length]? = some (.row 1 [[.d (.int .i64 last)]])) (Kv:=[H3.length]) (Eb:=fun _=>True) (Kb:=[])
        ⟨fun G n hE _=>(only1_pd last H3.length).call G n hE trivial,(only1_pd last H3.length).keep⟩ ⟨fun G n hE _=>none_pd.call G n hE trivial,none_pd.keep⟩ (fun j hj=>by rw [List.mem_singleton.1 hj];simp) (fun _ h=>absurd h List.not_mem_nil) (by simp) trivial (by decide) (by decide))).mono ?_
      rintro r H5 ⟨B,rfl,hB,hnw,hsl⟩
      have bfl:=hnw.own.ok.1.flat
      have bon:=hnw.own.ok.1.scl.2
      have o5:Only [] H3 H5:=(Only.app [] H3 _).trans hnw.only (fun j hj=>hj) fun j hj _=>hj
      have hr5:=(o5.at_ _ (q3.lt _ List.mem_cons_self) List.not_mem_nil).trans q3.row
      have wm:IntKind.i64.wrap (m + 1)=m + 1:=wrap_id (by omega) (by omega)
      simp [K_116h_f,K_116h_e,K_116h_g,-V.flat,-V.one,one_int,one_bool,one_str,one_nilp,one_rp,one_nilsl,one_ro,one_cl,one_nilf,one_nili,one_ifc,one_ptr,one_sl,one_clo,flat_d,flat_ptr,flat_sl,flat_clo,flat_agg,-decA,decA_int,decA_bool,decA_str,bfl,bon,hr5,wm]
      obtain ⟨n',rfl⟩:∃ n',n=n' + 1:=⟨n - 1,by omega⟩
      have eB:Tr.era B=leaveF F last:=hB
      have hmn:=leave_many hg1 hin
      have he':duP n' (leaveF F last,m + 1)=duP (many (Tr.era A)).toNat (Tr.era A,0):=by
        rw [← he]
        show _=if lastU F < 0 then (F,m) else duP n' (leaveF F (lastU F).toNat,m + 1)
        rw [if_neg (by omega),eU,Int.toNat_natCast]
      have lid:=q3.lt _ List.mem_cons_self
      have hge:∀ j∈ids B,H3.length + 1≤j:=fun j hj=>by have:=hnw.fresh j hj;simpa using this
      have l5:=o5.len
      have oset:Only [idf] H3 (H5.set idf (.row 2 [[.d (.int .i64 B.params_),B.blocks_.v]])):=o5.trans Only.set (fun j hj=>absurd hj List.not_mem_nil) fun j hj _=>hj
      have prB:PR H3 idf A1 B (H5.set idf (.row 2 [[.d (.int .i64 B.params_),B.blocks_.v]])) :=
        ⟨⟨List.getElem?_set_self (by omega),hnw.own.frame (S:=[idf]) Only.set (fun j hj h=>by have:=hge j hj;rw [List.mem_singleton.1 h] at this;omega),hsl (by have:=leave_len F last;have:=(lay hg1).len.2;show 0 < (leaveF F last).blocks_.length;omega),
          fun h=>by have:=hge _ h;omega,by rw [eB];exact hG,by rw [eB];exact leave_enc hgF hin.par⟩,fun j hj=>.inr (by have:=hge j hj;omega),oset.mono fun j hj=>List.mem_cons.2 (.inl (List.mem_singleton.1 hj))⟩
      exact ⟨n',B,m + 1,_,⟨⟨by rw [eB,hmn];omega,by omega,by omega⟩,by rw [eB];exact he',pr3.trans prB⟩,by omega,rfl,rfl⟩
end Go.Proofs.YtbmloeahcdneaaaGreat
