/- Views of functions that own their memory: numbered. No condition. -/
import Derived.Test.YtbmloeahcdneaaaGreatQS41
namespace Go.Proofs.YtbmloeahcdneaaaGreat
set_option maxRecDepth 100000
set_option linter.unusedSimpArgs false
set_option linter.unusedVariables false
theorem two_rows {X:Heap} {v b:Nat} {Pv Pb:Place} (hv:X[v]? = some Pv) (hb:X[b]? = some Pb) (hn:v ≠ b) :
    (∀ R,(X++R)[v]? = some Pv)∧(∀ R p,(X++R).set v p=X.set v p++R)∧(∀ R p,(X.set v p++R)[v]? = some p)∧(∀ R p q,(X.set v p++R).set v q=X.set v q++R)∧(∀ R p,(X.set v p++R)[b]? = some Pb)
      ∧ (∀ R p q,(X.set v p++R).set b q=(X.set v p).set b q++R)∧(∀ R p q,((X.set v p).set b q++R)[v]? = some p)∧(∀ R p q s,((X.set v p).set b q++R).set v s=(X.set v s).set b q++R):=by
  have lv:=(List.getElem?_eq_some_iff.1 hv).1
  have lb:=(List.getElem?_eq_some_iff.1 hb).1
  refine ⟨fun R=>(List.getElem?_append_left lv).trans hv,fun R p=>List.set_append_left _ _ lv,fun R p=>(List.getElem?_append_left (by simpa using lv)).trans (List.getElem?_set_self lv),
    fun R p q=>by rw [List.set_append_left _ _ (by simpa using lv),List.set_set],fun R p=>(List.getElem?_append_left (by simpa using lb)).trans ((List.getElem?_set_ne hn).trans hb),
    fun R p q=>List.set_append_left _ _ (by simpa using lb),fun R p q=>(List.getElem?_append_left (by simpa using lv)).trans ((List.getElem?_set_ne hn.symm).trans (List.getElem?_set_self lv)),
    fun R p q s=>by rw [List.set_append_left _ _ (by simpa using lv),List.set_comm _ _ hn.symm,List.set_set]⟩
theorem era_len (A:AFunc):(Tr.era A).blocks_.length=A.blocks_.l.length:=List.length_map _
theorem era_get (A:AFunc) (i:Nat) (h:i < A.blocks_.l.length):(Tr.era A).blocks_[i]?.getD default=Tr.era A.blocks_.l[i]:=by
  show (A.blocks_.l.map Tr.era)[i]?.getD default=_
  rw [List.getElem?_map,List.getElem?_eq_getElem h];rfl
structure VW (n0:Nat) (A:AFunc) (F:Func) (w f b:Nat) (G:Heap):Prop where
  view:G[w]? = some (.row 5 [[.d (.int .i64 A.params_),.sl A.blocks_.id 5 0 A.blocks_.l.length,.sl f 1 0 (viewD F).first_.length,.sl b 1 0 (viewD F).block_.length,.d (.int .i64 (many F))]])
  fr:G[f]? = some (.row 1 (rI (viewD F).first_))
  br:G[b]? = some (.row 1 (rI (viewD F).block_))
  ge:n0≤w∧n0≤f∧n0≤b
structure NV (H:Heap) (A:AFunc) (F:Func) (i:Nat) (fl bl:List Int) (tot:Int) (vf:V) (b:Nat) (H1:Heap):Prop where
  view:H1[H.length + 3]? = some (.row 5 [[.d (.int .i64 A.params_),.sl A.blocks_.id 5 0 A.blocks_.l.length,vf,.sl b 1 0 bl.length,.d (.int .i64 tot)]])
  gf:Gr (H.length + 4) fl vf H1
  gb:H1[b]? = some (.row 1 (rI bl))
  hb:H.length + 2≤b∧b ≠ H.length + 3
  ne:0 < fl.length→vf.slId ≠ b
  old:Only [] H H1
  le:i≤A.blocks_.l.length
  lf:fl.length=i
  lb:bl.length≤1000 * (i + 1)
  ef:fl++firsts (F.blocks_.drop i) tot=firsts F.blocks_ F.params_
  eb:bl++blkOf (F.blocks_.drop i) i=List.replicate F.params_.toNat (-1)++blkOf F.blocks_ 0
  ec:cntB (F.blocks_.drop i) tot=many F
theorem NV.step {H:Heap} {A:AFunc} {F:Func} {i:Nat} {fl bl:List Int} {tot:Int} {vf:V} {b:Nat} {H1 X:Heap} (k:NV H A F i fl bl tot vf b H1) (hl:X.length=H1.length) (hX:∀ j,(0 < fl.length→j ≠ vf.slId)→X[j]? = H1[j]?) {x:Block} {rest:List Block} (hd:F.blocks_.drop i=x :: rest) (hr:F.blocks_.drop (i + 1)=rest) (hi:i < A.blocks_.l.length) {sz:Int} (hz:IntKind.i64.wrap (x.params_ + x.insts_.length)=sz) (z0:0≤sz) (z1:sz≤84)
    {c0 c1 c3 c4:Place} {frow brow:List (List V)} {fn bn:Nat} (h1:fn=fl.length + 1) (h2:bn=bl.length + sz.toNat) (h3:frow=rI (fl++[tot])) (h4:brow=rI (bl++List.replicate sz.toNat (i:Int))) :
    NV H A F (i + 1) (fl++[tot]) (bl++List.replicate sz.toNat (i:Int)) (IntKind.i64.wrap (tot + sz)) (.sl (H1.length + 2) 1 0 fn) (H1.length + 5)
      ((X.set (H.length + 3) (.row 5 [[.d (.int .i64 A.params_),.sl A.blocks_.id 5 0 A.blocks_.l.length,.sl (H1.length + 2) 1 0 fn,.sl (H1.length + 5) 1 0 bn,.d (.int .i64 (IntKind.i64.wrap (tot + sz)))]])).set b .dead++[c0,c1,.row 1 frow,c3,c4,.row 1 brow]):=by
  have lv:H.length + 3 < H1.length:=(List.getElem?_eq_some_iff.1 k.view).1
  have nb:=k.hb
  have hf:0 < fl.length→H.length + 4≤vf.slId:=fun h=>by
    rcases k.gf with ⟨q,_⟩ | ⟨f,rfl,_,q,_⟩
    · rw [q] at h;exact absurd h (by simp)
    · exact q
  have L:∀ p q,((X.set (H.length + 3) p).set b q).length=H1.length:=fun p q=>by simp [hl]
  refine ⟨?_,.inr ⟨H1.length + 2,by rw [h1,List.length_append];rfl,by simp,by omega, ?_⟩, ?_,by omega,fun _=>by show H1.length + 2 ≠ H1.length + 5;omega,⟨by simp [hl];have:=k.old.len;omega,fun j hj _=>?_⟩,by omega,by rw [List.length_append,k.lf];rfl, ?_, ?_, ?_, ?_⟩
  · rw [List.getElem?_append_left (by rw [L];omega),List.getElem?_set_ne (by omega),List.getElem?_set_self (by omega),h2,List.length_append,List.length_replicate]
  · rw [List.getElem?_append_right (by rw [L];omega),L,Nat.add_sub_cancel_left,h3];rfl
  · rw [List.getElem?_append_right (by rw [L];omega),L,Nat.add_sub_cancel_left,h4];rfl
  · rw [List.getElem?_append_left (by rw [L];omega),List.getElem?_set_ne (by omega),List.getElem?_set_ne (by omega),hX j fun h=>by have:=hf h;omega]
    exact k.old.at_ j hj List.not_mem_nil
  · have:=k.lb
    rw [List.length_append,List.length_replicate];omega
  · have:=k.ef
    rw [hd,firsts,hz] at this
    rw [hr,List.append_assoc];exact this
  · have:=k.eb
    rw [hd,blkOf,hz] at this
    rw [hr,List.append_assoc];exact this
  · have:=k.ec
    rw [hd,cntB_cons,hz] at this
    rw [hr];exact this
theorem numbered_own (H : Heap) (A : AFunc) (hO : Own H A) (hs : solF A) (hg : goodF (Tr.era A) = true) : CallsD Tryz.prog 138 [.agg (Tr.cells A)] H fun r H' => ∃ w f b, r = .tup [.ptr w 5 0 0, .d (.bool true)] ∧ VW H.length A (Tr.era A) w f b H' ∧ Only [] H H' := by
  have hv:=hs.1
  have hg':=hg
  simp only [goodF,Bool.and_eq_true,decide_eq_true_eq] at hg'
  obtain ⟨c1,c2,c3,c4,c5,c6⟩:=hg'
  obtain ⟨hp,hl,_,hm,hc,hsu,_⟩:=goodF_spec hg
  rw [era_len] at c2 hl
  have hn0:0 < A.blocks_.l.length:=by omega
  obtain ⟨_,hrow,_,hid⟩:=(AFunc.own_blocks_ hO).row hn0
  have hidl:=(List.getElem?_eq_some_iff.1 hrow).1
  have p1:inR A.params_ 0 4=true:=c1
  have pp:0≤A.params_∧A.params_≤4:=hp
  have rowA:∀ R:Heap,(H++R)[A.blocks_.id]? = some (.row 5 (A.blocks_.l.map Tr.cells)):=fun R=>(List.getElem?_append_left hidl).trans hrow
  have get:∀ (i:Nat) (h:i < A.blocks_.l.length),(A.blocks_.l.map Tr.cells)[i]? = some [.d (.int .i64 A.blocks_.l[i].params_),.sl A.blocks_.l[i].insts_.id 3 0 A.blocks_.l[i].insts_.l.length,.d (.int .i64 A.blocks_.l[i].end_),.d (.int .i64 A.blocks_.l[i].value_),.sl A.blocks_.l[i].jumps_.id 2 0 A.blocks_.l[i].jumps_.l.length]:=fun i h=>by
    obtain ⟨q1,q2⟩:=hs.2 _ (List.getElem_mem h)
    rw [List.getElem?_map,List.getElem?_eq_getElem h]
    show some (Tr.cells A.blocks_.l[i])=_
    rw [cells_ABlock,← q1,← q2]
  have hb0:A.blocks_.l[0].params_=0:=by
    rw [era_get A 0 hn0] at c3
    exact c3
  have hrl:(A.blocks_.l.map Tr.cells).length=A.blocks_.l.length:=List.length_map _
  have get0:=get 0 hn0
  rw [hb0] at get0
  have get0':∀ h:0 < (A.blocks_.l.map Tr.cells).length,(A.blocks_.l.map Tr.cells)[0]=[.d (.int .i64 0),.sl A.blocks_.l[0].insts_.id 3 0 A.blocks_.l[0].insts_.l.length,.d (.int .i64 A.blocks_.l[0].end_),.d (.int .i64 A.blocks_.l[0].value_),.sl A.blocks_.l[0].jumps_.id 2 0 A.blocks_.l[0].jumps_.l.length]:=fun h=>Option.some.inj ((List.getElem?_eq_getElem h).symm.trans get0)
  generalize hrows:A.blocks_.l.map Tr.cells=rows at rowA get hrl get0 get0'
  rw [cells_AFunc,hv]
  refine calls_of Tryz.func138 en_138 rfl (of_decide_eq_true rfl) (W_run mixed ⟨[K_89,K_173],[K_89h,K_173h],[1000173],103,H.length,[0,1,2,3,4,5,6,25,36,37,38,39,52],[11,18,25,39,47,52]⟩ (fun | 3=>[2,5,0,3,6,1,4,7,8,9] | 9=>[0,1,2,3,5,6,7,4,8,9,10,11,12,13] | 10=>[0,1,2,4,6,3,5,7,8,9,10,11,12,13] | 11=>[0,1,2,3,5,7,9,4,8,10,11,12,6,13,14,15,16,17] | 13=>[0,1,2,3,6,4,5,7] | _=>[]) (by kernel_rfl) ?_)
  simp only [Tryz.f138,stripX,stripOps,pickOps]
  simp [K_89_f,K_89_e,K_173_f,K_173_e,K_89h_f,K_89h_e,K_173h_f,K_173h_e,K_89h_g,K_173h_g,-V.flat,-V.one,one_int,one_bool,one_str,one_nilp,one_rp,one_nilsl,one_ro,one_cl,one_nilf,one_nili,one_ifc,one_ptr,one_sl,one_clo,flat_d,flat_ptr,flat_sl,flat_clo,flat_agg,p1,c2,rowA,hrl,get0,get0',hn0,pp]
  refine ⟨by omega, ?_⟩
  generalize hF:Tr.era A=F at hg c3 c4 c5 c6 hm hc hsu hp
  have hlF:F.blocks_.length=A.blocks_.l.length:=by rw [← hF];exact era_len A
  have getF:∀ (i:Nat) (h:i < A.blocks_.l.length),F.blocks_[i]?.getD default=Tr.era A.blocks_.l[i]:=fun i h=>by rw [← hF];exact era_get A i h
  refine W_loopH (α:=Nat × List Int × List Int × Int × V × Nat × Heap) (fun a=>[(1,.ptr H.length 2 0 0),(4,.ptr (H.length + 3) 5 0 0),(36,.sl A.blocks_.id 5 0 A.blocks_.l.length),(37,.d (.int .i64 A.blocks_.l.length)),(38,.d (.int .i64 a.1))]) (fun a=>a.2.2.2.2.2.2)
    (fun a=>NV H A F a.1 a.2.1 a.2.2.1 a.2.2.2.1 a.2.2.2.2.1 a.2.2.2.2.2.1 a.2.2.2.2.2.2) (fun a=>A.blocks_.l.length - a.1) (0,[],List.replicate A.params_.toNat (-1),A.params_,.d .nilsl,H.length + 2,(H++[.row 2 [[.d (.int .i64 A.params_),.sl A.blocks_.id 5 0 A.blocks_.l.length]],.row 1 [[.d (.int .i64 (-1))]],.row 1 (List.replicate A.params_.toNat [.d (.int .i64 (-1))]),.row 5 [[.d (.int .i64 A.params_),.sl A.blocks_.id 5 0 A.blocks_.l.length,.d .nilsl,.sl (H.length + 2) 1 0 A.params_.toNat,.d (.int .i64 A.params_)]]])) ?_ ?_ ?_
  · simp
  · have hpF:F.params_=A.params_:=by rw [← hF];rfl
    refine ⟨by simp,.inl ⟨rfl,rfl⟩,by simp,⟨Nat.le_refl _,fun e=>by have:H.length + 2=H.length + 3:=e;omega⟩,fun h=>absurd h (by simp),Only.app _ _ _,Nat.zero_le _,rfl,by simp only [List.length_replicate];have:=pp.1;omega,by rw [← hF];rfl,by rw [← hF];rfl,by show cntB F.blocks_ A.params_=cntB F.blocks_ F.params_;rw [hpF]⟩
  rintro ⟨i,fl,bl,tot,vf,b,H1⟩ k
  replace k:NV H A F i fl bl tot vf b H1:=k
  have kv:=k.view
  have lv:H.length + 3 < H1.length:=(List.getElem?_eq_some_iff.1 kv).1
  have kb:=k.gb
  have lb:=(List.getElem?_eq_some_iff.1 kb).1
  have nb:=k.hb
  have kA:H1[A.blocks_.id]? = some (.row 5 rows):=by rw [← hrows];exact (k.old.at_ _ hidl List.not_mem_nil).trans hrow
  have lA:A.blocks_.id < H1.length:=by have:=k.old.len;omega
  have nA1:A.blocks_.id ≠ H.length + 3:=by omega
  have nA2:A.blocks_.id ≠ b:=by omega
  by_cases hin:A.blocks_.l.length≤i
  · refine W_run mixed ⟨[K_89,K_173],[K_89h,K_173h],[1000173],103,H.length,[0,1,2,3,4,5,6,25,36,37,38,39,52],[11,18,25,39,47,52]⟩ (fun | 3=>[2,5,0,3,6,1,4,7,8,9] | 9=>[0,1,2,3,5,6,7,4,8,9,10,11,12,13] | 10=>[0,1,2,4,6,3,5,7,8,9,10,11,12,13] | 11=>[0,1,2,3,5,7,9,4,8,10,11,12,6,13,14,15,16,17] | 13=>[0,1,2,3,6,4,5,7] | _=>[]) (by kernel_rfl) ?_
    simp only [stripX,stripOps,pickOps]
    simp [K_89_f,K_89_e,K_173_f,K_173_e,K_89h_f,K_89h_e,K_173h_f,K_173h_e,K_89h_g,K_173h_g,-V.flat,-V.one,one_int,one_bool,one_str,one_nilp,one_rp,one_nilsl,one_ro,one_cl,one_nilf,one_nili,one_ifc,one_ptr,one_sl,one_clo,flat_d,flat_ptr,flat_sl,flat_clo,flat_agg,retQ,kv,hin]
    have e:i=A.blocks_.l.length:=by have:=k.le;omega
    have dn:F.blocks_.drop i=[]:=List.drop_eq_nil_of_le (by omega)
    have ef:=k.ef
    have eb:=k.eb
    have ec:=k.ec
    rw [dn] at ef eb ec
    simp only [firsts,blkOf,List.append_nil,cntB,List.foldl_nil] at ef eb ec
    refine ⟨fun h=>absurd hin (by omega),_,_,Fin.same (by omega),H.length + 3,by rw [ec,decide_eq_true hm], ?_,k.old⟩
    rcases k.gf with ⟨f0,_⟩ | ⟨f,rfl,fp,hf0,kf⟩
    · have:=k.lf
      rw [f0] at this
      exact absurd this (by simp;omega)
    · refine ⟨f,b, ?_, ?_, ?_,by omega,by omega,by omega⟩
      · rw [kv,ec]
        show _=some (Place.row 5 [[_,_,.sl f 1 0 (firsts F.blocks_ F.params_).length,.sl b 1 0 (List.replicate F.params_.toNat (-1)++blkOf F.blocks_ 0).length,_]])
        rw [← ef,← eb]
      · rw [kf]
        show _=some (Place.row 1 (rI (firsts F.blocks_ F.params_)))
        rw [← ef]
      · rw [kb]
        show _=some (Place.row 1 (rI (List.replicate F.params_.toNat (-1)++blkOf F.blocks_ 0)))
        rw [← eb]
  · have hi:i < A.blocks_.l.length:=by omega
    have gi:=get i hi
    have gi':∀ h:i < rows.length,rows[i]=_:=fun h=>Option.some.inj ((List.getElem?_eq_getElem h).symm.trans gi)
    generalize hbi:A.blocks_.l[i]=bi at gi gi'
    have hhd:headOk (Tr.era bi)=true:=List.all_eq_true.1 c4 _ (by rw [← hbi,← getF i hi,List.getElem?_eq_getElem (by omega)];exact List.getElem_mem _)
    obtain ⟨z1,z2,z3,z4,z5,z6⟩:=headOk_sz hhd
    simp only [headOk,Bool.and_eq_true,decide_eq_true_eq] at hhd
    have y1:inR bi.params_ 0 4=true:=hhd.1
    have y0:(Tr.era bi).insts_.length=bi.insts_.l.length:=List.length_map _
    have y2:bi.insts_.l.length≤80:=by have:=hhd.2;omega
    have y3:0≤bi.params_∧bi.params_≤4:=⟨z1,z2⟩
    have y4:IntKind.i64.wrap (bi.params_ + bi.insts_.l.length)=bi.params_ + bi.insts_.l.length:=wrap_id (by omega) (by omega)
    have hdi:F.blocks_.drop i=Tr.era bi :: F.blocks_.drop (i + 1):=by
      rw [List.drop_eq_getElem_cons (by omega),← hbi,← getF i hi,List.getElem?_eq_getElem (by omega)];rfl
    have hz:IntKind.i64.wrap ((Tr.era bi).params_ + (Tr.era bi).insts_.length)=bi.params_ + bi.insts_.l.length:=by rw [y0];exact y4
    have wi:IntKind.i64.wrap ((i:Int) + 1)=((i + 1:Nat):Int):=by rw [wrap_id] <;> omega
    have hbl:=k.lb
    have hil:=k.le
    rcases k.gf with ⟨f0,rfl⟩ | ⟨f,rfl,fp,hf0,kf⟩
    · obtain ⟨t1,t2,t3,t4,t5,t6,t7,t8⟩:=two_rows kv kb (by omega)
      refine W_run mixed ⟨[K_89,K_173],[K_89h,K_173h],[1000173],103,H.length,[0,1,2,3,4,5,6,25,36,37,38,39,52],[11,18,25,39,47,52]⟩ (fun | 3=>[2,5,0,3,6,1,4,7,8,9] | 9=>[0,1,2,3,5,6,7,4,8,9,10,11,12,13] | 10=>[0,1,2,4,6,3,5,7,8,9,10,11,12,13] | 11=>[0,1,2,3,5,7,9,4,8,10,11,12,6,13,14,15,16,17] | 13=>[0,1,2,3,6,4,5,7] | _=>[]) (by kernel_rfl) ?_
      simp only [stripX,stripOps,pickOps]
      simp [K_89_f,K_89_e,K_173_f,K_173_e,K_89h_f,K_89h_e,K_173h_f,K_173h_e,K_89h_g,K_173h_g,-V.flat,-V.one,one_int,one_bool,one_str,one_nilp,one_rp,one_nilsl,one_ro,one_cl,one_nilf,one_nili,one_ifc,one_ptr,one_sl,one_clo,flat_d,flat_ptr,flat_sl,flat_clo,flat_agg,kA,gi,gi',hi,hrl,y1,y2,y3,y4,t1,t2,t3,t4,t5,t6,t7,t8]
      exact ⟨fun h=>absurd h (by omega),fun _=>⟨by omega,by omega,_,_,_,_,_,_,_,k.step (X:=H1) rfl (fun _ _=>rfl) hdi rfl hi hz (by omega) (by omega) (by rw [f0];rfl) rfl (by rw [f0];rfl) (by simp),by omega,rfl,wi⟩⟩
    · have lf:=(List.getElem?_eq_some_iff.1 kf).1
      have nfv:f ≠ H.length + 3:=by omega
      have nfb:=k.ne fp
      have u1:∀ R:Heap,(H1++R)[f]? = some (.row 1 (rI fl)):=fun R=>(List.getElem?_append_left lf).trans kf
      have u2:∀ (R:Heap) p,(H1++R).set f p=H1.set f p++R:=fun R p=>List.set_append_left _ _ lf
      have u3:∀ R:Heap,(H1++R)[H.length + 3]? = _:=fun R=>(List.getElem?_append_left lv).trans kv
      have kv2:(H1.set f .dead)[H.length + 3]? = _:=(List.getElem?_set_ne (by omega)).trans kv
      have kb2:(H1.set f .dead)[b]? = _:=(List.getElem?_set_ne nfb).trans kb
      obtain ⟨t1,t2,t3,t4,t5,t6,t7,t8⟩:=two_rows kv2 kb2 (by omega)
      refine W_run mixed ⟨[K_89,K_173],[K_89h,K_173h],[1000173],103,H.length,[0,1,2,3,4,5,6,25,36,37,38,39,52],[11,18,25,39,47,52]⟩ (fun | 3=>[2,5,0,3,6,1,4,7,8,9] | 9=>[0,1,2,3,5,6,7,4,8,9,10,11,12,13] | 10=>[0,1,2,4,6,3,5,7,8,9,10,11,12,13] | 11=>[0,1,2,3,5,7,9,4,8,10,11,12,6,13,14,15,16,17] | 13=>[0,1,2,3,6,4,5,7] | _=>[]) (by kernel_rfl) ?_
      simp only [stripX,stripOps,pickOps]
      simp [K_89_f,K_89_e,K_173_f,K_173_e,K_89h_f,K_89h_e,K_173h_f,K_173h_e,K_89h_g,K_173h_g,-V.flat,-V.one,one_int,one_bool,one_str,one_nilp,one_rp,one_nilsl,one_ro,one_cl,one_nilf,one_nili,one_ifc,one_ptr,one_sl,one_clo,flat_d,flat_ptr,flat_sl,flat_clo,flat_agg,kA,gi,gi',hi,hrl,y1,y2,y3,y4,t1,t2,t3,t4,t5,t6,t7,t8,u1,u2,u3]
      have hfl:=k.lf
      exact ⟨fun h=>absurd h (by omega),fun _=>⟨by omega,by omega,by omega,_,_,_,_,_,_,_,k.step (X:=H1.set f .dead) (by simp) (fun j hj=>List.getElem?_set_ne (fun e=>hj fp e.symm)) hdi rfl hi hz (by omega) (by omega) rfl rfl (by simp) (by simp),by omega,rfl,wi⟩⟩
end Go.Proofs.YtbmloeahcdneaaaGreat
