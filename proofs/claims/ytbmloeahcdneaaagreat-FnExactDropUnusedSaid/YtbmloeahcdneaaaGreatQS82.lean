/- The walk over the blocks: leaving some out, through the code. No condition. -/
import Derived.Test.YtbmloeahcdneaaaGreatQS49
import Derived.Test.YtbmloeahcdneaaaGreatQS81
namespace Go.Proofs.YtbmloeahcdneaaaGreat
set_option maxRecDepth 100000
set_option linter.unusedSimpArgs false
set_option linter.unusedVariables false
set_option maxHeartbeats 4000000 in
theorem blocksW {H : Heap} {A : AFunc} {F : Func} {w : Nat} (hg : goodF F = true) (hd : ∀ G, Only [] H G → decA (α := Ptr View) G (.ptr w 5 0 0) = (True, ⟨viewD F⟩)) {nb br t14 : Nat} (hnb : F.blocks_.length = nb)
    {fv fb:Nat} {cv cb:List V} {Ev Eb:Heap→Prop} {Kv Kb:List Nat} {pv pb:Int→Bool} (hv:Pd fv cv Ev Kv (fun n=>0≤n∧n < many F) pv) (hb:Pd fb cb Eb Kb (fun n=>n < F.blocks_.length) pb) (hKv:∀ k∈Kv,k < H.length) (hKb:∀ k∈Kb,k < H.length) (hEv:Ev H) (hEb:Eb H)
    (hnv:¬ 145=fv∧¬ 48=fv∧¬ 91=fv) (hnbb:¬ 145=fb∧¬ 48=fb∧¬ 91=fb)
    {bs:AS ABlock} (hsb:∀ b∈bs.l,SB b) (hera:bs.l.map Tr.era=F.blocks_.map (mpB (fun x=>numW F pv pb x.toNat))) (c1:H.length < t14∧t14 ≠ br∧t14 ≠ bs.id∧H.length < br∧H.length < bs.id)
    {s6 s13:V} {n0:Nat} {c:Code} (hcd:(loopsIn (Tryz.f107.body.getD .skip))[2]? = some c) {Q:Exit→St→Prop} {s:St} {G:Heap}
    (hs:IntoH s [(0,.ptr w 5 0 0),(1,.clo fv cv),(2,.clo fb cb),(6,s6),(8,.sl br 1 0 nb),(13,s13),(14,.ptr t14 2 0 0),(109,.sl bs.id 5 0 nb),(110,.d (.int .i64 nb)),(111,.d (.int .i64 0))] G) (h0:BL H F pv pb nb br t14 bs 0 (.d .nilsl) [] G)
    (hq:∀ l' H' vo lo,mk l' 6=s6→mk l' 14=.ptr t14 2 0 0→BL H F pv pb nb br t14 bs nb vo lo H'→(∀ b∈lo,SB b)→Q (.exit 5) ⟨mk l',H'⟩):W Tryz.prog 171 n0 c Q s:=by
  cases hcd
  obtain ⟨v1,v2,v3⟩:=hnv
  obtain ⟨b1,b2,b3⟩:=hnbb
  have hL:=lay hg
  obtain ⟨m0,m80⟩:=many_rng hg
  have hb8:nb≤8:=by have:=hL.len.1;omega
  have hlbs:bs.l.length=nb:=by have:=congrArg List.length hera;simpa [hnb] using this
  refine W_loopH (α:=Nat × V × List ABlock × Heap) (fun a=>[(0,.ptr w 5 0 0),(1,.clo fv cv),(2,.clo fb cb),(6,s6),(8,.sl br 1 0 nb),(13,s13),(14,.ptr t14 2 0 0),(109,.sl bs.id 5 0 nb),(110,.d (.int .i64 nb)),(111,.d (.int .i64 a.1))]) (fun a=>a.2.2.2)
    (fun a=>BL H F pv pb nb br t14 bs a.1 a.2.1 a.2.2.1 a.2.2.2∧∀ b∈a.2.2.1,SB b) (fun a=>nb - a.1) (0,.d .nilsl,[],G) hs ⟨h0,fun b h=>absurd h List.not_mem_nil⟩ ?_
  rintro ⟨k,vo,lo,H1⟩ ⟨hB,hSB⟩
  simp only [] at hB hSB ⊢
  have hk:=hB.le
  rw [hlbs] at hk
  have oH1:=hB.only
  have lH1:=oH1.len
  by_cases hkn:k < nb
  · have wk : IntKind.i64.wrap ((k : Int) + 1) = ((k + 1 : Nat) : Int) := by rw [wrap_id] <;> omega
    have hkl:k < bs.l.length:=by omega
    obtain ⟨b,hbk⟩:∃ b:ABlock,bs.l[k]? = some b:=⟨_,List.getElem?_eq_getElem hkl⟩
    have hmem:=List.mem_of_getElem? hbk
    obtain ⟨sb1,sb2⟩:=hsb b hmem
    have heb:Tr.era b=mpB (fun x=>numW F pv pb x.toNat) (F.blocks_[k]?.getD default):=by
      have:=congrArg (fun l=>l[k]?) hera
      simp only [List.getElem?_map,hbk,List.getElem?_eq_getElem (show k < F.blocks_.length by omega)] at this
      rw [List.getElem?_eq_getElem (show k < F.blocks_.length by omega)]
      exact Option.some.inj this
    have hr:=hB.row
    have hg1:(bs.l.map Tr.cells)[k]? = some [.d (.int .i64 b.params_),.sl b.insts_.id 3 0 b.insts_.l.length,.d (.int .i64 b.end_),.d (.int .i64 b.value_),.sl b.jumps_.id 2 0 b.jumps_.l.length]:=by rw [List.getElem?_map,hbk,← sb1,← sb2];rfl
    have hg2:∀ h:k < (bs.l.map (Tr.cells (α:=ABlock))).length,(bs.l.map Tr.cells)[k]=[.d (.int .i64 b.params_),.sl b.insts_.id 3 0 b.insts_.l.length,.d (.int .i64 b.end_),.d (.int .i64 b.value_),.sl b.jumps_.id 2 0 b.jumps_.l.length]:=fun h=>by
      have:=List.getElem?_eq_getElem h
      rw [hg1] at this
      exact (Option.some.inj this).symm
    have hlm:(bs.l.map (Tr.cells (α:=ABlock))).length=nb:=by rw [List.length_map,hlbs]
    have hlen:∀ h:k < bs.l.length,bs.l[k]=b:=fun h=>by
      have:=List.getElem?_eq_getElem h
      rw [hbk] at this
      exact (Option.some.inj this).symm
    refine W_run mixed ⟨[],[K_145h],[48,91],171,n0,[0,1,2,6,7,8,9,10,11,12,13,14,15,16,17,18,19,20,39,40,41,43,55,80,81,82,87,109,110,111,112,118,121,122,123,124,134,144,145,146],[41,43,55,60,82,87,112,118,124,134,146]⟩ (fun | 1=>[0,1,2,5,6,7,8,12,13,14,15,3,9,10,16,4,11,17,18,19,20,21] | 18=>[0,1,2,5,6,7,8,3,9,10,4,11,12,13,14] | 35=>[0,2,3,4,6,1,5,7,8,9,10,11,12,13,14] | _=>[]) (by kernel_rfl) ?_
    simp only [stripX,stripOps,pickOps]
    simp [K_145h_f,K_145h_e,K_145h_g,-V.flat,-V.one,one_int,one_bool,one_str,one_nilp,one_rp,one_nilsl,one_ro,one_cl,one_nilf,one_nili,one_ifc,one_ptr,one_sl,one_clo,flat_d,flat_ptr,flat_sl,flat_clo,flat_agg,-decA,decA_int,decA_bool,decA_str,hkn,hr,hg1,hg2,hlm,hlen,hlbs,sb1,sb2,b1,b2,b3]
    rw [aft_call]
    have kpE:∀ {K:List Nat} {R:Heap},(∀ j∈K,j < H.length)→∀ j∈K,(H1++R)[j]? = H[j]?:=fun {K R} h j hj=>by
      have:=h j hj
      rw [List.getElem?_append_left (by omega)]
      exact oH1.at_ j this List.not_mem_nil
    refine (hb.call _ k (hb.keep H _ (kpE hKb) hEb) (show (k:Int) < F.blocks_.length by omega)).mono ?_
    rintro r H2 ⟨rfl,rfl⟩
    cases hpb:pb k with
    | true =>
      simp [K_145h_f,K_145h_e,K_145h_g,-V.flat,-V.one,one_int,one_bool,one_str,one_nilp,one_rp,one_nilsl,one_ro,one_cl,one_nilf,one_nili,one_ifc,one_ptr,one_sl,one_clo,flat_d,flat_ptr,flat_sl,flat_clo,flat_agg,-decA,decA_int,decA_bool,decA_str,hkn,hlen,hlbs,sb1,sb2]
      exact ⟨k + 1,vo,lo,_,⟨hB.skip hkl hpb (Only.app [] _ _),hSB⟩,by omega,rfl,wk⟩
    | false =>
      have hbm:F.blocks_[k]?.getD default∈F.blocks_:=by rw [List.getElem?_eq_getElem (show k < F.blocks_.length by omega)];exact List.getElem_mem _
      obtain ⟨p0,p4,i80⟩:=blk_head hg (show k < F.blocks_.length by omega)
      have hfs1:=fstN_succ (F:=F) (show k < F.blocks_.length by omega)
      have hfm:=fstN_mono F (show k + 1≤F.blocks_.length by omega)
      have hmany:=hL.many
      have hfirst:=hL.first k (by omega)
      have hil:b.insts_.l.length=(F.blocks_[k]?.getD default).insts_.length:=by
        have:=congrArg (fun b:Block=>b.insts_.length) heb
        simpa [Tr.era,mpB] using this
      unfold szN at hfs1
      have hw1:∀ n:Nat,n≤1000→IntKind.i64.wrap (n:Int)=n:=fun n h=>wrap_id (by omega) (by omega)
      have hfsv:fsV (viewD F) k=((fstN F k + (F.blocks_[k]?.getD default).params_.toNat:Nat):Int):=by
        unfold fsV
        rw [Int.toNat_natCast,hfirst]
        show IntKind.i64.wrap (((fstN F k:Nat):Int) + (F.blocks_[k]?.getD default).params_)=_
        rw [wrap_id (by omega) (by omega)];omega
      simp [K_145h_f,K_145h_e,K_145h_g,-V.flat,-V.one,one_int,one_bool,one_str,one_nilp,one_rp,one_nilsl,one_ro,one_cl,one_nilf,one_nili,one_ifc,one_ptr,one_sl,one_clo,flat_d,flat_ptr,flat_sl,flat_clo,flat_agg,-decA,decA_int,decA_bool,decA_str,hkn,hlen,hlbs,sb1,sb2]
      have hbO:Own H1 b:=hB.own.get (List.mem_append_right _ (by rw [List.drop_eq_getElem_cons hkl,hlen];exact List.mem_cons_self))
      have hoI:=ABlock.own_insts_ hbO
      have hoJ:=ABlock.own_jumps_ hbO
      have hIp:(b.insts_.id,Place.row 3 (b.insts_.l.map Tr.cells))∈Tr.pls b.insts_:=by rw [pls_S,plsS_sl sb1];exact List.mem_cons_self
      have hIr:H1[b.insts_.id]? = some (.row 3 (b.insts_.l.map Tr.cells)):=hoI.at_ _ hIp
      have hidI:b.insts_.id∈ids b.insts_:=List.mem_map.2 ⟨_,hIp,rfl⟩
      have hjl:b.jumps_.l.length=(F.blocks_[k]?.getD default).jumps_.length:=by
        have:=congrArg (fun b:Block=>b.jumps_.length) heb
        simpa [Tr.era,mpB] using this
      have hjto:∀ x∈b.jumps_.l,0≤x.to_∧x.to_ < nb:=fun x hx=>by
        have q:Tr.era x∈(Tr.era b).jumps_:=List.mem_map.2 ⟨x,hx,rfl⟩
        rw [heb] at q
        obtain ⟨y,hy,e⟩:=List.mem_map.1 (show Tr.era x∈(F.blocks_[k]?.getD default).jumps_.map (mpJ _) from q)
        have q2:=jump_to hg hbm hy
        have q3:x.to_=y.to_:=(congrArg Jump.to_ e).symm
        rw [q3];omega
      have hib:∀ j∈ids b,j∈(lo++bs.l.drop k).flatMap ids:=fun j hj=>List.mem_flatMap.2 ⟨b,List.mem_append_right _ (by rw [List.drop_eq_getElem_cons hkl,hlen];exact List.mem_cons_self),hj⟩
      have hjb:∀ j∈ids b.jumps_,j∈ids b:=fun j hj=>by rw [ids_ABlock];exact List.mem_append_right _ hj
      refine keepI hv ⟨v1,v2,v3⟩ (v:=viewD F) (w:=w) (k:=k) (base:=fstN F k + (F.blocks_[k]?.getD default).params_.toNat) (iid:=b.insts_.id) (t16:=H1.length) (l:=b.insts_.l) (s2:=.clo fb cb) (s6:=s6) (s8:=.sl br 1 0 nb) (s13:=s13) (s14:=.ptr t14 2 0 0) (s109:=.sl bs.id 5 0 nb) (s110:=.d (.int .i64 nb)) (s111:=.d (.int .i64 k))
        (Hb:=H1++[.row 5 [[.d (.int .i64 b.params_),.sl b.insts_.id 3 0 b.insts_.l.length,.d (.int .i64 b.end_),.d (.int .i64 b.value_),.sl b.jumps_.id 2 0 b.jumps_.l.length]]])
        (fun H' h'=>hd _ ((oH1.trans (Only.app [] _ _) (fun j hj=>hj) fun j hj _=>hj).trans h' (fun j hj=>hj) fun j hj _=>hj)) (hv.keep H _ (kpE hKv) hEv) (fun j hj=>by have:=hKv j hj;simp;omega) ?_ hfsv (by omega) ?_ ?_ ?_ rfl ?_
        fun l' H2 id e0 e1 e2 e6 e8 e13 e14 e15 e16 e17 e109 e110 e111 ho2 hid hr2=>?_
      · exact ⟨(List.getElem?_eq_some_iff.1 hfirst).1,show k < F.blocks_.length by omega⟩
      · rw [List.getElem?_append_left (hoI.lt hidI)]
        exact hIr
      · exact fun x hx=>((show okS x.args_ from (hoI.elems.get hx).ok).1).scl.2
      · exact fun i hi=>⟨by omega,by omega⟩
      · simp
      have hc2:H2[H1.length]? = some (.row 5 [[.d (.int .i64 b.params_),.sl b.insts_.id 3 0 b.insts_.l.length,.d (.int .i64 b.end_),.d (.int .i64 b.value_),.sl b.jumps_.id 2 0 b.jumps_.l.length]]):=(ho2.at_ _ (by simp) List.not_mem_nil).trans (by simp)
      have hl2:=ho2.len
      simp only [List.length_append,List.length_cons,List.length_nil] at hl2 hid
      have old2:∀ j,j < H1.length→H2[j]? = H1[j]?:=fun j hj=>(ho2.at_ j (by simp;omega) List.not_mem_nil).trans (List.getElem?_append_left hj)
      generalize hm:flt pv (fstN F k + (F.blocks_[k]?.getD default).params_.toNat) b.insts_.l b.insts_.l.length=m at e17 hr2
      generalize hH3:H2.set H1.length (.row 5 [[.d (.int .i64 b.params_),.sl id 3 0 m.length,.d (.int .i64 b.end_),.d (.int .i64 b.value_),.sl b.jumps_.id 2 0 b.jumps_.l.length]])=H3
      have c3:H3[H1.length]? = some (.row 5 [[.d (.int .i64 b.params_),.sl id 3 0 m.length,.d (.int .i64 b.end_),.d (.int .i64 b.value_),.sl b.jumps_.id 2 0 b.jumps_.l.length]]):=by rw [← hH3];exact List.getElem?_set_self (by omega)
      have s3:∀ j,j ≠ H1.length→H3[j]? = H2[j]?:=fun j hj=>by rw [← hH3];exact List.getElem?_set_ne hj.symm
      have l3:H3.length=H2.length:=by rw [← hH3];simp
      have old3:∀ j,j < H1.length→H3[j]? = H1[j]?:=fun j hj=>(s3 j (by omega)).trans (old2 j hj)
      simp [K_145h_f,K_145h_e,K_145h_g,-V.flat,-V.one,one_int,one_bool,one_str,one_nilp,one_rp,one_nilsl,one_ro,one_cl,one_nilf,one_nili,one_ifc,one_ptr,one_sl,one_clo,flat_d,flat_ptr,flat_sl,flat_clo,flat_agg,-decA,decA_int,decA_bool,decA_str,e0,e1,e2,e6,e8,e13,e14,e15,e16,e17,e109,e110,e111,hc2,hH3,c3]
      have nJ:H1.length ∉ ids b.jumps_:=fun q=>by have:=hoJ.lt q;omega
      refine toJumps (pb:=pb) (nb:=nb) (br:=br) (t16:=H1.length) (b:=b) (H0:=H3) (p:=b.params_) (e:=b.end_) (vl:=b.value_) (vi:=.sl id 3 0 m.length) (hoJ.same fun j hj hl=>old3 j hl) sb2 (by have:=((good_small hg).2 _ hbm).2.1;omega) hjto (by rw [c3,← sb2]) nJ ((old3 _ (List.getElem?_eq_some_iff.1 hB.rb).1).trans hB.rb)
        (fun q=>(hB.fr _ (hib _ (hjb _ q))).2.2.1 rfl) (s0:=.ptr w 5 0 0) (s1:=.clo fv cv) (s2:=.clo fb cb) (s6:=s6) (s13:=s13) (s14:=.ptr t14 2 0 0) (s15:=.d (.int .i64 k)) (s109:=.sl bs.id 5 0 nb) (s110:=.d (.int .i64 nb)) (s111:=.d (.int .i64 k)) rfl ?_
        fun l'' H4 js f0 f1 f2 f6 f8 f13 f14 f15 f16 f109 f110 f111 hmd hjs=>?_
      · simp
      have jfr:∀ j∈ids b.jumps_,H.length < j∧j ≠ t14∧j ≠ br∧j ≠ bs.id:=fun j hj=>hB.fr j (hib j (hjb j hj))
      have kp4:∀ j,j < H3.length→j ∉ ids b.jumps_→H4[j]? = H3[j]?:=fun j h1 h2=>hmd.only.at_ j h1 h2
      have l4:=hmd.len
      have lt14:=(List.getElem?_eq_some_iff.1 hB.out).1
      have o4:H4[t14]? = some (.row 2 [[.d (.int .i64 F.params_),vo]]):=(kp4 _ (by omega) fun q=>(jfr _ q).2.1 rfl).trans ((old3 _ lt14).trans hB.out)
      have c4:H4[H1.length]? = some (.row 5 [[.d (.int .i64 b.params_),.sl id 3 0 m.length,.d (.int .i64 b.end_),.d (.int .i64 b.value_),.sl b.jumps_.id 2 0 b.jumps_.l.length]]):=(kp4 _ (by omega) nJ).trans c3
      have o4R:∀ R:Heap,(H4++R)[t14]? = some (.row 2 [[.d (.int .i64 F.params_),vo]]):=fun R=>(List.getElem?_append_left (by omega)).trans o4
      have s4R:∀ (R:Heap) p,(H4++R).set t14 p=H4.set t14 p++R:=fun R p=>List.set_append_left _ _ (by omega)
      obtain ⟨oN,iN⟩:=newB hbO (m:=m) (by rw [← hm];exact flt_sub pv _ (Nat.le_refl _)) (id:=id) (by omega) old3 ((s3 id (by omega)).trans hr2) hmd
      have vjs:js.v=.sl b.jumps_.id 2 0 b.jumps_.l.length:=(List.head_eq_of_cons_eq hmd.cells).trans sb2
      have eN:Tr.era (⟨b.params_,⟨.sl id 3 0 m.length,m⟩,b.end_,b.value_,js⟩:ABlock)=wB F pv pb k:=by
        unfold wB
        rw [← heb]
        have hp:(Tr.era b).params_=(F.blocks_[k]?.getD default).params_:=by rw [heb];rfl
        show Block.mk b.params_ (m.map Tr.era) b.end_ b.value_ (Tr.era js)=Block.mk b.params_ (flt pv (fstN F k + (Tr.era b).params_.toNat) (b.insts_.l.map Tr.era) (b.insts_.l.map (Tr.era (α:=AInst))).length) b.end_ b.value_ ((Tr.era b.jumps_).map (toJ pb))
        rw [hjs,hp,← hm,flt_map _ _ _ (Nat.le_refl _),List.length_map]
      have cN:[V.d (.int .i64 b.params_),.sl id 3 0 m.length,.d (.int .i64 b.end_),.d (.int .i64 b.value_),.sl b.jumps_.id 2 0 b.jumps_.l.length]=Tr.cells (⟨b.params_,⟨.sl id 3 0 m.length,m⟩,b.end_,b.value_,js⟩:ABlock):=by rw [cells_ABlock,vjs]
      have ljs:js.l.length=b.jumps_.l.length:=by
        have:=congrArg List.length hjs
        simpa [Tr.era] using this
      have hSN:∀ c∈lo++[(⟨b.params_,⟨.sl id 3 0 m.length,m⟩,b.end_,b.value_,js⟩:ABlock)],SB c:=fun c hc=>by
        rcases List.mem_append.1 hc with q | q
        · exact hSB c q
        · rw [List.mem_singleton.1 q]
          refine ⟨rfl, ?_⟩
          show js.v=.sl js.v.slId 2 0 js.l.length
          rw [vjs,ljs];rfl
      have hlo:lo.length≤k:=by
        have:=congrArg List.length hB.era
        rw [List.length_map] at this
        have q:=List.length_filter_le (fun j:Nat=>!pb j) (List.range k)
        rw [List.length_range] at q
        rw [this];unfold outB;rw [List.length_map];exact q
      have iN4:∀ j∈ids (⟨b.params_,⟨.sl id 3 0 m.length,m⟩,b.end_,b.value_,js⟩:ABlock),j ≠ t14∧j < H4.length:=fun j hj=>⟨fun e=>by
        rcases iN j hj with q | q
        · exact (hB.fr j (hib j q)).2.1 e
        · omega,oN.lt hj⟩
      rcases hB.vo with ⟨q1,rfl⟩ | ⟨vid,rfl,q2,q3,q4,q5,q6,q7,q8⟩
      · simp [K_145h_f,K_145h_e,K_145h_g,-V.flat,-V.one,one_int,one_bool,one_str,one_nilp,one_rp,one_nilsl,one_ro,one_cl,one_nilf,one_nili,one_ifc,one_ptr,one_sl,one_clo,flat_d,flat_ptr,flat_sl,flat_clo,flat_agg,-decA,decA_int,decA_bool,decA_str,f0,f1,f2,f6,f8,f13,f14,f15,f16,f109,f110,f111,o4,c4,o4R,s4R]
        subst q1
        refine ⟨k + 1,_,_,_,⟨hB.add hpb c1 hbk (b':=⟨b.params_,⟨.sl id 3 0 m.length,m⟩,b.end_,b.value_,js⟩) (id':=H4.length + 1) (oN.same fun j hj hl=>?_) (fun j hj=>(iN j hj).imp (fun q=>q) fun q=>by omega) eN (by simp;omega) (fun j h1 h2 h3 h4=>?_) ?_ ?_ (by omega) (fun q=>by have:=(iN4 _ q).2;omega),hSN⟩,by omega,rfl,wk⟩
        · rw [List.getElem?_append_left (by simpa using hl),List.getElem?_set_ne (iN4 j hj).1.symm]
        · rw [List.getElem?_append_left (by simp;omega),List.getElem?_set_ne h3.symm,kp4 j (by omega) fun q=>h2 (hjb j q)]
          exact old3 j h1
        · rw [List.getElem?_append_left (by simp;omega),List.getElem?_set_self (by omega)];rfl
        · rw [List.getElem?_append_right (by simp),List.length_set,Nat.add_sub_cancel_left,cN];rfl
      · have lvid:=(List.getElem?_eq_some_iff.1 q3).1
        have v4:H4[vid]? = some (.row 5 (lo.map Tr.cells)):=(kp4 _ (by omega) fun q=>q8 (hib _ (hjb _ q))).trans ((old3 _ lvid).trans q3)
        have v4R:∀ R:Heap,(H4++R)[vid]? = some (.row 5 (lo.map Tr.cells)):=fun R=>(List.getElem?_append_left (by omega)).trans v4
        have sv4R:∀ (R:Heap) p,(H4++R).set vid p=H4.set vid p++R:=fun R p=>List.set_append_left _ _ (by omega)
        have o4v:∀ (R:Heap) p,(H4.set vid p++R)[t14]? = some (.row 2 [[.d (.int .i64 F.params_),.sl vid 5 0 lo.length]]):=fun R p=>(List.getElem?_append_left (by simp;omega)).trans ((List.getElem?_set_ne q5).trans o4)
        have s4v:∀ (R:Heap) p p',(H4.set vid p++R).set t14 p'=(H4.set vid p).set t14 p'++R:=fun R p p'=>List.set_append_left _ _ (by simp;omega)
        simp [K_145h_f,K_145h_e,K_145h_g,-V.flat,-V.one,one_int,one_bool,one_str,one_nilp,one_rp,one_nilsl,one_ro,one_cl,one_nilf,one_nili,one_ifc,one_ptr,one_sl,one_clo,flat_d,flat_ptr,flat_sl,flat_clo,flat_agg,-decA,decA_int,decA_bool,decA_str,f0,f1,f2,f6,f8,f13,f14,f15,f16,f109,f110,f111,o4,c4,o4R,s4R,v4,v4R,sv4R,o4v,s4v]
        refine ⟨by omega,k + 1,_,_,_,⟨hB.add hpb c1 hbk (b':=⟨b.params_,⟨.sl id 3 0 m.length,m⟩,b.end_,b.value_,js⟩) (id':=H4.length + 1) (oN.same fun j hj hl=>?_) (fun j hj=>(iN j hj).imp (fun q=>q) fun q=>by omega) eN (by simp;omega) (fun j h1 h2 h3 h4=>?_) ?_ ?_ (by omega) (fun q=>by have:=(iN4 _ q).2;omega),hSN⟩,by omega,rfl,wk⟩
        · have hnv:j ≠ vid:=fun e=>by
            rcases iN j hj with q | q
            · exact q8 (e ▸ hib j q)
            · omega
          rw [List.getElem?_append_left (by simpa using hl),List.getElem?_set_ne (iN4 j hj).1.symm,List.getElem?_set_ne hnv.symm]
        · have hnv:j ≠ vid:=h4 q2
          rw [List.getElem?_append_left (by simp;omega),List.getElem?_set_ne h3.symm,List.getElem?_set_ne hnv.symm,kp4 j (by omega) fun q=>h2 (hjb j q)]
          exact old3 j h1
        · rw [List.getElem?_append_left (by simp;omega),List.getElem?_set_self (by simp;omega)]
        · rw [List.getElem?_append_right (by simp),List.length_set,List.length_set,Nat.add_sub_cancel_left,cN,List.map_append];rfl
  · have:k=nb:=by omega
    subst this
    refine W_run mixed ⟨[],[K_145h],[48,91],171,n0,[0,1,2,6,7,8,9,10,11,12,13,14,15,16,17,18,19,20,39,40,41,43,55,80,81,82,87,109,110,111,112,118,121,122,123,124,134,144,145,146],[41,43,55,60,82,87,112,118,124,134,146]⟩ (fun | 1=>[0,1,2,5,6,7,8,12,13,14,15,3,9,10,16,4,11,17,18,19,20,21] | 18=>[0,1,2,5,6,7,8,3,9,10,4,11,12,13,14] | 35=>[0,2,3,4,6,1,5,7,8,9,10,11,12,13,14] | _=>[]) (by kernel_rfl) ?_
    simp only [stripX,stripOps,pickOps]
    simp [K_145h_f,K_145h_e,K_145h_g,-V.flat,-V.one,one_int,one_bool,one_str,one_nilp,one_rp,one_nilsl,one_ro,one_cl,one_nilf,one_nili,one_ifc,one_ptr,one_sl,one_clo,flat_d,flat_ptr,flat_sl,flat_clo,flat_agg,-decA,decA_int,decA_bool,decA_str]
    exact hq _ _ _ _ (by simp) (by simp) hB hSB
end Go.Proofs.YtbmloeahcdneaaaGreat
