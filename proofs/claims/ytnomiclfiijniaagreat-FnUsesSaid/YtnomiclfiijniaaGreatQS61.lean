/- Passes: what a function of the program does to a function of its own, and what passed makes of that. No condition. -/
import Derived.Test.YtnomiclfiijniaaGreatQS39
import Derived.Test.YtnomiclfiijniaaGreatQS34
import Derived.Test.YtnomiclfiijniaaGreatQS41
import Derived.Test.YtnomiclfiijniaaGreatQS89
import Derived.Test.YtnomiclfiijniaaGreatQS43
section
namespace Go.Proofs.YtnomiclfiijniaaGreat
set_option maxRecDepth 100000
set_option linter.unusedSimpArgs false
set_option linter.unusedVariables false
structure VW (n0:Nat) (A:AFunc) (F:Func) (w f b:Nat) (G:Heap):Prop where
  view:G[w]? = some (.row 5 [[.d (.int .i64 A.params_),.sl A.blocks_.id 5 0 A.blocks_.l.length,.sl f 1 0 (viewD F).first_.length,.sl b 1 0 (viewD F).block_.length,.d (.int .i64 (many F))]])
  fr:G[f]? = some (.row 1 (rI (viewD F).first_))
  br:G[b]? = some (.row 1 (rI (viewD F).block_))
  ge:n0≤w∧n0≤f∧n0≤b
structure NV (H:Heap) (A:AFunc) (F:Func) (i:Nat) (fl bl:List Int) (tot:Int) (vf:V) (b:Nat) (H1:Heap):Prop where
  view:H1[H.length + 3]? = some (.row 5 [[.d (.int .i64 A.params_),.sl A.blocks_.id 5 0 A.blocks_.l.length,vf,.sl b 1 0 bl.length,.d (.int .i64 tot)]])
  gf:Gr (H.length + 4) fl vf H1
  gb:H1[b]? = some (.row 1 (rI bl))
  hb:H.length + 2≤b∧b ≠ H.length + 3
  ne:0 < fl.length→vf.slId ≠ b
  old:Only [] H H1
  le:i≤A.blocks_.l.length
  lf:fl.length=i
  lb:bl.length≤1000 * (i + 1)
  ef:fl++firsts (F.blocks_.drop i) tot=firsts F.blocks_ F.params_
  eb:bl++blkOf (F.blocks_.drop i) i=List.replicate F.params_.toNat (-1)++blkOf F.blocks_ 0
  ec:cntB (F.blocks_.drop i) tot=many F
end Go.Proofs.YtnomiclfiijniaaGreat
end

section
namespace Go.Proofs.YtnomiclfiijniaaGreat
set_option maxRecDepth 100000
set_option linter.unusedSimpArgs false
set_option linter.unusedVariables false
end Go.Proofs.YtnomiclfiijniaaGreat
end

section
namespace Go.Proofs.YtnomiclfiijniaaGreat
set_option maxRecDepth 100000
set_option linter.unusedSimpArgs false
set_option linter.unusedVariables false
def nuB (F:Func) (n:Int):Bool:=decide (0≤(instS F n F.blocks_ 0).1) && decide ((insAt F n).op_=1)
def nuN (F:Func) (n:Int):Int:=if nuB F n=true then (insAt F n).n_ else 0
end Go.Proofs.YtnomiclfiijniaaGreat
end

section
namespace Go.Proofs.YtnomiclfiijniaaGreat
set_option maxRecDepth 100000
set_option linter.unusedSimpArgs false
set_option linter.unusedVariables false
def foldB (F:Func) (b:Block):Block :=
  if b.end_=3∧nuB F b.value_=true then ⟨b.params_,b.insts_,2,0,[b.jumps_[if nuN F b.value_=0 then 1 else 0]?.getD default]⟩ else b
def foldK (F:Func) (b:Block):Int:=if b.end_=3∧nuB F b.value_=true then 1 else 0
theorem Rd1.tup {H:Heap} {l l':List V} (h:Rds H l l'):Rd1 H (.tup l) (.tup l'):=fun X w φ v hs hv=>by
  simp only [VS] at hv ⊢
  obtain ⟨cs,rfl,h2⟩:=hv
  exact ⟨cs,rfl,Rd1.list h X w φ _ hs h2⟩
end Go.Proofs.YtnomiclfiijniaaGreat
end

section
namespace Go.Proofs.YtnomiclfiijniaaGreat
set_option maxRecDepth 100000
set_option linter.unusedSimpArgs false
set_option linter.unusedVariables false
def shp (bs:List Block):List (Int × Nat):=bs.map fun b=>(b.params_,b.insts_.length)
theorem shp_len {bs bs':List Block} (h:shp bs=shp bs'):bs.length=bs'.length:=by
  have:=congrArg List.length h
  simpa [shp] using this
theorem shp_cons {b b':Block} {bs bs':List Block} (h:shp (b :: bs)=shp (b' :: bs')):b.params_=b'.params_∧b.insts_.length=b'.insts_.length∧shp bs=shp bs':=by
  simp only [shp,List.map_cons,List.cons.injEq,Prod.mk.injEq] at h
  exact ⟨h.1.1,h.1.2,h.2⟩
theorem shp_get {bs bs':List Block} (h:shp bs=shp bs') (i:Nat):(bs[i]?.getD default).params_=(bs'[i]?.getD default).params_∧(bs[i]?.getD default).insts_.length=(bs'[i]?.getD default).insts_.length:=by
  have:=congrArg (fun l=>l[i]?) h
  simp only [shp,List.getElem?_map] at this
  cases h1:bs[i]? <;> cases h2:bs'[i]? <;> rw [h1,h2] at this
  · exact ⟨rfl,rfl⟩
  · cases this
  · cases this
  · simp only [Option.map_some,Option.some.injEq,Prod.mk.injEq] at this
    exact this
theorem cntB_shp:∀ {bs bs':List Block},shp bs=shp bs'→∀ n,cntB bs n=cntB bs' n
  | [],[],_,_=>rfl
  | [],b' :: bs',h,_=>by cases h
  | b :: bs,[],h,_=>by cases h
  | b :: bs,b' :: bs',h,n=>by
    obtain ⟨h1,h2,h3⟩:=shp_cons h
    rw [cntB_cons,cntB_cons,h1,h2]
    exact cntB_shp h3 _
theorem jumpOk_shp {bs bs':List Block} (h:shp bs=shp bs') (m:Int):jumpOk bs m=jumpOk bs' m:=by
  funext j
  unfold jumpOk
  rw [shp_len h,(shp_get h _).1]
theorem endsOk_shp {bs bs':List Block} (h:shp bs=shp bs') (b:Block) (m:Int):endsOk bs b m=endsOk bs' b m:=by
  unfold endsOk jumpsOk
  rw [jumpOk_shp h]
theorem many_shp {F F':Func} (hp:F'.params_=F.params_) (h:shp F'.blocks_=shp F.blocks_):many F'=many F:=by
  unfold many
  rw [cntB_shp h,hp]
theorem headOk_shp:∀ {bs bs':List Block},shp bs=shp bs'→bs.all headOk=bs'.all headOk
  | [],[],_=>rfl
  | [],b' :: bs',h=>by cases h
  | b :: bs,[],h=>by cases h
  | b :: bs,b' :: bs',h=>by
    obtain ⟨h1,h2,h3⟩:=shp_cons h
    have e:headOk b=headOk b':=by unfold headOk;rw [h1,h2]
    rw [List.all_cons,List.all_cons,e,headOk_shp h3]
theorem goodF_shp {F F':Func} (h:goodF F=true) (hp:F'.params_=F.params_) (hs:shp F'.blocks_=shp F.blocks_) (hb:∀ b∈F'.blocks_,b.insts_.all (instOk (many F))=true∧endsOk F.blocks_ b (many F)=true):goodF F'=true:=by
  unfold goodF at h ⊢
  rw [hp,shp_len hs,(shp_get hs 0).1,headOk_shp hs,many_shp hp hs]
  simp only [Bool.and_eq_true] at h ⊢
  refine ⟨h.1,h.2.1,h.2.2.1,h.2.2.2.1,h.2.2.2.2.1,List.all_eq_true.2 fun b hm=>?_⟩
  unfold bodyOk
  rw [endsOk_shp hs,(hb b hm).1,(hb b hm).2];rfl
theorem goodF_body {F:Func} (h:goodF F=true) {b:Block} (hb:b∈F.blocks_):b.insts_.all (instOk (many F))=true∧endsOk F.blocks_ b (many F)=true:=by
  obtain ⟨_,_,_,_,_,_,hbo⟩:=goodF_spec h
  have h1:=List.all_eq_true.1 hbo _ hb
  simp only [bodyOk,Bool.and_eq_true] at h1
  exact h1
def setB (b:Block) (i:Nat) (x:Inst):Block:=⟨b.params_,b.insts_.set i x,b.end_,b.value_,b.jumps_⟩
def setI (F:Func) (k i:Nat) (x:Inst):Func:=⟨F.params_,F.blocks_.set k (setB (F.blocks_[k]?.getD default) i x)⟩
def opTr (op:Int) (x:List Int):Bool:=decide (op=8) && decide (x[1]?.getD 0=0)
def opNr (op:Int) (x:List Int):Int :=
  let a:=x[0]?.getD 0
  let b:=x[1]?.getD 0
  if op=3 then IntKind.i64.wrap (-a) else if op=4 then IntKind.i64.wrap (a + b) else if op=5 then IntKind.i64.wrap (a - b) else if op=6 then IntKind.i64.wrap (a * b)
  else if op=7 then IntKind.i64.wrap (a * 2 ^ (b % 64).toNat) else if op=8 then (if b=0 then 0 else IntKind.i64.wrap (a.tdiv b)) else if op=9 then (if a=b then 1 else 0)
  else if op=10 then (if a < b then 1 else 0) else if a=0 then x[2]?.getD 0 else b
def canI (F:Func) (x:Inst):Bool:=decide (3≤x.op_) && (decide (x.op_≤11) && (x.args_.all (nuB F) && !opTr x.op_ (x.args_.map (nuN F))))
def insOf (F:Func) (k i:Nat):Inst:=(F.blocks_[k]?.getD default).insts_[i]?.getD default
def numI (F:Func) (x:Inst):Inst:=⟨1,opNr x.op_ (x.args_.map (nuN F)),[]⟩
def stepI (k:Nat) (p:Func × Int) (i:Nat):Func × Int:=if canI p.1 (insOf p.1 k i)=true then (setI p.1 k i (numI p.1 (insOf p.1 k i)),p.2 + 1) else p
end Go.Proofs.YtnomiclfiijniaaGreat
end

section
namespace Go.Proofs.YtnomiclfiijniaaGreat
set_option maxRecDepth 100000
set_option linter.unusedSimpArgs false
set_option linter.unusedVariables false
theorem fin_nilF {H R:Heap} {r:V} {Q:V→Heap→Prop} (hq:∀ (A:AFunc) H',Tr.cells A=[.d (.int .i64 0),.d .nilsl]→Tr.era A=⟨0,[]⟩→New H H' A→Q r H'):∃ r' H',Fin H.length (H++R) r H' r'∧Q r' H' :=
  fin_new (a:=(⟨0,⟨.d .nilsl,[]⟩⟩:AFunc)) (AFunc.own ⟨⟨.inr ⟨rfl,.inl rfl⟩,fun a ha=>absurd ha List.not_mem_nil⟩,fun q hq=>absurd hq List.not_mem_nil,List.nodup_nil⟩) (Only.app _ _ _) (fun j hj=>absurd hj List.not_mem_nil) fun H' h'=>hq _ H' rfl rfl h'
theorem smallA_of {A:AFunc} {F:Func} (h:smallF F) (e:Tr.era A=F):smallA A:=by
  have eb:(Tr.era A).blocks_=A.blocks_.l.map Tr.era:=rfl
  have hl:A.blocks_.l.length=F.blocks_.length:=by rw [← e,eb,List.length_map]
  refine ⟨by rw [hl];have:=h.1;omega,fun b hb=>?_⟩
  have hm:Tr.era b∈F.blocks_:=by rw [← e,eb];exact List.mem_map.2 ⟨b,hb,rfl⟩
  obtain ⟨h1,h2,h3,h4⟩:=h.2 _ hm
  have i1:(Tr.era b).insts_=b.insts_.l.map Tr.era:=rfl
  have j1:(Tr.era b).jumps_=b.jumps_.l.map Tr.era:=rfl
  rw [i1] at h1 h3
  rw [j1] at h2 h4
  rw [List.length_map] at h1 h2
  refine ⟨by omega,by omega,fun x hx=>?_,fun x hx=>?_⟩
  · have:=h3 _ (List.mem_map.2 ⟨x,hx,rfl⟩)
    have e2:(Tr.era x).args_=x.args_.l.map Tr.era:=rfl
    rw [e2,List.length_map] at this;exact this
  · have:=h4 _ (List.mem_map.2 ⟨x,hx,rfl⟩)
    have e2:(Tr.era x).args_=x.args_.l.map Tr.era:=rfl
    rw [e2,List.length_map] at this;exact this
theorem redirectI_own (H : Heap) (F : Func) (fr to : Int) (hF : Enc.good F) (h1 : Enc.good fr) (h2 : Enc.good to) : CallsD Tryz.prog 18 [vFunc F, .d (.int .i64 fr), .d (.int .i64 to)] H fun r H' => ∃ A : AFunc, r = .tup [.agg (Tr.cells A), .d (.bool (rdOk F fr to))] ∧ Tr.era A = rdF F fr to ∧ New H H' A := by
  have h3:Enc.good [fr,to]:=⟨by simp,fun x hx=>by
    simp only [List.mem_cons,List.not_mem_nil,or_false] at hx
    rcases hx with rfl | rfl
    · exact h1
    · exact h2⟩
  cases hs:soundF F with
  | false =>
    have e1:rdOk F fr to=false:=by simp [rdOk,hs]
    have e2:rdF F fr to=⟨0,[]⟩:=by simp [rdF,e1]
    refine calls_of Tryz.func18 en_18 rfl (of_decide_eq_true rfl) (W_run mixed ⟨[K_62,K_49],[K_62h,K_49h],[63,64],32,H.length,[0,1,2,3,6,7,8,9,24],[14,24]⟩ (fun _=>[]) (by kernel_rfl) ?_)
    simp only [Tryz.f18,stripX,stripOps,pickOps]
    simp [K_62_f,K_62_e,K_49_f,K_49_e,K_62h_f,K_62h_e,K_49h_f,K_49h_e,K_62h_g,K_49h_g,-V.flat,-V.one,one_int,one_bool,one_str,one_nilp,one_rp,one_nilsl,one_ro,one_cl,one_nilf,one_nili,one_ifc,one_ptr,one_sl,one_clo,flat_d,flat_ptr,flat_sl,flat_clo,flat_agg,hF,sound_N hs,retQ]
    exact fin_nilF fun A H' q1 q2 q3=>⟨A,by rw [e1];exact congrArg (fun c=>V.tup [.agg c,.d (.bool false)]) q1.symm,by rw [e2,q2],q3⟩
  | true =>
    have hg:=sound_good hs
    have ev:allIn [fr,to] 0 (IntKind.i64.wrap (many F - 1))=(isVal F fr && isVal F to):=by rw [allIn2,isVal_inR hg,isVal_inR hg]
    cases hv:(isVal F fr && isVal F to) with
    | false =>
      have e1:rdOk F fr to=false:=by simp only [rdOk,hv,Bool.and_false]
      have e2:rdF F fr to=⟨0,[]⟩:=by simp [rdF,e1]
      rw [hv] at ev
      refine calls_of Tryz.func18 en_18 rfl (of_decide_eq_true rfl) (W_run mixed ⟨[K_62,K_49],[K_62h,K_49h],[63,64],32,H.length,[0,1,2,3,6,7,8,9,24],[14,24]⟩ (fun _=>[]) (by kernel_rfl) ?_)
      simp only [Tryz.f18,stripX,stripOps,pickOps]
      simp [K_62_f,K_62_e,K_49_f,K_49_e,K_62h_f,K_62h_e,K_49h_f,K_49h_e,K_62h_g,K_49h_g,-V.flat,-V.one,one_int,one_bool,one_str,one_nilp,one_rp,one_nilsl,one_ro,one_cl,one_nilf,one_nili,one_ifc,one_ptr,one_sl,one_clo,flat_d,flat_ptr,flat_sl,flat_clo,flat_agg,hF,sound_V hs,h3,ways_view,viewD_total,ev,retQ]
      exact fin_nilF fun A H' q1 q2 q3=>⟨A,by rw [e1];exact congrArg (fun c=>V.tup [.agg c,.d (.bool false)]) q1.symm,by rw [e2,q2],q3⟩
    | true =>
      have e1:rdOk F fr to=true:=by simp only [rdOk,hs,hv,Bool.and_self]
      have e2:rdF F fr to=mpF (rdG fr to) F:=by simp [rdF,e1]
      rw [hv] at ev
      refine calls_of Tryz.func18 en_18 rfl (of_decide_eq_true rfl) (W_run mixed ⟨[K_62,K_49],[K_62h,K_49h],[63,64],32,H.length,[0,1,2,3,6,7,8,9,24],[14,24]⟩ (fun _=>[]) (by kernel_rfl) ?_)
      simp only [Tryz.f18,stripX,stripOps,pickOps]
      simp [K_62_f,K_62_e,K_49_f,K_49_e,K_62h_f,K_62h_e,K_49h_f,K_49h_e,K_62h_g,K_49h_g,-V.flat,-V.one,one_int,one_bool,one_str,one_nilp,one_rp,one_nilsl,one_ro,one_cl,one_nilf,one_nili,one_ifc,one_ptr,one_sl,one_clo,flat_d,flat_ptr,flat_sl,flat_clo,flat_agg,hF,sound_V hs,h3,ways_view,viewD_total,ev,retQ]
      refine (cloneFunc_own _ F (good_small hg)).mono ?_
      rintro r H1 ⟨A,rfl,hA,hn⟩
      have hfl:=hn.own.ok.1.flat
      have hone:=hn.own.ok.1.scl.2
      have hlt:∀ j∈ids A,j < H1.length:=fun j hj=>hn.own.lt hj
      have hge:∀ j∈ids A,H.length + 3≤j:=fun j hj=>by have:=hn.fresh j hj;simp at this;omega
      have h1l:H.length + 3≤H1.length:=by have:=hn.only.len;simp at this;omega
      simp [K_62_f,K_62_e,K_49_f,K_49_e,K_62h_f,K_62h_e,K_49h_f,K_49h_e,K_62h_g,K_49h_g,-V.flat,-V.one,one_int,one_bool,one_str,one_nilp,one_rp,one_nilsl,one_ro,one_cl,one_nilf,one_nili,one_ifc,one_ptr,one_sl,one_clo,flat_d,flat_ptr,flat_sl,flat_clo,flat_agg,hfl,hone,retQ]
      refine (redirect_own _ A H1.length fr to List.getElem?_concat_length (hn.own.frame (Only.app [] _ _) fun j _ hj=>absurd hj List.not_mem_nil) (fun q=>Nat.lt_irrefl _ (hlt _ q)) (smallA_of (good_small hg) hA)).mono ?_
      rintro r H2 ⟨rfl,bs,ob,vb,ib,oo,eb,_⟩
      have h2l:H1.length + 1≤H2.length:=by have:=oo.len;simp at this;omega
      have k9:H2[H1.length]? = some (.row 2 [[.d (.int .i64 A.params_),A.blocks_.v]]):=(oo.at_ _ (by simp) fun q=>Nat.lt_irrefl _ (hlt _ q)).trans List.getElem?_concat_length
      have old:∀ j,j < H.length + 3→H2[j]? = H1[j]?:=fun j hj=>(oo.at_ j (by simp;omega) fun q=>by have:=hge j q;omega).trans (List.getElem?_append_left (by omega))
      have k6:H2[H.length + 1]? = some (.row 2 [[.d (.int .i64 0),.d .nilsl]]):=(old _ (by omega)).trans ((hn.only.at_ _ (by simp) List.not_mem_nil).trans (by simp))
      have s6:∀ p,(H2.set (H.length + 1) p)[H.length + 1]? = some p:=fun p=>List.getElem?_set_self (by omega)
      have hib:∀ j∈ids bs,j∈ids A:=fun j hj=>ib ▸ hj
      simp [K_62_f,K_62_e,K_49_f,K_49_e,K_62h_f,K_62h_e,K_49h_f,K_49h_e,K_62h_g,K_49h_g,-V.flat,-V.one,one_int,one_bool,one_str,one_nilp,one_rp,one_nilsl,one_ro,one_cl,one_nilf,one_nili,one_ifc,one_ptr,one_sl,one_clo,flat_d,flat_ptr,flat_sl,flat_clo,flat_agg,hfl,hone,k9,k6,s6,retQ]
      refine fin_new (a:=(⟨A.params_,bs⟩:AFunc)) (AFunc.own (ob.frame (S:=[H.length + 1]) Only.set fun j hj q=>by have:=hge j (hib j hj);simp at q;omega)) ⟨by simp;omega,fun j hj _=>?_⟩ (fun j hj=>by have:=hge j (hib j hj);omega) fun H' h'=>⟨_,by rw [e1];exact congrArg (fun c=>V.tup [.agg [.d (.int .i64 A.params_),c],.d (.bool true)]) vb.symm, ?_,h'⟩
      · rw [List.getElem?_set_ne (by omega)]
        exact (old j (by omega)).trans ((hn.only.at_ j (by simp;omega) List.not_mem_nil).trans (List.getElem?_append_left hj))
      · rw [e2]
        show Func.mk A.params_ (Tr.era bs)=mpF (rdG fr to) F
        rw [eb,← hA];rfl
end Go.Proofs.YtnomiclfiijniaaGreat
end

section
namespace Go.Proofs.YtnomiclfiijniaaGreat
set_option maxRecDepth 100000
set_option linter.unusedSimpArgs false
set_option linter.unusedVariables false
structure At (H:Heap) (idf:Nat) (A:AFunc):Prop where
  row:H[idf]? = some (.row 2 [[.d (.int .i64 A.params_),A.blocks_.v]])
  own:Own H A
  sol:solF A
  nin:idf ∉ ids A
  good:goodF (Tr.era A)=true
  enc:Enc.good (Tr.era A)
structure PR (H:Heap) (idf:Nat) (A A':AFunc) (H':Heap):Prop where
  at_:At H' idf A'
  ids:∀ j∈ids A',j∈ids A∨H.length≤j
  only:Only (idf :: Go.Proofs.YtnomiclfiijniaaGreat.ids A) H H'
end Go.Proofs.YtnomiclfiijniaaGreat
end
