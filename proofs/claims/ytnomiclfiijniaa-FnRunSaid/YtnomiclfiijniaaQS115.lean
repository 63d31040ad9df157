/- One block of the program's machine. No condition. -/
import Derived.Test.YtnomiclfiijniaaQS21
import Derived.Test.YtnomiclfiijniaaQE11
import Derived.Test.YtnomiclfiijniaaQS114
namespace Go.Proofs.Ytnomiclfiijniaa
set_option maxRecDepth 100000
set_option linter.unusedSimpArgs false
set_option linter.unusedVariables false
theorem at_le {F:Func} (hg:goodF F=true) {k:Nat} (hk:k < F.blocks_.length) :
    cntB (F.blocks_.take k) F.params_=(firstN F k:Int)∧0≤(blkN F k).params_∧(blkN F k).params_≤4∧(blkN F k).insts_.length≤80∧(firstN F k:Int) + ((blkN F k).params_ + ((blkN F k).insts_.length:Int))≤many F∧0≤many F∧many F≤80:=by
  obtain ⟨hp,hl,hh,hm,hc,hs,_⟩:=goodF_spec hg
  have hd:=drop_cons hk
  obtain ⟨c1,c2,c3⟩:=cnt_step hh hp (by omega) hd
  have hmem:F.blocks_[k]?.getD default∈F.blocks_:=by rw [List.getElem?_eq_getElem hk];exact List.getElem_mem hk
  obtain ⟨p0,p1,p2,e,e1,e2⟩:=headOk_sz (List.all_eq_true.1 hh _ hmem)
  have hle:cntB (F.blocks_.take (k + 1)) F.params_≤many F:=by
    have hsp:many F=cntB (F.blocks_.drop (k + 1)) (cntB (F.blocks_.take (k + 1)) F.params_):=by
      unfold many cntB
      rw [← List.foldl_append,List.take_append_drop]
    have hdh:(F.blocks_.drop (k + 1)).all headOk=true:=List.all_eq_true.2 fun x hx=>List.all_eq_true.1 hh x (List.mem_of_mem_drop hx)
    have hdl:(F.blocks_.drop (k + 1)).length≤8:=by rw [List.length_drop];omega
    obtain ⟨d1,d2,d3⟩:=cntB_sum _ (cntB (F.blocks_.take (k + 1)) F.params_) hdh (by omega) (by omega)
    omega
  have hs2:szI (F.blocks_[k]?.getD default)=(blkN F k).params_ + ((blkN F k).insts_.length:Int):=rfl
  refine ⟨by unfold firstN;omega,p0,p1,by show (F.blocks_[k]?.getD default).insts_.length≤80;omega,by unfold firstN;omega,by omega,hm⟩
theorem val_at {F:Func} (hg:goodF F=true) {k:Nat} (hk:k < F.blocks_.length) {i:Nat} (hi:i < (blkN F k).insts_.length) :
    IntKind.i64.wrap (fsV (viewD F) k + i)=((firstN F k + (blkN F k).params_.toNat + i:Nat):Int)∧((firstN F k + (blkN F k).params_.toNat + i:Nat):Int) < many F:=by
  obtain ⟨a1,a2,a3,a4,a5,a6,a7⟩:=at_le hg hk
  have e:fsV (viewD F) k=(firstN F k:Int) + (blkN F k).params_:=by
    show IntKind.i64.wrap ((firsts F.blocks_ F.params_)[(k:Int).toNat]?.getD 0 + (F.blocks_[(k:Int).toNat]?.getD default).params_)=_
    rw [Int.toNat_natCast,firsts_get _ _ _ hk]
    show IntKind.i64.wrap (cntB (F.blocks_.take k) F.params_ + (blkN F k).params_)=_
    rw [a1,wrap_id (by omega) (by omega)]
  rw [e,wrap_id (by omega) (by omega)]
  omega
def HH (H:Heap) (ve me:Nat) (vs ms:List Int):Heap:=(H.set ve (.row 1 (rI vs))).set me (.row 1 (rI ms))
theorem HH_len {H:Heap} {ve me:Nat} {vs ms:List Int}:(HH H ve me vs ms).length=H.length:=by simp [HH]
structure Two (H:Heap) (R ve me:Nat):Prop where
  lv:ve < H.length
  lm:me < H.length
  lr:R < H.length
  vm:ve ≠ me
  rv:R ≠ ve
  rm:R ≠ me
section
variable {H:Heap} {R ve me:Nat}
theorem Two.getR (t:Two H R ve me) (vs ms:List Int) (X:Heap):(HH H ve me vs ms++X)[R]? = H[R]?:=by
  rw [List.getElem?_append_left (by rw [HH_len];exact t.lr),HH,List.getElem?_set_ne t.rm.symm,List.getElem?_set_ne t.rv.symm]
theorem Two.getV (t:Two H R ve me) (vs ms:List Int) (X:Heap):(HH H ve me vs ms++X)[ve]? = some (.row 1 (rI vs)):=by
  rw [List.getElem?_append_left (by rw [HH_len];exact t.lv),HH,List.getElem?_set_ne t.vm.symm,List.getElem?_set_self t.lv]
theorem Two.getM (t:Two H R ve me) (vs ms:List Int) (X:Heap):(HH H ve me vs ms++X)[me]? = some (.row 1 (rI ms)):=by
  rw [List.getElem?_append_left (by rw [HH_len];exact t.lm),HH,List.getElem?_set_self (by simpa using t.lm)]
theorem Two.setM (t:Two H R ve me) (vs ms m2:List Int) (X:Heap):(HH H ve me vs ms++X).set me (.row 1 (rI m2))=HH H ve me vs m2++X:=by
  rw [List.set_append_left _ _ (by rw [HH_len];exact t.lm),HH,List.set_set,HH]
theorem Two.setV (t:Two H R ve me) (vs ms v2:List Int) (X:Heap):(HH H ve me vs ms++X).set ve (.row 1 (rI v2))=HH H ve me v2 ms++X:=by
  rw [List.set_append_left _ _ (by rw [HH_len];exact t.lv),HH,List.set_comm _ _ t.vm.symm,List.set_set,HH,List.set_comm _ _ t.vm]
theorem Two.setR (t:Two H R ve me) (vs ms:List Int) (P:Place) (X:Heap):(HH H ve me vs ms++X).set R P=(HH H ve me vs ms).set R P++X:=by
  rw [List.set_append_left _ _ (by rw [HH_len];exact t.lr)]
theorem Two.new (t:Two H R ve me) (vs ms:List Int) (P:Place) (X:Heap):(HH H ve me vs ms++P :: X)[H.length]? = some P:=by
  rw [List.getElem?_append_right (by rw [HH_len];exact Nat.le_refl _),HH_len,Nat.sub_self];rfl
theorem Two.same (t:Two H R ve me) {vs ms:List Int} (hV:H[ve]? = some (.row 1 (rI vs))) (hM:H[me]? = some (.row 1 (rI ms))):HH H ve me vs ms=H:=by
  rw [HH,set_same hV,set_same hM]
end
theorem good_okX {F:Func} (hg:goodF F=true) {k:Nat} (hk:k < F.blocks_.length) {i:Nat} (hi:i < (blkN F k).insts_.length):okX ((blkN F k).insts_[i]?.getD default) (many F).toNat∧((blkN F k).insts_[i]?.getD default).args_.length≤1000:=by
  have hb:blkN F k∈F.blocks_:=by unfold blkN;rw [List.getElem?_eq_getElem hk];exact List.getElem_mem hk
  have hx:(blkN F k).insts_[i]?.getD default∈(blkN F k).insts_:=by rw [List.getElem?_eq_getElem hi];exact List.getElem_mem hi
  obtain ⟨q1,q2⟩:=good_inst hg hb hx
  have:=(at_le hg hk).2.2.2.2.2.1
  exact ⟨⟨q1,fun v hv=>by have:=q2 v hv;omega⟩,((good_vals hg hb).2.1 _ hx).1⟩
theorem good_jmp {F:Func} (hg:goodF F=true) {k:Nat} (hk:k < F.blocks_.length) (he:(blkN F k).end_ ≠ 1) :
    (((blkN F k).end_=2∧(blkN F k).jumps_.length=1)∨((blkN F k).end_=3∧(blkN F k).jumps_.length=2∧0≤(blkN F k).value_∧(blkN F k).value_ < many F)) ∧
    ∀ j∈(blkN F k).jumps_,0≤j.to_∧j.to_.toNat < F.blocks_.length∧(j.args_.length:Int)=(blkN F j.to_.toNat).params_∧∀ n∈j.args_,0≤n∧n < many F:=by
  obtain ⟨hp,hl,hh,hm,hc,hs,hbo⟩:=goodF_spec hg
  have hm0:0≤many F:=by omega
  have inr:∀ n,inR n 0 (IntKind.i64.wrap (many F - 1))=true→0≤n∧n < many F:=fun n q=>by
    have:=inR_t.1 q
    rw [wrap_sub (by omega) (by omega)] at this
    omega
  have hb:blkN F k∈F.blocks_:=by unfold blkN;rw [List.getElem?_eq_getElem hk];exact List.getElem_mem hk
  have h1:=List.all_eq_true.1 hbo _ hb
  simp only [bodyOk,Bool.and_eq_true] at h1
  have h2:=h1.2
  have hj:jumpsOk F.blocks_ (many F) (blkN F k).jumps_=true→∀ j∈(blkN F k).jumps_,0≤j.to_∧j.to_.toNat < F.blocks_.length∧(j.args_.length:Int)=(blkN F j.to_.toNat).params_∧∀ n∈j.args_,0≤n∧n < many F:=fun q j hj=>by
    have q2:=List.all_eq_true.1 q j hj
    simp only [jumpOk,Bool.and_eq_true,decide_eq_true_eq] at q2
    obtain ⟨r1,r2⟩:=inR_index (by omega) q2.1
    exact ⟨r1,r2,q2.2.1,fun n hn=>inr n (List.all_eq_true.1 q2.2.2 n hn)⟩
  unfold endsOk at h2
  rw [if_neg he] at h2
  split at h2
  · rename_i e
    simp only [Bool.and_eq_true,decide_eq_true_eq] at h2
    exact ⟨.inl ⟨e,by omega⟩,hj h2.2.2⟩
  split at h2
  · rename_i e
    simp only [Bool.and_eq_true,decide_eq_true_eq] at h2
    exact ⟨.inr ⟨e,by omega,inr _ h2.2.1⟩,hj h2.2.2⟩
  · cases h2
theorem good_ret {F:Func} (hg:goodF F=true) {k:Nat} (hk:k < F.blocks_.length) (he:(blkN F k).end_=1):0≤(blkN F k).value_∧(blkN F k).value_ < many F:=by
  obtain ⟨hp,hl,hh,hm,hc,hs,hbo⟩:=goodF_spec hg
  have hb:blkN F k∈F.blocks_:=by unfold blkN;rw [List.getElem?_eq_getElem hk];exact List.getElem_mem hk
  have h1:=List.all_eq_true.1 hbo _ hb
  simp only [bodyOk,Bool.and_eq_true] at h1
  have h2:=h1.2
  unfold endsOk at h2
  rw [if_pos he] at h2
  simp only [Bool.and_eq_true,decide_eq_true_eq] at h2
  have:=inR_t.1 h2.2.1
  rw [wrap_sub (by omega) (by omega)] at this
  omega
abbrev rBk (b:Block):Place:=.row 5 [[.d (.int .i64 b.params_),.d (dInstS b.insts_),.d (.int .i64 b.end_),.d (.int .i64 b.value_),.d (dJumpS b.jumps_)]]
set_option maxHeartbeats 8000000 in
theorem stepI_own (H : Heap) (R ve me : Nat) (F : Func) (hF : Enc.good F) (c v fu : Int) (vs ms : List Int) (k : Nat) (t : Two H R ve me) (hR : H[R]? = some (rM F ve vs.length c v me ms.length fu)) (hV : H[ve]? = some (.row 1 (rI vs))) (hM : H[me]? = some (.row 1 (rI ms))) (hm : ms.length = 8)
    (hg:goodF F=true) (hn:vs.length=(many F).toNat) (hk:k < F.blocks_.length) :
    CallsD Try.prog 55 [.ptr R 6 0 0,.d (.int .i64 k)] H fun r H'=>∃ kk,
      ((instsF F k vs ms).1=true∧r=.tup [.d (.int .i64 0),.d (.bool false)]∧H'=(HH H ve me (instsF F k vs ms).2.1 (instsF F k vs ms).2.2).set R (rM F ve vs.length 2 v me ms.length fu)++List.replicate kk .dead) ∨
      ((instsF F k vs ms).1=false∧(blkN F k).end_=1∧r=.tup [.d (.int .i64 0),.d (.bool false)]∧H'=(HH H ve me (instsF F k vs ms).2.1 (instsF F k vs ms).2.2).set R (rM F ve vs.length 1 (mapL (instsF F k vs ms).2.1 (blkN F k).value_) me ms.length fu)++List.replicate kk .dead) ∨
      ((instsF F k vs ms).1=false∧(blkN F k).end_ ≠ 1∧r=.tup [.d (.int .i64 (jmpN (blkN F k) (instsF F k vs ms).2.1).to_),.d (.bool true)] ∧
        H'=HH H ve me (putV (instsF F k vs ms).2.1 (firstN F (jmpN (blkN F k) (instsF F k vs ms).2.1).to_.toNat) (takeV (instsF F k vs ms).2.1 (jmpN (blkN F k) (instsF F k vs ms).2.1).args_)) (instsF F k vs ms).2.2++List.replicate kk .dead):=by
  have hbl:(viewD F).blocks_=F.blocks_:=rfl
  have hb0:F.blocks_[k]?.getD default=blkN F k:=rfl
  have hb1:∀ h:k < F.blocks_.length,F.blocks_[k]=blkN F k:=fun h=>by unfold blkN;rw [List.getElem?_eq_getElem h];rfl
  obtain ⟨a1,a2,a3,a4,a5,a6,a7⟩:=at_le hg hk
  refine calls_of Try.func55 en_55 rfl (of_decide_eq_true rfl) (W_runS mixed [17] ⟨[K_95],[K_95h],[94,96],121,H.length,[0,1,4,5,6,7,8,9,10,11,24,25,26,27,38,59,93],[27,38,59,83,93]⟩ (fun | 9=>[0,1,2,4,5,6,8,9,11,3,7,10,12,13] | 12=>[0,1,2,3,4,6,5,7,8,9,10,11,12,13,14,15,16,17] | 15=>[0,1,2,3,4,5,6,8,7,9,10,11,12,13] | 17=>[0,1,2,4,5,6,11,16,17,3,7,8,9,10,12,13,14,15,18,19,20] | _=>[]) (by kernel_rfl) ?_)
  simp only [Try.f55,stripS,skip_cons,skip_nil,Nat.reduceBEq,Bool.or_false,Bool.or_self,Bool.or_true,Bool.true_or,cond_true,cond_false,stripX,stripOps,pickOps]
  simp [K_95_f,K_95_e,K_95h_f,K_95h_e,K_95h_g,-V.flat,-V.one,one_int,one_bool,one_str,one_nilp,one_rp,one_nilsl,one_ro,one_cl,one_nilf,one_nili,one_ifc,one_ptr,one_sl,one_clo,flat_d,flat_ptr,flat_sl,flat_clo,flat_agg,hR,hbl,hk,hb0,hb1]
  have h0:=t.same hV hM
  refine W_loopH (α:=Nat × List Int × List Int × Heap) (fun a=>[(0,.ptr R 6 0 0),(1,.d (.int .i64 k)),(6,.ptr H.length 5 0 0),(24,.d (dInstS (blkN F k).insts_)),(25,.d (.int .i64 (blkN F k).insts_.length)),(26,.d (.int .i64 a.1))]) (fun a=>HH H ve me a.2.1 a.2.2.1++rBk (blkN F k) :: a.2.2.2)
    (fun a=>a.1≤(blkN F k).insts_.length∧a.2.1.length=vs.length∧a.2.2.1.length=ms.length∧instsV ((blkN F k).insts_.drop a.1) (firstN F k + (blkN F k).params_.toNat + a.1) a.2.1 a.2.2.1=instsF F k vs ms) (fun a=>(blkN F k).insts_.length - a.1) (0,vs,ms,[]) ?_ ⟨Nat.zero_le _,rfl,rfl,rfl⟩ ?_
  · simp [h0]
  rintro ⟨i,v1,m1,X⟩ ⟨hi,hv1,hm1,hI⟩
  simp only [] at hi hv1 hm1 hI
  have gR:=fun X=>(t.getR v1 m1 X).trans hR
  have gV:=t.getV v1 m1
  have gM:=t.getM v1 m1
  have gN:=t.new v1 m1
  by_cases hlt:i < (blkN F k).insts_.length
  · obtain ⟨x,hx⟩:∃ x,x=(blkN F k).insts_[i]?.getD default:=⟨_,rfl⟩
    have hx0:=hx.symm
    have hx1:∀ h:i < (blkN F k).insts_.length,(blkN F k).insts_[i]=x:=fun h=>by rw [hx,List.getElem?_eq_getElem h];rfl
    obtain ⟨ok1,ok2⟩:=good_okX hg hk hlt
    rw [hx0] at ok1 ok2
    rw [← hn,← hv1] at ok1
    refine W_runS mixed [17] ⟨[K_95],[K_95h],[94,96],121,H.length,[0,1,4,5,6,7,8,9,10,11,24,25,26,27,38,59,93],[27,38,59,83,93]⟩ (fun | 9=>[0,1,2,4,5,6,8,9,11,3,7,10,12,13] | 12=>[0,1,2,3,4,6,5,7,8,9,10,11,12,13,14,15,16,17] | 15=>[0,1,2,3,4,5,6,8,7,9,10,11,12,13] | 17=>[0,1,2,4,5,6,11,16,17,3,7,8,9,10,12,13,14,15,18,19,20] | _=>[]) (by kernel_rfl) ?_
    simp only [stripS,skip_cons,skip_nil,Nat.reduceBEq,Bool.or_false,Bool.or_self,Bool.or_true,Bool.true_or,cond_true,cond_false,stripX,stripOps,pickOps]
    simp [K_95_f,K_95_e,K_95h_f,K_95h_e,K_95h_g,-V.flat,-V.one,one_int,one_bool,one_str,one_nilp,one_rp,one_nilsl,one_ro,one_cl,one_nilf,one_nili,one_ifc,one_ptr,one_sl,one_clo,flat_d,flat_ptr,flat_sl,flat_clo,flat_agg,gR,gV,gM,gN,hlt,HH_len,hx0,hx1]
    rw [aft_call]
    have gR':=gR
    rw [← hv1,← hm1] at gR'
    refine (doI_own _ R ve me F c v fu x v1 m1 (gR' _) (gV _) (gM _) (hm1.trans hm) ok1 ok2).mono ?_
    rintro r H' ⟨rfl,kk,rfl⟩
    rw [t.setM]
    rw [drop_cons hlt,hx0,instsV] at hI
    obtain ⟨d,hd⟩:∃ d,d=doV x v1 m1:=⟨_,rfl⟩
    have hm2:=doV_len x v1 m1
    rw [← hd] at hI hm2 ⊢
    obtain ⟨n1,tr,m2⟩:=d
    simp only [] at hI hm2 ⊢
    have gR2:=fun X=>(t.getR v1 m2 X).trans hR
    have gV2:=t.getV v1 m2
    have gM2:=t.getM v1 m2
    have gN2:=t.new v1 m2
    have sR:=t.setR v1 m2
    have hfl:(viewD F).first_.length=F.blocks_.length:=firsts_len _ _
    obtain ⟨va1,va2⟩:=val_at hg hk hlt
    obtain ⟨na,hna⟩:∃ a,a=firstN F k + (blkN F k).params_.toNat + i:=⟨_,rfl⟩
    rw [← hna] at va1 va2 hI
    have rset:∀ (i:Nat) (y:Int),(List.map (fun n:Int=>[V.d (D.int .i64 n)]) v1).set i [V.d (.int .i64 y)]=List.map (fun n:Int=>[V.d (D.int .i64 n)]) (v1.set i y):=fun i y=>(List.map_set).symm
    have sV:∀ (y:List Int) (X:Heap),(HH H ve me v1 m2++X).set ve (.row 1 (List.map (fun n:Int=>[V.d (D.int .i64 n)]) y))=HH H ve me y m2++X:=fun y X=>t.setV v1 m2 y X
    have wk:IntKind.i64.wrap ((i:Int) + 1)=((i + 1:Nat):Int):=by rw [wrap_id] <;> omega
    cases tr with
    | true =>
      rw [if_pos rfl] at hI
      simp [K_95_f,K_95_e,K_95h_f,K_95h_e,K_95h_g,-V.flat,-V.one,one_int,one_bool,one_str,one_nilp,one_rp,one_nilsl,one_ro,one_cl,one_nilf,one_nili,one_ifc,one_ptr,one_sl,one_clo,flat_d,flat_ptr,flat_sl,flat_clo,flat_agg,gR2,gV2,gM2,gN2,sR,HH_len,retQ]
      rw [← hI]
      exact ⟨_,_,Fin.kill [] (by simp [HH_len]),_,.inl ⟨rfl,rfl,kill_app (by simp [HH_len])⟩⟩
    | false =>
      rw [if_neg (by decide)] at hI
      simp [K_95_f,K_95_e,K_95h_f,K_95h_e,K_95h_g,-V.flat,-V.one,one_int,one_bool,one_str,one_nilp,one_rp,one_nilsl,one_ro,one_cl,one_nilf,one_nili,one_ifc,one_ptr,one_sl,one_clo,flat_d,flat_ptr,flat_sl,flat_clo,flat_agg,gR2,gV2,gM2,gN2,sV,HH_len,retQ,hbl,hfl,hk,va1,rset,hv1,wk,-List.map_set]
      refine ⟨by omega,i + 1,v1.set na n1,m2,⟨by omega,by rw [List.length_set];exact hv1,by omega, ?_⟩,by omega,⟨_,rfl⟩,by omega⟩
      rw [← hI,hna]
      rfl
  · have hil:i=(blkN F k).insts_.length:=by omega
    rw [List.drop_eq_nil_of_le (by omega),instsV] at hI
    rw [← hI]
    simp only []
    have sR:=t.setR v1 m1
    have gS:∀ (P:Place) (X:Heap),((HH H ve me v1 m1).set R P++X)[R]? = some P:=fun P X=>by rw [List.getElem?_append_left (by simp [HH_len];exact t.lr),List.getElem?_set_self (by rw [HH_len];exact t.lr)]
    have sS:∀ (P P':Place) (X:Heap),((HH H ve me v1 m1).set R P++X).set R P'=(HH H ve me v1 m1).set R P'++X:=fun P P' X=>by rw [List.set_append_left _ _ (by simp [HH_len];exact t.lr),List.set_set]
    by_cases he:(blkN F k).end_=1
    · have hvv:=good_ret hg hk he
      refine W_runS mixed [17] ⟨[K_95],[K_95h],[94,96],121,H.length,[0,1,4,5,6,7,8,9,10,11,24,25,26,27,38,59,93],[27,38,59,83,93]⟩ (fun | 9=>[0,1,2,4,5,6,8,9,11,3,7,10,12,13] | 12=>[0,1,2,3,4,6,5,7,8,9,10,11,12,13,14,15,16,17] | 15=>[0,1,2,3,4,5,6,8,7,9,10,11,12,13] | 17=>[0,1,2,4,5,6,11,16,17,3,7,8,9,10,12,13,14,15,18,19,20] | _=>[]) (by kernel_rfl) ?_
      simp only [stripS,skip_cons,skip_nil,Nat.reduceBEq,Bool.or_false,Bool.or_self,Bool.or_true,Bool.true_or,cond_true,cond_false,stripX,stripOps,pickOps]
      simp [K_95_f,K_95_e,K_95h_f,K_95h_e,K_95h_g,-V.flat,-V.one,one_int,one_bool,one_str,one_nilp,one_rp,one_nilsl,one_ro,one_cl,one_nilf,one_nili,one_ifc,one_ptr,one_sl,one_clo,flat_d,flat_ptr,flat_sl,flat_clo,flat_agg,gR,gV,gM,gN,sR,gS,sS,hlt,he,HH_len,hil,hv1,retQ]
      refine ⟨by omega,by omega, ?_⟩
      exact ⟨_,_,Fin.kill [] (by simp [HH_len]),rfl,_,kill_app (by simp [HH_len])⟩
    · obtain ⟨hj1,hj2⟩:=good_jmp hg hk he
      rcases hj1 with ⟨e2,l1⟩ | ⟨e3,l2,w0,w1⟩
      · obtain ⟨j0,hj⟩:=List.length_eq_one_iff.1 l1
        have ej:jmpN (blkN F k) v1=j0:=by unfold jmpN;rw [if_neg (by omega),hj];rfl
        rw [ej]
        have hjm:=hj2 j0 (by rw [hj];exact List.mem_singleton_self _)
        refine W_runS mixed [17] ⟨[K_95],[K_95h],[94,96],121,H.length,[0,1,4,5,6,7,8,9,10,11,24,25,26,27,38,59,93],[27,38,59,83,93]⟩ (fun | 9=>[0,1,2,4,5,6,8,9,11,3,7,10,12,13] | 12=>[0,1,2,3,4,6,5,7,8,9,10,11,12,13,14,15,16,17] | 15=>[0,1,2,3,4,5,6,8,7,9,10,11,12,13] | 17=>[0,1,2,4,5,6,11,16,17,3,7,8,9,10,12,13,14,15,18,19,20] | _=>[]) (by kernel_rfl) ?_
        simp only [stripS,skip_cons,skip_nil,Nat.reduceBEq,Bool.or_false,Bool.or_self,Bool.or_true,Bool.true_or,cond_true,cond_false,stripX,stripOps,pickOps]
        simp [K_95_f,K_95_e,K_95h_f,K_95h_e,K_95h_g,-V.flat,-V.one,one_int,one_bool,one_str,one_nilp,one_rp,one_nilsl,one_ro,one_cl,one_nilf,one_nili,one_ifc,one_ptr,one_sl,one_clo,flat_d,flat_ptr,flat_sl,flat_clo,flat_agg,gR,gV,gM,gN,sR,hlt,e2,hj,HH_len,hil,hv1,retQ]
        have gJ:∀ (v m:List Int) (Z:Heap),(HH H ve me v m++rBk (blkN F k) :: (X++Place.row 2 [[V.d (D.int IntKind.i64 j0.to_),V.d (dIntS j0.args_)]] :: Z))[H.length + (X.length + 1)]? = some (.row 2 [[V.d (D.int IntKind.i64 j0.to_),V.d (dIntS j0.args_)]]):=fun v m Z=>by
          rw [List.getElem?_append_right (by rw [HH_len];omega),HH_len,show H.length + (X.length + 1) - H.length=X.length + 1 by omega,List.getElem?_cons_succ,List.getElem?_append_right (Nat.le_refl _),Nat.sub_self];rfl
        have gRa:=fun (v m:List Int) X=>(t.getR v m X).trans hR
        obtain ⟨t0,t1,t2,t3⟩:=hjm
        obtain ⟨f1,f2,f3,f4,f5,f6,f7⟩:=at_le hg t1
        have hfst:(viewD F).first_[j0.to_.toNat]?.getD 0=(firstN F j0.to_.toNat:Int):=by
          show (firsts F.blocks_ F.params_)[j0.to_.toNat]?.getD 0=_
          rw [firsts_get _ _ _ t1,← f1];rfl
        have hfl:(viewD F).first_.length=F.blocks_.length:=firsts_len _ _
        refine W_drawC mixed ⟨[K_95],[K_95h],[94,96],121,H.length,[0,1,4,5,6,7,8,9,10,11,24,25,26,27,38,59,93],[27,38,59,83,93]⟩ [0,1,2,3,4,5,6,7,8,9,10,11,12,13,14,15,16,17,18] [19,20] [] (.alt 19 (.alt 20 .leaf .nil) .nil) (fun | 19=>[3,7,10,12,14] | 20=>[7] | _=>[]) [0,1,4,5,6,7,8,9,10,11,24,25,26,27,38,59,93,98,99,100,101,102,103,104,105,106,107,108,109,110,111,112,113,114,115,116,117,118] (by kernel_rfl) (by kernel_rfl) ?_
        simp only [stripOps,pickOps]
        simp [K_95_f,K_95_e,K_95h_f,K_95h_e,K_95h_g,-V.flat,-V.one,one_int,one_bool,one_str,one_nilp,one_rp,one_nilsl,one_ro,one_cl,one_nilf,one_nili,one_ifc,one_ptr,one_sl,one_clo,flat_d,flat_ptr,flat_sl,flat_clo,flat_agg,gRa,gV,gM,gJ,hfst]
        refine ⟨⟨t0,by omega⟩,by omega, ?_⟩
        generalize firstN F j0.to_.toNat=fn at f1 f5 hfst
        refine denC_one ?_
        simp only [demC,stripOps,pickOps]
        simp [loadD,K_95_f,K_95_e,K_95h_f,K_95h_e,K_95h_g,-V.flat,-V.one,one_int,one_bool,one_str,one_nilp,one_rp,one_nilsl,one_ro,one_cl,one_nilf,one_nili,one_ifc,one_ptr,one_sl,one_clo,flat_d,flat_ptr,flat_sl,flat_clo,flat_agg,gRa,gV,gM,gJ,hfst]
        rw [aft_call]
        have gR':=gR
        rw [← hv1] at gR'
        refine (takeI_cl _ R ve me _ F c v fu v1 j0.args_ (gR' _) (gV _) (by omega) (fun n hn=>by have:=t3 n hn;omega)).mono ?_
        rintro r H' ⟨rfl,kk,rfl⟩
        simp [loadD,K_95_f,K_95_e,K_95h_f,K_95h_e,K_95h_g,-V.flat,-V.one,one_int,one_bool,one_str,one_nilp,one_rp,one_nilsl,one_ro,one_cl,one_nilf,one_nili,one_ifc,one_ptr,one_sl,one_clo,flat_d,flat_ptr,flat_sl,flat_clo,flat_agg,gRa,gV,gM,gJ,hfst]
        generalize htk:takeV v1 j0.args_=tk
        have hu:=upto_all tk
        have sVp:∀ X:Heap,(HH H ve me v1 m1++X).set ve (.row 1 (List.take fn (rI v1)++(List.take (vs.length - fn) (rI tk)++List.drop (fn + min tk.length (vs.length - fn)) (rI v1))))=HH H ve me (putV v1 fn tk) m1++X:=fun X=>by
          rw [← t.setV v1 m1 (putV v1 fn tk) X,putV,← hv1]
          simp only [rI,List.map_append,List.map_take,List.map_drop]
        refine denC_one ?_
        simp only [demC,stripOps,pickOps]
        simp [loadD,K_95_f,K_95_e,K_95h_f,K_95h_e,K_95h_g,-V.flat,-V.one,one_int,one_bool,one_str,one_nilp,one_rp,one_nilsl,one_ro,one_cl,one_nilf,one_nili,one_ifc,one_ptr,one_sl,one_clo,flat_d,flat_ptr,flat_sl,flat_clo,flat_agg,gRa,gV,gM,gJ,hfst,hu,sVp]
        refine ⟨by omega, ?_⟩
        refine denC_leaf ?_
        simp only [stripOps,pickOps]
        simp [K_95_f,K_95_e,K_95h_f,K_95h_e,K_95h_g,-V.flat,-V.one,one_int,one_bool,one_str,one_nilp,one_rp,one_nilsl,one_ro,one_cl,one_nilf,one_nili,one_ifc,one_ptr,one_sl,one_clo,flat_d,flat_ptr,flat_sl,flat_clo,flat_agg,gRa,gV,gM,gJ,hfst,retQ]
        exact ⟨_,_,Fin.kill [] (by simp [HH_len]),rfl,_,kill_app (by simp [HH_len])⟩
      · obtain ⟨j0,j1,hj⟩:∃ a b,(blkN F k).jumps_=[a,b]:=by
          match h:(blkN F k).jumps_,l2 with
          | [a,b],_=>exact ⟨a,b,rfl⟩
        have wv:mapL v1 (blkN F k).value_=v1[(blkN F k).value_.toNat]?.getD 0:=rfl
        by_cases hz:v1[(blkN F k).value_.toNat]?.getD 0=0
        · have ej:jmpN (blkN F k) v1=j1:=by unfold jmpN;rw [if_pos ⟨e3,hz⟩,hj];rfl
          rw [ej]
          have hjm:=hj2 j1 (by rw [hj];simp)
          refine W_runS mixed [17] ⟨[K_95],[K_95h],[94,96],121,H.length,[0,1,4,5,6,7,8,9,10,11,24,25,26,27,38,59,93],[27,38,59,83,93]⟩ (fun | 9=>[0,1,2,4,5,6,8,9,11,3,7,10,12,13] | 12=>[0,1,2,3,4,6,5,7,8,9,10,11,12,13,14,15,16,17] | 15=>[0,1,2,3,4,5,6,8,7,9,10,11,12,13] | 17=>[0,1,2,4,5,6,11,16,17,3,7,8,9,10,12,13,14,15,18,19,20] | _=>[]) (by kernel_rfl) ?_
          simp only [stripS,skip_cons,skip_nil,Nat.reduceBEq,Bool.or_false,Bool.or_self,Bool.or_true,Bool.true_or,cond_true,cond_false,stripX,stripOps,pickOps]
          simp [K_95_f,K_95_e,K_95h_f,K_95h_e,K_95h_g,-V.flat,-V.one,one_int,one_bool,one_str,one_nilp,one_rp,one_nilsl,one_ro,one_cl,one_nilf,one_nili,one_ifc,one_ptr,one_sl,one_clo,flat_d,flat_ptr,flat_sl,flat_clo,flat_agg,gR,gV,gM,gN,sR,hlt,e3,hj,HH_len,hil,hv1,hz,retQ]
          refine ⟨⟨w0,by omega⟩,by omega, ?_⟩
          have gJ:∀ (v m:List Int) (Z:Heap),(HH H ve me v m++rBk (blkN F k) :: (X++Place.row 2 [[V.d (D.int IntKind.i64 j1.to_),V.d (dIntS j1.args_)]] :: Z))[H.length + (X.length + 1)]? = some (.row 2 [[V.d (D.int IntKind.i64 j1.to_),V.d (dIntS j1.args_)]]):=fun v m Z=>by
            rw [List.getElem?_append_right (by rw [HH_len];omega),HH_len,show H.length + (X.length + 1) - H.length=X.length + 1 by omega,List.getElem?_cons_succ,List.getElem?_append_right (Nat.le_refl _),Nat.sub_self];rfl
          have gRa:=fun (v m:List Int) X=>(t.getR v m X).trans hR
          obtain ⟨t0,t1,t2,t3⟩:=hjm
          obtain ⟨f1,f2,f3,f4,f5,f6,f7⟩:=at_le hg t1
          have hfst:(viewD F).first_[j1.to_.toNat]?.getD 0=(firstN F j1.to_.toNat:Int):=by
            show (firsts F.blocks_ F.params_)[j1.to_.toNat]?.getD 0=_
            rw [firsts_get _ _ _ t1,← f1];rfl
          have hfl:(viewD F).first_.length=F.blocks_.length:=firsts_len _ _
          refine W_drawC mixed ⟨[K_95],[K_95h],[94,96],121,H.length,[0,1,4,5,6,7,8,9,10,11,24,25,26,27,38,59,93],[27,38,59,83,93]⟩ [0,1,2,3,4,5,6,7,8,9,10,11,12,13,14,15,16,17,18] [19,20] [] (.alt 19 (.alt 20 .leaf .nil) .nil) (fun | 19=>[3,7,10,12,14] | 20=>[7] | _=>[]) [0,1,4,5,6,7,8,9,10,11,24,25,26,27,38,59,93,98,99,100,101,102,103,104,105,106,107,108,109,110,111,112,113,114,115,116,117,118] (by kernel_rfl) (by kernel_rfl) ?_
          simp only [stripOps,pickOps]
          simp [K_95_f,K_95_e,K_95h_f,K_95h_e,K_95h_g,-V.flat,-V.one,one_int,one_bool,one_str,one_nilp,one_rp,one_nilsl,one_ro,one_cl,one_nilf,one_nili,one_ifc,one_ptr,one_sl,one_clo,flat_d,flat_ptr,flat_sl,flat_clo,flat_agg,gRa,gV,gM,gJ,hfst]
          refine ⟨⟨t0,by omega⟩,by omega, ?_⟩
          generalize firstN F j1.to_.toNat=fn at f1 f5 hfst
          refine denC_one ?_
          simp only [demC,stripOps,pickOps]
          simp [loadD,K_95_f,K_95_e,K_95h_f,K_95h_e,K_95h_g,-V.flat,-V.one,one_int,one_bool,one_str,one_nilp,one_rp,one_nilsl,one_ro,one_cl,one_nilf,one_nili,one_ifc,one_ptr,one_sl,one_clo,flat_d,flat_ptr,flat_sl,flat_clo,flat_agg,gRa,gV,gM,gJ,hfst]
          rw [aft_call]
          have gR':=gR
          rw [← hv1] at gR'
          refine (takeI_cl _ R ve me _ F c v fu v1 j1.args_ (gR' _) (gV _) (by omega) (fun n hn=>by have:=t3 n hn;omega)).mono ?_
          rintro r H' ⟨rfl,kk,rfl⟩
          simp [loadD,K_95_f,K_95_e,K_95h_f,K_95h_e,K_95h_g,-V.flat,-V.one,one_int,one_bool,one_str,one_nilp,one_rp,one_nilsl,one_ro,one_cl,one_nilf,one_nili,one_ifc,one_ptr,one_sl,one_clo,flat_d,flat_ptr,flat_sl,flat_clo,flat_agg,gRa,gV,gM,gJ,hfst]
          generalize htk:takeV v1 j1.args_=tk
          have hu:=upto_all tk
          have sVp:∀ X:Heap,(HH H ve me v1 m1++X).set ve (.row 1 (List.take fn (rI v1)++(List.take (vs.length - fn) (rI tk)++List.drop (fn + min tk.length (vs.length - fn)) (rI v1))))=HH H ve me (putV v1 fn tk) m1++X:=fun X=>by
            rw [← t.setV v1 m1 (putV v1 fn tk) X,putV,← hv1]
            simp only [rI,List.map_append,List.map_take,List.map_drop]
          refine denC_one ?_
          simp only [demC,stripOps,pickOps]
          simp [loadD,K_95_f,K_95_e,K_95h_f,K_95h_e,K_95h_g,-V.flat,-V.one,one_int,one_bool,one_str,one_nilp,one_rp,one_nilsl,one_ro,one_cl,one_nilf,one_nili,one_ifc,one_ptr,one_sl,one_clo,flat_d,flat_ptr,flat_sl,flat_clo,flat_agg,gRa,gV,gM,gJ,hfst,hu,sVp]
          refine ⟨by omega, ?_⟩
          refine denC_leaf ?_
          simp only [stripOps,pickOps]
          simp [K_95_f,K_95_e,K_95h_f,K_95h_e,K_95h_g,-V.flat,-V.one,one_int,one_bool,one_str,one_nilp,one_rp,one_nilsl,one_ro,one_cl,one_nilf,one_nili,one_ifc,one_ptr,one_sl,one_clo,flat_d,flat_ptr,flat_sl,flat_clo,flat_agg,gRa,gV,gM,gJ,hfst,retQ]
          exact ⟨_,_,Fin.kill [] (by simp [HH_len]),rfl,_,kill_app (by simp [HH_len])⟩
        · have ej:jmpN (blkN F k) v1=j0:=by unfold jmpN;rw [if_neg (fun h=>hz h.2),hj];rfl
          rw [ej]
          have hjm:=hj2 j0 (by rw [hj];simp)
          refine W_runS mixed [17] ⟨[K_95],[K_95h],[94,96],121,H.length,[0,1,4,5,6,7,8,9,10,11,24,25,26,27,38,59,93],[27,38,59,83,93]⟩ (fun | 9=>[0,1,2,4,5,6,8,9,11,3,7,10,12,13] | 12=>[0,1,2,3,4,6,5,7,8,9,10,11,12,13,14,15,16,17] | 15=>[0,1,2,3,4,5,6,8,7,9,10,11,12,13] | 17=>[0,1,2,4,5,6,11,16,17,3,7,8,9,10,12,13,14,15,18,19,20] | _=>[]) (by kernel_rfl) ?_
          simp only [stripS,skip_cons,skip_nil,Nat.reduceBEq,Bool.or_false,Bool.or_self,Bool.or_true,Bool.true_or,cond_true,cond_false,stripX,stripOps,pickOps]
          simp [K_95_f,K_95_e,K_95h_f,K_95h_e,K_95h_g,-V.flat,-V.one,one_int,one_bool,one_str,one_nilp,one_rp,one_nilsl,one_ro,one_cl,one_nilf,one_nili,one_ifc,one_ptr,one_sl,one_clo,flat_d,flat_ptr,flat_sl,flat_clo,flat_agg,gR,gV,gM,gN,sR,hlt,e3,hj,HH_len,hil,hv1,hz,retQ]
          refine ⟨⟨w0,by omega⟩,by omega, ?_⟩
          have gJ:∀ (v m:List Int) (Z:Heap),(HH H ve me v m++rBk (blkN F k) :: (X++Place.row 2 [[V.d (D.int IntKind.i64 j0.to_),V.d (dIntS j0.args_)]] :: Z))[H.length + (X.length + 1)]? = some (.row 2 [[V.d (D.int IntKind.i64 j0.to_),V.d (dIntS j0.args_)]]):=fun v m Z=>by
            rw [List.getElem?_append_right (by rw [HH_len];omega),HH_len,show H.length + (X.length + 1) - H.length=X.length + 1 by omega,List.getElem?_cons_succ,List.getElem?_append_right (Nat.le_refl _),Nat.sub_self];rfl
          have gRa:=fun (v m:List Int) X=>(t.getR v m X).trans hR
          obtain ⟨t0,t1,t2,t3⟩:=hjm
          obtain ⟨f1,f2,f3,f4,f5,f6,f7⟩:=at_le hg t1
          have hfst:(viewD F).first_[j0.to_.toNat]?.getD 0=(firstN F j0.to_.toNat:Int):=by
            show (firsts F.blocks_ F.params_)[j0.to_.toNat]?.getD 0=_
            rw [firsts_get _ _ _ t1,← f1];rfl
          have hfl:(viewD F).first_.length=F.blocks_.length:=firsts_len _ _
          refine W_drawC mixed ⟨[K_95],[K_95h],[94,96],121,H.length,[0,1,4,5,6,7,8,9,10,11,24,25,26,27,38,59,93],[27,38,59,83,93]⟩ [0,1,2,3,4,5,6,7,8,9,10,11,12,13,14,15,16,17,18] [19,20] [] (.alt 19 (.alt 20 .leaf .nil) .nil) (fun | 19=>[3,7,10,12,14] | 20=>[7] | _=>[]) [0,1,4,5,6,7,8,9,10,11,24,25,26,27,38,59,93,98,99,100,101,102,103,104,105,106,107,108,109,110,111,112,113,114,115,116,117,118] (by kernel_rfl) (by kernel_rfl) ?_
          simp only [stripOps,pickOps]
          simp [K_95_f,K_95_e,K_95h_f,K_95h_e,K_95h_g,-V.flat,-V.one,one_int,one_bool,one_str,one_nilp,one_rp,one_nilsl,one_ro,one_cl,one_nilf,one_nili,one_ifc,one_ptr,one_sl,one_clo,flat_d,flat_ptr,flat_sl,flat_clo,flat_agg,gRa,gV,gM,gJ,hfst]
          refine ⟨⟨t0,by omega⟩,by omega, ?_⟩
          generalize firstN F j0.to_.toNat=fn at f1 f5 hfst
          refine denC_one ?_
          simp only [demC,stripOps,pickOps]
          simp [loadD,K_95_f,K_95_e,K_95h_f,K_95h_e,K_95h_g,-V.flat,-V.one,one_int,one_bool,one_str,one_nilp,one_rp,one_nilsl,one_ro,one_cl,one_nilf,one_nili,one_ifc,one_ptr,one_sl,one_clo,flat_d,flat_ptr,flat_sl,flat_clo,flat_agg,gRa,gV,gM,gJ,hfst]
          rw [aft_call]
          have gR':=gR
          rw [← hv1] at gR'
          refine (takeI_cl _ R ve me _ F c v fu v1 j0.args_ (gR' _) (gV _) (by omega) (fun n hn=>by have:=t3 n hn;omega)).mono ?_
          rintro r H' ⟨rfl,kk,rfl⟩
          simp [loadD,K_95_f,K_95_e,K_95h_f,K_95h_e,K_95h_g,-V.flat,-V.one,one_int,one_bool,one_str,one_nilp,one_rp,one_nilsl,one_ro,one_cl,one_nilf,one_nili,one_ifc,one_ptr,one_sl,one_clo,flat_d,flat_ptr,flat_sl,flat_clo,flat_agg,gRa,gV,gM,gJ,hfst]
          generalize htk:takeV v1 j0.args_=tk
          have hu:=upto_all tk
          have sVp:∀ X:Heap,(HH H ve me v1 m1++X).set ve (.row 1 (List.take fn (rI v1)++(List.take (vs.length - fn) (rI tk)++List.drop (fn + min tk.length (vs.length - fn)) (rI v1))))=HH H ve me (putV v1 fn tk) m1++X:=fun X=>by
            rw [← t.setV v1 m1 (putV v1 fn tk) X,putV,← hv1]
            simp only [rI,List.map_append,List.map_take,List.map_drop]
          refine denC_one ?_
          simp only [demC,stripOps,pickOps]
          simp [loadD,K_95_f,K_95_e,K_95h_f,K_95h_e,K_95h_g,-V.flat,-V.one,one_int,one_bool,one_str,one_nilp,one_rp,one_nilsl,one_ro,one_cl,one_nilf,one_nili,one_ifc,one_ptr,one_sl,one_clo,flat_d,flat_ptr,flat_sl,flat_clo,flat_agg,gRa,gV,gM,gJ,hfst,hu,sVp]
          refine ⟨by omega, ?_⟩
          refine denC_leaf ?_
          simp only [stripOps,pickOps]
          simp [K_95_f,K_95_e,K_95h_f,K_95h_e,K_95h_g,-V.flat,-V.one,one_int,one_bool,one_str,one_nilp,one_rp,one_nilsl,one_ro,one_cl,one_nilf,one_nili,one_ifc,one_ptr,one_sl,one_clo,flat_d,flat_ptr,flat_sl,flat_clo,flat_agg,gRa,gV,gM,gJ,hfst,retQ]
          exact ⟨_,_,Fin.kill [] (by simp [HH_len]),rfl,_,kill_app (by simp [HH_len])⟩
end Go.Proofs.Ytnomiclfiijniaa
