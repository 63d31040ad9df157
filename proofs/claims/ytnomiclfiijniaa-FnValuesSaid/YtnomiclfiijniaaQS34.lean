/- Contracts of ArgsOf of both programs; the program's answer owns its memory. No condition. -/
import Derived.Test.YtnomiclfiijniaaQS23
section
namespace Go.Proofs.Ytnomiclfiijniaa
set_option maxRecDepth 100000
set_option linter.unusedSimpArgs false
set_option linter.unusedVariables false
def memOk (l:List Inst):Prop:=∀ x∈l,(x.op_=12→1≤x.args_.length)∧(x.op_=13→2≤x.args_.length)
structure OkM (v:View) (n:Int):Prop where
  ok:okV v n
  b:0≤bk v n→0≤atV v n→bk v n < v.first_.length∧bk v n < v.blocks_.length∧atV v n < (blkAt v n).insts_.length∧(blkAt v n).insts_.length≤80∧memOk (blkAt v n).insts_
theorem instV_of {v:View} {n:Int} (h0:0≤bk v n) (h1:0≤atV v n):instV v n=.tup [.d (.rp 3 (dInst (instI v n))),.d (.int .i64 (bk v n)),.d (.int .i64 (atV v n))]:=by
  unfold instV;rw [if_neg (by omega),if_neg (by omega)]
end Go.Proofs.Ytnomiclfiijniaa
end

section
namespace Go.Proofs.Ytnomiclfiijniaa
set_option maxRecDepth 100000
set_option linter.unusedSimpArgs false
set_option linter.unusedVariables false
theorem l1Own_c (l:List Int) (hl:l.length≤1000):PureP Try.prog 46 [.d (dIntS l)] (· = .d (dIntS l)):=by
  have hu:=upto_all l
  refine PureP.le (pure_of Try.func46 en_46 rfl rfl (W_run mixed ⟨[],[],[],6,0,[0,2],[]⟩ (fun _=>[]) (by kernel_rfl) ?_))
  simp only [Try.f46,stripX,stripOps,pickOps]
  simp [hl,hu]
  have hv:=vle_row (H:=[Place.dead,Place.row 1 (rI l)]) (f:=3) l rfl rfl
  simp only [List.getElem?_map] at hv
  exact ⟨by omega,hv⟩
noncomputable def K_46:Ent Try.prog:=Ent.p1 (α:=List Int) 46 (fun l=>l.length≤1000) (fun l=>.d (dIntS l)) (fun l hc=>l1Own_c l hc)
theorem K_46_f:K_46.f=46:=rfl
theorem K_46_e (l:List Int):K_46.e [.d (dIntS l)]=some (l.length≤1000,.d (dIntS l),[]):=by unfold K_46;exact Ent.p1_eq (α:=List Int) l
noncomputable def K_46h:EntH Try.prog:=EntH.pk1 (α:=List Int) 46 (fun l=>l.length≤1000) (fun l=>.d (dIntS l)) (fun l=>[]) (fun l hc=>PureP.ans (l1Own_c l hc))
theorem K_46h_f:K_46h.f=46:=rfl
theorem K_46h_g:K_46h.gro=true:=rfl
theorem K_46h_e {x1:V} {H:Heap}:K_46h.e [x1] H=guardR ((decA (α:=List Int) H x1).1) (peekR ((decA (α:=List Int) H x1).2.length≤1000) (.d (dIntS (decA (α:=List Int) H x1).2)) ([]) H):=rfl
theorem new_nil (H:Heap):New H H (⟨.d .nilsl,[]⟩:AS Int):=⟨⟨⟨.inr ⟨rfl,.inl rfl⟩,fun a ha=>absurd ha List.not_mem_nil⟩,fun q hq=>absurd hq List.not_mem_nil,List.nodup_nil⟩,Only.refl _ _,fun j hj=>absurd hj List.not_mem_nil,fun i p hi hp=>by rw [List.getElem?_eq_none (by omega)] at hp;cases hp⟩
theorem own_nil (H:Heap):Own H (⟨.d .nilsl,[]⟩:AS Int):=⟨⟨.inr ⟨rfl,.inl rfl⟩,fun a ha=>absurd ha List.not_mem_nil⟩,fun q hq=>absurd hq List.not_mem_nil,List.nodup_nil⟩
theorem fin_nil {H R:Heap} {r:V} {Q:V→Heap→Prop} (hq:∀ H',New H H' (⟨.d .nilsl,[]⟩:AS Int)→Q r H'):∃ r' H',Fin H.length (H++R) r H' r'∧Q r' H' :=
  fin_new (own_nil _) (Only.app _ _ _) (fun j hj=>absurd hj List.not_mem_nil) hq
theorem fin_ints {H R:Heap} {l:List Int} {id:Nat} {r:V} {Q:V→Heap→Prop} (hr:(H++R)[id]? = some (.row 1 (rI l))) (hid:H.length≤id) (hq:∀ H',New H H' (⟨.sl id 1 0 l.length,l⟩:AS Int)→Q r H'):∃ r' H',Fin H.length (H++R) r H' r'∧Q r' H':=by
  refine fin_new (a:=(⟨.sl id 1 0 l.length,l⟩:AS Int)) (Own.mkS (ownL_ints l) hr (by rw [ids_ints];exact List.not_mem_nil)) (Only.app _ _ _) (fun j hj=>?_) hq
  rw [ids_sl (s:=(⟨.sl id 1 0 l.length,l⟩:AS Int)) rfl,ids_ints] at hj
  rw [List.mem_singleton.1 hj];exact hid
theorem cloneInts_own (H:Heap) (l:List Int) (hl:l.length≤1000):CallsD Try.prog 43 [.d (dIntS l)] H fun r H'=>∃ s:AS Int,r=s.v∧s.l=l∧New H H' s:=by
  by_cases h0:l=[]
  · subst h0
    refine calls_of Try.func43 en_43 rfl (of_decide_eq_true rfl) (W_run mixed ⟨[],[],[],8,H.length,[0,2,4],[4]⟩ (fun _=>[]) (by kernel_rfl) ?_)
    simp only [Try.f43,stripX,stripOps,pickOps]
    simp [-V.flat,-V.one,one_int,one_bool,one_str,one_nilp,one_rp,one_nilsl,one_ro,one_cl,one_nilf,one_nili,one_ifc,one_ptr,one_sl,one_clo,flat_d,flat_ptr,flat_sl,flat_clo,flat_agg,retQ]
    refine ⟨⟨_,_,Fin.same (Nat.le_refl _),⟨.d .nilsl,[]⟩,rfl,rfl,new_nil H⟩, ?_⟩
    exact fin_ints (l:=[]) (id:=H.length + 1) (by rw [List.getElem?_append_right (by omega),Nat.add_sub_cancel_left];rfl) (by omega) fun H' h'=>⟨_,rfl,rfl,h'⟩
  · have hp:0 < l.length:=List.length_pos_iff.2 h0
    have hu:=upto_all l
    refine calls_of Try.func43 en_43 rfl (of_decide_eq_true rfl) (W_run mixed ⟨[],[],[],8,H.length,[0,2,4],[4]⟩ (fun _=>[]) (by kernel_rfl) ?_)
    simp only [Try.f43,stripX,stripOps,pickOps]
    simp [-V.flat,-V.one,one_int,one_bool,one_str,one_nilp,one_rp,one_nilsl,one_ro,one_cl,one_nilf,one_nili,one_ifc,one_ptr,one_sl,one_clo,flat_d,flat_ptr,flat_sl,flat_clo,flat_agg,retQ,hp,hu]
    refine ⟨by omega, ?_⟩
    exact fin_ints (l:=l) (id:=H.length + 1) (by rw [List.getElem?_append_right (by omega),Nat.add_sub_cancel_left];rfl) (by omega) fun H' h'=>⟨_,rfl,rfl,h'⟩
def argL (F:Func) (n:Int):List Int:=if isVal F n=true∧0≤(instS F n F.blocks_ 0).1 then (insAt F n).args_ else []
theorem argL_len {F:Func} {n:Int}:(argL F n).length≤1000:=by
  unfold argL
  split
  · rename_i h
    obtain ⟨hg,a0,a1⟩:=isVal_t h.1
    obtain ⟨q1,q2⟩:=good_insts hg a0 a1 h.2
    exact ((good_vals hg q2).2.1 _ q1).1
  · simp
theorem argsS_c (F : Func) (n : Int) (hF : Enc.good F) : PureP Try.prog 9 [vFunc F, .d (.int .i64 n)] (· = .tup [.d (dIntS (argL F n)), .d (.bool (isVal F n))]) := by
  have hmany:cntB F.blocks_ F.params_=many F:=rfl
  cases hg:goodF F with
  | false =>
    have hv:isVal F n=false:=by simp [isVal,hg]
    have ha:argL F n=[]:=by simp [argL,hv]
    refine PureP.le (pure_of Try.func9 en_9 rfl rfl (W_run mixed ⟨[K_23,K_39,K_44,K_45,K_46],[K_23h,K_39h,K_44h,K_45h,K_46h],[],38,0,[0,1,2,4,5,6,7,18,26],[11,18,26]⟩ (fun _=>[]) (by kernel_rfl) ?_))
    simp only [Try.f9,stripX,stripOps,pickOps]
    simp [K_23_f,K_23_e,K_39_f,K_39_e,K_44_f,K_44_e,K_45_f,K_45_e,K_46_f,K_46_e,K_23h_f,K_23h_e,K_39h_f,K_39h_e,K_44h_f,K_44h_e,K_45h_f,K_45h_e,K_46h_f,K_46h_e,K_23h_g,K_39h_g,K_44h_g,K_45h_g,K_46h_g,hF,hg]
    simp [hv,ha,VLe,VLes,DLe]
  | true =>
    have hin:=isVal_inR hg n
    cases hv:isVal F n with
    | false =>
      rw [hv] at hin
      have ha:argL F n=[]:=by simp [argL,hv]
      refine PureP.le (pure_of Try.func9 en_9 rfl rfl (W_run mixed ⟨[K_23,K_39,K_44,K_45,K_46],[K_23h,K_39h,K_44h,K_45h,K_46h],[],38,0,[0,1,2,4,5,6,7,18,26],[11,18,26]⟩ (fun _=>[]) (by kernel_rfl) ?_))
      simp only [Try.f9,stripX,stripOps,pickOps]
      simp [K_23_f,K_23_e,K_39_f,K_39_e,K_44_f,K_44_e,K_45_f,K_45_e,K_46_f,K_46_e,K_23h_f,K_23h_e,K_39h_f,K_39h_e,K_44h_f,K_44h_e,K_45h_f,K_45h_e,K_46h_f,K_46h_e,K_23h_g,K_39h_g,K_44h_g,K_45h_g,K_46h_g,hF,hg,hmany,hin]
      simp [ha,VLe,VLes,DLe]
    | true =>
      rw [hv] at hin
      have hok:=instS_ok hv
      by_cases hb:(instS F n F.blocks_ 0).1 < 0
      · have ha:argL F n=[]:=by simp [argL];omega
        refine PureP.le (pure_of Try.func9 en_9 rfl rfl (W_run mixed ⟨[K_23,K_39,K_44,K_45,K_46],[K_23h,K_39h,K_44h,K_45h,K_46h],[],38,0,[0,1,2,4,5,6,7,18,26],[11,18,26]⟩ (fun _=>[]) (by kernel_rfl) ?_))
        simp only [Try.f9,stripX,stripOps,pickOps]
        simp [K_23_f,K_23_e,K_39_f,K_39_e,K_44_f,K_44_e,K_45_f,K_45_e,K_46_f,K_46_e,K_23h_f,K_23h_e,K_39h_f,K_39h_e,K_44h_f,K_44h_e,K_45h_f,K_45h_e,K_46h_f,K_46h_e,K_23h_g,K_39h_g,K_44h_g,K_45h_g,K_46h_g,hF,hg,hmany,hin,hb]
        simp [ha,VLe,VLes,DLe]
      · have q:0≤(instS F n F.blocks_ 0).1:=by omega
        have hq:=hok q
        have ha:argL F n=(insAt F n).args_:=by simp [argL,hv,q]
        have hl:=argL_len (F:=F) (n:=n)
        have e1:((F.blocks_[(instS F n F.blocks_ 0).1.toNat]?.getD default).insts_[(instS F n F.blocks_ 0).2.toNat]?.getD default)=insAt F n:=rfl
        rw [ha] at hl
        refine PureP.le (pure_of Try.func9 en_9 rfl rfl (W_run mixed ⟨[K_23,K_39,K_44,K_45,K_46],[K_23h,K_39h,K_44h,K_45h,K_46h],[],38,0,[0,1,2,4,5,6,7,18,26],[11,18,26]⟩ (fun _=>[]) (by kernel_rfl) ?_))
        simp only [Try.f9,stripX,stripOps,pickOps]
        simp [K_23_f,K_23_e,K_39_f,K_39_e,K_44_f,K_44_e,K_45_f,K_45_e,K_46_f,K_46_e,K_23h_f,K_23h_e,K_39h_f,K_39h_e,K_44h_f,K_44h_e,K_45h_f,K_45h_e,K_46h_f,K_46h_e,K_23h_g,K_39h_g,K_44h_g,K_45h_g,K_46h_g,hF,hg,hmany,hin,hb,e1,hl]
        rw [ha]
        refine ⟨⟨q,hq.1⟩,hq.2, ?_⟩
        simp [VLe,VLes]
noncomputable def K_9:Ent Try.prog:=Ent.p2 (α:=Func) (β:=Int) 9 (fun F n=>Enc.good F) (fun F n=>.tup [.d (dIntS (argL F n)),.d (.bool (isVal F n))]) (fun F n hc=>argsS_c F n hc)
theorem K_9_f:K_9.f=9:=rfl
theorem K_9_e (F0:Int) (F1:List Block) (n:Int):K_9.e [.agg [.d (.int .i64 F0),.d (dBlockS F1)],.d (.int .i64 n)]=some (Enc.good (Func.mk F0 F1),.tup [.d (dIntS (argL (Func.mk F0 F1) n)),.d (.bool (isVal (Func.mk F0 F1) n))],[]):=by unfold K_9;exact Ent.p2_eq (α:=Func) (β:=Int) (Func.mk F0 F1) n
noncomputable def K_9h:EntH Try.prog:=EntH.pk2 (α:=Func) (β:=Int) 9 (fun F n=>Enc.good F) (fun F n=>.tup [.d (dIntS (argL F n)),.d (.bool (isVal F n))]) (fun F n=>[]) (fun F n hc=>PureP.ans (argsS_c F n hc))
theorem K_9h_f:K_9h.f=9:=rfl
theorem K_9h_g:K_9h.gro=true:=rfl
theorem K_9h_e {x1 x2:V} {H:Heap}:K_9h.e [x1,x2] H=guardR ((decA (α:=Func) H x1).1∧(decA (α:=Int) H x2).1) (peekR (Enc.good (decA (α:=Func) H x1).2) (.tup [.d (dIntS (argL (decA (α:=Func) H x1).2 (decA (α:=Int) H x2).2)),.d (.bool (isVal (decA (α:=Func) H x1).2 (decA (α:=Int) H x2).2))]) ([]) H):=rfl
theorem argsI_own (H : Heap) (F : Func) (n : Int) (hF : Enc.good F) (hn : Enc.good n) : CallsD Try.prog 8 [vFunc F, .d (.int .i64 n)] H fun r H' => ∃ s : AS Int, r = .tup [s.v, .d (.bool (isVal F n))] ∧ s.l = argL F n ∧ New H H' s := by
  have h3:Enc.good [n]:=⟨by simp,fun x hx=>by simp at hx;subst hx;exact hn⟩
  cases hg:goodF F with
  | false =>
    have hv:isVal F n=false:=by simp [isVal,hg]
    have ha:argL F n=[]:=by simp [argL,hv]
    refine calls_of Try.func8 en_8 rfl (of_decide_eq_true rfl) (W_run mixed ⟨[K_40,K_41,K_42],[K_40h,K_41h,K_42h],[43],35,H.length,[0,1,2,4,5,6,7,20,29],[14,20,29]⟩ (fun _=>[]) (by kernel_rfl) ?_)
    simp only [Try.f8,stripX,stripOps,pickOps]
    simp [K_40_f,K_40_e,K_41_f,K_41_e,K_42_f,K_42_e,K_40h_f,K_40h_e,K_41h_f,K_41h_e,K_42h_f,K_42h_e,K_40h_g,K_41h_g,K_42h_g,-V.flat,-V.one,one_int,one_bool,one_str,one_nilp,one_rp,one_nilsl,one_ro,one_cl,one_nilf,one_nili,one_ifc,one_ptr,one_sl,one_clo,flat_d,flat_ptr,flat_sl,flat_clo,flat_agg,hF,viewV_f hg,retQ]
    exact fin_nil fun H' h'=>⟨_,by rw [hv],ha.symm,h'⟩
  | true =>
    have ev:allIn [n] 0 (IntKind.i64.wrap (many F - 1))=isVal F n:=by rw [allIn1,isVal_inR hg]
    cases hv:isVal F n with
    | false =>
      have ha:argL F n=[]:=by simp [argL,hv]
      rw [hv] at ev
      refine calls_of Try.func8 en_8 rfl (of_decide_eq_true rfl) (W_run mixed ⟨[K_40,K_41,K_42],[K_40h,K_41h,K_42h],[43],35,H.length,[0,1,2,4,5,6,7,20,29],[14,20,29]⟩ (fun _=>[]) (by kernel_rfl) ?_)
      simp only [Try.f8,stripX,stripOps,pickOps]
      simp [K_40_f,K_40_e,K_41_f,K_41_e,K_42_f,K_42_e,K_40h_f,K_40h_e,K_41h_f,K_41h_e,K_42h_f,K_42h_e,K_40h_g,K_41h_g,K_42h_g,-V.flat,-V.one,one_int,one_bool,one_str,one_nilp,one_rp,one_nilsl,one_ro,one_cl,one_nilf,one_nili,one_ifc,one_ptr,one_sl,one_clo,flat_d,flat_ptr,flat_sl,flat_clo,flat_agg,hF,viewV_t hg,h3,viewD_total,ev,retQ]
      exact fin_nil fun H' h'=>⟨_,rfl,ha.symm,h'⟩
    | true =>
      rw [hv] at ev
      obtain ⟨_,g0,g1⟩:=isVal_t hv
      have hok:okV (viewD F) n:=(view_spec hg g0 g1).1
      have hvs:=(view_spec hg g0 g1).2
      by_cases b0:bk (viewD F) n < 0
      · have ha:argL F n=[]:=by
          rcases hvs with ⟨_,_,q⟩ | ⟨q,_⟩
          · simp [argL,q]
          · omega
        refine calls_of Try.func8 en_8 rfl (of_decide_eq_true rfl) (W_run mixed ⟨[K_40,K_41,K_42],[K_40h,K_41h,K_42h],[43],35,H.length,[0,1,2,4,5,6,7,20,29],[14,20,29]⟩ (fun _=>[]) (by kernel_rfl) ?_)
        simp only [Try.f8,stripX,stripOps,pickOps]
        simp [K_40_f,K_40_e,K_41_f,K_41_e,K_42_f,K_42_e,K_40h_f,K_40h_e,K_41h_f,K_41h_e,K_42h_f,K_42h_e,K_40h_g,K_41h_g,K_42h_g,-V.flat,-V.one,one_int,one_bool,one_str,one_nilp,one_rp,one_nilsl,one_ro,one_cl,one_nilf,one_nili,one_ifc,one_ptr,one_sl,one_clo,flat_d,flat_ptr,flat_sl,flat_clo,flat_agg,hF,viewV_t hg,h3,viewD_total,ev,hok,instV,b0,retQ]
        exact fin_nil fun H' h'=>⟨_,rfl,ha.symm,h'⟩
      by_cases a0:atV (viewD F) n < 0
      · have ha:argL F n=[]:=by
          rcases hvs with ⟨_,_,q⟩ | ⟨_,_,_,_,_,q⟩
          · simp [argL,q]
          · rw [if_neg (by omega)] at q;simp [argL,q]
        refine calls_of Try.func8 en_8 rfl (of_decide_eq_true rfl) (W_run mixed ⟨[K_40,K_41,K_42],[K_40h,K_41h,K_42h],[43],35,H.length,[0,1,2,4,5,6,7,20,29],[14,20,29]⟩ (fun _=>[]) (by kernel_rfl) ?_)
        simp only [Try.f8,stripX,stripOps,pickOps]
        simp [K_40_f,K_40_e,K_41_f,K_41_e,K_42_f,K_42_e,K_40h_f,K_40h_e,K_41h_f,K_41h_e,K_42h_f,K_42h_e,K_40h_g,K_41h_g,K_42h_g,-V.flat,-V.one,one_int,one_bool,one_str,one_nilp,one_rp,one_nilsl,one_ro,one_cl,one_nilf,one_nili,one_ifc,one_ptr,one_sl,one_clo,flat_d,flat_ptr,flat_sl,flat_clo,flat_agg,hF,viewV_t hg,h3,viewD_total,ev,hok,instV,b0,a0,retQ]
        exact fin_nil fun H' h'=>⟨_,rfl,ha.symm,h'⟩
      · have ei:=instV_of (v:=viewD F) (n:=n) (by omega) (by omega)
        obtain ⟨e1,e2⟩:=inst_same hg g0 g1 (by omega) (by omega)
        have ha:argL F n=(instI (viewD F) n).args_:=by
          rw [e2];simp only [argL,hv,e1,true_and];exact if_pos (by show 0≤bk (viewD F) n;omega)
        have hl:=argL_len (F:=F) (n:=n)
        rw [ha] at hl
        refine calls_of Try.func8 en_8 rfl (of_decide_eq_true rfl) (W_run mixed ⟨[K_40,K_41,K_42],[K_40h,K_41h,K_42h],[43],35,H.length,[0,1,2,4,5,6,7,20,29],[14,20,29]⟩ (fun _=>[]) (by kernel_rfl) ?_)
        simp only [Try.f8,stripX,stripOps,pickOps]
        simp [K_40_f,K_40_e,K_41_f,K_41_e,K_42_f,K_42_e,K_40h_f,K_40h_e,K_41h_f,K_41h_e,K_42h_f,K_42h_e,K_40h_g,K_41h_g,K_42h_g,-V.flat,-V.one,one_int,one_bool,one_str,one_nilp,one_rp,one_nilsl,one_ro,one_cl,one_nilf,one_nili,one_ifc,one_ptr,one_sl,one_clo,flat_d,flat_ptr,flat_sl,flat_clo,flat_agg,hF,viewV_t hg,h3,viewD_total,ev,hok,ei,retQ]
        refine (cloneInts_own _ (instI (viewD F) n).args_ hl).mono ?_
        rintro r H' ⟨s,rfl,hs,hn⟩
        obtain ⟨R,rfl⟩:=hn.only.tail
        simp [K_40_f,K_40_e,K_41_f,K_41_e,K_42_f,K_42_e,K_40h_f,K_40h_e,K_41h_f,K_41h_e,K_42h_f,K_42h_e,K_40h_g,K_41h_g,K_42h_g,-V.flat,-V.one,one_int,one_bool,one_str,one_nilp,one_rp,one_nilsl,one_ro,one_cl,one_nilf,one_nili,one_ifc,one_ptr,one_sl,one_clo,flat_d,flat_ptr,flat_sl,flat_clo,flat_agg,retQ]
        exact fin_new (a:=s) (hn.own.beh0 [_,_] hn.fresh rfl) (Only.app _ _ _) (fun j hj=>by have:=hn.fresh j hj;simp only [List.length_append] at this;omega) fun H' h'=>⟨s,rfl,hs.trans ha.symm,h'⟩
end Go.Proofs.Ytnomiclfiijniaa
end
