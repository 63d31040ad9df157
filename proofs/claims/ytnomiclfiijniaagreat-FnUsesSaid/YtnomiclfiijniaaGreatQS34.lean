/- Contracts of ArgsOf of both programs; the program's answer owns its memory. No condition. -/
import Derived.Test.YtnomiclfiijniaaGreatQS31
import Derived.Test.YtnomiclfiijniaaGreatQS38
section
namespace Go.Proofs.YtnomiclfiijniaaGreat
set_option maxRecDepth 100000
set_option linter.unusedSimpArgs false
set_option linter.unusedVariables false
def insAt (F:Func) (n:Int):Inst:=(F.blocks_[(instS F n F.blocks_ 0).1.toNat]?.getD default).insts_[(instS F n F.blocks_ 0).2.toNat]?.getD default
theorem inst_same {F:Func} {n:Int} (h:goodF F=true) (h0:0≤n) (h1:n < many F) (hb:0≤bk (viewD F) n) (ha:0≤atV (viewD F) n):instS F n F.blocks_ 0=(bk (viewD F) n,atV (viewD F) n)∧instI (viewD F) n=insAt F n:=by
  rcases (view_spec h h0 h1).2 with ⟨q1,_,q2⟩ | ⟨q1,_,_,q3,_,q2⟩
  · omega
  · rw [if_pos ha] at q2
    refine ⟨q2, ?_⟩
    unfold insAt
    rw [q2];rfl
theorem good_insts {F:Func} {n:Int} (h:goodF F=true) (h0:0≤n) (h1:n < many F) (hb:0≤(instS F n F.blocks_ 0).1):insAt F n∈(F.blocks_[(instS F n F.blocks_ 0).1.toNat]?.getD default).insts_∧F.blocks_[(instS F n F.blocks_ 0).1.toNat]?.getD default∈F.blocks_:=by
  have hv:isVal F n=true:=by
    obtain ⟨hp,hl,hh,hm,hc,hs,_⟩:=goodF_spec h
    simp only [isVal,h,Bool.true_and]
    exact inR_t.2 ⟨h0,by rw [wrap_sub (by omega) (by omega)];omega⟩
  obtain ⟨q1,q2,q3⟩:=instS_ok hv hb
  refine ⟨?_, ?_⟩
  · unfold insAt
    generalize (F.blocks_[(instS F n F.blocks_ 0).1.toNat]?.getD default).insts_=l at q3 ⊢
    rw [List.getElem?_eq_getElem (by omega)];exact List.getElem_mem _
  · rw [List.getElem?_eq_getElem (by omega)];exact List.getElem_mem _
theorem sound_good {F:Func} (h:soundF F=true):goodF F=true:=by
  simp only [soundF,Bool.and_eq_true] at h;exact h.1
theorem sound_V {F:Func} (h:soundF F=true):soundV F=.rp 3 (dWays (waysV (viewD F))):=if_pos h
theorem sound_N {F:Func} (h:soundF F=false):soundV F=.nilp:=if_neg (by rw [h];decide)
theorem ways_view (v:View):(waysV v).view_.v=v:=rfl
theorem allIn1 (n m:Int):allIn [n] 0 m=inR n 0 m:=by simp [allIn]
theorem allIn2 (a b m:Int):allIn [a,b] 0 m=(inR a 0 m && inR b 0 m):=by simp [allIn]
theorem isVal_inR {F:Func} (h:goodF F=true) (n:Int):inR n 0 (IntKind.i64.wrap (many F - 1))=isVal F n:=by simp [isVal,h]
structure OkE (w:Ways) (n:Int):Prop where
  n0:0≤n∧n < w.view_.v.total_
  tot:w.view_.v.total_≤80
  ok:∀ k,0≤k→k < w.view_.v.total_→okV w.view_.v k∧(pureV w.view_.v k=true→(instI w.view_.v k).args_.length≤1000)∧(pureV w.view_.v n=true→okW w k (bk w.view_.v n))
  all:pureV w.view_.v n=true→bk w.view_.v n < w.all_.length
end Go.Proofs.YtnomiclfiijniaaGreat
end

section
namespace Go.Proofs.YtnomiclfiijniaaGreat
set_option maxRecDepth 100000
set_option linter.unusedSimpArgs false
set_option linter.unusedVariables false
def memOk (l:List Inst):Prop:=∀ x∈l,(x.op_=12→1≤x.args_.length)∧(x.op_=13→2≤x.args_.length)
structure OkM (v:View) (n:Int):Prop where
  ok:okV v n
  b:0≤bk v n→0≤atV v n→bk v n < v.first_.length∧bk v n < v.blocks_.length∧atV v n < (blkAt v n).insts_.length∧(blkAt v n).insts_.length≤80∧memOk (blkAt v n).insts_
theorem instV_of {v:View} {n:Int} (h0:0≤bk v n) (h1:0≤atV v n):instV v n=.tup [.d (.rp 3 (dInst (instI v n))),.d (.int .i64 (bk v n)),.d (.int .i64 (atV v n))]:=by
  unfold instV;rw [if_neg (by omega),if_neg (by omega)]
end Go.Proofs.YtnomiclfiijniaaGreat
end

section
namespace Go.Proofs.YtnomiclfiijniaaGreat
set_option maxRecDepth 100000
set_option linter.unusedSimpArgs false
set_option linter.unusedVariables false
theorem new_nil (H:Heap):New H H (⟨.d .nilsl,[]⟩:AS Int):=⟨⟨⟨.inr ⟨rfl,.inl rfl⟩,fun a ha=>absurd ha List.not_mem_nil⟩,fun q hq=>absurd hq List.not_mem_nil,List.nodup_nil⟩,Only.refl _ _,fun j hj=>absurd hj List.not_mem_nil,fun i p hi hp=>by rw [List.getElem?_eq_none (by omega)] at hp;cases hp⟩
theorem own_nil (H:Heap):Own H (⟨.d .nilsl,[]⟩:AS Int):=⟨⟨.inr ⟨rfl,.inl rfl⟩,fun a ha=>absurd ha List.not_mem_nil⟩,fun q hq=>absurd hq List.not_mem_nil,List.nodup_nil⟩
theorem fin_nil {H R:Heap} {r:V} {Q:V→Heap→Prop} (hq:∀ H',New H H' (⟨.d .nilsl,[]⟩:AS Int)→Q r H'):∃ r' H',Fin H.length (H++R) r H' r'∧Q r' H' :=
  fin_new (own_nil _) (Only.app _ _ _) (fun j hj=>absurd hj List.not_mem_nil) hq
theorem fin_ints {H R:Heap} {l:List Int} {id:Nat} {r:V} {Q:V→Heap→Prop} (hr:(H++R)[id]? = some (.row 1 (rI l))) (hid:H.length≤id) (hq:∀ H',New H H' (⟨.sl id 1 0 l.length,l⟩:AS Int)→Q r H'):∃ r' H',Fin H.length (H++R) r H' r'∧Q r' H':=by
  refine fin_new (a:=(⟨.sl id 1 0 l.length,l⟩:AS Int)) (Own.mkS (ownL_ints l) hr (by rw [ids_ints];exact List.not_mem_nil)) (Only.app _ _ _) (fun j hj=>?_) hq
  rw [ids_sl (s:=(⟨.sl id 1 0 l.length,l⟩:AS Int)) rfl,ids_ints] at hj
  rw [List.mem_singleton.1 hj];exact hid
theorem cloneInts_own (H:Heap) (l:List Int) (hl:l.length≤1000):CallsD Tryz.prog 58 [.d (dIntS l)] H fun r H'=>∃ s:AS Int,r=s.v∧s.l=l∧New H H' s:=by
  by_cases h0:l=[]
  · subst h0
    refine calls_of Tryz.func58 en_58 rfl (of_decide_eq_true rfl) (W_run mixed ⟨[],[],[],8,H.length,[0,2,4],[4]⟩ (fun _=>[]) (by kernel_rfl) ?_)
    simp only [Tryz.f58,stripX,stripOps,pickOps]
    simp [-V.flat,-V.one,one_int,one_bool,one_str,one_nilp,one_rp,one_nilsl,one_ro,one_cl,one_nilf,one_nili,one_ifc,one_ptr,one_sl,one_clo,flat_d,flat_ptr,flat_sl,flat_clo,flat_agg,retQ]
    refine ⟨⟨_,_,Fin.same (Nat.le_refl _),⟨.d .nilsl,[]⟩,rfl,rfl,new_nil H⟩, ?_⟩
    exact fin_ints (l:=[]) (id:=H.length + 1) (by rw [List.getElem?_append_right (by omega),Nat.add_sub_cancel_left];rfl) (by omega) fun H' h'=>⟨_,rfl,rfl,h'⟩
  · have hp:0 < l.length:=List.length_pos_iff.2 h0
    have hu:=upto_all l
    refine calls_of Tryz.func58 en_58 rfl (of_decide_eq_true rfl) (W_run mixed ⟨[],[],[],8,H.length,[0,2,4],[4]⟩ (fun _=>[]) (by kernel_rfl) ?_)
    simp only [Tryz.f58,stripX,stripOps,pickOps]
    simp [-V.flat,-V.one,one_int,one_bool,one_str,one_nilp,one_rp,one_nilsl,one_ro,one_cl,one_nilf,one_nili,one_ifc,one_ptr,one_sl,one_clo,flat_d,flat_ptr,flat_sl,flat_clo,flat_agg,retQ,hp,hu]
    refine ⟨by omega, ?_⟩
    exact fin_ints (l:=l) (id:=H.length + 1) (by rw [List.getElem?_append_right (by omega),Nat.add_sub_cancel_left];rfl) (by omega) fun H' h'=>⟨_,rfl,rfl,h'⟩
def argL (F:Func) (n:Int):List Int:=if isVal F n=true∧0≤(instS F n F.blocks_ 0).1 then (insAt F n).args_ else []
theorem argL_len {F:Func} {n:Int}:(argL F n).length≤1000:=by
  unfold argL
  split
  · rename_i h
    obtain ⟨hg,a0,a1⟩:=isVal_t h.1
    obtain ⟨q1,q2⟩:=good_insts hg a0 a1 h.2
    exact ((good_vals hg q2).2.1 _ q1).1
  · simp
theorem argsI_own (H : Heap) (F : Func) (n : Int) (hF : Enc.good F) (hn : Enc.good n) : CallsD Tryz.prog 15 [vFunc F, .d (.int .i64 n)] H fun r H' => ∃ s : AS Int, r = .tup [s.v, .d (.bool (isVal F n))] ∧ s.l = argL F n ∧ New H H' s := by
  have h3:Enc.good [n]:=⟨by simp,fun x hx=>by simp at hx;subst hx;exact hn⟩
  cases hg:goodF F with
  | false =>
    have hv:isVal F n=false:=by simp [isVal,hg]
    have ha:argL F n=[]:=by simp [argL,hv]
    refine calls_of Tryz.func15 en_15 rfl (of_decide_eq_true rfl) (W_run mixed ⟨[K_48,K_49,K_57],[K_48h,K_49h,K_57h],[58],35,H.length,[0,1,2,4,5,6,7,20,29],[14,20,29]⟩ (fun _=>[]) (by kernel_rfl) ?_)
    simp only [Tryz.f15,stripX,stripOps,pickOps]
    simp [K_48_f,K_48_e,K_49_f,K_49_e,K_57_f,K_57_e,K_48h_f,K_48h_e,K_49h_f,K_49h_e,K_57h_f,K_57h_e,K_48h_g,K_49h_g,K_57h_g,-V.flat,-V.one,one_int,one_bool,one_str,one_nilp,one_rp,one_nilsl,one_ro,one_cl,one_nilf,one_nili,one_ifc,one_ptr,one_sl,one_clo,flat_d,flat_ptr,flat_sl,flat_clo,flat_agg,hF,viewV_f hg,retQ]
    exact fin_nil fun H' h'=>⟨_,by rw [hv],ha.symm,h'⟩
  | true =>
    have ev:allIn [n] 0 (IntKind.i64.wrap (many F - 1))=isVal F n:=by rw [allIn1,isVal_inR hg]
    cases hv:isVal F n with
    | false =>
      have ha:argL F n=[]:=by simp [argL,hv]
      rw [hv] at ev
      refine calls_of Tryz.func15 en_15 rfl (of_decide_eq_true rfl) (W_run mixed ⟨[K_48,K_49,K_57],[K_48h,K_49h,K_57h],[58],35,H.length,[0,1,2,4,5,6,7,20,29],[14,20,29]⟩ (fun _=>[]) (by kernel_rfl) ?_)
      simp only [Tryz.f15,stripX,stripOps,pickOps]
      simp [K_48_f,K_48_e,K_49_f,K_49_e,K_57_f,K_57_e,K_48h_f,K_48h_e,K_49h_f,K_49h_e,K_57h_f,K_57h_e,K_48h_g,K_49h_g,K_57h_g,-V.flat,-V.one,one_int,one_bool,one_str,one_nilp,one_rp,one_nilsl,one_ro,one_cl,one_nilf,one_nili,one_ifc,one_ptr,one_sl,one_clo,flat_d,flat_ptr,flat_sl,flat_clo,flat_agg,hF,viewV_t hg,h3,viewD_total,ev,retQ]
      exact fin_nil fun H' h'=>⟨_,rfl,ha.symm,h'⟩
    | true =>
      rw [hv] at ev
      obtain ⟨_,g0,g1⟩:=isVal_t hv
      have hok:okV (viewD F) n:=(view_spec hg g0 g1).1
      have hvs:=(view_spec hg g0 g1).2
      by_cases b0:bk (viewD F) n < 0
      · have ha:argL F n=[]:=by
          rcases hvs with ⟨_,_,q⟩ | ⟨q,_⟩
          · simp [argL,q]
          · omega
        refine calls_of Tryz.func15 en_15 rfl (of_decide_eq_true rfl) (W_run mixed ⟨[K_48,K_49,K_57],[K_48h,K_49h,K_57h],[58],35,H.length,[0,1,2,4,5,6,7,20,29],[14,20,29]⟩ (fun _=>[]) (by kernel_rfl) ?_)
        simp only [Tryz.f15,stripX,stripOps,pickOps]
        simp [K_48_f,K_48_e,K_49_f,K_49_e,K_57_f,K_57_e,K_48h_f,K_48h_e,K_49h_f,K_49h_e,K_57h_f,K_57h_e,K_48h_g,K_49h_g,K_57h_g,-V.flat,-V.one,one_int,one_bool,one_str,one_nilp,one_rp,one_nilsl,one_ro,one_cl,one_nilf,one_nili,one_ifc,one_ptr,one_sl,one_clo,flat_d,flat_ptr,flat_sl,flat_clo,flat_agg,hF,viewV_t hg,h3,viewD_total,ev,hok,instV,b0,retQ]
        exact fin_nil fun H' h'=>⟨_,rfl,ha.symm,h'⟩
      by_cases a0:atV (viewD F) n < 0
      · have ha:argL F n=[]:=by
          rcases hvs with ⟨_,_,q⟩ | ⟨_,_,_,_,_,q⟩
          · simp [argL,q]
          · rw [if_neg (by omega)] at q;simp [argL,q]
        refine calls_of Tryz.func15 en_15 rfl (of_decide_eq_true rfl) (W_run mixed ⟨[K_48,K_49,K_57],[K_48h,K_49h,K_57h],[58],35,H.length,[0,1,2,4,5,6,7,20,29],[14,20,29]⟩ (fun _=>[]) (by kernel_rfl) ?_)
        simp only [Tryz.f15,stripX,stripOps,pickOps]
        simp [K_48_f,K_48_e,K_49_f,K_49_e,K_57_f,K_57_e,K_48h_f,K_48h_e,K_49h_f,K_49h_e,K_57h_f,K_57h_e,K_48h_g,K_49h_g,K_57h_g,-V.flat,-V.one,one_int,one_bool,one_str,one_nilp,one_rp,one_nilsl,one_ro,one_cl,one_nilf,one_nili,one_ifc,one_ptr,one_sl,one_clo,flat_d,flat_ptr,flat_sl,flat_clo,flat_agg,hF,viewV_t hg,h3,viewD_total,ev,hok,instV,b0,a0,retQ]
        exact fin_nil fun H' h'=>⟨_,rfl,ha.symm,h'⟩
      · have ei:=instV_of (v:=viewD F) (n:=n) (by omega) (by omega)
        obtain ⟨e1,e2⟩:=inst_same hg g0 g1 (by omega) (by omega)
        have ha:argL F n=(instI (viewD F) n).args_:=by
          rw [e2];simp only [argL,hv,e1,true_and];exact if_pos (by show 0≤bk (viewD F) n;omega)
        have hl:=argL_len (F:=F) (n:=n)
        rw [ha] at hl
        refine calls_of Tryz.func15 en_15 rfl (of_decide_eq_true rfl) (W_run mixed ⟨[K_48,K_49,K_57],[K_48h,K_49h,K_57h],[58],35,H.length,[0,1,2,4,5,6,7,20,29],[14,20,29]⟩ (fun _=>[]) (by kernel_rfl) ?_)
        simp only [Tryz.f15,stripX,stripOps,pickOps]
        simp [K_48_f,K_48_e,K_49_f,K_49_e,K_57_f,K_57_e,K_48h_f,K_48h_e,K_49h_f,K_49h_e,K_57h_f,K_57h_e,K_48h_g,K_49h_g,K_57h_g,-V.flat,-V.one,one_int,one_bool,one_str,one_nilp,one_rp,one_nilsl,one_ro,one_cl,one_nilf,one_nili,one_ifc,one_ptr,one_sl,one_clo,flat_d,flat_ptr,flat_sl,flat_clo,flat_agg,hF,viewV_t hg,h3,viewD_total,ev,hok,ei,retQ]
        refine (cloneInts_own _ (instI (viewD F) n).args_ hl).mono ?_
        rintro r H' ⟨s,rfl,hs,hn⟩
        obtain ⟨R,rfl⟩:=hn.only.tail
        simp [K_48_f,K_48_e,K_49_f,K_49_e,K_57_f,K_57_e,K_48h_f,K_48h_e,K_49h_f,K_49h_e,K_57h_f,K_57h_e,K_48h_g,K_49h_g,K_57h_g,-V.flat,-V.one,one_int,one_bool,one_str,one_nilp,one_rp,one_nilsl,one_ro,one_cl,one_nilf,one_nili,one_ifc,one_ptr,one_sl,one_clo,flat_d,flat_ptr,flat_sl,flat_clo,flat_agg,retQ]
        exact fin_new (a:=s) (hn.own.beh0 [_,_] hn.fresh rfl) (Only.app _ _ _) (fun j hj=>by have:=hn.fresh j hj;simp only [List.length_append] at this;omega) fun H' h'=>⟨s,rfl,hs.trans ha.symm,h'⟩
end Go.Proofs.YtnomiclfiijniaaGreat
end
