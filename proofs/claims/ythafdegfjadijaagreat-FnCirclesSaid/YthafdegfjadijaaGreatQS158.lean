/- DepthOf of both programs, closed. No condition. -/
import Derived.Test.YthafdegfjadijaaGreatQS157
namespace Go.Proofs.YthafdegfjadijaaGreat
set_option maxRecDepth 100000
set_option linter.unusedSimpArgs false
set_option linter.unusedVariables false
theorem loV_len {F:Func} (hg:goodF F=true) (h:Int):(lpL (nextL F.blocks_) h).length≤8:=by
  have:=numsOf_len (lpN (nextL F.blocks_) h) (nextL F.blocks_).length
  have:=(good_flow hg).2.1.1
  unfold lpL;omega
theorem inI_c (F:Func) (hg:goodF F=true) (h k:Int):PureP Tryz.prog 49 [.d (lpD (nextL F.blocks_) h),.d (.int .i64 k)] (· = .d (.bool (hasL (loV F h) k))):=by
  have h8:=loV_len hg h
  by_cases hs:stN (nextL F.blocks_) h=[]
  · rw [lpD,loV,if_pos hs,if_pos hs]
    exact (contains_c [] k (by simp)).rdB (Rd1.list (vs:=[.d .nilsl,.d (.int .i64 k)]) (vs':=[.d (dIntS []),.d (.int .i64 k)]) ⟨Rd1.nilL,Rd1.d,trivial⟩)
  · rw [lpD,loV,if_neg hs,if_neg hs]
    exact contains_c _ k (by omega)
theorem inS_c (F:Func) (hg:goodF F=true) (h k:Int):PureP Tryz.prog 53 [.d (lpD (nextL F.blocks_) h),.d (.int .i64 k)] (· = .d (.bool (hasL (loV F h) k))):=by
  have h8:=loV_len hg h
  by_cases hs:stN (nextL F.blocks_) h=[]
  · rw [lpD,loV,if_pos hs,if_pos hs]
    exact (l1Has_c [] k (by simp)).rdB (Rd1.list (vs:=[.d .nilsl,.d (.int .i64 k)]) (vs':=[.d (dIntS []),.d (.int .i64 k)]) ⟨Rd1.nilL,Rd1.d,trivial⟩)
  · rw [lpD,loV,if_neg hs,if_neg hs]
    exact l1Has_c _ k (by omega)
noncomputable def dpN (F:Func) (k:Int) (i:Nat):Nat:=(List.range i).countP fun h:Nat=>hasL (loV F h) k
theorem dpN_succ (F:Func) (k:Int) (i:Nat):dpN F k (i + 1)=dpN F k i + if hasL (loV F i) k=true then 1 else 0:=by
  unfold dpN
  rw [List.range_succ,List.countP_append,List.countP_cons,List.countP_nil]
  simp
theorem dpN_le (F:Func) (k:Int) (i:Nat):dpN F k i≤i:=by
  have:=List.countP_le_length (p:=fun h:Nat=>hasL (loV F h) k) (l:=List.range i)
  rw [List.length_range] at this
  exact this
noncomputable def dpB (F:Func) (k:Int):Bool:=isBlk F k && hasL (allR F) k
noncomputable def dpR (F:Func) (k:Int):V:=if dpB F k=true then .tup [.d (.int .i64 (dpN F k F.blocks_.length)),.d (.bool true)] else .tup [.d (.int .i64 0),.d (.bool false)]
theorem dpI_c (F : Func) (k : Int) (hF : Enc.good F) : PureP Tryz.prog 30 [vFunc F, .d (.int .i64 k)] (· = dpR F k) := by
  cases hb:isBlk F k with
  | false =>
    have e:dpR F k=.tup [.d (.int .i64 0),.d (.bool false)]:=by simp [dpR,dpB,hb]
    rw [e]
    cases hg:goodF F with
    | false =>
      refine pure_of Tryz.func30 en_30 rfl rfl (W_run mixed ⟨[K_33,K_44,K_35,K_39,K_56],[K_33h,K_44h,K_35h,K_39h,K_56h],[49],47,0,[0,1,2,4,5,6,7,8,27,33,34,35,42],[13,19,27,35,42]⟩ (fun _=>[]) (by kernel_rfl) ?_)
      simp only [Tryz.f30,stripX,stripOps,pickOps]
      simp [K_33_f,K_33_e,K_44_f,K_44_e,K_35_f,K_35_e,K_39_f,K_39_e,K_56_f,K_56_e,K_33h_f,K_33h_e,K_44h_f,K_44h_e,K_35h_f,K_35h_e,K_39h_f,K_39h_e,K_56h_f,K_56h_e,K_33h_g,K_44h_g,K_35h_g,K_39h_g,K_56h_g,hF,viewV_f hg]
    | true =>
      have hv:inR k 0 (IntKind.i64.wrap (F.blocks_.length - 1))=false:=by simpa [isBlk,hg] using hb
      refine pure_of Tryz.func30 en_30 rfl rfl (W_run mixed ⟨[K_33,K_44,K_35,K_39,K_56],[K_33h,K_44h,K_35h,K_39h,K_56h],[49],47,0,[0,1,2,4,5,6,7,8,27,33,34,35,42],[13,19,27,35,42]⟩ (fun _=>[]) (by kernel_rfl) ?_)
      simp only [Tryz.f30,stripX,stripOps,pickOps]
      simp [K_33_f,K_33_e,K_44_f,K_44_e,K_35_f,K_35_e,K_39_f,K_39_e,K_56_f,K_56_e,K_33h_f,K_33h_e,K_44h_f,K_44h_e,K_35h_f,K_35h_e,K_39h_f,K_39h_e,K_56h_f,K_56h_e,K_33h_g,K_44h_g,K_35h_g,K_39h_g,K_56h_g,hF,viewV_t hg,viewD_blocks,hv]
  | true =>
    obtain ⟨hg,h0,h1⟩:=isBlk_n hF hb
    have hv:inR k 0 (IntKind.i64.wrap (F.blocks_.length - 1))=true:=by simpa [isBlk,hg] using hb
    obtain ⟨hv1,hn1,hp1⟩:=good_flow hg
    have hln:(nextL F.blocks_).length=F.blocks_.length:=by simp [nextL]
    have hp2:0 < (nextL F.blocks_).length:=by omega
    obtain ⟨q,rfl⟩:=Int.eq_ofNat_of_zero_le h0
    have hq:q < F.blocks_.length:=by omega
    obtain ⟨bits,hbits⟩:∃ bits,bits=rchB (nextL F.blocks_) 0 (-1):=⟨_,rfl⟩
    have bl:bits.length=F.blocks_.length:=by rw [hbits];simp [rchB,nextL]
    have bq0:bits[q]?.getD false=hasL (allR F) q:=by
      rw [hbits]
      refine Bool.eq_iff_iff.2 ?_
      rw [rchB_get (by omega),hasL_iff,mem_allR hg]
    have bq1:∀ h:q < bits.length,bits[q]=hasL (allR F) q:=fun h=>by rw [← bq0,List.getElem?_eq_getElem h];rfl
    cases hr:hasL (allR F) (q:Int) with
    | false =>
      have e:dpR F q=.tup [.d (.int .i64 0),.d (.bool false)]:=by simp [dpR,dpB,hb,hr]
      rw [hr] at bq0 bq1
      rw [e]
      refine pure_of Tryz.func30 en_30 rfl rfl (W_run mixed ⟨[K_33,K_44,K_35,K_39,K_56],[K_33h,K_44h,K_35h,K_39h,K_56h],[49],47,0,[0,1,2,4,5,6,7,8,27,33,34,35,42],[13,19,27,35,42]⟩ (fun _=>[]) (by kernel_rfl) ?_)
      simp only [Tryz.f30,stripX,stripOps,pickOps]
      simp [K_33_f,K_33_e,K_44_f,K_44_e,K_35_f,K_35_e,K_39_f,K_39_e,K_56_f,K_56_e,K_33h_f,K_33h_e,K_44h_f,K_44h_e,K_35h_f,K_35h_e,K_39h_f,K_39h_e,K_56h_f,K_56h_e,K_33h_g,K_44h_g,K_35h_g,K_39h_g,K_56h_g,hF,viewV_t hg,viewD_blocks,hv,hv1,hn1,hp2,← hbits,bl,bq0,bq1,hq]
    | true =>
      have e:dpR F q=.tup [.d (.int .i64 (dpN F q F.blocks_.length)),.d (.bool true)]:=by simp [dpR,dpB,hb,hr]
      rw [hr] at bq0 bq1
      rw [e]
      obtain ⟨n,hn⟩:∃ n,n=F.blocks_.length:=⟨_,rfl⟩
      have hvb:(viewD F).blocks_=F.blocks_:=viewD_blocks F
      rw [← hn] at hv hq ⊢
      have hv8:=hv1.1
      refine pure_of Tryz.func30 en_30 rfl rfl (W_run mixed ⟨[K_33,K_44,K_35,K_39,K_56],[K_33h,K_44h,K_35h,K_39h,K_56h],[49],47,0,[0,1,2,4,5,6,7,8,27,33,34,35,42],[13,19,27,35,42]⟩ (fun _=>[]) (by kernel_rfl) ?_)
      simp only [Tryz.f30,stripX,stripOps,pickOps]
      simp [K_33_f,K_33_e,K_44_f,K_44_e,K_35_f,K_35_e,K_39_f,K_39_e,K_56_f,K_56_e,K_33h_f,K_33h_e,K_44h_f,K_44h_e,K_35h_f,K_35h_e,K_39h_f,K_39h_e,K_56h_f,K_56h_e,K_33h_g,K_44h_g,K_35h_g,K_39h_g,K_56h_g,hF,viewV_t hg,hvb,hv,hv1,hn1,hp2,← hbits,bl,bq0,bq1,hq,← hn]
      refine W_loopA (fun i:Nat=>[(1,.d (.int .i64 q)),(2,.ptr 0 2 0 0),(6,.d (.rp 5 (dView (viewD F)))),(7,.d (.int .i64 (dpN F q i))),(33,.d (.int .i64 n)),(34,.d (.int .i64 i))])
        (fun _=>[.row 2 [[.d (.int .i64 F.params_),.d (dBlockS F.blocks_)]]]) (fun i=>i≤n) (fun i=>n - i) 0 ?_ (Nat.zero_le _) ?_
      · simp [dpN]
      intro i hi
      replace hi:i≤n:=hi
      by_cases h:i < n
      · have wi:IntKind.i64.wrap ((i:Int) + 1)=((i + 1:Nat):Int):=by rw [wrap_id] <;> omega
        have hin:(i:Int) < (nextL F.blocks_).length:=by omega
        have ds:=dpN_succ F q i
        have dl:=dpN_le F q i
        refine W_run mixed ⟨[K_33,K_44,K_35,K_39,K_56],[K_33h,K_44h,K_35h,K_39h,K_56h],[49],47,0,[0,1,2,4,5,6,7,8,27,33,34,35,42],[13,19,27,35,42]⟩ (fun _=>[]) (by kernel_rfl) ?_
        simp only [stripX,stripOps,pickOps]
        simp [K_33_f,K_33_e,K_44_f,K_44_e,K_35_f,K_35_e,K_39_f,K_39_e,K_56_f,K_56_e,K_33h_f,K_33h_e,K_44h_f,K_44h_e,K_35h_f,K_35h_e,K_39h_f,K_39h_e,K_56h_f,K_56h_e,K_33h_g,K_44h_g,K_35h_g,K_39h_g,K_56h_g,h,hvb,hv1,hn1,hin]
        rw [aft_call]
        refine ((inI_c F hg i q).calls rfl).mono ?_
        rintro r H1 ⟨rfl,rfl⟩
        cases hx:hasL (loV F i) (q:Int) with
        | true =>
          rw [hx,if_pos rfl] at ds
          have wd:IntKind.i64.wrap ((dpN F q i:Int) + 1)=((dpN F q (i + 1):Nat):Int):=by rw [wrap_id] <;> omega
          simp [K_33_f,K_33_e,K_44_f,K_44_e,K_35_f,K_35_e,K_39_f,K_39_e,K_56_f,K_56_e,K_33h_f,K_33h_e,K_44h_f,K_44h_e,K_35h_f,K_35h_e,K_39h_f,K_39h_e,K_56h_f,K_56h_e,K_33h_g,K_44h_g,K_35h_g,K_39h_g,K_56h_g,wi,wd]
          exact ⟨i + 1,by omega,by omega,rfl,rfl⟩
        | false =>
          rw [hx,if_neg (by decide)] at ds
          simp [K_33_f,K_33_e,K_44_f,K_44_e,K_35_f,K_35_e,K_39_f,K_39_e,K_56_f,K_56_e,K_33h_f,K_33h_e,K_44h_f,K_44h_e,K_35h_f,K_35h_e,K_39h_f,K_39h_e,K_56h_f,K_56h_e,K_33h_g,K_44h_g,K_35h_g,K_39h_g,K_56h_g,wi]
          exact ⟨i + 1,by omega,by omega,by rw [ds];rfl,rfl⟩
      · have ei:i=n:=by omega
        subst ei
        refine W_run mixed ⟨[K_33,K_44,K_35,K_39,K_56],[K_33h,K_44h,K_35h,K_39h,K_56h],[49],47,0,[0,1,2,4,5,6,7,8,27,33,34,35,42],[13,19,27,35,42]⟩ (fun _=>[]) (by kernel_rfl) ?_
        simp only [stripX,stripOps,pickOps]
        simp [K_33_f,K_33_e,K_44_f,K_44_e,K_35_f,K_35_e,K_39_f,K_39_e,K_56_f,K_56_e,K_33h_f,K_33h_e,K_44h_f,K_44h_e,K_35h_f,K_35h_e,K_39h_f,K_39h_e,K_56h_f,K_56h_e,K_33h_g,K_44h_g,K_35h_g,K_39h_g,K_56h_g,h]
noncomputable def K_30:Ent Tryz.prog:=Ent.p2 (α:=Func) (β:=Int) 30 (fun F k=>Enc.good F) (fun F k=>dpR F k) (fun F k hc=>dpI_c F k hc)
theorem K_30_f:K_30.f=30:=rfl
theorem K_30_e (F0:Int) (F1:List Block) (k:Int):K_30.e [.agg [.d (.int .i64 F0),.d (dBlockS F1)],.d (.int .i64 k)]=some (Enc.good (Func.mk F0 F1),dpR (Func.mk F0 F1) k,[]):=by unfold K_30;exact Ent.p2_eq (α:=Func) (β:=Int) (Func.mk F0 F1) k
noncomputable def K_30h:EntH Tryz.prog:=EntH.pk2 (α:=Func) (β:=Int) 30 (fun F k=>Enc.good F) (fun F k=>dpR F k) (fun F k=>[]) (fun F k hc=>PureP.ans (dpI_c F k hc))
theorem K_30h_f:K_30h.f=30:=rfl
theorem K_30h_g:K_30h.gro=true:=rfl
theorem K_30h_e {x1 x2:V} {H:Heap}:K_30h.e [x1,x2] H=guardR ((decA (α:=Func) H x1).1∧(decA (α:=Int) H x2).1) (peekR (Enc.good (decA (α:=Func) H x1).2) (dpR (decA (α:=Func) H x1).2 (decA (α:=Int) H x2).2) ([]) H):=rfl
theorem dpS_c (F : Func) (k : Int) (hF : Enc.good F) : PureP Tryz.prog 31 [vFunc F, .d (.int .i64 k)] (· = dpR F k) := by
  cases hb:isBlk F k with
  | false =>
    have e:dpR F k=.tup [.d (.int .i64 0),.d (.bool false)]:=by simp [dpR,dpB,hb]
    rw [e]
    refine pure_of Tryz.func31 en_31 rfl rfl (W_run mixed ⟨[K_47,K_40,K_58],[K_47h,K_40h,K_53h,K_58h],[],34,0,[0,1,2,4,5,6,7,18,21,22,23,29],[12,18,23,29]⟩ (fun _=>[]) (by kernel_rfl) ?_)
    simp only [Tryz.f31,stripX,stripOps,pickOps]
    simp [K_47_f,K_47_e,K_40_f,K_40_e,K_58_f,K_58_e,K_47h_f,K_47h_e,K_40h_f,K_40h_e,K_53h_f,K_53h_e,K_58h_f,K_58h_e,K_47h_g,K_40h_g,K_53h_g,K_58h_g,hF,hb]
  | true =>
    obtain ⟨hg,h0,h1⟩:=isBlk_n hF hb
    obtain ⟨hv1,hn1,hp1⟩:=good_flow hg
    have hv8:=hv1.1
    have hp1':(0:Int) < F.blocks_.length:=by omega
    obtain ⟨R,hR⟩:∃ R,R=allR F:=⟨_,rfl⟩
    have hR':fromL F 0 (-1)=R:=hR.symm
    have R8:R.length≤1000:=by have:=fromL_len hn1 0 (-1);rw [hR];unfold allR;omega
    cases hr:hasL R k with
    | false =>
      have e:dpR F k=.tup [.d (.int .i64 0),.d (.bool false)]:=by rw [hR] at hr;simp [dpR,dpB,hb,hr]
      rw [e]
      refine pure_of Tryz.func31 en_31 rfl rfl (W_run mixed ⟨[K_47,K_40,K_53,K_58],[K_47h,K_40h,K_53h,K_58h],[],34,0,[0,1,2,4,5,6,7,18,21,22,23,29],[12,18,23,29]⟩ (fun _=>[]) (by kernel_rfl) ?_)
      simp only [Tryz.f31,stripX,stripOps,pickOps]
      simp [K_47_f,K_47_e,K_40_f,K_40_e,K_53_f,K_53_e,K_58_f,K_58_e,K_47h_f,K_47h_e,K_40h_f,K_40h_e,K_53h_f,K_53h_e,K_58h_f,K_58h_e,K_47h_g,K_40h_g,K_53h_g,K_58h_g,hF,hb,hv1,hn1,hp1,hp1',hR',R8,hr]
    | true =>
      have e:dpR F k=.tup [.d (.int .i64 (dpN F k F.blocks_.length)),.d (.bool true)]:=by rw [hR] at hr;simp [dpR,dpB,hb,hr]
      rw [e]
      obtain ⟨n,hn⟩:∃ n,n=F.blocks_.length:=⟨_,rfl⟩
      rw [← hn]
      refine pure_of Tryz.func31 en_31 rfl rfl (W_run mixed ⟨[K_47,K_40,K_58],[K_47h,K_40h,K_58h],[53],34,0,[0,1,2,4,5,6,7,18,21,22,23,29],[12,18,23,29]⟩ (fun _=>[]) (by kernel_rfl) ?_)
      simp only [Tryz.f31,stripX,stripOps,pickOps]
      simp [K_47_f,K_47_e,K_40_f,K_40_e,K_58_f,K_58_e,K_47h_f,K_47h_e,K_40h_f,K_40h_e,K_58h_f,K_58h_e,K_47h_g,K_40h_g,K_58h_g,hF,hb,hv1,hn1,hp1,hp1',hR']
      rw [aft_call]
      refine ((l1Has_c R k R8).calls rfl).mono ?_
      rintro r H1 ⟨rfl,rfl⟩
      rw [hr]
      simp [K_47_f,K_47_e,K_40_f,K_40_e,K_58_f,K_58_e,K_47h_f,K_47h_e,K_40h_f,K_40h_e,K_58h_f,K_58h_e,K_47h_g,K_40h_g,K_58h_g,hF,hb,← hn]
      refine W_loopA (fun i:Nat=>[(1,.d (.int .i64 k)),(2,.ptr 0 2 0 0),(6,.d (.int .i64 (dpN F k i))),(21,.d (.int .i64 n)),(22,.d (.int .i64 i))])
        (fun _=>[.row 2 [[.d (.int .i64 F.params_),.d (dBlockS F.blocks_)]]]) (fun i=>i≤n) (fun i=>n - i) 0 ?_ (Nat.zero_le _) ?_
      · simp [dpN]
      intro i hi
      replace hi:i≤n:=hi
      by_cases h:i < n
      · have wi:IntKind.i64.wrap ((i:Int) + 1)=((i + 1:Nat):Int):=by rw [wrap_id] <;> omega
        have hin:(i:Int) < F.blocks_.length:=by omega
        have ds:=dpN_succ F k i
        have dl:=dpN_le F k i
        refine W_run mixed ⟨[K_47,K_40,K_58],[K_47h,K_40h,K_58h],[53],34,0,[0,1,2,4,5,6,7,18,21,22,23,29],[12,18,23,29]⟩ (fun _=>[]) (by kernel_rfl) ?_
        simp only [stripX,stripOps,pickOps]
        simp [K_47_f,K_47_e,K_40_f,K_40_e,K_58_f,K_58_e,K_47h_f,K_47h_e,K_40h_f,K_40h_e,K_58h_f,K_58h_e,K_47h_g,K_40h_g,K_58h_g,h,hg,hin]
        rw [aft_call]
        refine ((inS_c F hg i k).calls rfl).mono ?_
        rintro r H1 ⟨rfl,rfl⟩
        cases hx:hasL (loV F i) k with
        | true =>
          rw [hx,if_pos rfl] at ds
          have wd:IntKind.i64.wrap ((dpN F k i:Int) + 1)=((dpN F k (i + 1):Nat):Int):=by rw [wrap_id] <;> omega
          simp [K_47_f,K_47_e,K_40_f,K_40_e,K_58_f,K_58_e,K_47h_f,K_47h_e,K_40h_f,K_40h_e,K_58h_f,K_58h_e,K_47h_g,K_40h_g,K_58h_g,wi,wd]
          exact ⟨i + 1,by omega,by omega,rfl,rfl⟩
        | false =>
          rw [hx,if_neg (by decide)] at ds
          simp [K_47_f,K_47_e,K_40_f,K_40_e,K_58_f,K_58_e,K_47h_f,K_47h_e,K_40h_f,K_40h_e,K_58h_f,K_58h_e,K_47h_g,K_40h_g,K_58h_g,wi]
          exact ⟨i + 1,by omega,by omega,by rw [ds];rfl,rfl⟩
      · have ei:i=n:=by omega
        subst ei
        refine W_run mixed ⟨[K_47,K_40,K_58],[K_47h,K_40h,K_58h],[53],34,0,[0,1,2,4,5,6,7,18,21,22,23,29],[12,18,23,29]⟩ (fun _=>[]) (by kernel_rfl) ?_
        simp only [stripX,stripOps,pickOps]
        simp [K_47_f,K_47_e,K_40_f,K_40_e,K_58_f,K_58_e,K_47h_f,K_47h_e,K_40h_f,K_40h_e,K_58h_f,K_58h_e,K_47h_g,K_40h_g,K_58h_g,h]
noncomputable def K_31:Ent Tryz.prog:=Ent.p2 (α:=Func) (β:=Int) 31 (fun F k=>Enc.good F) (fun F k=>dpR F k) (fun F k hc=>dpS_c F k hc)
theorem K_31_f:K_31.f=31:=rfl
theorem K_31_e (F0:Int) (F1:List Block) (k:Int):K_31.e [.agg [.d (.int .i64 F0),.d (dBlockS F1)],.d (.int .i64 k)]=some (Enc.good (Func.mk F0 F1),dpR (Func.mk F0 F1) k,[]):=by unfold K_31;exact Ent.p2_eq (α:=Func) (β:=Int) (Func.mk F0 F1) k
noncomputable def K_31h:EntH Tryz.prog:=EntH.pk2 (α:=Func) (β:=Int) 31 (fun F k=>Enc.good F) (fun F k=>dpR F k) (fun F k=>[]) (fun F k hc=>PureP.ans (dpS_c F k hc))
theorem K_31h_f:K_31h.f=31:=rfl
theorem K_31h_g:K_31h.gro=true:=rfl
theorem K_31h_e {x1 x2:V} {H:Heap}:K_31h.e [x1,x2] H=guardR ((decA (α:=Func) H x1).1∧(decA (α:=Int) H x2).1) (peekR (Enc.good (decA (α:=Func) H x1).2) (dpR (decA (α:=Func) H x1).2 (decA (α:=Int) H x2).2) ([]) H):=rfl
end Go.Proofs.YthafdegfjadijaaGreat
