/- What both programs tell of a value's block, and whether it is there at a place. No condition. -/
import Derived.Test.YtnomiclfiijniaaGreatRows
import Derived.Test.YtnomiclfiijniaaGreatQS7
import Derived.Test.YtnomiclfiijniaaGreatQS9
import Derived.Test.YtnomiclfiijniaaGreatQS16
section
namespace Go.Proofs.YtnomiclfiijniaaGreat
set_option maxRecDepth 100000
set_option linter.unusedSimpArgs false
set_option linter.unusedVariables false
def isBlk (F:Func) (k:Int):Bool:=goodF F && inR k 0 (IntKind.i64.wrap (F.blocks_.length - 1))
theorem isBlk_t {F:Func} {k:Int} (hF:Enc.good F) (h:isBlk F k=true):goodF F=true∧0≤k∧k < F.blocks_.length:=by
  simp only [isBlk,Bool.and_eq_true] at h
  have:=inR_index (good_len hF.2) h.2
  exact ⟨h.1,this.1,by omega⟩
end Go.Proofs.YtnomiclfiijniaaGreat
end

section
namespace Go.Proofs.YtnomiclfiijniaaGreat
set_option maxRecDepth 100000
set_option linter.unusedSimpArgs false
set_option linter.unusedVariables false
theorem hasL_iff {l:List Int} {x:Int}:hasL l x=true ↔ x∈l:=by simp [hasL]
theorem Rch.ne {nx:List (List Int)} {fr but x:Int} (h:Rch nx fr but x):x ≠ but:=by
  cases h with
  | base h=>exact h
  | step _ _ h=>exact h
theorem rchB_get {nx:List (List Int)} {fr but:Int} {k:Nat} (h:k < nx.length):((rchB nx fr but)[k]?.getD false=true) ↔ Rch nx fr but k:=by
  simp [rchB,h]
theorem domE_iff {nx:List (List Int)} {b k:Nat} (h:b < nx.length):domE nx b k=true ↔ Rch nx 0 (-1) b∧¬ Rch nx 0 k b:=by
  unfold domE
  rw [Bool.and_eq_true,rchB_get h,Bool.not_eq_true']
  refine and_congr Iff.rfl ⟨fun q r=>?_,fun q=>?_⟩
  · rw [(rchB_get h).2 r] at q;cases q
  · cases e:(rchB nx 0 k)[b]?.getD false with
    | false=>rfl
    | true=>exact absurd ((rchB_get h).1 e) q
theorem domL_get {nx:List (List Int)} {b k:Nat} (hb:b < nx.length) (hk:k < nx.length):(((domL nx)[b]?.getD default)[k]?.getD false=true) ↔ Rch nx 0 (-1) k∧Rch nx 0 (-1) b∧¬ Rch nx 0 k b:=by
  have e:((domL nx)[b]?.getD default)[k]?.getD false=domF nx (listB (rchB nx 0 (-1))) (listB (rchB nx 0 (-1))).length b k:=by simp [domL,hb,rowOf,hk]
  rw [e,domF,Bool.and_eq_true,domE_iff hb,List.take_length,List.contains_iff_mem,listB_rchB]
  constructor
  · rintro ⟨⟨_,_,h⟩,h2⟩;exact ⟨h,h2⟩
  · rintro ⟨h,h2⟩;exact ⟨⟨by omega,by omega,h⟩,h2⟩
theorem allS_get {F:Func} {b k:Nat} (hb:b < F.blocks_.length) (hk:k < F.blocks_.length):hasL ((allS F)[b]?.getD default) k=true ↔ Rch (nextL F.blocks_) 0 (-1) k∧Rch (nextL F.blocks_) 0 (-1) b∧¬ Rch (nextL F.blocks_) 0 k b:=by
  have hln:(nextL F.blocks_).length=F.blocks_.length:=by simp [nextL]
  have e:(allS F)[b]?.getD default=if (b:Int)∈allR F then adS F b else []:=by simp [allS,hb]
  have mR:∀ x:Nat,x < F.blocks_.length→((x:Int)∈allR F ↔ Rch (nextL F.blocks_) 0 (-1) x):=fun x hx=>by
    show (x:Int)∈listB _ ↔ _
    rw [listB_rchB,hln]
    exact ⟨fun q=>q.2.2,fun q=>⟨by omega,by omega,q⟩⟩
  have mF:hasL (fromL F 0 k) b=true ↔ Rch (nextL F.blocks_) 0 k b:=by
    rw [hasL_iff]
    show (b:Int)∈listB _ ↔ _
    rw [listB_rchB,hln]
    exact ⟨fun q=>q.2.2,fun q=>⟨by omega,by omega,q⟩⟩
  rw [hasL_iff,e]
  by_cases hr:(b:Int)∈allR F
  · rw [if_pos hr,adS,List.mem_filter,hasL_iff,mR k hk,domS,mem_numsOf]
    have hb':=(mR b hb).1 hr
    simp only [Int.toNat_natCast,domP,Bool.or_eq_true,decide_eq_true_eq,Bool.not_eq_true']
    constructor
    · rintro ⟨⟨_,_,h⟩,h2⟩
      refine ⟨h2,hb',fun q=>?_⟩
      rcases h with h | h
      · exact q.ne h.symm
      · rw [mF.2 q] at h;cases h
    · rintro ⟨h,_,h2⟩
      refine ⟨⟨by omega,by omega,.inr ?_⟩,h⟩
      cases q:hasL (fromL F 0 k) b with
      | false=>rfl
      | true=>exact absurd (mF.1 q) h2
  · rw [if_neg hr]
    exact ⟨fun h=>absurd h List.not_mem_nil,fun h=>absurd ((mR b hb).2 h.2.1) hr⟩
theorem dom_same {F:Func} {b k:Nat} (hb:b < F.blocks_.length) (hk:k < F.blocks_.length):((domL (nextL F.blocks_))[b]?.getD default)[k]?.getD false=hasL ((allS F)[b]?.getD default) k:=by
  have hln:(nextL F.blocks_).length=F.blocks_.length:=by simp [nextL]
  exact Bool.eq_iff_iff.2 ((domL_get (by omega) (by omega)).trans (allS_get hb hk).symm)
def blkS (F:Func) (n:Int):List Block→Nat→Int
  | [],_=>-1
  | b :: bs,i=>if inR (IntKind.i64.wrap (n - cntB (F.blocks_.take i) F.params_)) 0 (IntKind.i64.wrap (IntKind.i64.wrap (b.params_ + b.insts_.length) - 1))=true then i else blkS F n bs (i + 1)
theorem l14Block_c (F:Func) (n:Int) (hF:Enc.good F):PureP Tryz.prog 53 [vFunc F,.d (.int .i64 n)] (· = .d (.int .i64 (blkS F n F.blocks_ 0))):=by
  have hlb:=good_len hF.2
  refine pure_of Tryz.func53 en_53 rfl rfl (W_run mixed ⟨[K_105,K_102],[K_105h,K_102h],[],32,0,[0,1,2,4,5,6,7,9,10,11,12,29],[12,29]⟩ (fun _=>[]) (by kernel_rfl) ?_)
  simp only [Tryz.f53,stripX,stripOps,pickOps]
  simp [K_105_f,K_105_e,K_102_f,K_102_e,K_105h_f,K_105h_e,K_102h_f,K_102h_e,K_105h_g,K_102h_g,hF]
  refine W_loopA (fun i:Nat=>[(1,.d (.int .i64 n)),(2,.ptr 0 2 0 0),(9,.d (dBlockS F.blocks_)),(10,.d (.int .i64 F.blocks_.length)),(11,.d (.int .i64 i))]) (fun _=>[.row 2 [[.d (.int .i64 F.params_),.d (dBlockS F.blocks_)]]]) (fun i=>i≤F.blocks_.length∧blkS F n (F.blocks_.drop i) i=blkS F n F.blocks_ 0) (fun i=>F.blocks_.length - i) 0 ?_ ?_ ?_
  · simp
  · simp
  rintro i ⟨hi,hm⟩
  refine W_run mixed ⟨[K_105,K_102],[K_105h,K_102h],[],32,0,[0,1,2,4,5,6,7,9,10,11,12,29],[12,29]⟩ (fun _=>[]) (by kernel_rfl) ?_
  simp only [stripX,stripOps,pickOps]
  simp [K_105_f,K_105_e,K_102_f,K_102_e,K_105h_f,K_105h_e,K_102h_f,K_102h_e,K_105h_g,K_102h_g,hF]
  refine ⟨fun h=>?_,fun h=>?_⟩
  · rw [drop_cons h] at hm
    simp only [blkS] at hm
    refine ⟨h,by omega,fun q=>?_,fun q=>⟨i + 1,⟨by omega, ?_⟩,by omega,by rw [wrap_id] <;> omega⟩⟩
    · rw [if_pos q] at hm;exact hm
    · rw [if_neg (by rw [q];decide)] at hm;exact hm
  · rw [List.drop_eq_nil_of_le h] at hm
    exact hm
noncomputable def K_53:Ent Tryz.prog:=Ent.p2 (α:=Func) (β:=Int) 53 (fun F n=>Enc.good F) (fun F n=>.d (.int .i64 (blkS F n F.blocks_ 0))) (fun F n hc=>l14Block_c F n hc)
theorem K_53_f:K_53.f=53:=rfl
theorem K_53_e (F0:Int) (F1:List Block) (n:Int):K_53.e [.agg [.d (.int .i64 F0),.d (dBlockS F1)],.d (.int .i64 n)]=some (Enc.good (Func.mk F0 F1),.d (.int .i64 (blkS (Func.mk F0 F1) n (Func.mk F0 F1).blocks_ 0)),[]):=by unfold K_53;exact Ent.p2_eq (α:=Func) (β:=Int) (Func.mk F0 F1) n
noncomputable def K_53h:EntH Tryz.prog:=EntH.pk2 (α:=Func) (β:=Int) 53 (fun F n=>Enc.good F) (fun F n=>.d (.int .i64 (blkS F n F.blocks_ 0))) (fun F n=>[]) (fun F n hc=>PureP.ans (l14Block_c F n hc))
theorem K_53h_f:K_53h.f=53:=rfl
theorem K_53h_g:K_53h.gro=true:=rfl
theorem K_53h_e {x1 x2:V} {H:Heap}:K_53h.e [x1,x2] H=guardR ((decA (α:=Func) H x1).1∧(decA (α:=Int) H x2).1) (peekR (Enc.good (decA (α:=Func) H x1).2) (.d (.int .i64 (blkS (decA (α:=Func) H x1).2 (decA (α:=Int) H x2).2 (decA (α:=Func) H x1).2.blocks_ 0))) ([]) H):=rfl
theorem cnt_step {F:Func} {b:Block} {bs:List Block} {i:Nat} (hF:F.blocks_.all headOk=true) (hp:0≤F.params_∧F.params_≤4) (hl:F.blocks_.length≤8) (hd:F.blocks_.drop i=b :: bs) :
    cntB (F.blocks_.take (i + 1)) F.params_=cntB (F.blocks_.take i) F.params_ + szI b∧0≤cntB (F.blocks_.take i) F.params_∧cntB (F.blocks_.take i) F.params_≤4 + 84 * 8:=by
  obtain ⟨t1,t2,hi,hbm⟩:=take_snoc hd
  obtain ⟨p0,p1,p2,e,e1,e2⟩:=headOk_sz (List.all_eq_true.1 hF b hbm)
  have htk:(F.blocks_.take i).all headOk=true:=List.all_eq_true.2 fun x hx=>List.all_eq_true.1 hF x (List.mem_of_mem_take hx)
  have hlen:(F.blocks_.take i).length=i:=by rw [List.length_take];omega
  obtain ⟨c1,c2,c3⟩:=cntB_sum (F.blocks_.take i) F.params_ htk hp.1 (by rw [hlen];omega)
  rw [hlen] at c3
  refine ⟨?_,by omega,by omega⟩
  rw [t1]
  have:cntB (F.blocks_.take i++[b]) F.params_=IntKind.i64.wrap (cntB (F.blocks_.take i) F.params_ + IntKind.i64.wrap (b.params_ + b.insts_.length)):=by simp [cntB]
  rw [this,e,wrap_id (by omega) (by omega)]
theorem blkS_none (F:Func) (n:Int) (hF:F.blocks_.all headOk=true) (hp:0≤F.params_∧F.params_≤4) (hl:F.blocks_.length≤8) (hn:-1000≤n∧n≤1000):∀ (bs:List Block) (i:Nat),F.blocks_.drop i=bs→n < cntB (F.blocks_.take i) F.params_→blkS F n bs i = -1
  | [],i,_,_=>rfl
  | b :: bs,i,hd,hlt=>by
    obtain ⟨t1,t2,hi,hbm⟩:=take_snoc hd
    obtain ⟨p0,p1,p2,e,e1,e2⟩:=headOk_sz (List.all_eq_true.1 hF b hbm)
    obtain ⟨c0,c1,c2⟩:=cnt_step hF hp hl hd
    have w1:IntKind.i64.wrap (n - cntB (F.blocks_.take i) F.params_)=n - cntB (F.blocks_.take i) F.params_:=wrap_sub (by omega) (by omega)
    have hno:∀ x,inR (n - cntB (F.blocks_.take i) F.params_) 0 x=false:=fun x=>inR_f.2 (by omega)
    simp only [blkS,w1,hno,Bool.false_eq_true,if_false]
    exact blkS_none F n hF hp hl hn bs (i + 1) t2 (by rw [c0];omega)
theorem blkS_loc (F:Func) (n:Int) (hF:F.blocks_.all headOk=true) (hp:0≤F.params_∧F.params_≤4) (hl:F.blocks_.length≤8) (hn:-1000≤n∧n≤1000):∀ (bs:List Block) (i:Nat),F.blocks_.drop i=bs→cntB (F.blocks_.take i) F.params_≤n→n < cntB (F.blocks_.take i) F.params_ + sumI bs →
    blkS F n bs i=((loc n bs i (cntB (F.blocks_.take i) F.params_)).1:Int)
  | [],i,_,h1,h2=>by simp only [sumI] at h2;omega
  | b :: bs, i, hd, h1, h2 => by
    obtain ⟨t1,t2,hi,hbm⟩:=take_snoc hd
    obtain ⟨p0,p1,p2,e,e1,e2⟩:=headOk_sz (List.all_eq_true.1 hF b hbm)
    obtain ⟨c0,c1,c2⟩:=cnt_step hF hp hl hd
    have w1:IntKind.i64.wrap (n - cntB (F.blocks_.take i) F.params_)=n - cntB (F.blocks_.take i) F.params_:=wrap_sub (by omega) (by omega)
    have w2:IntKind.i64.wrap (szI b - 1)=szI b - 1:=wrap_sub (by omega) (by omega)
    by_cases hc:n < cntB (F.blocks_.take i) F.params_ + szI b
    · have hyes:inR (n - cntB (F.blocks_.take i) F.params_) 0 (szI b - 1)=true:=inR_t.2 ⟨by omega,by omega⟩
      simp only [blkS,w1,e,w2,hyes,if_true,loc,if_pos hc]
    · have hno:inR (n - cntB (F.blocks_.take i) F.params_) 0 (szI b - 1)=false:=inR_f.2 (by omega)
      simp only [blkS,w1,e,w2,hno,Bool.false_eq_true,if_false,loc,if_neg hc]
      have:=blkS_loc F n hF hp hl hn bs (i + 1) t2 (by rw [c0];omega) (by rw [c0];simp only [sumI] at h2;omega)
      rw [c0] at this
      exact this
theorem firsts_get:∀ (bs:List Block) (m:Int) (k:Nat),k < bs.length→(firsts bs m)[k]? = some (cntB (bs.take k) m)
  | [],m,k,h=>by simp at h
  | b :: bs,m,0,h=>rfl
  | b :: bs,m,k + 1,h=>by
    simp only [firsts,List.getElem?_cons_succ,List.take_succ_cons,cntB_cons]
    exact firsts_get bs _ k (by simpa using h)
theorem blk_same {F:Func} {n:Int} (h:goodF F=true) (h0:0≤n) (h1:n < many F):blkS F n F.blocks_ 0=bk (viewD F) n:=by
  obtain ⟨hp,hl,hh,hm,hc,hs,_⟩:=goodF_spec h
  have ec:cntB (F.blocks_.take 0) F.params_=F.params_:=rfl
  rcases (view_spec h h0 h1).2 with ⟨q1,q2,_⟩ | ⟨q1,q4,q5,_⟩
  · rw [q1]
    exact blkS_none F n hh hp (by omega) (by omega) F.blocks_ 0 rfl (by rw [ec];exact q2)
  · obtain ⟨k,p1,p2,p3,_⟩:=loc_spec n F.blocks_ 0 F.params_ hh hp.1 (by omega) (by omega) (by omega)
    have hg:(viewD F).block_[n.toNat]? = some ((0 + k:Nat):Int):=by
      show (List.replicate F.params_.toNat (-1)++blkOf F.blocks_ 0)[n.toNat]? = _
      rw [List.getElem?_append_right (by simp;omega),List.length_replicate,show n.toNat - F.params_.toNat=(n - F.params_).toNat by omega]
      exact p3
    have hb:bk (viewD F) n=(k:Int):=by simp only [bk,hg,Option.getD_some];omega
    have:=blkS_loc F n hh hp (by omega) (by omega) F.blocks_ 0 rfl (by rw [ec];omega) (by rw [ec];omega)
    rw [this,ec,p2,hb]
    omega
noncomputable def thereS (F:Func) (ds:List (List Int)) (n b a:Int):Bool :=
  if blkS F n F.blocks_ 0 < 0 then true else if blkS F n F.blocks_ 0=b then decide (IntKind.i64.wrap (IntKind.i64.wrap (n - cntB (F.blocks_.take b.toNat) F.params_) - (F.blocks_[b.toNat]?.getD default).params_) < a)
  else hasL (ds[b.toNat]?.getD default) (blkS F n F.blocks_ 0)
theorem l14There_c (F:Func) (ds:List (List Int)) (n b a:Int) (hF:Enc.good F) (h0:0≤b) (h1:b < F.blocks_.length) (hd:ds.length=F.blocks_.length) (hl:∀ l∈ds,l.length≤1000) :
    PureP Tryz.prog 143 [vFunc F,.d (dIntSS ds),.d (.int .i64 n),.d (.int .i64 b),.d (.int .i64 a)] (· = .d (.bool (thereS F ds n b a))):=by
  have hlb:=good_len hF.2
  refine pure_of Tryz.func143 en_143 rfl rfl (W_run mixed ⟨[K_53,K_88,K_105],[K_53h,K_88h,K_105h],[],42,0,[0,1,2,3,4,5,10,11,15,18],[15,18]⟩ (fun | 6=>[0,2,5,7,12,1,3,4,6,8,9,10,11,13,14] | _=>[]) (by kernel_rfl) ?_)
  simp only [Tryz.f143,stripX,stripOps,pickOps]
  simp [K_53_f,K_53_e,K_88_f,K_88_e,K_105_f,K_105_e,K_53h_f,K_53h_e,K_88h_f,K_88h_e,K_105h_f,K_105h_e,K_53h_g,K_88h_g,K_105h_g,hF]
  have hg:(ds[b.toNat]?.getD default).length≤1000:=by
    rw [List.getElem?_eq_getElem (by omega)]
    exact hl _ (List.getElem_mem _)
  refine ⟨fun q=>by simp [thereS,q],fun q=>⟨fun e=>⟨⟨h0,by omega⟩,hg, ?_⟩,fun e=>⟨⟨h0,by omega⟩,⟨h0,h1⟩, ?_⟩⟩⟩
  · unfold thereS;rw [if_neg (by omega),if_neg e]
  · unfold thereS;rw [if_neg (by omega),if_pos e]
noncomputable def K_143:Ent Tryz.prog:=Ent.p5 (α:=Func) (β:=List (List Int)) (γ:=Int) (δ:=Int) (ε:=Int) 143 (fun F ds n b a=>Enc.good F∧0≤b∧b < F.blocks_.length∧ds.length=F.blocks_.length∧∀ l∈ds,l.length≤1000) (fun F ds n b a=>.d (.bool (thereS F ds n b a))) (fun F ds n b a hc=>l14There_c F ds n b a hc.1 hc.2.1 hc.2.2.1 hc.2.2.2.1 hc.2.2.2.2)
theorem K_143_f:K_143.f=143:=rfl
theorem K_143_e (F0:Int) (F1:List Block) (ds:List (List Int)) (n:Int) (b:Int) (a:Int):K_143.e [.agg [.d (.int .i64 F0),.d (dBlockS F1)],.d (dIntSS ds),.d (.int .i64 n),.d (.int .i64 b),.d (.int .i64 a)]=some (Enc.good (Func.mk F0 F1)∧0≤b∧b < (Func.mk F0 F1).blocks_.length∧ds.length=(Func.mk F0 F1).blocks_.length∧∀ l∈ds,l.length≤1000,.d (.bool (thereS (Func.mk F0 F1) ds n b a)),[]):=by unfold K_143;exact Ent.p5_eq (α:=Func) (β:=List (List Int)) (γ:=Int) (δ:=Int) (ε:=Int) (Func.mk F0 F1) ds n b a
noncomputable def K_143h:EntH Tryz.prog:=EntH.pk5 (α:=Func) (β:=List (List Int)) (γ:=Int) (δ:=Int) (ε:=Int) 143 (fun F ds n b a=>Enc.good F∧0≤b∧b < F.blocks_.length∧ds.length=F.blocks_.length∧∀ l∈ds,l.length≤1000) (fun F ds n b a=>.d (.bool (thereS F ds n b a))) (fun F ds n b a=>[]) (fun F ds n b a hc=>PureP.ans (l14There_c F ds n b a hc.1 hc.2.1 hc.2.2.1 hc.2.2.2.1 hc.2.2.2.2))
theorem K_143h_f:K_143h.f=143:=rfl
theorem K_143h_g:K_143h.gro=true:=rfl
theorem K_143h_e {x1 x2 x3 x4 x5:V} {H:Heap}:K_143h.e [x1,x2,x3,x4,x5] H=guardR ((decA (α:=Func) H x1).1∧(decA (α:=List (List Int)) H x2).1∧(decA (α:=Int) H x3).1∧(decA (α:=Int) H x4).1∧(decA (α:=Int) H x5).1) (peekR (Enc.good (decA (α:=Func) H x1).2∧0≤(decA (α:=Int) H x4).2∧(decA (α:=Int) H x4).2 < (decA (α:=Func) H x1).2.blocks_.length∧(decA (α:=List (List Int)) H x2).2.length=(decA (α:=Func) H x1).2.blocks_.length∧∀ l∈(decA (α:=List (List Int)) H x2).2,l.length≤1000) (.d (.bool (thereS (decA (α:=Func) H x1).2 (decA (α:=List (List Int)) H x2).2 (decA (α:=Int) H x3).2 (decA (α:=Int) H x4).2 (decA (α:=Int) H x5).2))) ([]) H):=rfl
def thereW (w:Ways) (n b a:Int):Bool :=
  if bk w.view_.v n < 0 then true else if bk w.view_.v n=b then decide (atV w.view_.v n < a) else ((w.dom_[b.toNat]?.getD default)[(bk w.view_.v n).toNat]?.getD false)
def okW (w:Ways) (n b:Int):Prop:=okV w.view_.v n∧(0≤bk w.view_.v n→(0≤b∧b < w.dom_.length)∧bk w.view_.v n < (w.dom_[b.toNat]?.getD default).length)
theorem there_c (w:Ways) (n b a:Int) (h:okW w n b):PureP Tryz.prog 140 [.d (.rp 3 (dWays w)),.d (.int .i64 n),.d (.int .i64 b),.d (.int .i64 a)] (· = .d (.bool (thereW w n b a))):=by
  obtain ⟨hv,hd⟩:=h
  have e1:w.view_.v.block_[n.toNat]?.getD 0=bk w.view_.v n:=rfl
  by_cases q:bk w.view_.v n < 0
  · refine pure_of Tryz.func140 en_140 rfl rfl (W_run mixed ⟨[K_57],[K_57h],[],53,0,[0,1,2,3,8,9,12,33,36],[33,36]⟩ (fun _=>[]) (by kernel_rfl) ?_)
    simp only [Tryz.f140,stripX,stripOps,pickOps]
    simp [K_57_f,K_57_e,K_57h_f,K_57h_e,K_57h_g,hv,e1,q]
    exact ⟨hv.1,by simp [thereW,q]⟩
  by_cases q2:atV w.view_.v n < 0
  · refine pure_of Tryz.func140 en_140 rfl rfl (W_run mixed ⟨[K_57],[K_57h],[],53,0,[0,1,2,3,8,9,12,33,36],[33,36]⟩ (fun _=>[]) (by kernel_rfl) ?_)
    simp only [Tryz.f140,stripX,stripOps,pickOps]
    simp [K_57_f,K_57_e,K_57h_f,K_57h_e,K_57h_g,hv,e1,instV,q,q2]
    refine ⟨hv.1,fun e=>?_,fun e=>⟨(hd (by omega)).1,⟨by omega,(hd (by omega)).2⟩, ?_⟩⟩
    · unfold thereW;rw [if_neg q,if_pos e]
    · unfold thereW;rw [if_neg q,if_neg e]
  · refine pure_of Tryz.func140 en_140 rfl rfl (W_run mixed ⟨[K_57],[K_57h],[],53,0,[0,1,2,3,8,9,12,33,36],[33,36]⟩ (fun _=>[]) (by kernel_rfl) ?_)
    simp only [Tryz.f140,stripX,stripOps,pickOps]
    simp [K_57_f,K_57_e,K_57h_f,K_57h_e,K_57h_g,hv,e1,instV,q,q2]
    refine ⟨hv.1,fun e=>?_,fun e=>⟨(hd (by omega)).1,⟨by omega,(hd (by omega)).2⟩, ?_⟩⟩
    · unfold thereW;rw [if_neg q,if_pos e]
    · unfold thereW;rw [if_neg q,if_neg e]
noncomputable def K_140:Ent Tryz.prog:=Ent.p4 (α:=Ptr Ways) (β:=Int) (γ:=Int) (δ:=Int) 140 (fun w n b a=>okW w.v n b) (fun w n b a=>.d (.bool (thereW w.v n b a))) (fun w n b a hc=>there_c w.v n b a hc)
theorem K_140_f:K_140.f=140:=rfl
theorem K_140_e (w:Ways) (n:Int) (b:Int) (a:Int):K_140.e [.d (.rp 3 (dWays w)),.d (.int .i64 n),.d (.int .i64 b),.d (.int .i64 a)]=some (okW w n b,.d (.bool (thereW w n b a)),[]):=by unfold K_140;exact Ent.p4_eq (α:=Ptr Ways) (β:=Int) (γ:=Int) (δ:=Int) (Ptr.mk w) n b a
noncomputable def K_140h:EntH Tryz.prog:=EntH.pk4 (α:=Ptr Ways) (β:=Int) (γ:=Int) (δ:=Int) 140 (fun w n b a=>okW w.v n b) (fun w n b a=>.d (.bool (thereW w.v n b a))) (fun w n b a=>[]) (fun w n b a hc=>PureP.ans (there_c w.v n b a hc))
theorem K_140h_f:K_140h.f=140:=rfl
theorem K_140h_g:K_140h.gro=true:=rfl
theorem K_140h_e {x1 x2 x3 x4:V} {H:Heap}:K_140h.e [x1,x2,x3,x4] H=guardR ((decA (α:=Ptr Ways) H x1).1∧(decA (α:=Int) H x2).1∧(decA (α:=Int) H x3).1∧(decA (α:=Int) H x4).1) (peekR (okW (decA (α:=Ptr Ways) H x1).2.v (decA (α:=Int) H x2).2 (decA (α:=Int) H x3).2) (.d (.bool (thereW (decA (α:=Ptr Ways) H x1).2.v (decA (α:=Int) H x2).2 (decA (α:=Int) H x3).2 (decA (α:=Int) H x4).2))) ([]) H):=rfl
theorem good_flow {F : Func} (h : goodF F = true) : okFlow F := by
  obtain ⟨_,hl,_,_,_,_,hb⟩:=goodF_spec h
  have key:∀ b∈F.blocks_,b.jumps_.length≤2∧∀ j∈b.jumps_,0≤j.to_∧j.to_ < F.blocks_.length:=by
    intro b hbm
    have h1:=List.all_eq_true.1 hb b hbm
    simp only [bodyOk,Bool.and_eq_true] at h1
    have h2:=h1.2
    have js:jumpsOk F.blocks_ (many F) b.jumps_=true→∀ j∈b.jumps_,0≤j.to_∧j.to_ < F.blocks_.length:=fun q j hj=>by
      have q2:=List.all_eq_true.1 q j hj
      simp only [jumpOk,Bool.and_eq_true] at q2
      have:=inR_index (by omega) q2.1
      omega
    unfold endsOk at h2
    split at h2
    · simp only [Bool.and_eq_true,decide_eq_true_eq] at h2
      exact ⟨by omega,js h2.2.2⟩
    · split at h2
      · simp only [Bool.and_eq_true,decide_eq_true_eq] at h2
        exact ⟨by omega,js h2.2.2⟩
      · split at h2
        · simp only [Bool.and_eq_true,decide_eq_true_eq] at h2
          exact ⟨by omega,js h2.2.2⟩
        · cases h2
  refine ⟨⟨by omega,fun b hb=>(key b hb).1⟩,⟨by simp [nextL];omega,fun l hl=>?_⟩,by omega⟩
  obtain ⟨b,hb,rfl⟩:=List.mem_map.1 hl
  refine ⟨by simp [tos];exact (key b hb).1,fun x hx=>?_⟩
  obtain ⟨j,hj,rfl⟩:=List.mem_map.1 hx
  have:=(key b hb).2 j hj
  simp [nextL];omega
theorem okW_good {F:Func} {n b:Int} (h:goodF F=true) (h0:0≤n) (h1:n < many F) (b0:0≤b) (b1:b < F.blocks_.length):okW (waysV (viewD F)) n b:=by
  obtain ⟨hv,hq⟩:=view_spec h h0 h1
  refine ⟨hv,fun hb=>?_⟩
  have e0:(viewD F).blocks_=F.blocks_:=rfl
  have hln:(nextL F.blocks_).length=F.blocks_.length:=by simp [nextL]
  have e1:(waysV (viewD F)).dom_=domL (nextL F.blocks_):=rfl
  have e2:(domL (nextL F.blocks_)).length=F.blocks_.length:=by simp [domL,nextL]
  have e3:((domL (nextL F.blocks_))[b.toNat]?.getD default).length=F.blocks_.length:=by
    have:b.toNat < F.blocks_.length:=by omega
    simp [domL,nextL,this]
  have hb':0≤bk (viewD F) n:=hb
  rw [e1,e2,e3]
  refine ⟨⟨b0,b1⟩, ?_⟩
  show bk (viewD F) n < _
  rcases hq with ⟨q,_⟩ | ⟨_,q,_⟩
  · omega
  · exact q
theorem there_same {F : Func} {n b a : Int} (h : goodF F = true) (h0 : 0 ≤ n) (h1 : n < many F) (b0 : 0 ≤ b) (b1 : b < F.blocks_.length) : thereW (waysV (viewD F)) n b a = thereS F (allS F) n b a := by
  obtain ⟨hv,hq⟩:=view_spec h h0 h1
  have e1:(waysV (viewD F)).dom_=domL (nextL F.blocks_):=rfl
  have ev:(waysV (viewD F)).view_.v=viewD F:=rfl
  unfold thereW thereS
  rw [ev,e1,blk_same h h0 h1]
  by_cases c1:bk (viewD F) n < 0
  · rw [if_pos c1,if_pos c1]
  rw [if_neg c1,if_neg c1]
  by_cases c2:bk (viewD F) n=b
  · rw [if_pos c2,if_pos c2]
    have e2:atV (viewD F) n=IntKind.i64.wrap (IntKind.i64.wrap (n - cntB (F.blocks_.take b.toNat) F.params_) - (F.blocks_[b.toNat]?.getD default).params_):=by
      have ef:(viewD F).first_[b.toNat]?.getD 0=cntB (F.blocks_.take b.toNat) F.params_:=by
        show (firsts F.blocks_ F.params_)[b.toNat]?.getD 0=_
        rw [firsts_get _ _ _ (by omega)];rfl
      unfold atV blkAt
      rw [c2,ef];rfl
    rw [e2]
  · rw [if_neg c2,if_neg c2]
    have hk:(bk (viewD F) n).toNat < F.blocks_.length:=by
      rcases hq with ⟨q,_⟩ | ⟨_,q,_⟩ <;> omega
    have e3:(((bk (viewD F) n).toNat:Nat):Int)=bk (viewD F) n:=by omega
    rw [dom_same (by omega) hk,e3]
theorem allS_ok {F:Func} (hf:okFlow F):(allS F).length=F.blocks_.length∧∀ l∈allS F,l.length≤1000:=by
  refine ⟨by simp [allS],fun l hl=>?_⟩
  obtain ⟨k,_,rfl⟩:=List.mem_map.1 hl
  split
  · have:=domS_len hf k
    have q:=List.length_filter_le (hasL (allR F)) (domS F k)
    unfold adS;omega
  · simp
end Go.Proofs.YtnomiclfiijniaaGreat
end
