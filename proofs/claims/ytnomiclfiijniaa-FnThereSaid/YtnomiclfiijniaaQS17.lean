/- What both programs tell of a value's block, and whether it is there at a place. No condition. -/
import Derived.Test.YtnomiclfiijniaaRows
import Derived.Test.YtnomiclfiijniaaQE3
import Derived.Test.YtnomiclfiijniaaQS4
import Derived.Test.YtnomiclfiijniaaQS8
import Derived.Test.YtnomiclfiijniaaQS16
section
namespace Go.Proofs.Ytnomiclfiijniaa
set_option linter.unusedSimpArgs false
set_option linter.unusedVariables false
end Go.Proofs.Ytnomiclfiijniaa
end

section
namespace Go.Proofs.Ytnomiclfiijniaa
set_option maxRecDepth 100000
set_option linter.unusedSimpArgs false
set_option linter.unusedVariables false
theorem goodF_spec {F:Func} (h:goodF F=true):(0≤F.params_∧F.params_≤4)∧(1≤(F.blocks_.length:Int)∧F.blocks_.length≤8)∧F.blocks_.all headOk=true∧many F≤80∧many F=F.params_ + sumI F.blocks_∧0≤sumI F.blocks_∧F.blocks_.all (bodyOk F.blocks_ (many F))=true:=by
  simp only [goodF,Bool.and_eq_true,decide_eq_true_eq] at h
  obtain ⟨h1,h2,h3,h4,h5,h6⟩:=h
  have h1':=inR_t.1 h1
  have h2':=inR_t.1 h2
  obtain ⟨c1,c2,c3⟩:=cntB_sum F.blocks_ F.params_ h4 h1'.1 (by omega)
  exact ⟨h1',⟨h2'.1,by omega⟩,h4,h5,c1,c2,h6⟩
theorem view_spec {F:Func} {n:Int} (h:goodF F=true) (h0:0≤n) (h1:n < many F):okV (viewD F) n ∧
    ((bk (viewD F) n = -1∧n < F.params_∧instS F n F.blocks_ 0=(-1,-1)) ∨
     (0≤bk (viewD F) n∧bk (viewD F) n < F.blocks_.length∧F.params_≤n∧atV (viewD F) n < (blkAt (viewD F) n).insts_.length∧-4≤atV (viewD F) n∧instS F n F.blocks_ 0=if 0≤atV (viewD F) n then (bk (viewD F) n,atV (viewD F) n) else (-1,-1))):=by
  obtain ⟨hp,hl,hh,hm,hc,hs,_⟩:=goodF_spec h
  have ec:cntB (F.blocks_.take 0) F.params_=F.params_:=rfl
  by_cases hn:n < F.params_
  · have hg:(viewD F).block_[n.toNat]? = some (-1):=by
      show (List.replicate F.params_.toNat (-1)++blkOf F.blocks_ 0)[n.toNat]? = _
      rw [List.getElem?_append_left (by simp;omega),List.getElem?_replicate,if_pos (by omega)]
    have hb:bk (viewD F) n = -1:=by simp only [bk,hg,Option.getD_some]
    have hlt:=(List.getElem?_eq_some_iff.1 hg).1
    refine ⟨⟨⟨h0,by omega⟩,fun q=>by omega⟩,.inl ⟨hb,hn, ?_⟩⟩
    exact instS_none F n hh hp (by omega) (by omega) F.blocks_ 0 rfl (by rw [ec];exact hn)
  · obtain ⟨k,q1,q2,q3,s,q4,q5,q6,q7,q8,q9⟩:=loc_spec n F.blocks_ 0 F.params_ hh hp.1 (by omega) (by omega) (by omega)
    have hg:(viewD F).block_[n.toNat]? = some ((0 + k:Nat):Int):=by
      show (List.replicate F.params_.toNat (-1)++blkOf F.blocks_ 0)[n.toNat]? = _
      rw [List.getElem?_append_right (by simp;omega),List.length_replicate,show n.toNat - F.params_.toNat=(n - F.params_).toNat by omega]
      exact q3
    have hb:bk (viewD F) n=(k:Int):=by simp only [bk,hg,Option.getD_some];omega
    have hblk:blkAt (viewD F) n=F.blocks_[k]?.getD default:=by simp only [blkAt,hb,viewD_blocks];rfl
    obtain ⟨p0,p1,p2,e,e1,e2⟩:=headOk_sz q8
    have hat:atV (viewD F) n=(loc n F.blocks_ 0 F.params_).2:=by
      have hf:(viewD F).first_[k]?.getD 0=s:=by show (firsts F.blocks_ F.params_)[k]?.getD 0=s;rw [q4];rfl
      simp only [atV,hblk,hb,Int.toNat_natCast]
      have w1:IntKind.i64.wrap (n - s)=n - s:=wrap_sub (by omega) (by omega)
      rw [hf,q7,w1,wrap_sub (by omega) (by omega)]
    have hlt:=(List.getElem?_eq_some_iff.1 hg).1
    have hfl:=(List.getElem?_eq_some_iff.1 q4).1
    have hbl:(viewD F).blocks_.length=F.blocks_.length:=rfl
    have hff:(viewD F).first_=firsts F.blocks_ F.params_:=rfl
    have hi:=instS_loc F n hh hp (by omega) (by omega) F.blocks_ 0 rfl (by rw [ec];omega) (by rw [ec];omega)
    rw [ec] at hi
    refine ⟨⟨⟨h0,by omega⟩,fun _=>⟨by rw [hb,hff];omega,by rw [hb,hbl];omega,fun _=>by rw [hat,hblk];exact q9⟩⟩,.inr ⟨by omega,by omega,by omega,by rw [hat,hblk];exact q9,by rw [hat,q7];omega, ?_⟩⟩
    rw [hi,hat,hb,q2]
    simp
theorem isVal_t {F:Func} {n:Int} (h:isVal F n=true):goodF F=true∧0≤n∧n < many F:=by
  simp only [isVal,Bool.and_eq_true] at h
  obtain ⟨hp,hl,hh,hm,hc,hs,_⟩:=goodF_spec h.1
  have:=inR_t.1 h.2
  rw [wrap_sub (by omega) (by omega)] at this
  exact ⟨h.1,by omega,by omega⟩
end Go.Proofs.Ytnomiclfiijniaa
end

section
namespace Go.Proofs.Ytnomiclfiijniaa
set_option maxRecDepth 100000
set_option linter.unusedSimpArgs false
set_option linter.unusedVariables false
def isBlk (F:Func) (k:Int):Bool:=goodF F && inR k 0 (IntKind.i64.wrap (F.blocks_.length - 1))
theorem l13Is_c (F:Func) (k:Int) (hF:Enc.good F):PureP Try.prog 77 [vFunc F,.d (.int .i64 k)] (· = .d (.bool (isBlk F k))):=by
  refine pure_of Try.func77 en_77 rfl rfl (W_run mixed ⟨[K_23,K_44],[K_23h,K_44h],[],15,0,[0,1,2,4],[7]⟩ (fun _=>[]) (by kernel_rfl) ?_)
  simp only [Try.f77,stripX,stripOps,pickOps]
  simp [K_23_f,K_23_e,K_44_f,K_44_e,K_23h_f,K_23h_e,K_44h_f,K_44h_e,K_23h_g,K_44h_g,hF]
  repeat' first | apply And.intro | intro _
  all_goals simp [isBlk, *]
noncomputable def K_77:Ent Try.prog:=Ent.p2 (α:=Func) (β:=Int) 77 (fun F k=>Enc.good F) (fun F k=>.d (.bool (isBlk F k))) (fun F k hc=>l13Is_c F k hc)
theorem K_77_f:K_77.f=77:=rfl
theorem K_77_e (F0:Int) (F1:List Block) (k:Int):K_77.e [.agg [.d (.int .i64 F0),.d (dBlockS F1)],.d (.int .i64 k)]=some (Enc.good (Func.mk F0 F1),.d (.bool (isBlk (Func.mk F0 F1) k)),[]):=by unfold K_77;exact Ent.p2_eq (α:=Func) (β:=Int) (Func.mk F0 F1) k
noncomputable def K_77h:EntH Try.prog:=EntH.pk2 (α:=Func) (β:=Int) 77 (fun F k=>Enc.good F) (fun F k=>.d (.bool (isBlk F k))) (fun F k=>[]) (fun F k hc=>PureP.ans (l13Is_c F k hc))
theorem K_77h_f:K_77h.f=77:=rfl
theorem K_77h_g:K_77h.gro=true:=rfl
theorem K_77h_e {x1 x2:V} {H:Heap}:K_77h.e [x1,x2] H=guardR ((decA (α:=Func) H x1).1∧(decA (α:=Int) H x2).1) (peekR (Enc.good (decA (α:=Func) H x1).2) (.d (.bool (isBlk (decA (α:=Func) H x1).2 (decA (α:=Int) H x2).2))) ([]) H):=rfl
theorem isBlk_t {F:Func} {k:Int} (hF:Enc.good F) (h:isBlk F k=true):goodF F=true∧0≤k∧k < F.blocks_.length:=by
  simp only [isBlk,Bool.and_eq_true] at h
  have:=inR_index (good_len hF.2) h.2
  exact ⟨h.1,this.1,by omega⟩
end Go.Proofs.Ytnomiclfiijniaa
end

section
namespace Go.Proofs.Ytnomiclfiijniaa
set_option maxRecDepth 100000
set_option linter.unusedSimpArgs false
set_option linter.unusedVariables false
theorem hasL_iff {l:List Int} {x:Int}:hasL l x=true ↔ x∈l:=by simp [hasL]
theorem Rch.ne {nx:List (List Int)} {fr but x:Int} (h:Rch nx fr but x):x ≠ but:=by
  cases h with
  | base h=>exact h
  | step _ _ h=>exact h
theorem rchB_get {nx:List (List Int)} {fr but:Int} {k:Nat} (h:k < nx.length):((rchB nx fr but)[k]?.getD false=true) ↔ Rch nx fr but k:=by
  simp [rchB,h]
theorem domE_iff {nx:List (List Int)} {b k:Nat} (h:b < nx.length):domE nx b k=true ↔ Rch nx 0 (-1) b∧¬ Rch nx 0 k b:=by
  unfold domE
  rw [Bool.and_eq_true,rchB_get h,Bool.not_eq_true']
  refine and_congr Iff.rfl ⟨fun q r=>?_,fun q=>?_⟩
  · rw [(rchB_get h).2 r] at q;cases q
  · cases e:(rchB nx 0 k)[b]?.getD false with
    | false=>rfl
    | true=>exact absurd ((rchB_get h).1 e) q
theorem domL_get {nx:List (List Int)} {b k:Nat} (hb:b < nx.length) (hk:k < nx.length):(((domL nx)[b]?.getD default)[k]?.getD false=true) ↔ Rch nx 0 (-1) k∧Rch nx 0 (-1) b∧¬ Rch nx 0 k b:=by
  have e:((domL nx)[b]?.getD default)[k]?.getD false=domF nx (listB (rchB nx 0 (-1))) (listB (rchB nx 0 (-1))).length b k:=by simp [domL,hb,rowOf,hk]
  rw [e,domF,Bool.and_eq_true,domE_iff hb,List.take_length,List.contains_iff_mem,listB_rchB]
  constructor
  · rintro ⟨⟨_,_,h⟩,h2⟩;exact ⟨h,h2⟩
  · rintro ⟨h,h2⟩;exact ⟨⟨by omega,by omega,h⟩,h2⟩
theorem allS_get {F:Func} {b k:Nat} (hb:b < F.blocks_.length) (hk:k < F.blocks_.length):hasL ((allS F)[b]?.getD default) k=true ↔ Rch (nextL F.blocks_) 0 (-1) k∧Rch (nextL F.blocks_) 0 (-1) b∧¬ Rch (nextL F.blocks_) 0 k b:=by
  have hln:(nextL F.blocks_).length=F.blocks_.length:=by simp [nextL]
  have e:(allS F)[b]?.getD default=if (b:Int)∈allR F then adS F b else []:=by simp [allS,hb]
  have mR:∀ x:Nat,x < F.blocks_.length→((x:Int)∈allR F ↔ Rch (nextL F.blocks_) 0 (-1) x):=fun x hx=>by
    show (x:Int)∈listB _ ↔ _
    rw [listB_rchB,hln]
    exact ⟨fun q=>q.2.2,fun q=>⟨by omega,by omega,q⟩⟩
  have mF:hasL (fromL F 0 k) b=true ↔ Rch (nextL F.blocks_) 0 k b:=by
    rw [hasL_iff]
    show (b:Int)∈listB _ ↔ _
    rw [listB_rchB,hln]
    exact ⟨fun q=>q.2.2,fun q=>⟨by omega,by omega,q⟩⟩
  rw [hasL_iff,e]
  by_cases hr:(b:Int)∈allR F
  · rw [if_pos hr,adS,List.mem_filter,hasL_iff,mR k hk,domS,mem_numsOf]
    have hb':=(mR b hb).1 hr
    simp only [Int.toNat_natCast,domP,Bool.or_eq_true,decide_eq_true_eq,Bool.not_eq_true']
    constructor
    · rintro ⟨⟨_,_,h⟩,h2⟩
      refine ⟨h2,hb',fun q=>?_⟩
      rcases h with h | h
      · exact q.ne h.symm
      · rw [mF.2 q] at h;cases h
    · rintro ⟨h,_,h2⟩
      refine ⟨⟨by omega,by omega,.inr ?_⟩,h⟩
      cases q:hasL (fromL F 0 k) b with
      | false=>rfl
      | true=>exact absurd (mF.1 q) h2
  · rw [if_neg hr]
    exact ⟨fun h=>absurd h List.not_mem_nil,fun h=>absurd ((mR b hb).2 h.2.1) hr⟩
theorem dom_same {F:Func} {b k:Nat} (hb:b < F.blocks_.length) (hk:k < F.blocks_.length):((domL (nextL F.blocks_))[b]?.getD default)[k]?.getD false=hasL ((allS F)[b]?.getD default) k:=by
  have hln:(nextL F.blocks_).length=F.blocks_.length:=by simp [nextL]
  exact Bool.eq_iff_iff.2 ((domL_get (by omega) (by omega)).trans (allS_get hb hk).symm)
theorem all_same {F:Func} {b:Nat} (hb:b < F.blocks_.length):(rchB (nextL F.blocks_) 0 (-1))[b]?.getD false=hasL (allR F) b:=by
  have hln:(nextL F.blocks_).length=F.blocks_.length:=by simp [nextL]
  refine Bool.eq_iff_iff.2 ((rchB_get (by omega)).trans ?_)
  rw [hasL_iff]
  show _ ↔ (b:Int)∈listB _
  rw [listB_rchB,hln]
  exact ⟨fun q=>⟨by omega,by omega,q⟩,fun q=>q.2.2⟩
def blkS (F:Func) (n:Int):List Block→Nat→Int
  | [],_=>-1
  | b :: bs,i=>if inR (IntKind.i64.wrap (n - cntB (F.blocks_.take i) F.params_)) 0 (IntKind.i64.wrap (IntKind.i64.wrap (b.params_ + b.insts_.length) - 1))=true then i else blkS F n bs (i + 1)
theorem l14Block_c (F:Func) (n:Int) (hF:Enc.good F):PureP Try.prog 106 [vFunc F,.d (.int .i64 n)] (· = .d (.int .i64 (blkS F n F.blocks_ 0))):=by
  have hlb:=good_len hF.2
  refine pure_of Try.func106 en_106 rfl rfl (W_run mixed ⟨[K_48,K_44],[K_48h,K_44h],[],32,0,[0,1,2,4,5,6,7,9,10,11,12,29],[12,29]⟩ (fun _=>[]) (by kernel_rfl) ?_)
  simp only [Try.f106,stripX,stripOps,pickOps]
  simp [K_48_f,K_48_e,K_44_f,K_44_e,K_48h_f,K_48h_e,K_44h_f,K_44h_e,K_48h_g,K_44h_g,hF]
  refine W_loopA (fun i:Nat=>[(1,.d (.int .i64 n)),(2,.ptr 0 2 0 0),(9,.d (dBlockS F.blocks_)),(10,.d (.int .i64 F.blocks_.length)),(11,.d (.int .i64 i))]) (fun _=>[.row 2 [[.d (.int .i64 F.params_),.d (dBlockS F.blocks_)]]]) (fun i=>i≤F.blocks_.length∧blkS F n (F.blocks_.drop i) i=blkS F n F.blocks_ 0) (fun i=>F.blocks_.length - i) 0 ?_ ?_ ?_
  · simp
  · simp
  rintro i ⟨hi,hm⟩
  refine W_run mixed ⟨[K_48,K_44],[K_48h,K_44h],[],32,0,[0,1,2,4,5,6,7,9,10,11,12,29],[12,29]⟩ (fun _=>[]) (by kernel_rfl) ?_
  simp only [stripX,stripOps,pickOps]
  simp [K_48_f,K_48_e,K_44_f,K_44_e,K_48h_f,K_48h_e,K_44h_f,K_44h_e,K_48h_g,K_44h_g,hF]
  refine ⟨fun h=>?_,fun h=>?_⟩
  · rw [drop_cons h] at hm
    simp only [blkS] at hm
    refine ⟨h,by omega,fun q=>?_,fun q=>⟨i + 1,⟨by omega, ?_⟩,by omega,by rw [wrap_id] <;> omega⟩⟩
    · rw [if_pos q] at hm;exact hm
    · rw [if_neg (by rw [q];decide)] at hm;exact hm
  · rw [List.drop_eq_nil_of_le h] at hm
    exact hm
noncomputable def K_106:Ent Try.prog:=Ent.p2 (α:=Func) (β:=Int) 106 (fun F n=>Enc.good F) (fun F n=>.d (.int .i64 (blkS F n F.blocks_ 0))) (fun F n hc=>l14Block_c F n hc)
theorem K_106_f:K_106.f=106:=rfl
theorem K_106_e (F0:Int) (F1:List Block) (n:Int):K_106.e [.agg [.d (.int .i64 F0),.d (dBlockS F1)],.d (.int .i64 n)]=some (Enc.good (Func.mk F0 F1),.d (.int .i64 (blkS (Func.mk F0 F1) n (Func.mk F0 F1).blocks_ 0)),[]):=by unfold K_106;exact Ent.p2_eq (α:=Func) (β:=Int) (Func.mk F0 F1) n
noncomputable def K_106h:EntH Try.prog:=EntH.pk2 (α:=Func) (β:=Int) 106 (fun F n=>Enc.good F) (fun F n=>.d (.int .i64 (blkS F n F.blocks_ 0))) (fun F n=>[]) (fun F n hc=>PureP.ans (l14Block_c F n hc))
theorem K_106h_f:K_106h.f=106:=rfl
theorem K_106h_g:K_106h.gro=true:=rfl
theorem K_106h_e {x1 x2:V} {H:Heap}:K_106h.e [x1,x2] H=guardR ((decA (α:=Func) H x1).1∧(decA (α:=Int) H x2).1) (peekR (Enc.good (decA (α:=Func) H x1).2) (.d (.int .i64 (blkS (decA (α:=Func) H x1).2 (decA (α:=Int) H x2).2 (decA (α:=Func) H x1).2.blocks_ 0))) ([]) H):=rfl
theorem cnt_step {F:Func} {b:Block} {bs:List Block} {i:Nat} (hF:F.blocks_.all headOk=true) (hp:0≤F.params_∧F.params_≤4) (hl:F.blocks_.length≤8) (hd:F.blocks_.drop i=b :: bs) :
    cntB (F.blocks_.take (i + 1)) F.params_=cntB (F.blocks_.take i) F.params_ + szI b∧0≤cntB (F.blocks_.take i) F.params_∧cntB (F.blocks_.take i) F.params_≤4 + 84 * 8:=by
  obtain ⟨t1,t2,hi,hbm⟩:=take_snoc hd
  obtain ⟨p0,p1,p2,e,e1,e2⟩:=headOk_sz (List.all_eq_true.1 hF b hbm)
  have htk:(F.blocks_.take i).all headOk=true:=List.all_eq_true.2 fun x hx=>List.all_eq_true.1 hF x (List.mem_of_mem_take hx)
  have hlen:(F.blocks_.take i).length=i:=by rw [List.length_take];omega
  obtain ⟨c1,c2,c3⟩:=cntB_sum (F.blocks_.take i) F.params_ htk hp.1 (by rw [hlen];omega)
  rw [hlen] at c3
  refine ⟨?_,by omega,by omega⟩
  rw [t1]
  have:cntB (F.blocks_.take i++[b]) F.params_=IntKind.i64.wrap (cntB (F.blocks_.take i) F.params_ + IntKind.i64.wrap (b.params_ + b.insts_.length)):=by simp [cntB]
  rw [this,e,wrap_id (by omega) (by omega)]
theorem blkS_none (F:Func) (n:Int) (hF:F.blocks_.all headOk=true) (hp:0≤F.params_∧F.params_≤4) (hl:F.blocks_.length≤8) (hn:-1000≤n∧n≤1000):∀ (bs:List Block) (i:Nat),F.blocks_.drop i=bs→n < cntB (F.blocks_.take i) F.params_→blkS F n bs i = -1
  | [],i,_,_=>rfl
  | b :: bs,i,hd,hlt=>by
    obtain ⟨t1,t2,hi,hbm⟩:=take_snoc hd
    obtain ⟨p0,p1,p2,e,e1,e2⟩:=headOk_sz (List.all_eq_true.1 hF b hbm)
    obtain ⟨c0,c1,c2⟩:=cnt_step hF hp hl hd
    have w1:IntKind.i64.wrap (n - cntB (F.blocks_.take i) F.params_)=n - cntB (F.blocks_.take i) F.params_:=wrap_sub (by omega) (by omega)
    have hno:∀ x,inR (n - cntB (F.blocks_.take i) F.params_) 0 x=false:=fun x=>inR_f.2 (by omega)
    simp only [blkS,w1,hno,Bool.false_eq_true,if_false]
    exact blkS_none F n hF hp hl hn bs (i + 1) t2 (by rw [c0];omega)
theorem blkS_loc (F:Func) (n:Int) (hF:F.blocks_.all headOk=true) (hp:0≤F.params_∧F.params_≤4) (hl:F.blocks_.length≤8) (hn:-1000≤n∧n≤1000):∀ (bs:List Block) (i:Nat),F.blocks_.drop i=bs→cntB (F.blocks_.take i) F.params_≤n→n < cntB (F.blocks_.take i) F.params_ + sumI bs →
    blkS F n bs i=((loc n bs i (cntB (F.blocks_.take i) F.params_)).1:Int)
  | [],i,_,h1,h2=>by simp only [sumI] at h2;omega
  | b :: bs, i, hd, h1, h2 => by
    obtain ⟨t1,t2,hi,hbm⟩:=take_snoc hd
    obtain ⟨p0,p1,p2,e,e1,e2⟩:=headOk_sz (List.all_eq_true.1 hF b hbm)
    obtain ⟨c0,c1,c2⟩:=cnt_step hF hp hl hd
    have w1:IntKind.i64.wrap (n - cntB (F.blocks_.take i) F.params_)=n - cntB (F.blocks_.take i) F.params_:=wrap_sub (by omega) (by omega)
    have w2:IntKind.i64.wrap (szI b - 1)=szI b - 1:=wrap_sub (by omega) (by omega)
    by_cases hc:n < cntB (F.blocks_.take i) F.params_ + szI b
    · have hyes:inR (n - cntB (F.blocks_.take i) F.params_) 0 (szI b - 1)=true:=inR_t.2 ⟨by omega,by omega⟩
      simp only [blkS,w1,e,w2,hyes,if_true,loc,if_pos hc]
    · have hno:inR (n - cntB (F.blocks_.take i) F.params_) 0 (szI b - 1)=false:=inR_f.2 (by omega)
      simp only [blkS,w1,e,w2,hno,Bool.false_eq_true,if_false,loc,if_neg hc]
      have:=blkS_loc F n hF hp hl hn bs (i + 1) t2 (by rw [c0];omega) (by rw [c0];simp only [sumI] at h2;omega)
      rw [c0] at this
      exact this
theorem firsts_get:∀ (bs:List Block) (m:Int) (k:Nat),k < bs.length→(firsts bs m)[k]? = some (cntB (bs.take k) m)
  | [],m,k,h=>by simp at h
  | b :: bs,m,0,h=>rfl
  | b :: bs,m,k + 1,h=>by
    simp only [firsts,List.getElem?_cons_succ,List.take_succ_cons,cntB_cons]
    exact firsts_get bs _ k (by simpa using h)
theorem blk_same {F:Func} {n:Int} (h:goodF F=true) (h0:0≤n) (h1:n < many F):blkS F n F.blocks_ 0=bk (viewD F) n:=by
  obtain ⟨hp,hl,hh,hm,hc,hs,_⟩:=goodF_spec h
  have ec:cntB (F.blocks_.take 0) F.params_=F.params_:=rfl
  rcases (view_spec h h0 h1).2 with ⟨q1,q2,_⟩ | ⟨q1,q4,q5,_⟩
  · rw [q1]
    exact blkS_none F n hh hp (by omega) (by omega) F.blocks_ 0 rfl (by rw [ec];exact q2)
  · obtain ⟨k,p1,p2,p3,_⟩:=loc_spec n F.blocks_ 0 F.params_ hh hp.1 (by omega) (by omega) (by omega)
    have hg:(viewD F).block_[n.toNat]? = some ((0 + k:Nat):Int):=by
      show (List.replicate F.params_.toNat (-1)++blkOf F.blocks_ 0)[n.toNat]? = _
      rw [List.getElem?_append_right (by simp;omega),List.length_replicate,show n.toNat - F.params_.toNat=(n - F.params_).toNat by omega]
      exact p3
    have hb:bk (viewD F) n=(k:Int):=by simp only [bk,hg,Option.getD_some];omega
    have:=blkS_loc F n hh hp (by omega) (by omega) F.blocks_ 0 rfl (by rw [ec];omega) (by rw [ec];omega)
    rw [this,ec,p2,hb]
    omega
noncomputable def thereS (F:Func) (ds:List (List Int)) (n b a:Int):Bool :=
  if blkS F n F.blocks_ 0 < 0 then true else if blkS F n F.blocks_ 0=b then decide (IntKind.i64.wrap (IntKind.i64.wrap (n - cntB (F.blocks_.take b.toNat) F.params_) - (F.blocks_[b.toNat]?.getD default).params_) < a)
  else hasL (ds[b.toNat]?.getD default) (blkS F n F.blocks_ 0)
theorem l14There_c (F:Func) (ds:List (List Int)) (n b a:Int) (hF:Enc.good F) (h0:0≤b) (h1:b < F.blocks_.length) (hd:ds.length=F.blocks_.length) (hl:∀ l∈ds,l.length≤1000) :
    PureP Try.prog 80 [vFunc F,.d (dIntSS ds),.d (.int .i64 n),.d (.int .i64 b),.d (.int .i64 a)] (· = .d (.bool (thereS F ds n b a))):=by
  have hlb:=good_len hF.2
  refine pure_of Try.func80 en_80 rfl rfl (W_run mixed ⟨[K_106,K_78,K_48],[K_106h,K_78h,K_48h],[],42,0,[0,1,2,3,4,5,10,11,15,18],[15,18]⟩ (fun | 6=>[0,2,5,7,12,1,3,4,6,8,9,10,11,13,14] | _=>[]) (by kernel_rfl) ?_)
  simp only [Try.f80,stripX,stripOps,pickOps]
  simp [K_106_f,K_106_e,K_78_f,K_78_e,K_48_f,K_48_e,K_106h_f,K_106h_e,K_78h_f,K_78h_e,K_48h_f,K_48h_e,K_106h_g,K_78h_g,K_48h_g,hF]
  have hg:(ds[b.toNat]?.getD default).length≤1000:=by
    rw [List.getElem?_eq_getElem (by omega)]
    exact hl _ (List.getElem_mem _)
  refine ⟨fun q=>by simp [thereS,q],fun q=>⟨fun e=>⟨⟨h0,by omega⟩,hg, ?_⟩,fun e=>⟨⟨h0,by omega⟩,⟨h0,h1⟩, ?_⟩⟩⟩
  · unfold thereS;rw [if_neg (by omega),if_neg e]
  · unfold thereS;rw [if_neg (by omega),if_pos e]
noncomputable def K_80:Ent Try.prog:=Ent.p5 (α:=Func) (β:=List (List Int)) (γ:=Int) (δ:=Int) (ε:=Int) 80 (fun F ds n b a=>Enc.good F∧0≤b∧b < F.blocks_.length∧ds.length=F.blocks_.length∧∀ l∈ds,l.length≤1000) (fun F ds n b a=>.d (.bool (thereS F ds n b a))) (fun F ds n b a hc=>l14There_c F ds n b a hc.1 hc.2.1 hc.2.2.1 hc.2.2.2.1 hc.2.2.2.2)
theorem K_80_f:K_80.f=80:=rfl
theorem K_80_e (F0:Int) (F1:List Block) (ds:List (List Int)) (n:Int) (b:Int) (a:Int):K_80.e [.agg [.d (.int .i64 F0),.d (dBlockS F1)],.d (dIntSS ds),.d (.int .i64 n),.d (.int .i64 b),.d (.int .i64 a)]=some (Enc.good (Func.mk F0 F1)∧0≤b∧b < (Func.mk F0 F1).blocks_.length∧ds.length=(Func.mk F0 F1).blocks_.length∧∀ l∈ds,l.length≤1000,.d (.bool (thereS (Func.mk F0 F1) ds n b a)),[]):=by unfold K_80;exact Ent.p5_eq (α:=Func) (β:=List (List Int)) (γ:=Int) (δ:=Int) (ε:=Int) (Func.mk F0 F1) ds n b a
noncomputable def K_80h:EntH Try.prog:=EntH.pk5 (α:=Func) (β:=List (List Int)) (γ:=Int) (δ:=Int) (ε:=Int) 80 (fun F ds n b a=>Enc.good F∧0≤b∧b < F.blocks_.length∧ds.length=F.blocks_.length∧∀ l∈ds,l.length≤1000) (fun F ds n b a=>.d (.bool (thereS F ds n b a))) (fun F ds n b a=>[]) (fun F ds n b a hc=>PureP.ans (l14There_c F ds n b a hc.1 hc.2.1 hc.2.2.1 hc.2.2.2.1 hc.2.2.2.2))
theorem K_80h_f:K_80h.f=80:=rfl
theorem K_80h_g:K_80h.gro=true:=rfl
theorem K_80h_e {x1 x2 x3 x4 x5:V} {H:Heap}:K_80h.e [x1,x2,x3,x4,x5] H=guardR ((decA (α:=Func) H x1).1∧(decA (α:=List (List Int)) H x2).1∧(decA (α:=Int) H x3).1∧(decA (α:=Int) H x4).1∧(decA (α:=Int) H x5).1) (peekR (Enc.good (decA (α:=Func) H x1).2∧0≤(decA (α:=Int) H x4).2∧(decA (α:=Int) H x4).2 < (decA (α:=Func) H x1).2.blocks_.length∧(decA (α:=List (List Int)) H x2).2.length=(decA (α:=Func) H x1).2.blocks_.length∧∀ l∈(decA (α:=List (List Int)) H x2).2,l.length≤1000) (.d (.bool (thereS (decA (α:=Func) H x1).2 (decA (α:=List (List Int)) H x2).2 (decA (α:=Int) H x3).2 (decA (α:=Int) H x4).2 (decA (α:=Int) H x5).2))) ([]) H):=rfl
def thereW (w:Ways) (n b a:Int):Bool :=
  if bk w.view_.v n < 0 then true else if bk w.view_.v n=b then decide (atV w.view_.v n < a) else ((w.dom_[b.toNat]?.getD default)[(bk w.view_.v n).toNat]?.getD false)
def okW (w:Ways) (n b:Int):Prop:=okV w.view_.v n∧(0≤bk w.view_.v n→(0≤b∧b < w.dom_.length)∧bk w.view_.v n < (w.dom_[b.toNat]?.getD default).length)
theorem there_c (w:Ways) (n b a:Int) (h:okW w n b):PureP Try.prog 74 [.d (.rp 3 (dWays w)),.d (.int .i64 n),.d (.int .i64 b),.d (.int .i64 a)] (· = .d (.bool (thereW w n b a))):=by
  obtain ⟨hv,hd⟩:=h
  have e1:w.view_.v.block_[n.toNat]?.getD 0=bk w.view_.v n:=rfl
  by_cases q:bk w.view_.v n < 0
  · refine pure_of Try.func74 en_74 rfl rfl (W_run mixed ⟨[K_42],[K_42h],[],53,0,[0,1,2,3,8,9,12,33,36],[33,36]⟩ (fun _=>[]) (by kernel_rfl) ?_)
    simp only [Try.f74,stripX,stripOps,pickOps]
    simp [K_42_f,K_42_e,K_42h_f,K_42h_e,K_42h_g,hv,e1,q]
    exact ⟨hv.1,by simp [thereW,q]⟩
  by_cases q2:atV w.view_.v n < 0
  · refine pure_of Try.func74 en_74 rfl rfl (W_run mixed ⟨[K_42],[K_42h],[],53,0,[0,1,2,3,8,9,12,33,36],[33,36]⟩ (fun _=>[]) (by kernel_rfl) ?_)
    simp only [Try.f74,stripX,stripOps,pickOps]
    simp [K_42_f,K_42_e,K_42h_f,K_42h_e,K_42h_g,hv,e1,instV,q,q2]
    refine ⟨hv.1,fun e=>?_,fun e=>⟨(hd (by omega)).1,⟨by omega,(hd (by omega)).2⟩, ?_⟩⟩
    · unfold thereW;rw [if_neg q,if_pos e]
    · unfold thereW;rw [if_neg q,if_neg e]
  · refine pure_of Try.func74 en_74 rfl rfl (W_run mixed ⟨[K_42],[K_42h],[],53,0,[0,1,2,3,8,9,12,33,36],[33,36]⟩ (fun _=>[]) (by kernel_rfl) ?_)
    simp only [Try.f74,stripX,stripOps,pickOps]
    simp [K_42_f,K_42_e,K_42h_f,K_42h_e,K_42h_g,hv,e1,instV,q,q2]
    refine ⟨hv.1,fun e=>?_,fun e=>⟨(hd (by omega)).1,⟨by omega,(hd (by omega)).2⟩, ?_⟩⟩
    · unfold thereW;rw [if_neg q,if_pos e]
    · unfold thereW;rw [if_neg q,if_neg e]
noncomputable def K_74:Ent Try.prog:=Ent.p4 (α:=Ptr Ways) (β:=Int) (γ:=Int) (δ:=Int) 74 (fun w n b a=>okW w.v n b) (fun w n b a=>.d (.bool (thereW w.v n b a))) (fun w n b a hc=>there_c w.v n b a hc)
theorem K_74_f:K_74.f=74:=rfl
theorem K_74_e (w:Ways) (n:Int) (b:Int) (a:Int):K_74.e [.d (.rp 3 (dWays w)),.d (.int .i64 n),.d (.int .i64 b),.d (.int .i64 a)]=some (okW w n b,.d (.bool (thereW w n b a)),[]):=by unfold K_74;exact Ent.p4_eq (α:=Ptr Ways) (β:=Int) (γ:=Int) (δ:=Int) (Ptr.mk w) n b a
noncomputable def K_74h:EntH Try.prog:=EntH.pk4 (α:=Ptr Ways) (β:=Int) (γ:=Int) (δ:=Int) 74 (fun w n b a=>okW w.v n b) (fun w n b a=>.d (.bool (thereW w.v n b a))) (fun w n b a=>[]) (fun w n b a hc=>PureP.ans (there_c w.v n b a hc))
theorem K_74h_f:K_74h.f=74:=rfl
theorem K_74h_g:K_74h.gro=true:=rfl
theorem K_74h_e {x1 x2 x3 x4:V} {H:Heap}:K_74h.e [x1,x2,x3,x4] H=guardR ((decA (α:=Ptr Ways) H x1).1∧(decA (α:=Int) H x2).1∧(decA (α:=Int) H x3).1∧(decA (α:=Int) H x4).1) (peekR (okW (decA (α:=Ptr Ways) H x1).2.v (decA (α:=Int) H x2).2 (decA (α:=Int) H x3).2) (.d (.bool (thereW (decA (α:=Ptr Ways) H x1).2.v (decA (α:=Int) H x2).2 (decA (α:=Int) H x3).2 (decA (α:=Int) H x4).2))) ([]) H):=rfl
theorem good_flow {F : Func} (h : goodF F = true) : okFlow F := by
  obtain ⟨_,hl,_,_,_,_,hb⟩:=goodF_spec h
  have key:∀ b∈F.blocks_,b.jumps_.length≤2∧∀ j∈b.jumps_,0≤j.to_∧j.to_ < F.blocks_.length:=by
    intro b hbm
    have h1:=List.all_eq_true.1 hb b hbm
    simp only [bodyOk,Bool.and_eq_true] at h1
    have h2:=h1.2
    have js:jumpsOk F.blocks_ (many F) b.jumps_=true→∀ j∈b.jumps_,0≤j.to_∧j.to_ < F.blocks_.length:=fun q j hj=>by
      have q2:=List.all_eq_true.1 q j hj
      simp only [jumpOk,Bool.and_eq_true] at q2
      have:=inR_index (by omega) q2.1
      omega
    unfold endsOk at h2
    split at h2
    · simp only [Bool.and_eq_true,decide_eq_true_eq] at h2
      exact ⟨by omega,js h2.2.2⟩
    · split at h2
      · simp only [Bool.and_eq_true,decide_eq_true_eq] at h2
        exact ⟨by omega,js h2.2.2⟩
      · split at h2
        · simp only [Bool.and_eq_true,decide_eq_true_eq] at h2
          exact ⟨by omega,js h2.2.2⟩
        · cases h2
  refine ⟨⟨by omega,fun b hb=>(key b hb).1⟩,⟨by simp [nextL];omega,fun l hl=>?_⟩,by omega⟩
  obtain ⟨b,hb,rfl⟩:=List.mem_map.1 hl
  refine ⟨by simp [tos];exact (key b hb).1,fun x hx=>?_⟩
  obtain ⟨j,hj,rfl⟩:=List.mem_map.1 hx
  have:=(key b hb).2 j hj
  simp [nextL];omega
theorem okW_good {F:Func} {n b:Int} (h:goodF F=true) (h0:0≤n) (h1:n < many F) (b0:0≤b) (b1:b < F.blocks_.length):okW (waysV (viewD F)) n b:=by
  obtain ⟨hv,hq⟩:=view_spec h h0 h1
  refine ⟨hv,fun hb=>?_⟩
  have e0:(viewD F).blocks_=F.blocks_:=rfl
  have hln:(nextL F.blocks_).length=F.blocks_.length:=by simp [nextL]
  have e1:(waysV (viewD F)).dom_=domL (nextL F.blocks_):=rfl
  have e2:(domL (nextL F.blocks_)).length=F.blocks_.length:=by simp [domL,nextL]
  have e3:((domL (nextL F.blocks_))[b.toNat]?.getD default).length=F.blocks_.length:=by
    have:b.toNat < F.blocks_.length:=by omega
    simp [domL,nextL,this]
  have hb':0≤bk (viewD F) n:=hb
  rw [e1,e2,e3]
  refine ⟨⟨b0,b1⟩, ?_⟩
  show bk (viewD F) n < _
  rcases hq with ⟨q,_⟩ | ⟨_,q,_⟩
  · omega
  · exact q
theorem there_same {F : Func} {n b a : Int} (h : goodF F = true) (h0 : 0 ≤ n) (h1 : n < many F) (b0 : 0 ≤ b) (b1 : b < F.blocks_.length) : thereW (waysV (viewD F)) n b a = thereS F (allS F) n b a := by
  obtain ⟨hv,hq⟩:=view_spec h h0 h1
  have e1:(waysV (viewD F)).dom_=domL (nextL F.blocks_):=rfl
  have ev:(waysV (viewD F)).view_.v=viewD F:=rfl
  unfold thereW thereS
  rw [ev,e1,blk_same h h0 h1]
  by_cases c1:bk (viewD F) n < 0
  · rw [if_pos c1,if_pos c1]
  rw [if_neg c1,if_neg c1]
  by_cases c2:bk (viewD F) n=b
  · rw [if_pos c2,if_pos c2]
    have e2:atV (viewD F) n=IntKind.i64.wrap (IntKind.i64.wrap (n - cntB (F.blocks_.take b.toNat) F.params_) - (F.blocks_[b.toNat]?.getD default).params_):=by
      have ef:(viewD F).first_[b.toNat]?.getD 0=cntB (F.blocks_.take b.toNat) F.params_:=by
        show (firsts F.blocks_ F.params_)[b.toNat]?.getD 0=_
        rw [firsts_get _ _ _ (by omega)];rfl
      unfold atV blkAt
      rw [c2,ef];rfl
    rw [e2]
  · rw [if_neg c2,if_neg c2]
    have hk:(bk (viewD F) n).toNat < F.blocks_.length:=by
      rcases hq with ⟨q,_⟩ | ⟨_,q,_⟩ <;> omega
    have e3:(((bk (viewD F) n).toNat:Nat):Int)=bk (viewD F) n:=by omega
    rw [dom_same (by omega) hk,e3]
def canThere (F:Func) (n b a:Int):Bool:=isVal F n && (isBlk F b && inR a 0 (F.blocks_[b.toNat]?.getD default).insts_.length)
noncomputable def isThereR (F:Func) (n b a:Int):V :=
  if (canThere F n b a && hasL (allR F) b)=true then .tup [.d (.bool (thereS F (allS F) n b a)),.d (.bool true)] else .tup [.d (.bool false),.d (.bool false)]
theorem allS_ok {F:Func} (hf:okFlow F):(allS F).length=F.blocks_.length∧∀ l∈allS F,l.length≤1000:=by
  refine ⟨by simp [allS],fun l hl=>?_⟩
  obtain ⟨k,_,rfl⟩:=List.mem_map.1 hl
  split
  · have:=domS_len hf k
    have q:=List.length_filter_le (hasL (allR F)) (domS F k)
    unfold adS;omega
  · simp
theorem isThereS_c (F : Func) (n b a : Int) (hF : Enc.good F) : PureP Try.prog 34 [vFunc F, .d (.int .i64 n), .d (.int .i64 b), .d (.int .i64 a)] (· = isThereR F n b a) := by
  cases hv:isVal F n with
  | false =>
    refine pure_of Try.func34 en_34 rfl rfl (W_run mixed ⟨[K_76,K_77,K_44,K_79,K_78,K_81,K_80],[K_76h,K_77h,K_44h,K_79h,K_78h,K_81h,K_80h],[],46,0,[0,1,2,3,4,8,9,38],[14,20,32,38]⟩ (fun | 3=>[3,4,5,0,1,2,6,7,8] | _=>[]) (by kernel_rfl) ?_)
    simp only [Try.f34,stripX,stripOps,pickOps]
    simp [K_76_f,K_76_e,K_77_f,K_77_e,K_44_f,K_44_e,K_79_f,K_79_e,K_78_f,K_78_e,K_81_f,K_81_e,K_80_f,K_80_e,K_76h_f,K_76h_e,K_77h_f,K_77h_e,K_44h_f,K_44h_e,K_79h_f,K_79h_e,K_78h_f,K_78h_e,K_81h_f,K_81h_e,K_80h_f,K_80h_e,K_76h_g,K_77h_g,K_44h_g,K_79h_g,K_78h_g,K_81h_g,K_80h_g,hF,hv]
    simp [isThereR,canThere,hv]
  | true =>
    cases hb:isBlk F b with
    | false =>
      refine pure_of Try.func34 en_34 rfl rfl (W_run mixed ⟨[K_76,K_77,K_44,K_79,K_78,K_81,K_80],[K_76h,K_77h,K_44h,K_79h,K_78h,K_81h,K_80h],[],46,0,[0,1,2,3,4,8,9,38],[14,20,32,38]⟩ (fun | 3=>[3,4,5,0,1,2,6,7,8] | _=>[]) (by kernel_rfl) ?_)
      simp only [Try.f34,stripX,stripOps,pickOps]
      simp [K_76_f,K_76_e,K_77_f,K_77_e,K_44_f,K_44_e,K_79_f,K_79_e,K_78_f,K_78_e,K_81_f,K_81_e,K_80_f,K_80_e,K_76h_f,K_76h_e,K_77h_f,K_77h_e,K_44h_f,K_44h_e,K_79h_f,K_79h_e,K_78h_f,K_78h_e,K_81h_f,K_81h_e,K_80h_f,K_80h_e,K_76h_g,K_77h_g,K_44h_g,K_79h_g,K_78h_g,K_81h_g,K_80h_g,hF,hv,hb]
      simp [isThereR,canThere,hv,hb]
    | true =>
      obtain ⟨hg,b0,b1⟩:=isBlk_t hF hb
      have hf:=good_flow hg
      obtain ⟨hv1,hn1,hp1⟩:=hf
      have hfl:=fromL_len hn1 0 (-1)
      have hfl':(fromL F 0 (-1)).length≤1000:=by omega
      obtain ⟨a1,a2⟩:=allS_ok ⟨hv1,hn1,hp1⟩
      refine pure_of Try.func34 en_34 rfl rfl (W_run mixed ⟨[K_76,K_77,K_44,K_79,K_78,K_81,K_80],[K_76h,K_77h,K_44h,K_79h,K_78h,K_81h,K_80h],[],46,0,[0,1,2,3,4,8,9,38],[14,20,32,38]⟩ (fun | 3=>[3,4,5,0,1,2,6,7,8] | _=>[]) (by kernel_rfl) ?_)
      simp only [Try.f34,stripX,stripOps,pickOps]
      simp [K_76_f,K_76_e,K_77_f,K_77_e,K_44_f,K_44_e,K_79_f,K_79_e,K_78_f,K_78_e,K_81_f,K_81_e,K_80_f,K_80_e,K_76h_f,K_76h_e,K_77h_f,K_77h_e,K_44h_f,K_44h_e,K_79h_f,K_79h_e,K_78h_f,K_78h_e,K_81h_f,K_81h_e,K_80h_f,K_80h_e,K_76h_g,K_77h_g,K_44h_g,K_79h_g,K_78h_g,K_81h_g,K_80h_g,hF,hv,hb,hv1,hn1,hp1,hfl',a1,a2]
      have hR:fromL F 0 (-1)=allR F:=rfl
      refine ⟨⟨b0,b1⟩,fun q=>?_,fun q=>⟨fun q2=>?_,fun q2=>⟨⟨hv1,hn1,hp1⟩,⟨b0,b1,a2⟩, ?_⟩⟩⟩
      · simp [isThereR,canThere,q]
      · rw [hR] at q2
        simp [isThereR,q2]
      · rw [hR] at q2
        simp [isThereR,canThere,hv,hb,q,q2]
theorem isThereI_c (F : Func) (n b a : Int) (hF : Enc.good F) (hn : Enc.good n) : PureP Try.prog 32 [vFunc F, .d (.int .i64 n), .d (.int .i64 b), .d (.int .i64 a)] (· = isThereR F n b a) := by
  have h3:Enc.good [n]:=⟨by simp,fun a ha=>by simp at ha;subst ha;exact hn⟩
  cases hg:goodF F with
  | false =>
    refine pure_of Try.func32 en_32 rfl rfl (W_run mixed ⟨[K_40,K_41,K_71,K_47,K_65,K_74],[K_40h,K_41h,K_71h,K_47h,K_65h,K_74h],[],59,0,[0,1,2,3,4,8,9,10,11,43,53],[16,23,29,43,53]⟩ (fun _=>[]) (by kernel_rfl) ?_)
    simp only [Try.f32,stripX,stripOps,pickOps]
    simp [K_40_f,K_40_e,K_41_f,K_41_e,K_71_f,K_71_e,K_47_f,K_47_e,K_65_f,K_65_e,K_74_f,K_74_e,K_40h_f,K_40h_e,K_41h_f,K_41h_e,K_71h_f,K_71h_e,K_47h_f,K_47h_e,K_65h_f,K_65h_e,K_74h_f,K_74h_e,K_40h_g,K_41h_g,K_71h_g,K_47h_g,K_65h_g,K_74h_g,hF,viewV_f hg]
    simp [isThereR,canThere,isVal,hg]
  | true =>
    cases hv:inR n 0 (IntKind.i64.wrap (many F - 1)) with
    | false =>
      have ha:allIn [n] 0 (IntKind.i64.wrap (many F - 1))=false:=by simp [allIn,hv]
      refine pure_of Try.func32 en_32 rfl rfl (W_run mixed ⟨[K_40,K_41,K_71,K_47,K_65,K_74],[K_40h,K_41h,K_71h,K_47h,K_65h,K_74h],[],59,0,[0,1,2,3,4,8,9,10,11,43,53],[16,23,29,43,53]⟩ (fun _=>[]) (by kernel_rfl) ?_)
      simp only [Try.f32,stripX,stripOps,pickOps]
      simp [K_40_f,K_40_e,K_41_f,K_41_e,K_71_f,K_71_e,K_47_f,K_47_e,K_65_f,K_65_e,K_74_f,K_74_e,K_40h_f,K_40h_e,K_41h_f,K_41h_e,K_71h_f,K_71h_e,K_47h_f,K_47h_e,K_65h_f,K_65h_e,K_74h_f,K_74h_e,K_40h_g,K_41h_g,K_71h_g,K_47h_g,K_65h_g,K_74h_g,hF,viewV_t hg,h3,viewD_total,ha]
      simp [isThereR,canThere,isVal,hg,hv]
    | true =>
      have ha:allIn [n] 0 (IntKind.i64.wrap (many F - 1))=true:=by simp [allIn,hv]
      have hv':isVal F n=true:=by simp [isVal,hg,hv]
      obtain ⟨_,g0,g1⟩:=isVal_t hv'
      cases hb:inR b 0 (IntKind.i64.wrap (F.blocks_.length - 1)) with
      | false =>
        refine pure_of Try.func32 en_32 rfl rfl (W_run mixed ⟨[K_40,K_41,K_71,K_47,K_65,K_74],[K_40h,K_41h,K_71h,K_47h,K_65h,K_74h],[],59,0,[0,1,2,3,4,8,9,10,11,43,53],[16,23,29,43,53]⟩ (fun _=>[]) (by kernel_rfl) ?_)
        simp only [Try.f32,stripX,stripOps,pickOps]
        simp [K_40_f,K_40_e,K_41_f,K_41_e,K_71_f,K_71_e,K_47_f,K_47_e,K_65_f,K_65_e,K_74_f,K_74_e,K_40h_f,K_40h_e,K_41h_f,K_41h_e,K_71h_f,K_71h_e,K_47h_f,K_47h_e,K_65h_f,K_65h_e,K_74h_f,K_74h_e,K_40h_g,K_41h_g,K_71h_g,K_47h_g,K_65h_g,K_74h_g,hF,viewV_t hg,h3,viewD_total,viewD_blocks,ha,hb]
        simp [isThereR,canThere,isBlk,hg,hb]
      | true =>
        have hb':isBlk F b=true:=by simp [isBlk,hg,hb]
        obtain ⟨_,b0,b1⟩:=isBlk_t hF hb'
        have hf:=good_flow hg
        obtain ⟨hv1,hn1,hp1⟩:=hf
        have hp2:0 < (nextL F.blocks_).length:=by simp [nextL];omega
        have hok:=okW_good hg g0 g1 b0 b1
        refine pure_of Try.func32 en_32 rfl rfl (W_run mixed ⟨[K_40,K_41,K_71,K_47,K_65,K_74],[K_40h,K_41h,K_71h,K_47h,K_65h,K_74h],[],59,0,[0,1,2,3,4,8,9,10,11,43,53],[16,23,29,43,53]⟩ (fun _=>[]) (by kernel_rfl) ?_)
        simp only [Try.f32,stripX,stripOps,pickOps]
        simp [K_40_f,K_40_e,K_41_f,K_41_e,K_71_f,K_71_e,K_47_f,K_47_e,K_65_f,K_65_e,K_74_f,K_74_e,K_40h_f,K_40h_e,K_41h_f,K_41h_e,K_71h_f,K_71h_e,K_47h_f,K_47h_e,K_65h_f,K_65h_e,K_74h_f,K_74h_e,K_40h_g,K_41h_g,K_71h_g,K_47h_g,K_65h_g,K_74h_g,hF,viewV_t hg,h3,viewD_total,viewD_blocks,ha,hb,hv1,hn1,hp2,hok]
        have e1:(waysV (viewD F)).all_=rchB (nextL F.blocks_) 0 (-1):=rfl
        have e2:(rchB (nextL F.blocks_) 0 (-1)).length=F.blocks_.length:=by simp [rchB,nextL]
        have e3:((b.toNat:Nat):Int)=b:=by omega
        have e4:(rchB (nextL F.blocks_) 0 (-1))[b.toNat]?.getD false=hasL (allR F) b:=by rw [all_same (by omega),e3]
        rw [e1,e2,e4]
        refine ⟨⟨b0,b1⟩,fun q=>?_,fun q=>⟨⟨b0,b1⟩,fun q2=>?_,fun q2=>?_⟩⟩
        · simp [isThereR,canThere,q]
        · simp [isThereR,q2]
        · rw [there_same hg g0 g1 b0 b1]
          simp [isThereR,canThere,hv',hb',q,q2]
noncomputable def K_34:Ent Try.prog:=Ent.p4 (α:=Func) (β:=Int) (γ:=Int) (δ:=Int) 34 (fun F n b a=>Enc.good F) (fun F n b a=>isThereR F n b a) (fun F n b a hc=>isThereS_c F n b a hc)
theorem K_34_f:K_34.f=34:=rfl
theorem K_34_e (F0:Int) (F1:List Block) (n:Int) (b:Int) (a:Int):K_34.e [.agg [.d (.int .i64 F0),.d (dBlockS F1)],.d (.int .i64 n),.d (.int .i64 b),.d (.int .i64 a)]=some (Enc.good (Func.mk F0 F1),isThereR (Func.mk F0 F1) n b a,[]):=by unfold K_34;exact Ent.p4_eq (α:=Func) (β:=Int) (γ:=Int) (δ:=Int) (Func.mk F0 F1) n b a
noncomputable def K_34h:EntH Try.prog:=EntH.pk4 (α:=Func) (β:=Int) (γ:=Int) (δ:=Int) 34 (fun F n b a=>Enc.good F) (fun F n b a=>isThereR F n b a) (fun F n b a=>[]) (fun F n b a hc=>PureP.ans (isThereS_c F n b a hc))
theorem K_34h_f:K_34h.f=34:=rfl
theorem K_34h_g:K_34h.gro=true:=rfl
theorem K_34h_e {x1 x2 x3 x4:V} {H:Heap}:K_34h.e [x1,x2,x3,x4] H=guardR ((decA (α:=Func) H x1).1∧(decA (α:=Int) H x2).1∧(decA (α:=Int) H x3).1∧(decA (α:=Int) H x4).1) (peekR (Enc.good (decA (α:=Func) H x1).2) (isThereR (decA (α:=Func) H x1).2 (decA (α:=Int) H x2).2 (decA (α:=Int) H x3).2 (decA (α:=Int) H x4).2) ([]) H):=rfl
noncomputable def K_32:Ent Try.prog:=Ent.p4 (α:=Func) (β:=Int) (γ:=Int) (δ:=Int) 32 (fun F n b a=>Enc.good F∧Enc.good n) (fun F n b a=>isThereR F n b a) (fun F n b a hc=>isThereI_c F n b a hc.1 hc.2)
theorem K_32_f:K_32.f=32:=rfl
theorem K_32_e (F0:Int) (F1:List Block) (n:Int) (b:Int) (a:Int):K_32.e [.agg [.d (.int .i64 F0),.d (dBlockS F1)],.d (.int .i64 n),.d (.int .i64 b),.d (.int .i64 a)]=some (Enc.good (Func.mk F0 F1)∧Enc.good n,isThereR (Func.mk F0 F1) n b a,[]):=by unfold K_32;exact Ent.p4_eq (α:=Func) (β:=Int) (γ:=Int) (δ:=Int) (Func.mk F0 F1) n b a
noncomputable def K_32h:EntH Try.prog:=EntH.pk4 (α:=Func) (β:=Int) (γ:=Int) (δ:=Int) 32 (fun F n b a=>Enc.good F∧Enc.good n) (fun F n b a=>isThereR F n b a) (fun F n b a=>[]) (fun F n b a hc=>PureP.ans (isThereI_c F n b a hc.1 hc.2))
theorem K_32h_f:K_32h.f=32:=rfl
theorem K_32h_g:K_32h.gro=true:=rfl
theorem K_32h_e {x1 x2 x3 x4:V} {H:Heap}:K_32h.e [x1,x2,x3,x4] H=guardR ((decA (α:=Func) H x1).1∧(decA (α:=Int) H x2).1∧(decA (α:=Int) H x3).1∧(decA (α:=Int) H x4).1) (peekR (Enc.good (decA (α:=Func) H x1).2∧Enc.good (decA (α:=Int) H x2).2) (isThereR (decA (α:=Func) H x1).2 (decA (α:=Int) H x2).2 (decA (α:=Int) H x3).2 (decA (α:=Int) H x4).2) ([]) H):=rfl
end Go.Proofs.Ytnomiclfiijniaa
end
