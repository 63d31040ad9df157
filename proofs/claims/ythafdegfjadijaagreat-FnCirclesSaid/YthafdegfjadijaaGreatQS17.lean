/- What both programs tell of a value's block, and whether it is there at a place. No condition. -/
import Derived.Test.YthafdegfjadijaaGreatRows
import Derived.Test.YthafdegfjadijaaGreatQE3
import Derived.Test.YthafdegfjadijaaGreatQS4
import Derived.Test.YthafdegfjadijaaGreatQS6
import Derived.Test.YthafdegfjadijaaGreatQS16
section
namespace Go.Proofs.YthafdegfjadijaaGreat
set_option linter.unusedSimpArgs false
set_option linter.unusedVariables false
end Go.Proofs.YthafdegfjadijaaGreat
end

section
namespace Go.Proofs.YthafdegfjadijaaGreat
set_option maxRecDepth 100000
set_option linter.unusedSimpArgs false
set_option linter.unusedVariables false
theorem hasBlock_c (v:View) (k:Int):PureP Tryz.prog 44 [.d (.rp 5 (dView v)),.d (.int .i64 k)] (· = .d (.bool (inR k 0 (IntKind.i64.wrap (v.blocks_.length - 1))))):=by
  refine pure_of Tryz.func44 en_44 rfl rfl (W_run mixed ⟨[K_72],[K_72h],[],14,0,[0,1,4],[]⟩ (fun _=>[]) (by kernel_rfl) ?_)
  simp only [Tryz.f44,stripX,stripOps,pickOps]
  simp [K_72_f,K_72_e,K_72h_f,K_72h_e,K_72h_g]
noncomputable def K_44:Ent Tryz.prog:=Ent.p2 (α:=Ptr View) (β:=Int) 44 (fun v k=>True) (fun v k=>.d (.bool (inR k 0 (IntKind.i64.wrap (v.v.blocks_.length - 1))))) (fun v k hc=>hasBlock_c v.v k)
theorem K_44_f:K_44.f=44:=rfl
theorem K_44_e (v:View) (k:Int):K_44.e [.d (.rp 5 (dView v)),.d (.int .i64 k)]=some (True,.d (.bool (inR k 0 (IntKind.i64.wrap (v.blocks_.length - 1)))),[]):=by unfold K_44;exact Ent.p2_eq (α:=Ptr View) (β:=Int) (Ptr.mk v) k
noncomputable def K_44h:EntH Tryz.prog:=EntH.pk2 (α:=Ptr View) (β:=Int) 44 (fun v k=>True) (fun v k=>.d (.bool (inR k 0 (IntKind.i64.wrap (v.v.blocks_.length - 1))))) (fun v k=>[]) (fun v k hc=>PureP.ans (hasBlock_c v.v k))
theorem K_44h_f:K_44h.f=44:=rfl
theorem K_44h_g:K_44h.gro=true:=rfl
theorem K_44h_e {x1 x2:V} {H:Heap}:K_44h.e [x1,x2] H=guardR ((decA (α:=Ptr View) H x1).1∧(decA (α:=Int) H x2).1) (peekR (True) (.d (.bool (inR (decA (α:=Int) H x2).2 0 (IntKind.i64.wrap ((decA (α:=Ptr View) H x1).2.v.blocks_.length - 1))))) ([]) H):=rfl
def bk (v:View) (n:Int):Int:=v.block_[n.toNat]?.getD 0
def blkAt (v:View) (n:Int):Block:=v.blocks_[(bk v n).toNat]?.getD default
def atV (v:View) (n:Int):Int:=IntKind.i64.wrap (IntKind.i64.wrap (n - (v.first_[(bk v n).toNat]?.getD 0)) - (blkAt v n).params_)
def instI (v:View) (n:Int):Inst:=(blkAt v n).insts_[(atV v n).toNat]?.getD default
def okV (v:View) (n:Int):Prop:=(0≤n∧n < v.block_.length)∧(0≤bk v n→bk v n < v.first_.length∧bk v n < v.blocks_.length∧(0≤atV v n→atV v n < (blkAt v n).insts_.length))
def pureOp (op:Int):Bool:=!decide (op=8) && (!decide (op=12) && !decide (op=13))
def pureV (v:View) (n:Int):Bool:=decide (0≤bk v n) && (decide (0≤atV v n) && pureOp (instI v n).op_)
def instS (F:Func) (n:Int):List Block→Nat→Int × Int
  | [],_=>(-1,-1)
  | b :: bs,i =>
    let a:=IntKind.i64.wrap (IntKind.i64.wrap (n - cntB (F.blocks_.take i) F.params_) - b.params_)
    if inR a 0 (IntKind.i64.wrap (b.insts_.length - 1))=true then (i,a) else instS F n bs (i + 1)
end Go.Proofs.YthafdegfjadijaaGreat
end

section
namespace Go.Proofs.YthafdegfjadijaaGreat
set_option linter.unusedSimpArgs false
set_option linter.unusedVariables false
def szI (b:Block):Int:=b.params_ + b.insts_.length
def sumI:List Block→Int
  | []=>0
  | b :: bs=>szI b + sumI bs
theorem headOk_sz {b:Block} (h:headOk b=true):0≤b.params_∧b.params_≤4∧(b.insts_.length:Int)≤80∧IntKind.i64.wrap (b.params_ + b.insts_.length)=szI b∧0≤szI b∧szI b≤84:=by
  simp only [headOk,Bool.and_eq_true,decide_eq_true_eq] at h
  have:=inR_t.1 h.1
  refine ⟨this.1,this.2,by omega,wrap_id (by omega) (by omega), ?_, ?_⟩ <;> unfold szI <;> omega
theorem cntB_sum:∀ (bs:List Block) (m:Int),bs.all headOk=true→0≤m→m + 84 * bs.length≤9223372036854775807→cntB bs m=m + sumI bs∧0≤sumI bs∧sumI bs≤84 * bs.length
  | [],m,_,_,_=>by simp [cntB,sumI]
  | b :: bs,m,h,h0,h1=>by
    simp only [List.all_cons,Bool.and_eq_true] at h
    obtain ⟨_,_,_,e,e1,e2⟩:=headOk_sz h.1
    simp only [List.length_cons] at h1
    have hw:IntKind.i64.wrap (m + szI b)=m + szI b:=wrap_id (by omega) (by omega)
    obtain ⟨q1,q2,q3⟩:=cntB_sum bs (m + szI b) h.2 (by omega) (by omega)
    rw [cntB_cons,e,hw,q1]
    simp only [sumI,List.length_cons]
    omega
end Go.Proofs.YthafdegfjadijaaGreat
end

section
namespace Go.Proofs.YthafdegfjadijaaGreat
set_option maxRecDepth 100000
set_option linter.unusedSimpArgs false
set_option linter.unusedVariables false
theorem goodF_spec {F:Func} (h:goodF F=true):(0≤F.params_∧F.params_≤4)∧(1≤(F.blocks_.length:Int)∧F.blocks_.length≤8)∧F.blocks_.all headOk=true∧many F≤80∧many F=F.params_ + sumI F.blocks_∧0≤sumI F.blocks_∧F.blocks_.all (bodyOk F.blocks_ (many F))=true:=by
  simp only [goodF,Bool.and_eq_true,decide_eq_true_eq] at h
  obtain ⟨h1,h2,h3,h4,h5,h6⟩:=h
  have h1':=inR_t.1 h1
  have h2':=inR_t.1 h2
  obtain ⟨c1,c2,c3⟩:=cntB_sum F.blocks_ F.params_ h4 h1'.1 (by omega)
  exact ⟨h1',⟨h2'.1,by omega⟩,h4,h5,c1,c2,h6⟩
end Go.Proofs.YthafdegfjadijaaGreat
end

section
namespace Go.Proofs.YthafdegfjadijaaGreat
set_option maxRecDepth 100000
set_option linter.unusedSimpArgs false
set_option linter.unusedVariables false
def isBlk (F:Func) (k:Int):Bool:=goodF F && inR k 0 (IntKind.i64.wrap (F.blocks_.length - 1))
theorem l13Is_c (F:Func) (k:Int) (hF:Enc.good F):PureP Tryz.prog 47 [vFunc F,.d (.int .i64 k)] (· = .d (.bool (isBlk F k))):=by
  refine pure_of Tryz.func47 en_47 rfl rfl (W_run mixed ⟨[K_37,K_64],[K_37h,K_64h],[],15,0,[0,1,2,4],[7]⟩ (fun _=>[]) (by kernel_rfl) ?_)
  simp only [Tryz.f47,stripX,stripOps,pickOps]
  simp [K_37_f,K_37_e,K_64_f,K_64_e,K_37h_f,K_37h_e,K_64h_f,K_64h_e,K_37h_g,K_64h_g,hF]
  repeat' first | apply And.intro | intro _
  all_goals simp [isBlk, *]
noncomputable def K_47:Ent Tryz.prog:=Ent.p2 (α:=Func) (β:=Int) 47 (fun F k=>Enc.good F) (fun F k=>.d (.bool (isBlk F k))) (fun F k hc=>l13Is_c F k hc)
theorem K_47_f:K_47.f=47:=rfl
theorem K_47_e (F0:Int) (F1:List Block) (k:Int):K_47.e [.agg [.d (.int .i64 F0),.d (dBlockS F1)],.d (.int .i64 k)]=some (Enc.good (Func.mk F0 F1),.d (.bool (isBlk (Func.mk F0 F1) k)),[]):=by unfold K_47;exact Ent.p2_eq (α:=Func) (β:=Int) (Func.mk F0 F1) k
noncomputable def K_47h:EntH Tryz.prog:=EntH.pk2 (α:=Func) (β:=Int) 47 (fun F k=>Enc.good F) (fun F k=>.d (.bool (isBlk F k))) (fun F k=>[]) (fun F k hc=>PureP.ans (l13Is_c F k hc))
theorem K_47h_f:K_47h.f=47:=rfl
theorem K_47h_g:K_47h.gro=true:=rfl
theorem K_47h_e {x1 x2:V} {H:Heap}:K_47h.e [x1,x2] H=guardR ((decA (α:=Func) H x1).1∧(decA (α:=Int) H x2).1) (peekR (Enc.good (decA (α:=Func) H x1).2) (.d (.bool (isBlk (decA (α:=Func) H x1).2 (decA (α:=Int) H x2).2))) ([]) H):=rfl
theorem isBlk_t {F:Func} {k:Int} (hF:Enc.good F) (h:isBlk F k=true):goodF F=true∧0≤k∧k < F.blocks_.length:=by
  simp only [isBlk,Bool.and_eq_true] at h
  have:=inR_index (good_len hF.2) h.2
  exact ⟨h.1,this.1,by omega⟩
end Go.Proofs.YthafdegfjadijaaGreat
end

section
namespace Go.Proofs.YthafdegfjadijaaGreat
set_option maxRecDepth 100000
set_option linter.unusedSimpArgs false
set_option linter.unusedVariables false
theorem hasL_iff {l:List Int} {x:Int}:hasL l x=true ↔ x∈l:=by simp [hasL]
theorem Rch.ne {nx:List (List Int)} {fr but x:Int} (h:Rch nx fr but x):x ≠ but:=by
  cases h with
  | base h=>exact h
  | step _ _ h=>exact h
theorem rchB_get {nx:List (List Int)} {fr but:Int} {k:Nat} (h:k < nx.length):((rchB nx fr but)[k]?.getD false=true) ↔ Rch nx fr but k:=by
  simp [rchB,h]
theorem domE_iff {nx:List (List Int)} {b k:Nat} (h:b < nx.length):domE nx b k=true ↔ Rch nx 0 (-1) b∧¬ Rch nx 0 k b:=by
  unfold domE
  rw [Bool.and_eq_true,rchB_get h,Bool.not_eq_true']
  refine and_congr Iff.rfl ⟨fun q r=>?_,fun q=>?_⟩
  · rw [(rchB_get h).2 r] at q;cases q
  · cases e:(rchB nx 0 k)[b]?.getD false with
    | false=>rfl
    | true=>exact absurd ((rchB_get h).1 e) q
theorem domL_get {nx:List (List Int)} {b k:Nat} (hb:b < nx.length) (hk:k < nx.length):(((domL nx)[b]?.getD default)[k]?.getD false=true) ↔ Rch nx 0 (-1) k∧Rch nx 0 (-1) b∧¬ Rch nx 0 k b:=by
  have e:((domL nx)[b]?.getD default)[k]?.getD false=domF nx (listB (rchB nx 0 (-1))) (listB (rchB nx 0 (-1))).length b k:=by simp [domL,hb,rowOf,hk]
  rw [e,domF,Bool.and_eq_true,domE_iff hb,List.take_length,List.contains_iff_mem,listB_rchB]
  constructor
  · rintro ⟨⟨_,_,h⟩,h2⟩;exact ⟨h,h2⟩
  · rintro ⟨h,h2⟩;exact ⟨⟨by omega,by omega,h⟩,h2⟩
theorem allS_get {F:Func} {b k:Nat} (hb:b < F.blocks_.length) (hk:k < F.blocks_.length):hasL ((allS F)[b]?.getD default) k=true ↔ Rch (nextL F.blocks_) 0 (-1) k∧Rch (nextL F.blocks_) 0 (-1) b∧¬ Rch (nextL F.blocks_) 0 k b:=by
  have hln:(nextL F.blocks_).length=F.blocks_.length:=by simp [nextL]
  have e:(allS F)[b]?.getD default=if (b:Int)∈allR F then adS F b else []:=by simp [allS,hb]
  have mR:∀ x:Nat,x < F.blocks_.length→((x:Int)∈allR F ↔ Rch (nextL F.blocks_) 0 (-1) x):=fun x hx=>by
    show (x:Int)∈listB _ ↔ _
    rw [listB_rchB,hln]
    exact ⟨fun q=>q.2.2,fun q=>⟨by omega,by omega,q⟩⟩
  have mF:hasL (fromL F 0 k) b=true ↔ Rch (nextL F.blocks_) 0 k b:=by
    rw [hasL_iff]
    show (b:Int)∈listB _ ↔ _
    rw [listB_rchB,hln]
    exact ⟨fun q=>q.2.2,fun q=>⟨by omega,by omega,q⟩⟩
  rw [hasL_iff,e]
  by_cases hr:(b:Int)∈allR F
  · rw [if_pos hr,adS,List.mem_filter,hasL_iff,mR k hk,domS,mem_numsOf]
    have hb':=(mR b hb).1 hr
    simp only [Int.toNat_natCast,domP,Bool.or_eq_true,decide_eq_true_eq,Bool.not_eq_true']
    constructor
    · rintro ⟨⟨_,_,h⟩,h2⟩
      refine ⟨h2,hb',fun q=>?_⟩
      rcases h with h | h
      · exact q.ne h.symm
      · rw [mF.2 q] at h;cases h
    · rintro ⟨h,_,h2⟩
      refine ⟨⟨by omega,by omega,.inr ?_⟩,h⟩
      cases q:hasL (fromL F 0 k) b with
      | false=>rfl
      | true=>exact absurd (mF.1 q) h2
  · rw [if_neg hr]
    exact ⟨fun h=>absurd h List.not_mem_nil,fun h=>absurd ((mR b hb).2 h.2.1) hr⟩
theorem dom_same {F:Func} {b k:Nat} (hb:b < F.blocks_.length) (hk:k < F.blocks_.length):((domL (nextL F.blocks_))[b]?.getD default)[k]?.getD false=hasL ((allS F)[b]?.getD default) k:=by
  have hln:(nextL F.blocks_).length=F.blocks_.length:=by simp [nextL]
  exact Bool.eq_iff_iff.2 ((domL_get (by omega) (by omega)).trans (allS_get hb hk).symm)
def okW (w:Ways) (n b:Int):Prop:=okV w.view_.v n∧(0≤bk w.view_.v n→(0≤b∧b < w.dom_.length)∧bk w.view_.v n < (w.dom_[b.toNat]?.getD default).length)
theorem good_flow {F : Func} (h : goodF F = true) : okFlow F := by
  obtain ⟨_,hl,_,_,_,_,hb⟩:=goodF_spec h
  have key:∀ b∈F.blocks_,b.jumps_.length≤2∧∀ j∈b.jumps_,0≤j.to_∧j.to_ < F.blocks_.length:=by
    intro b hbm
    have h1:=List.all_eq_true.1 hb b hbm
    simp only [bodyOk,Bool.and_eq_true] at h1
    have h2:=h1.2
    have js:jumpsOk F.blocks_ (many F) b.jumps_=true→∀ j∈b.jumps_,0≤j.to_∧j.to_ < F.blocks_.length:=fun q j hj=>by
      have q2:=List.all_eq_true.1 q j hj
      simp only [jumpOk,Bool.and_eq_true] at q2
      have:=inR_index (by omega) q2.1
      omega
    unfold endsOk at h2
    split at h2
    · simp only [Bool.and_eq_true,decide_eq_true_eq] at h2
      exact ⟨by omega,js h2.2.2⟩
    · split at h2
      · simp only [Bool.and_eq_true,decide_eq_true_eq] at h2
        exact ⟨by omega,js h2.2.2⟩
      · split at h2
        · simp only [Bool.and_eq_true,decide_eq_true_eq] at h2
          exact ⟨by omega,js h2.2.2⟩
        · cases h2
  refine ⟨⟨by omega,fun b hb=>(key b hb).1⟩,⟨by simp [nextL];omega,fun l hl=>?_⟩,by omega⟩
  obtain ⟨b,hb,rfl⟩:=List.mem_map.1 hl
  refine ⟨by simp [tos];exact (key b hb).1,fun x hx=>?_⟩
  obtain ⟨j,hj,rfl⟩:=List.mem_map.1 hx
  have:=(key b hb).2 j hj
  simp [nextL];omega
end Go.Proofs.YthafdegfjadijaaGreat
end
