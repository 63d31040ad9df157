/- What the values of a function use, one by one, and how often a value is used. No condition. -/
import Derived.Test.YtnomiclfiijniaaGreatQS17
import Derived.Test.YtnomiclfiijniaaGreatQS34
import Derived.Test.YtnomiclfiijniaaGreatQS43
import Derived.Test.YtnomiclfiijniaaGreatQS92
section
namespace Go.Proofs.YtnomiclfiijniaaGreat
set_option maxRecDepth 100000
set_option linter.unusedSimpArgs false
set_option linter.unusedVariables false
def szN (b:Block):Nat:=b.params_.toNat + b.insts_.length
def offN (bs:List Block) (k:Nat):Nat:=((bs.take k).map szN).sum
def fstN (F:Func) (k:Nat):Nat:=F.params_.toNat + offN F.blocks_ k
theorem offN_cons (b:Block) (bs:List Block) (k:Nat):offN (b :: bs) (k + 1)=szN b + offN bs k:=by simp [offN]
theorem offN_zero (bs:List Block):offN bs 0=0:=rfl
theorem offN_succ {bs:List Block} {k:Nat} (h:k < bs.length):offN bs (k + 1)=offN bs k + szN (bs[k]?.getD default):=by
  unfold offN
  rw [take_snocD h,List.map_append,List.sum_append];simp
theorem headOk_szN {b:Block} (h:headOk b=true):0≤b.params_∧b.params_≤4∧b.insts_.length≤80∧IntKind.i64.wrap (b.params_ + b.insts_.length)=(szN b:Int):=by
  simp only [headOk,Bool.and_eq_true,decide_eq_true_eq] at h
  obtain ⟨h1,h2⟩:=inR_t.1 h.1
  refine ⟨h1,h2,h.2, ?_⟩
  rw [wrap_id (by omega) (by omega)]
  unfold szN;omega
theorem cntB_N:∀ (bs:List Block) (m:Nat),bs.all headOk=true→m + 84 * bs.length≤1000000→cntB bs m=((m + offN bs bs.length:Nat):Int)
  | [],m,_,_=>by simp [cntB,offN]
  | b :: bs,m,h,hm=>by
    simp only [List.all_cons,Bool.and_eq_true] at h
    obtain ⟨p0,p1,p2,e⟩:=headOk_szN h.1
    have hs:szN b≤84:=by unfold szN;omega
    simp only [List.length_cons] at hm
    rw [cntB_cons,e,wrap_id (by omega) (by omega),show ((m:Int) + (szN b:Int))=((m + szN b:Nat):Int) by omega,cntB_N bs (m + szN b) h.2 (by omega),List.length_cons,offN_cons]
    omega
theorem firsts_N : ∀ (bs : List Block) (m : Nat), bs.all headOk = true → m + 84 * bs.length ≤ 1000000 → ∀ k, k < bs.length → (firsts bs m)[k]? = some ((m + offN bs k : Nat) : Int)
  | [],m,_,_,k,hk=>by simp at hk
  | b :: bs, m, h, hm, k, hk => by
    simp only [List.all_cons,Bool.and_eq_true] at h
    obtain ⟨p0,p1,p2,e⟩:=headOk_szN h.1
    have hs:szN b≤84:=by unfold szN;omega
    simp only [List.length_cons] at hm hk
    cases k with
    | zero=>simp [firsts,offN]
    | succ k =>
      have e2:firsts (b :: bs) (m:Int)=(m:Int) :: firsts bs ((m + szN b:Nat):Int):=by
        simp only [firsts]
        rw [e,wrap_id (by omega) (by omega)]
        congr 2
      rw [e2,List.getElem?_cons_succ,firsts_N bs (m + szN b) h.2 (by omega) k (by omega),offN_cons]
      congr 2;omega
theorem blkOf_N:∀ (bs:List Block) (i:Nat),bs.all headOk=true→∀ k j,k < bs.length→offN bs k≤j→j < offN bs (k + 1)→(blkOf bs i)[j]? = some ((i + k:Nat):Int)
  | [],i,_,k,j,hk,_,_=>by simp at hk
  | b :: bs, i, h, k, j, hk, h1, h2 => by
    simp only [List.all_cons,Bool.and_eq_true] at h
    obtain ⟨p0,p1,p2,e⟩:=headOk_szN h.1
    have e2:blkOf (b :: bs) i=List.replicate (szN b) (i:Int)++blkOf bs (i + 1):=by
      simp only [blkOf]
      rw [e,Int.toNat_natCast]
    rw [e2]
    simp only [List.length_cons] at hk
    cases k with
    | zero =>
      rw [offN_cons,offN_zero] at h2
      rw [List.getElem?_append_left (by simp;omega),List.getElem?_replicate,if_pos (by omega)];rfl
    | succ k =>
      rw [offN_cons] at h1 h2
      rw [List.getElem?_append_right (by simp;omega),List.length_replicate,blkOf_N bs (i + 1) h.2 k (j - szN b) (by omega) (by omega) (by omega)]
      congr 2;omega
theorem offN_mono (bs:List Block):∀ {k l:Nat},k≤l→offN bs k≤offN bs l:=by
  intro k l h
  induction h with
  | refl=>exact Nat.le_refl _
  | step h ih =>
    rename_i m
    refine Nat.le_trans ih ?_
    by_cases hm:m < bs.length
    · rw [offN_succ hm];omega
    · unfold offN
      rw [List.take_of_length_le (by omega),List.take_of_length_le (by omega)]
      exact Nat.le_refl _
theorem offN_find {bs:List Block}:∀ {n:Nat},n < offN bs bs.length→∃ k,k < bs.length∧offN bs k≤n∧n < offN bs (k + 1):=by
  induction bs with
  | nil=>intro n h;simp [offN] at h
  | cons b bs ih =>
    intro n h
    rw [List.length_cons,offN_cons] at h
    by_cases hn:n < szN b
    · exact ⟨0,by simp,Nat.zero_le _,by rw [offN_cons,offN_zero];omega⟩
    · obtain ⟨k,h1,h2,h3⟩:=ih (n:=n - szN b) (by omega)
      exact ⟨k + 1,by simp;omega,by rw [offN_cons];omega,by rw [offN_cons];omega⟩
structure Lay (F:Func):Prop where
  par:((F.params_.toNat:Nat):Int)=F.params_
  len:F.blocks_.length≤8∧0 < F.blocks_.length
  many:many F=((fstN F F.blocks_.length:Nat):Int)
  first:∀ k,k < F.blocks_.length→(viewD F).first_[k]? = some ((fstN F k:Nat):Int)
  bkP:∀ n:Nat,n < F.params_.toNat→bk (viewD F) n = -1
  bkB:∀ (k n:Nat),k < F.blocks_.length→fstN F k≤n→n < fstN F (k + 1)→bk (viewD F) n=k
  find:∀ n:Nat,n < fstN F F.blocks_.length→n < F.params_.toNat∨∃ k,k < F.blocks_.length∧fstN F k≤n∧n < fstN F (k + 1)
theorem lay {F:Func} (h:goodF F=true):Lay F:=by
  obtain ⟨hp,hl,hh,hm,hc,hs,_⟩:=goodF_spec h
  have e:((F.params_.toNat:Nat):Int)=F.params_:=by omega
  have ef:(viewD F).block_=List.replicate F.params_.toNat (-1)++blkOf F.blocks_ 0:=rfl
  refine ⟨e,by omega, ?_,fun k hk=>?_,fun n hn=>?_,fun k n hk h1 h2=>?_,fun n hn=>?_⟩
  · show cntB F.blocks_ F.params_=_
    rw [← e,cntB_N _ _ hh (by omega)];rfl
  · show (firsts F.blocks_ F.params_)[k]? = _
    rw [← e,firsts_N _ _ hh (by omega) k hk];rfl
  · unfold bk
    rw [ef,Int.toNat_natCast,List.getElem?_append_left (by simpa using hn),List.getElem?_replicate,if_pos hn];rfl
  · unfold bk
    unfold fstN at h1 h2
    rw [ef,Int.toNat_natCast,List.getElem?_append_right (by simp;omega),List.length_replicate,blkOf_N _ 0 hh k (n - F.params_.toNat) hk (by omega) (by omega)]
    simp
  · by_cases hn':n < F.params_.toNat
    · exact .inl hn'
    · unfold fstN at hn
      obtain ⟨k,h1,h2,h3⟩:=offN_find (bs:=F.blocks_) (n:=n - F.params_.toNat) (by omega)
      exact .inr ⟨k,h1,by unfold fstN;omega,by unfold fstN;omega⟩
theorem fstN_succ {F:Func} {k:Nat} (h:k < F.blocks_.length):fstN F (k + 1)=fstN F k + szN (F.blocks_[k]?.getD default):=by
  unfold fstN;rw [offN_succ h];omega
theorem fstN_mono (F:Func) {k l:Nat} (h:k≤l):fstN F k≤fstN F l:=by
  unfold fstN;have:=offN_mono F.blocks_ h;omega
theorem blk_head {F:Func} (h:goodF F=true) {k:Nat} (hk:k < F.blocks_.length):0≤(F.blocks_[k]?.getD default).params_∧(F.blocks_[k]?.getD default).params_≤4∧(F.blocks_[k]?.getD default).insts_.length≤80:=by
  obtain ⟨hp,hl,hh,_⟩:=goodF_spec h
  have:=headOk_szN (List.all_eq_true.1 hh (F.blocks_[k]?.getD default) (by rw [List.getElem?_eq_getElem hk];exact List.getElem_mem hk))
  exact ⟨this.1,this.2.1,this.2.2.1⟩
end Go.Proofs.YtnomiclfiijniaaGreat
end

section
namespace Go.Proofs.YtnomiclfiijniaaGreat
set_option linter.unusedVariables false
theorem at_in {F:Func} (hg:goodF F=true) {k n:Nat} (hk:k < F.blocks_.length) (h1:fstN F k≤n) (h2:n < fstN F (k + 1)) :
    bk (viewD F) n=k∧atV (viewD F) n=(n:Int) - fstN F k - (F.blocks_[k]?.getD default).params_:=by
  have hL:=lay hg
  have hb:=hL.bkB k n hk h1 h2
  obtain ⟨p0,p4,_⟩:=blk_head hg hk
  have hm:=(many_rng hg).2
  have e:=hL.many
  have:=fstN_mono F (k:=k + 1) (l:=F.blocks_.length) (by omega)
  refine ⟨hb, ?_⟩
  show IntKind.i64.wrap (IntKind.i64.wrap ((n:Int) - (viewD F).first_[(bk (viewD F) n).toNat]?.getD 0) - ((viewD F).blocks_[(bk (viewD F) n).toNat]?.getD default).params_)=_
  rw [hb,Int.toNat_natCast,hL.first k hk,Option.getD_some,viewD_blocks,wrap_id (n:=(n:Int) - _) (by omega) (by omega),wrap_id (by omega) (by omega)]
theorem argL_par {F:Func} (hg:goodF F=true) {j:Nat} (hj:j < F.params_.toNat) (hm:(j:Int) < many F):argL F j=[]:=by
  have hb:=(lay hg).bkP j hj
  rcases (view_spec hg (Int.natCast_nonneg j) hm).2 with ⟨_,_,q⟩ | ⟨q,_⟩
  · unfold argL;rw [q];exact if_neg (fun h=>absurd h.2 (by decide))
  · omega
theorem argL_blk {F:Func} (hg:goodF F=true) {k p:Nat} (hk:k < F.blocks_.length) (hp:(p:Int) < (F.blocks_[k]?.getD default).params_) (hm:((fstN F k + p:Nat):Int) < many F) (h2:fstN F k + p < fstN F (k + 1)):argL F ((fstN F k + p:Nat):Int)=[]:=by
  obtain ⟨e1,e2⟩:=at_in hg hk (Nat.le_add_right _ _) h2
  rcases (view_spec hg (Int.natCast_nonneg _) hm).2 with ⟨q,_,_⟩ | ⟨_,_,_,_,_,q⟩
  · omega
  · rw [if_neg (by omega)] at q
    unfold argL;rw [q];exact if_neg (fun h=>absurd h.2 (by decide))
theorem argL_ins {F:Func} (hg:goodF F=true) {k i:Nat} (hk:k < F.blocks_.length) (hi:i < (F.blocks_[k]?.getD default).insts_.length) (hm:((fstN F k + (F.blocks_[k]?.getD default).params_.toNat + i:Nat):Int) < many F) (h2:fstN F k + (F.blocks_[k]?.getD default).params_.toNat + i < fstN F (k + 1)) :
    argL F ((fstN F k + (F.blocks_[k]?.getD default).params_.toNat + i:Nat):Int)=((F.blocks_[k]?.getD default).insts_[i]?.getD default).args_:=by
  obtain ⟨e1,e2⟩:=at_in hg hk (by omega) h2
  obtain ⟨p0,p4,_⟩:=blk_head hg hk
  have hat:atV (viewD F) ((fstN F k + (F.blocks_[k]?.getD default).params_.toNat + i:Nat):Int)=i:=by rw [e2];omega
  obtain ⟨q1,q2⟩:=inst_same hg (Int.natCast_nonneg _) hm (by omega) (by omega)
  have hv:isVal F ((fstN F k + (F.blocks_[k]?.getD default).params_.toNat + i:Nat):Int)=true:=by
    obtain ⟨m0,m1⟩:=many_rng hg
    simp only [isVal,hg,Bool.true_and]
    exact inR_t.2 ⟨Int.natCast_nonneg _,by rw [wrap_sub (by omega) (by omega)];omega⟩
  unfold argL
  rw [q1,if_pos ⟨hv,by show 0≤bk _ _;omega⟩]
  unfold insAt
  rw [q1,e1,hat]
  rfl
def sumN (f:Nat→Nat) (n:Nat):Nat:=((List.range n).map f).sum
theorem sumN_succ (f:Nat→Nat) (n:Nat):sumN f (n + 1)=sumN f n + f n:=by simp [sumN,List.range_succ]
theorem sumN_zero {f:Nat→Nat} {a:Nat}:∀ b,(∀ i,i < b→f (a + i)=0)→sumN f (a + b)=sumN f a
  | 0,_=>rfl
  | b + 1,h=>by rw [← Nat.add_assoc,sumN_succ,sumN_zero b fun i hi=>h i (by omega),h b (by omega)];rfl
theorem sumN_ins {f:Nat→Nat} {a:Nat} {v:Int} (l:List Inst):∀ b,b≤l.length→(∀ i,i < b→f (a + i)=cntI v (l[i]?.getD default).args_)→sumN f (a + b)=sumN f a + cntI v ((l.take b).flatMap (·.args_))
  | 0,_,_=>by simp [cntI]
  | b + 1,hb,h=>by
    rw [← Nat.add_assoc,sumN_succ,sumN_ins l b (by omega) fun i hi=>h i (by omega),h b (by omega),List.take_succ_eq_append_getElem (by omega),List.flatMap_append,cntI_app,List.getElem?_eq_getElem (by omega)]
    simp [Nat.add_assoc]
def argN (F:Func) (v:Int) (j:Nat):Nat:=cntI v (argL F j)
theorem args_le {F:Func} (hg:goodF F=true) (v:Int):∀ k,k≤F.blocks_.length→sumN (argN F v) (fstN F k)≤cntP F.blocks_ v k
  | 0,_=>by
    have hL:=lay hg
    have e:fstN F 0=0 + F.params_.toNat:=by unfold fstN;rw [offN_zero];omega
    have hm:=fstN_mono F (Nat.zero_le F.blocks_.length)
    rw [e,sumN_zero _ fun i hi=>by unfold argN;rw [show (0 + i:Nat)=i by omega,argL_par hg hi (by rw [hL.many];omega)];rfl]
    exact Nat.zero_le _
  | k + 1, hk => by
    have ih:=args_le hg v k (by omega)
    have hL:=lay hg
    have hs:=fstN_succ (F:=F) (k:=k) (by omega)
    have hm:=fstN_mono F (k:=k + 1) (l:=F.blocks_.length) hk
    obtain ⟨p0,p4,_⟩:=blk_head hg (k:=k) (by omega)
    rw [cntP_succ (by omega)]
    have e:fstN F (k + 1)=fstN F k + (F.blocks_[k]?.getD default).params_.toNat + (F.blocks_[k]?.getD default).insts_.length:=by rw [hs];unfold szN;omega
    have h1:sumN (argN F v) (fstN F k + (F.blocks_[k]?.getD default).params_.toNat)=sumN (argN F v) (fstN F k):=sumN_zero _ fun i hi=>by
      unfold argN
      rw [argL_blk hg (by omega) (by omega) (by rw [hL.many];omega) (by omega)];rfl
    have h2:=sumN_ins (f:=argN F v) (a:=fstN F k + (F.blocks_[k]?.getD default).params_.toNat) (v:=v) (F.blocks_[k]?.getD default).insts_ _ (Nat.le_refl _) fun i hi=>by
      unfold argN
      rw [argL_ins hg (by omega) hi (by rw [hL.many];omega) (by omega)]
    rw [List.take_length] at h2
    rw [e,h2,h1]
    unfold bseq
    rw [cntI_app]
    omega
theorem args_uses {F:Func} (hg:goodF F=true) {v:Int} (hv:0≤v):(sumN (argN F v) (many F).toNat:Int)≤usesN F.blocks_ v.toNat:=by
  obtain ⟨n,rfl⟩:=Int.eq_ofNat_of_zero_le hv
  have h:=args_le hg n F.blocks_.length (Nat.le_refl _)
  have e:=cntP_uses (bs:=F.blocks_) (v:=n) fun b hb x hx=>(good_all hg hb x hx).1
  rw [(lay hg).many,Int.toNat_natCast,Int.toNat_natCast,← e]
  omega
theorem blk_first {F:Func} (hg:goodF F=true) {n:Int} (h0:0≤n) (h1:n < many F):(bk (viewD F) n < 0→n < F.params_)∧(0≤bk (viewD F) n→bk (viewD F) n < F.blocks_.length∧(fstN F (bk (viewD F) n).toNat:Int)≤n):=by
  obtain ⟨n,rfl⟩:=Int.eq_ofNat_of_zero_le h0
  have hL:=lay hg
  rcases hL.find n (by rw [hL.many] at h1;omega) with h | ⟨k,hk,q1,q2⟩
  · have:=hL.bkP n h
    have:=hL.par
    exact ⟨fun _=>by omega,fun _=>by omega⟩
  · have:=hL.bkB k n hk q1 q2
    exact ⟨fun _=>by omega,fun _=>by rw [this];exact ⟨by omega,by rw [Int.toNat_natCast];omega⟩⟩
theorem allU_len2 {F:Func} (hg:goodF F=true):(F.blocks_.flatMap allU).length≤1000000000:=by
  obtain ⟨h1,h2⟩:=good_small hg
  have hb:∀ b∈F.blocks_,(allU b).length≤1000 * 80 + (1 + 1000 * 2):=fun b hb=>by
    obtain ⟨q1,q2,q3,q4⟩:=h2 b hb
    have e1:=sum_le (fun x:Inst=>x.args_.length) 1000 b.insts_ q3
    have e2:=sum_le (fun x:Jump=>x.args_.length) 1000 b.jumps_ q4
    have e3:((if b.end_=2 then [] else [b.value_]):List Int).length≤1:=by split <;> simp
    unfold allU usedL
    rw [List.length_append,List.length_append,List.length_flatMap,List.length_flatMap]
    have e4:1000 * b.insts_.length≤1000 * 80:=Nat.mul_le_mul_left _ q1
    have e5:1000 * b.jumps_.length≤1000 * 2:=Nat.mul_le_mul_left _ q2
    omega
  have:=sum_le (fun b=>(allU b).length) _ F.blocks_ hb
  rw [List.length_flatMap]
  have e:(1000 * 80 + (1 + 1000 * 2)) * F.blocks_.length≤(1000 * 80 + (1 + 1000 * 2)) * 8:=Nat.mul_le_mul_left _ h1
  omega
theorem allU_mp (g:Int→Int) (b:Block):allU (mpB g b)=(allU b).map g:=by
  unfold allU usedL mpB
  simp only [List.map_append,List.flatMap_map,List.map_flatMap,mpI,mpJ]
  by_cases h:b.end_=2
  · simp [h]
  · simp [h]
theorem uses_gone {F:Func} (hg:goodF F=true) {a b:Int} (ha:0≤a) (hb:0≤b) (hne:a ≠ b):usesN (mpF (rdG a b) F).blocks_ a.toNat=0:=by
  unfold usesN
  have:(((mpF (rdG a b) F).blocks_.flatMap allU).filter fun x=>x.toNat == a.toNat)=[]:=by
    rw [List.filter_eq_nil_iff]
    intro x hx
    obtain ⟨c,hc,hxc⟩:=List.mem_flatMap.1 hx
    obtain ⟨d,hd,rfl⟩:=List.mem_map.1 hc
    rw [allU_mp] at hxc
    obtain ⟨y,hy,rfl⟩:=List.mem_map.1 hxc
    have:=good_all hg hd y hy
    unfold rdG
    split <;> simp <;> omega
  rw [this];rfl
end Go.Proofs.YtnomiclfiijniaaGreat
end
