/- The back edges: both programs, closed. No condition. -/
import Derived.Test.YthafdegfjadijaaGreatRows
import Derived.Test.YthafdegfjadijaaGreatQS144
import Derived.Test.YthafdegfjadijaaGreatQS146
import Derived.Test.YthafdegfjadijaaGreatQS150
section
namespace Go.Proofs.YthafdegfjadijaaGreat
set_option maxRecDepth 100000
set_option linter.unusedSimpArgs false
set_option linter.unusedVariables false
theorem boT_all {F:Func} (hg:goodF F=true) {x:Int}:x∈(boT F).1 ↔ Rch (nextL F.blocks_) 0 (-1) x:=by
  obtain ⟨hv1,hn1,hp1⟩:=good_flow hg
  have V:=boT_vis hg
  constructor
  · refine fun h=>V.rch hn1 (fun x hx=>.step (.base (by decide)) hx (by have:=(okNext_get hn1 _).2 x hx;omega)) (fun x hx=>?_) x h
    rw [List.mem_singleton.1 hx];exact .base (by decide)
  · intro h
    induction h with
    | base=>exact V.sub (List.mem_singleton.2 rfl)
    | step h1 hb hne ih =>
      rename_i a b
      by_cases e:a=0
      · subst e;exact V.all b hb
      · exact V.closed a ih (fun q=>e (List.mem_singleton.1 q)) b hb
theorem boV_facts {F:Func} (hg:goodF F=true):(boV F).length=(allR F).length∧(boV F).all (hasL (allR F))=true∧(boV F)[0]?.getD 0=0∧0 < (boV F).length∧(allR F).length≤8∧(boV F).Nodup:=by
  obtain ⟨hv1,hn1,hp1⟩:=good_flow hg
  have V:=boT_vis hg
  obtain ⟨v,e,m,nd⟩:=V.left
  simp only [List.append_nil] at e m
  subst e
  have hb:boV F=0 :: (boT F).2:=by unfold boV;rw [if_pos hg]
  have nd0:(boV F).Nodup:=by
    rw [hb]
    exact List.nodup_cons.2 ⟨fun q=>((m 0).1 q).2 (List.mem_singleton.2 rfl),nd⟩
  have mem:∀ x,x∈boV F ↔ x∈allR F:=fun x=>by
    rw [mem_allR hg,← boT_all hg,hb,List.mem_cons,m,List.mem_singleton]
    constructor
    · rintro (rfl | h)
      · exact V.sub (List.mem_singleton.2 rfl)
      · exact h.1
    · intro h
      by_cases e:x=0
      · exact .inl e
      · exact .inr ⟨h,e⟩
  have h8:(allR F).length≤8:=fromL_len hn1 0 (-1)
  have nr:(allR F).Nodup:=sorted_nodup (numsOf_sorted _ _)
  refine ⟨Nat.le_antisymm (nodup_len_le nd0 fun x hx=>(mem x).1 hx) (nodup_len_le nr fun x hx=>(mem x).2 hx),List.all_eq_true.2 fun x hx=>hasL_iff.2 ((mem x).1 hx),by rw [hb];rfl,by rw [hb];simp,h8,nd0⟩
theorem dS_len {F:Func} (hg:goodF F=true) (k:Int):(dS F k).length≤8:=by
  obtain ⟨hv1,hn1,hp1⟩:=good_flow hg
  by_cases h:k.toNat < F.blocks_.length
  · have:=nodup_len_le (m:=allR F) (sorted_nodup (dS_sorted F k)) fun x hx=>by
      have hk:0≤((k.toNat:Nat):Int)∧((k.toNat:Nat):Int) < F.blocks_.length:=by omega
      have:=(mem_dS hg hk (x:=x)).1 hx
      exact (mem_allR hg).2 this.rch
    have:=fromL_len hn1 0 (-1)
    unfold allR at *
    omega
  · unfold dS
    rw [List.getElem?_eq_none (by simpa [allS] using h)];exact Nat.zero_le _
end Go.Proofs.YthafdegfjadijaaGreat
end

section
namespace Go.Proofs.YthafdegfjadijaaGreat
set_option maxRecDepth 100000
set_option linter.unusedSimpArgs false
set_option linter.unusedVariables false
theorem Own.pushS {α β:Type} [Enc β] [Dec β] [Inhabited β] [Tr α β] {G G':Heap} {s:AS α} (q:Own G s) {x:α} (ox:Own G' x) {K n:Nat} (hn:n=s.l.length + 1) (hx:∀ j∈ids x,G.length≤j∧j ≠ K) (hl:G.length≤K)
    (hS:∀ j,j∈s.l.flatMap ids→j < G.length→(0 < s.l.length→j ≠ s.id)→G'[j]? = G[j]?) (hK:G'[K]? = some (.row (Enc.size β) (s.l.map Tr.cells++[Tr.cells x]))) :
    Own G' (⟨.sl K (Enc.size β) 0 n,s.l++[x]⟩:AS α)∧∀ j∈ids (⟨.sl K (Enc.size β) 0 n,s.l++[x]⟩:AS α),j∈ids s∨G.length≤j:=by
  have mB:∀ j∈s.l.flatMap ids,j∈ids s∧(0 < s.l.length→j ≠ s.id):=fun j hj=>by
    by_cases h:0 < s.l.length
    · obtain ⟨_,_,rn,ri⟩:=q.row h
      exact ⟨by rw [ri];exact List.mem_cons_of_mem _ hj,fun _ e=>rn (e ▸ hj)⟩
    · have:s.l=[]:=List.length_eq_zero_iff.1 (by omega)
      rw [this] at hj;exact absurd hj List.not_mem_nil
  have oL:OwnL G' s.l:=q.elems.same fun j hj h=>hS j hj h (mB j hj).2
  have oS:=oL.snoc ox fun j hj hm=>by have:=q.lt (mB j hm).1;have:=(hx j hj).1;omega
  have fm:(s.l++[x]).flatMap ids=s.l.flatMap ids++ids x:=by simp
  have hnn:n=(s.l++[x]).length:=by rw [List.length_append];exact hn
  have o:=Own.mkS (id:=K) oS (by rw [List.map_append];exact hK) (by
    rw [fm];intro h
    rcases List.mem_append.1 h with h | h
    · have:=q.lt (mB K h).1;omega
    · exact (hx K h).2 rfl)
  rw [← hnn] at o
  refine ⟨o,fun j hj=>?_⟩
  rw [ids_sl (s:=(⟨.sl K (Enc.size β) 0 n,s.l++[x]⟩:AS α)) rfl,fm] at hj
  rcases List.mem_cons.1 hj with rfl | hj
  · exact .inr hl
  · rcases List.mem_append.1 hj with hj | hj
    · exact .inl (mB j hj).1
    · exact .inr (hx j hj).1
def bkOne (g:Nat→List Int) (k:Nat):List (List Int):=(g k).map fun x=>[(k:Int),x]
def bkTo (g:Nat→List Int):Nat→List (List Int)
  | 0=>[]
  | k + 1=>bkTo g k++bkOne g k
theorem bkTo_len (g:Nat→List Int) (m:Nat) (hg:∀ k,(g k).length≤m):∀ k,(bkTo g k).length≤k * m
  | 0=>by simp [bkTo]
  | k + 1=>by
    have:=bkTo_len g m hg k
    have:=hg k
    simp only [bkTo,bkOne,List.length_append,List.length_map,Nat.add_mul]
    omega
theorem mem_bkTo {g:Nat→List Int} {e:List Int}:∀ {n:Nat},e∈bkTo g n ↔ ∃ k x,k < n∧x∈g k∧e=[(k:Int),x]
  | 0=>by simp [bkTo]
  | n + 1 => by
    rw [bkTo,List.mem_append,mem_bkTo (n:=n),bkOne,List.mem_map]
    constructor
    · rintro (⟨k,x,h1,h2,h3⟩ | ⟨x,h1,rfl⟩)
      · exact ⟨k,x,by omega,h2,h3⟩
      · exact ⟨n,x,by omega,h1,rfl⟩
    · rintro ⟨k,x,h1,h2,h3⟩
      by_cases e:k=n
      · subst e;exact .inr ⟨x,h2,h3.symm⟩
      · exact .inl ⟨k,x,by omega,h2,h3⟩
noncomputable def bkN (nx:List (List Int)) (k:Nat):List Int:=(listB ((domL nx)[k]?.getD default)).filter (hasL (nx[k]?.getD default))
noncomputable def bkS (F:Func) (k:Nat):List Int:=(nextS F k).filter (hasL (dS F k))
noncomputable def bkL (F:Func):List (List Int):=bkTo (bkS F) F.blocks_.length
theorem foldl_sorted:∀ (l l0:List Int),l0.Pairwise (· < ·)→(l.foldl putL l0).Pairwise (· < ·)
  | [],l0,h=>h
  | a :: l,l0,h=>foldl_sorted l (putL l0 a) (putL_sorted h)
theorem nextS_sorted (F:Func) (k:Int):(nextS F k).Pairwise (· < ·):=foldl_sorted _ _ List.Pairwise.nil
theorem bk_same {F:Func} {k:Nat} (hk:k < F.blocks_.length):bkN (nextL F.blocks_) k=bkS F k:=by
  have e:listB ((domL (nextL F.blocks_))[k]?.getD default)=dS F k:=by rw [domR_same hk];unfold dS;rw [Int.toNat_natCast]
  unfold bkN bkS
  rw [e]
  refine sorted_ext ((dS_sorted F k).filter _) ((nextS_sorted F k).filter _) fun x=>?_
  rw [List.mem_filter,List.mem_filter,hasL_iff,hasL_iff,mem_nextS,Int.toNat_natCast]
  exact ⟨fun h=>⟨h.2,h.1⟩,fun h=>⟨h.2,h.1⟩⟩
theorem bkTo_congr {g g':Nat→List Int}:∀ {n:Nat},(∀ k,k < n→g k=g' k)→bkTo g n=bkTo g' n
  | 0,_=>rfl
  | n + 1,h=>by
    simp only [bkTo,bkOne,bkTo_congr (n:=n) fun k hk=>h k (by omega),h n (by omega)]
theorem nextS_len {F:Func} (hg:goodF F=true) (k:Nat):(nextS F k).length≤2:=by
  obtain ⟨hv1,hn1,hp1⟩:=good_flow hg
  have h2:(tos (F.blocks_[k]?.getD default)).length≤2:=by have:=(okNext_get hn1 k).1;rw [nextL_get] at this;exact this
  have:=foldl_len (tos (F.blocks_[k]?.getD default)) []
  unfold nextS
  rw [Int.toNat_natCast]
  simp only [List.length_nil] at this
  omega
theorem bkS_len {F:Func} (hg:goodF F=true) (k:Nat):(bkS F k).length≤2:=Nat.le_trans (List.length_filter_le ..) (nextS_len hg k)
theorem bkL_len {F:Func} (hg:goodF F=true):(bkL F).length≤16:=by
  have:=bkTo_len (bkS F) 2 (bkS_len hg) F.blocks_.length
  have:=(good_flow hg).1.1
  unfold bkL;omega
structure Bk (H G:Heap) (s:AS (AS Int)) (l:List (List Int)):Prop where
  own:Own G s
  fr:∀ j∈ids s,H.length≤j
  era:Tr.era s=l
  only:Only [] H G
  vw:(s.v=.d .nilsl∧s.l=[])∨(s.v=.sl s.id 1 0 l.length∧G[s.id]? = some (.row 1 (s.l.map Tr.cells))∧H.length≤s.id)
theorem Bk.len {H G:Heap} {s:AS (AS Int)} {l:List (List Int)} (q:Bk H G s l):s.l.length=l.length:=by
  rw [← q.era];exact (List.length_map _).symm
theorem Bk.push {H G G':Heap} {s:AS (AS Int)} {l:List (List Int)} (q:Bk H G s l) {k x:Int} {n:Nat} (hn:n=l.length + 1) (h1:G'[G.length]? = some (.row 1 (rI [k,x]))) (h2:G'[G.length + 2]? = some (.row 1 (s.l.map Tr.cells++[[.sl G.length 1 0 2]])))
    (hS:∀ j,j < G.length→(s.v=.d .nilsl∨j ≠ s.id)→G'[j]? = G[j]?):Bk H G' ⟨.sl (G.length + 2) 1 0 n,s.l++[⟨.sl G.length 1 0 2,[k,x]⟩]⟩ (l++[[k,x]]):=by
  have gl:=q.only.len
  have hl:=(List.getElem?_eq_some_iff.1 h2).1
  have hlen:=q.len
  obtain ⟨o,u⟩:=q.own.pushS (G':=G') (x:=(⟨.sl G.length 1 0 2,[k,x]⟩:AS Int)) (own_row h1) (K:=G.length + 2) (n:=n) (by omega) (fun j hj=>by
    rw [show (⟨.sl G.length 1 0 2,[k,x]⟩:AS Int)=⟨.sl G.length 1 0 [k,x].length,[k,x]⟩ from rfl,ids_row] at hj
    have:=List.mem_singleton.1 hj
    omega) (by omega) (fun j hm hj hne=>hS j hj (.inr (hne (by
      cases hs:s.l with
      | nil=>rw [hs] at hm;exact absurd hm List.not_mem_nil
      | cons a l=>simp)))) h2
  refine ⟨o,fun j hj=>(u j hj).elim (q.fr j) fun h=>by omega, ?_,⟨by omega,fun j hj _=>?_⟩,.inr ⟨by rw [List.length_append,hn];rfl,by rw [List.map_append];exact h2,by show H.length≤G.length + 2;omega⟩⟩
  · show (s.l++[_]).map Tr.era=_
    rw [List.map_append,← q.era]
    rfl
  · rw [hS j (by omega) ?_];exact q.only.at_ j hj List.not_mem_nil
    rcases q.vw with ⟨e,_⟩ | ⟨_,_,e⟩
    · exact .inl e
    · exact .inr (by omega)
end Go.Proofs.YthafdegfjadijaaGreat
end
