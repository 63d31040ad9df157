/- slices.Contains of numbers; AheadOf of the program, closed. No condition. -/
import Derived.Test.YthafdegfjadijaaGreatQS17
import Derived.Test.YthafdegfjadijaaGreatQS111
section
namespace Go.Proofs.YthafdegfjadijaaGreat
set_option maxRecDepth 100000
set_option linter.unusedSimpArgs false
set_option linter.unusedVariables false
theorem has_c (l:List Int) (n:Int) (h8:l.length≤1000):PureP Tryz.prog 20 [.d (dIntS l),.d (.int .i64 n)] (· = .d (.bool (hasL l n))):=by
  refine pure_of Tryz.func20 en_20 rfl rfl (W_run mixed ⟨[],[],[],17,0,[0,1,4,6,7,8,9,10,15],[10,15]⟩ (fun _=>[]) (by kernel_rfl) ?_)
  simp only [Tryz.f20,stripX,stripOps,pickOps]
  simp []
  refine W_loopA (fun i:Nat=>[(1,.d (.int .i64 n)),(7,.d (dIntS l)),(8,.d (.int .i64 l.length)),(9,.d (.int .i64 i))])
    (fun i=>[]) (fun i=>i≤l.length∧n ∉ l.take i) (fun i=>l.length - i) 0 ?_ ?_ ?_
  · simp
  · simp
  rintro i ⟨hi,hn⟩
  refine W_run mixed ⟨[],[],[],17,0,[0,1,4,6,7,8,9,10,15],[10,15]⟩ (fun _=>[]) (by kernel_rfl) ?_
  simp only [stripX,stripOps,pickOps]
  simp []
  refine ⟨fun h=>⟨h,fun e=>?_,fun e=>⟨i + 1,⟨by omega, ?_⟩,by omega,by rw [wrap_id] <;> omega⟩⟩,fun h=>?_⟩
  · have:n∈l:=by
      rw [← e,List.getElem?_eq_getElem h];exact List.getElem_mem h
    simp [hasL,this]
  · rw [List.getElem?_eq_getElem h,Option.getD_some] at e
    rw [List.take_succ_eq_append_getElem h,List.mem_append,List.mem_singleton]
    rintro (q | q)
    · exact hn q
    · exact e q.symm
  · rw [List.take_of_length_le h] at hn
    simp [hasL,hn]
noncomputable def K_20:Ent Tryz.prog:=Ent.p2 (α:=List Int) (β:=Int) 20 (fun l n=>l.length≤1000) (fun l n=>.d (.bool (hasL l n))) (fun l n hc=>has_c l n hc)
theorem K_20_f:K_20.f=20:=rfl
theorem K_20_e (l:List Int) (n:Int):K_20.e [.d (dIntS l),.d (.int .i64 n)]=some (l.length≤1000,.d (.bool (hasL l n)),[]):=by unfold K_20;exact Ent.p2_eq (α:=List Int) (β:=Int) l n
noncomputable def K_20h:EntH Tryz.prog:=EntH.pk2 (α:=List Int) (β:=Int) 20 (fun l n=>l.length≤1000) (fun l n=>.d (.bool (hasL l n))) (fun l n=>[]) (fun l n hc=>PureP.ans (has_c l n hc))
theorem K_20h_f:K_20h.f=20:=rfl
theorem K_20h_g:K_20h.gro=true:=rfl
theorem K_20h_e {x1 x2:V} {H:Heap}:K_20h.e [x1,x2] H=guardR ((decA (α:=List Int) H x1).1∧(decA (α:=Int) H x2).1) (peekR ((decA (α:=List Int) H x1).2.length≤1000) (.d (.bool (hasL (decA (α:=List Int) H x1).2 (decA (α:=Int) H x2).2))) ([]) H):=rfl
theorem domR_same {F : Func} {b : Nat} (hb : b < F.blocks_.length) : listB ((domL (nextL F.blocks_))[b]?.getD default) = (allS F)[b]?.getD default := by
  have hln:(nextL F.blocks_).length=F.blocks_.length:=by simp [nextL]
  have hl:((domL (nextL F.blocks_))[b]?.getD default).length=F.blocks_.length:=by simp [domL,hb,hln]
  have e:(allS F)[b]?.getD default=if (b:Int)∈allR F then adS F b else []:=by simp [allS,hb]
  refine sorted_ext (numsOf_sorted _ _) ?_ fun x=>?_
  · rw [e];split
    · unfold adS
      exact (numsOf_sorted _ _).filter _
    · exact List.Pairwise.nil
  · unfold listB
    rw [mem_numsOf,hl]
    constructor
    · rintro ⟨h0,h1,h2⟩
      have:=dom_same hb (k:=x.toNat) (by omega)
      rw [h2,show ((x.toNat:Nat):Int)=x by omega] at this
      exact hasL_iff.1 this.symm
    · intro h
      have hr:0≤x∧x < F.blocks_.length:=by
        rw [e] at h
        split at h
        · unfold adS domS at h
          have:=(mem_numsOf.1 (List.mem_filter.1 h).1)
          exact ⟨this.1,this.2.1⟩
        · cases h
      have:=dom_same hb (k:=x.toNat) (by omega)
      rw [show ((x.toNat:Nat):Int)=x by omega,hasL_iff.2 h] at this
      exact ⟨hr.1,hr.2,this⟩
theorem sameLists_c (a b : List (List Int)) (h8 : a.length ≤ 1000 ∧ ∀ l ∈ a, l.length ≤ 1000) : PureP Tryz.prog 13 [.d (dIntSS a), .d (dIntSS b)] (· = .d (.bool (decide (a = b)))) := by
  obtain ⟨h1,h2⟩:=h8
  by_cases hl:a.length=b.length
  · refine pure_of Tryz.func13 en_13 rfl rfl (W_run mixed ⟨[K_14],[K_14h],[],27,0,[0,1,4,5,10,12,13,14,25],[10,14,25]⟩ (fun | 6=>[0,1,2,4,5,6,3,7,8,9] | _=>[]) (by kernel_rfl) ?_)
    simp only [Tryz.f13,stripX,stripOps,pickOps]
    simp [K_14_f,K_14_e,K_14h_f,K_14h_e,K_14h_g,hl]
    refine W_loopA (fun i:Nat=>[(0,.d (dIntSS a)),(1,.d (dIntSS b)),(12,.d (.int .i64 a.length)),(13,.d (.int .i64 i))]) (fun _=>[]) (fun i=>i≤a.length∧(a.drop i=b.drop i ↔ a=b)) (fun i=>a.length - i) 0 ?_ ?_ ?_
    · simp [hl]
    · simp
    rintro i ⟨hi,hm⟩
    by_cases h:i < a.length
    · have hb:i < b.length:=by omega
      obtain ⟨x,hx⟩:∃ x,x=a[i]?.getD []:=⟨_,rfl⟩
      have hx0:=hx.symm
      have hx1:∀ h:i < a.length,a[i]=x:=fun h=>by rw [hx,List.getElem?_eq_getElem h];rfl
      obtain ⟨y,hy⟩:∃ y,y=b[i]?.getD []:=⟨_,rfl⟩
      have hy0:=hy.symm
      have hy1:∀ h:i < b.length,b[i]=y:=fun h=>by rw [hy,List.getElem?_eq_getElem h];rfl
      have hx8:x.length≤1000:=h2 x (by rw [← hx1 h];exact List.getElem_mem h)
      rw [List.drop_eq_getElem_cons h,List.drop_eq_getElem_cons hb,hx1 h,hy1 hb] at hm
      have wi:IntKind.i64.wrap ((i:Int) + 1)=((i + 1:Nat):Int):=by rw [wrap_id] <;> omega
      by_cases e:x=y
      · refine W_run mixed ⟨[K_14],[K_14h],[],27,0,[0,1,4,5,10,12,13,14,25],[10,14,25]⟩ (fun | 6=>[0,1,2,4,5,6,3,7,8,9] | _=>[]) (by kernel_rfl) ?_
        simp only [stripX,stripOps,pickOps]
        simp [K_14_f,K_14_e,K_14h_f,K_14h_e,K_14h_g,h,hb,hx0,hx1,hy0,hy1,hx8,e,wi]
        exact ⟨by rw [← e];exact hx8,i + 1,⟨by omega,by rw [← hm,e];simp⟩,by omega,rfl⟩
      · refine W_run mixed ⟨[K_14],[K_14h],[],27,0,[0,1,4,5,10,12,13,14,25],[10,14,25]⟩ (fun | 6=>[0,1,2,4,5,6,3,7,8,9] | _=>[]) (by kernel_rfl) ?_
        simp only [stripX,stripOps,pickOps]
        simp [K_14_f,K_14_e,K_14h_f,K_14h_e,K_14h_g,h,hb,hx0,hx1,hy0,hy1,hx8,e]
        intro q
        exact e (List.cons.inj (hm.2 q)).1
    · rw [List.drop_eq_nil_of_le (by omega),List.drop_eq_nil_of_le (by omega)] at hm
      refine W_run mixed ⟨[K_14],[K_14h],[],27,0,[0,1,4,5,10,12,13,14,25],[10,14,25]⟩ (fun | 6=>[0,1,2,4,5,6,3,7,8,9] | _=>[]) (by kernel_rfl) ?_
      simp only [stripX,stripOps,pickOps]
      simp [K_14_f,K_14_e,K_14h_f,K_14h_e,K_14h_g,h]
      exact hm.1 rfl
  · have hl2:¬ (a.length:Int)=b.length:=by omega
    refine pure_of Tryz.func13 en_13 rfl rfl (W_run mixed ⟨[K_14],[K_14h],[],27,0,[0,1,4,5,10,12,13,14,25],[10,14,25]⟩ (fun | 6=>[0,1,2,4,5,6,3,7,8,9] | _=>[]) (by kernel_rfl) ?_)
    simp only [Tryz.f13,stripX,stripOps,pickOps]
    simp [K_14_f,K_14_e,K_14h_f,K_14h_e,K_14h_g,hl2]
    intro q
    exact hl (by rw [q])
noncomputable def K_13:Ent Tryz.prog:=Ent.p2 (α:=List (List Int)) (β:=List (List Int)) 13 (fun a b=>a.length≤1000∧∀ l∈a,l.length≤1000) (fun a b=>.d (.bool (decide (a=b)))) (fun a b hc=>sameLists_c a b hc)
theorem K_13_f:K_13.f=13:=rfl
theorem K_13_e (a:List (List Int)) (b:List (List Int)):K_13.e [.d (dIntSS a),.d (dIntSS b)]=some (a.length≤1000∧∀ l∈a,l.length≤1000,.d (.bool (decide (a=b))),[]):=by unfold K_13;exact Ent.p2_eq (α:=List (List Int)) (β:=List (List Int)) a b
noncomputable def K_13h:EntH Tryz.prog:=EntH.pk2 (α:=List (List Int)) (β:=List (List Int)) 13 (fun a b=>a.length≤1000∧∀ l∈a,l.length≤1000) (fun a b=>.d (.bool (decide (a=b)))) (fun a b=>[]) (fun a b hc=>PureP.ans (sameLists_c a b hc))
theorem K_13h_f:K_13h.f=13:=rfl
theorem K_13h_g:K_13h.gro=true:=rfl
theorem K_13h_e {x1 x2:V} {H:Heap}:K_13h.e [x1,x2] H=guardR ((decA (α:=List (List Int)) H x1).1∧(decA (α:=List (List Int)) H x2).1) (peekR ((decA (α:=List (List Int)) H x1).2.length≤1000∧∀ l∈(decA (α:=List (List Int)) H x1).2,l.length≤1000) (.d (.bool (decide ((decA (α:=List (List Int)) H x1).2=(decA (α:=List (List Int)) H x2).2)))) ([]) H):=rfl
theorem Rd1.nilL {α:Type} [Enc α] [Shaped α] [Dec α] [Inhabited α] {H:Heap}:Rd1 H (.d .nilsl) (argV ([]:List α)):=Rd1.dec (α:=List α) ⟨⟨rfl,of_eq_true (congrArg Prod.fst (dec_nilsl (α:=α) (H:=H)))⟩,(by have:=congrArg Prod.snd (dec_nilsl (α:=α) (H:=H));exact this)⟩
end Go.Proofs.YthafdegfjadijaaGreat
end

section
namespace Go.Proofs.YthafdegfjadijaaGreat
set_option maxRecDepth 100000
set_option linter.unusedSimpArgs false
set_option linter.unusedVariables false
def flR (n i:Nat) (g:Nat→List Int):List (List V):=(List.range n).map fun j=>if j < i then [V.d (dIntS (g j))] else [V.d .nilsl]
@[simp] theorem flR_len {n i:Nat} {g:Nat→List Int}:(flR n i g).length=n:=by simp [flR]
end Go.Proofs.YthafdegfjadijaaGreat
end

section
namespace Go.Proofs.YthafdegfjadijaaGreat
set_option maxRecDepth 100000
set_option linter.unusedSimpArgs false
set_option linter.unusedVariables false
noncomputable def nbV (F:Func) (k:Int):List Int:=if isBlk F k=true then nextS F k else []
noncomputable def nbR (F:Func) (k:Int):V:=.tup [.d (dIntS (nbV F k)),.d (.bool (isBlk F k))]
end Go.Proofs.YthafdegfjadijaaGreat
end

section
namespace Go.Proofs.YthafdegfjadijaaGreat
set_option maxRecDepth 100000
set_option linter.unusedSimpArgs false
set_option linter.unusedVariables false
theorem index_p (l:List Int) (n:Int) (h8:l.length≤1000):PureP Tryz.prog 75 [.d (dIntS l),.d (.int .i64 n)] fun r=>∃ j:Int,r=.d (.int .i64 j)∧(0≤j ↔ n∈l):=by
  refine pure_of Tryz.func75 en_75 rfl rfl (W_run mixed ⟨[],[],[],19,0,[0,1,4,5,7,8,9,16],[9,16]⟩ (fun _=>[]) (by kernel_rfl) ?_)
  simp only [Tryz.f75,stripX,stripOps,pickOps]
  simp []
  refine W_loopA (fun i:Nat=>[(0,.d (dIntS l)),(1,.d (.int .i64 n)),(7,.d (.int .i64 l.length)),(8,.d (.int .i64 i))])
    (fun i=>[]) (fun i=>i≤l.length∧n ∉ l.take i) (fun i=>l.length - i) 0 ?_ ?_ ?_
  · simp
  · simp
  rintro i ⟨hi,hn⟩
  by_cases h:i < l.length
  · obtain ⟨x,hx⟩:∃ x,x=l[i]?.getD 0:=⟨_,rfl⟩
    have hx0:=hx.symm
    have hx1:∀ h:i < l.length,l[i]=x:=fun h=>by rw [hx,List.getElem?_eq_getElem h];rfl
    have wi:IntKind.i64.wrap ((i:Int) + 1)=((i + 1:Nat):Int):=by rw [wrap_id] <;> omega
    by_cases e:n=x
    · refine W_run mixed ⟨[],[],[],19,0,[0,1,4,5,7,8,9,16],[9,16]⟩ (fun _=>[]) (by kernel_rfl) ?_
      simp only [stripX,stripOps,pickOps]
      simp [h,hx0,hx1,e]
      rw [← hx1 h]
      exact List.getElem_mem h
    · refine W_run mixed ⟨[],[],[],19,0,[0,1,4,5,7,8,9,16],[9,16]⟩ (fun _=>[]) (by kernel_rfl) ?_
      simp only [stripX,stripOps,pickOps]
      simp [h,hx0,hx1,e,wi]
      refine ⟨i + 1,⟨by omega, ?_⟩,by omega,rfl⟩
      rw [List.take_succ_eq_append_getElem h,hx1 h,List.mem_append,List.mem_singleton]
      rintro (q | q)
      · exact hn q
      · exact e q
  · rw [List.take_of_length_le (by omega)] at hn
    refine W_run mixed ⟨[],[],[],19,0,[0,1,4,5,7,8,9,16],[9,16]⟩ (fun _=>[]) (by kernel_rfl) ?_
    simp only [stripX,stripOps,pickOps]
    simp [h]
    exact hn
theorem contains_c (l:List Int) (n:Int) (h8:l.length≤1000):PureP Tryz.prog 49 [.d (dIntS l),.d (.int .i64 n)] (· = .d (.bool (hasL l n))):=by
  refine pure_of Tryz.func49 en_49 rfl rfl (W_run mixed ⟨[],[],[75],9,0,[0,1,4],[]⟩ (fun _=>[]) (by kernel_rfl) ?_)
  simp only [Tryz.f49,stripX,stripOps,pickOps]
  simp []
  rw [aft_call]
  refine ((index_p l n h8).calls rfl).mono ?_
  rintro r H1 ⟨rfl,j,rfl,hj⟩
  have e:decide (0≤j)=hasL l n:=by unfold hasL;exact decide_eq_decide.2 hj
  simp [e]
noncomputable def K_49:Ent Tryz.prog:=Ent.p2 (α:=List Int) (β:=Int) 49 (fun l n=>l.length≤1000) (fun l n=>.d (.bool (hasL l n))) (fun l n hc=>contains_c l n hc)
theorem K_49_f:K_49.f=49:=rfl
theorem K_49_e (l:List Int) (n:Int):K_49.e [.d (dIntS l),.d (.int .i64 n)]=some (l.length≤1000,.d (.bool (hasL l n)),[]):=by unfold K_49;exact Ent.p2_eq (α:=List Int) (β:=Int) l n
noncomputable def K_49h:EntH Tryz.prog:=EntH.pk2 (α:=List Int) (β:=Int) 49 (fun l n=>l.length≤1000) (fun l n=>.d (.bool (hasL l n))) (fun l n=>[]) (fun l n hc=>PureP.ans (contains_c l n hc))
theorem K_49h_f:K_49h.f=49:=rfl
theorem K_49h_g:K_49h.gro=true:=rfl
theorem K_49h_e {x1 x2:V} {H:Heap}:K_49h.e [x1,x2] H=guardR ((decA (α:=List Int) H x1).1∧(decA (α:=Int) H x2).1) (peekR ((decA (α:=List Int) H x1).2.length≤1000) (.d (.bool (hasL (decA (α:=List Int) H x1).2 (decA (α:=Int) H x2).2))) ([]) H):=rfl
end Go.Proofs.YthafdegfjadijaaGreat
end
