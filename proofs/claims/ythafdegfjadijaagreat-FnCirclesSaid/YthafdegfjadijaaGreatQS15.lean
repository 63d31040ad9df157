/- Contract of the specification's ways from block to block. No condition. -/
import Derived.Test.YthafdegfjadijaaGreatQS14
namespace Go.Proofs.YthafdegfjadijaaGreat
set_option maxRecDepth 100000
set_option linter.unusedSimpArgs false
set_option linter.unusedVariables false
theorem mem_nextS {F:Func} {k x:Int}:x∈nextS F k ↔ x∈(nextL F.blocks_)[k.toNat]?.getD default:=by
  rw [nextL_get,nextS,mem_foldl]
  simp
structure SInv (nx:List (List Int)) (fr but:Int) (out:List Int):Prop where
  sorted:out.Pairwise (· < ·)
  start:fr∈out
  rng:∀ x∈out,0≤x∧x < nx.length
  sound:∀ x∈out,Rch nx fr but x
theorem numsOf_sorted (p:Nat→Bool) (n:Nat):(numsOf p n).Pairwise (· < ·):=by
  unfold numsOf
  refine List.Pairwise.map _ (fun a b h=>?_) (List.Pairwise.filter _ List.pairwise_lt_range)
  show (a:Int) < b
  omega
theorem sorted_len {out:List Int} {n:Nat} (h:out.Pairwise (· < ·)) (hr:∀ x∈out,0≤x∧x < n):out.length≤n:=by
  have:out=numsOf (fun k=>decide ((k:Int)∈out)) n:=sorted_ext h (numsOf_sorted _ _) fun x=>by
    rw [mem_numsOf]
    constructor
    · intro hx
      obtain ⟨h0,h1⟩:=hr x hx
      have:((x.toNat:Nat):Int)=x:=by omega
      exact ⟨h0,h1,by rw [this];exact decide_eq_true hx⟩
    · rintro ⟨h0,h1,h2⟩
      have:((x.toNat:Nat):Int)=x:=by omega
      rw [this] at h2
      exact of_decide_eq_true h2
  rw [this]
  exact numsOf_len _ _
theorem SInv.len {nx:List (List Int)} {fr but:Int} {out:List Int} (h:SInv nx fr but out):out.length≤nx.length:=sorted_len h.sorted h.rng
theorem putL_new {l:List Int} {n:Int} (h:n ∉ l):(putL l n).length=l.length + 1:=by
  induction l with
  | nil=>rfl
  | cons a l ih =>
    simp only [putL]
    have h1:¬ a=n:=fun e=>h (e ▸ List.mem_cons_self)
    split
    · rw [List.length_cons,ih fun q=>h (List.mem_cons_of_mem _ q)];rfl
    · first | rfl | (rw [if_neg h1];rfl)
theorem SInv.put {nx:List (List Int)} {fr but:Int} {out:List Int} {k b:Int} (hn:okNext nx) (h:SInv nx fr but out) (hk:k∈out) (hb:b∈nx[k.toNat]?.getD default) (hne:b ≠ but):SInv nx fr but (putL out b):=by
  refine ⟨putL_sorted h.sorted,mem_putL.2 (.inr h.start),fun x hx=>?_,fun x hx=>?_⟩
  · rcases mem_putL.1 hx with rfl | hx
    · exact (okNext_get hn _).2 _ hb
    · exact h.rng x hx
  · rcases mem_putL.1 hx with rfl | hx
    · exact .step (h.sound k hk) hb hne
    · exact h.sound x hx
noncomputable def fromL (F:Func) (fr but:Int):List Int:=listB (rchB (nextL F.blocks_) fr but)
theorem listB_rchB {nx:List (List Int)} {fr but x:Int}:x∈listB (rchB nx fr but) ↔ 0≤x∧x < nx.length∧Rch nx fr but x:=by
  rw [listB,mem_numsOf]
  constructor
  · rintro ⟨h0,h1,h2⟩
    have hl:x < nx.length:=by simpa [rchB] using h1
    have e:((x.toNat:Nat):Int)=x:=by omega
    have h3:x.toNat < nx.length:=by omega
    simp [rchB,h3,e] at h2
    exact ⟨h0,hl,h2⟩
  · rintro ⟨h0,h1,h2⟩
    have e:((x.toNat:Nat):Int)=x:=by omega
    have h3:x.toNat < nx.length:=by omega
    refine ⟨h0,by simpa [rchB] using h1, ?_⟩
    simp [rchB,h3,e,h2]
theorem SInv.done {nx:List (List Int)} {fr but:Int} {out:List Int} (h:SInv nx fr but out) (hc:∀ a∈out,∀ b∈nx[a.toNat]?.getD default,b ≠ but→b∈out):out=listB (rchB nx fr but):=by
  refine sorted_ext h.sorted (numsOf_sorted _ _) fun x=>?_
  rw [listB_rchB]
  constructor
  · intro hx
    obtain ⟨h0,h1⟩:=h.rng x hx
    exact ⟨h0,h1,h.sound x hx⟩
  · rintro ⟨_,_,hr⟩
    have all:∀ x,Rch nx fr but x→x∈out:=fun x hr=>by
      induction hr with
      | base=>exact h.start
      | step hr hb hne ih=>exact hc _ ih _ hb hne
    exact all x hr
structure MInv (nx:List (List Int)) (fr but:Int) (out0:List Int) (i:Nat) (l out:List Int) (more:Bool):Prop where
  inv:SInv nx fr but out
  sub:∀ x∈out0,x∈out
  past:∀ a∈out0.take i,∀ b∈nx[a.toNat]?.getD default,b ≠ but→b∈out
  now:∀ b∈l,b ≠ but→b∈out
  same:more=false→out=out0
  grow:more=true→out0.length < out.length
theorem MInv.keep {nx:List (List Int)} {fr but:Int} {out0 l out:List Int} {i j:Nat} {more:Bool} (h:MInv nx fr but out0 i (l.take j) out more) (hj:j < l.length) (hb:l[j]?.getD 0 ≠ but→l[j]?.getD 0∈out):MInv nx fr but out0 i (l.take (j + 1)) out more:=by
  refine ⟨h.inv,h.sub,h.past,fun b hb2 hne=>?_,h.same,h.grow⟩
  rw [List.take_succ_eq_append_getElem hj] at hb2
  rcases List.mem_append.1 hb2 with q | q
  · exact h.now b q hne
  · have e:b=l[j]?.getD 0:=by rw [List.getElem?_eq_getElem hj];simpa using q
    subst e;exact hb hne
theorem MInv.put {nx:List (List Int)} {fr but:Int} {out0 l out:List Int} {i j:Nat} {more:Bool} {k:Int} (hn:okNext nx) (h:MInv nx fr but out0 i (l.take j) out more) (hj:j < l.length) (hk:k∈out0) (hb:l[j]?.getD 0∈nx[k.toNat]?.getD default) (hne:l[j]?.getD 0 ≠ but) (hnew:l[j]?.getD 0 ∉ out) :
    MInv nx fr but out0 i (l.take (j + 1)) (putL out (l[j]?.getD 0)) true:=by
  have up:∀ x,x∈out→x∈putL out (l[j]?.getD 0):=fun x hx=>mem_putL.2 (.inr hx)
  refine ⟨h.inv.put hn (h.sub k hk) hb hne,fun x hx=>up x (h.sub x hx),fun a ha b hb hne=>up b (h.past a ha b hb hne),fun b hb2 hne=>?_,fun q=>(by cases q),fun _=>?_⟩
  · rw [List.take_succ_eq_append_getElem hj] at hb2
    rcases List.mem_append.1 hb2 with q | q
    · exact up b (h.now b q hne)
    · have e:b=l[j]?.getD 0:=by rw [List.getElem?_eq_getElem hj];simpa using q
      exact mem_putL.2 (.inl e)
  · rw [putL_new hnew]
    cases more with
    | false=>rw [h.same rfl];omega
    | true=>have:=h.grow rfl;omega
theorem MInv.next {nx:List (List Int)} {fr but:Int} {out0 l out:List Int} {i:Nat} {more:Bool} (h:MInv nx fr but out0 i l out more) (hi:i < out0.length) (ml:∀ x,x∈l ↔ x∈nx[(out0[i]).toNat]?.getD default):MInv nx fr but out0 (i + 1) [] out more:=by
  refine ⟨h.inv,h.sub,fun a ha b hb hne=>?_,fun b hb=>absurd hb List.not_mem_nil,h.same,h.grow⟩
  rw [List.take_succ_eq_append_getElem hi] at ha
  rcases List.mem_append.1 ha with q | q
  · exact h.past a q b hb hne
  · have e:a=out0[i]:=by simpa using q
    subst e
    exact h.now b ((ml b).2 hb) hne
theorem no_rch {nx:List (List Int)} {b:Int}:∀ x,¬ Rch nx b b x:=fun x hr=>by
  induction hr with
  | base h=>exact h rfl
  | step _ _ _ ih=>exact ih
theorem from_c (F : Func) (fr but : Int) (hv : fewJumps F.blocks_) (hn : okNext (nextL F.blocks_)) (h0 : 0 ≤ fr) (h1 : fr < F.blocks_.length) : PureP Tryz.prog 40 [vFunc F, .d (.int .i64 fr), .d (.int .i64 but)] (· = .d (dIntS (fromL F fr but))) := by
  by_cases hfb:fr=but
  · refine PureP.le (pure_of Tryz.func40 en_40 rfl rfl (W_run mixed ⟨[K_48,K_53,K_70],[K_48h,K_53h,K_70h],[],48,0,[0,1,2,3,6,7,8,10,12,15,18,19,20,21,22,27,28,29,30,41],[15,18,22,30,36,41]⟩ (fun _=>[]) (by kernel_rfl) ?_))
    simp only [Tryz.f40,stripX,stripOps,pickOps]
    simp [K_48_f,K_48_e,K_53_f,K_53_e,K_70_f,K_70_e,K_48h_f,K_48h_e,K_53h_f,K_53h_e,K_70h_f,K_70h_e,K_48h_g,K_53h_g,K_70h_g,hfb]
    have e:fromL F but but=[]:=by
      refine List.eq_nil_iff_forall_not_mem.2 fun x hx=>?_
      obtain ⟨_,_,hr⟩:=listB_rchB.1 hx
      exact no_rch x hr
    rw [e]
    exact rfl
  refine PureP.le (pure_of Tryz.func40 en_40 rfl rfl (W_run mixed ⟨[K_48,K_53,K_70],[K_48h,K_53h,K_70h],[],48,0,[0,1,2,3,6,7,8,10,12,15,18,19,20,21,22,27,28,29,30,41],[15,18,22,30,36,41]⟩ (fun _=>[]) (by kernel_rfl) ?_))
  simp only [Tryz.f40,stripX,stripOps,pickOps]
  simp [K_48_f,K_48_e,K_53_f,K_53_e,K_70_f,K_70_e,K_48h_f,K_48h_e,K_53h_f,K_53h_e,K_70h_f,K_70h_e,K_48h_g,K_53h_g,K_70h_g,hfb]
  refine W_loopF (α:=List Int × Bool) (fun a=>[(2,.d (.int .i64 but)),(3,.ptr 0 2 0 0),(7,.d (dIntS a.1)),(8,.d (.bool a.2))])
    (fun a=>[.row 2 [[.d (.int .i64 F.params_),.d (dBlockS F.blocks_)]]]) (fun a=>SInv (nextL F.blocks_) fr but a.1∧(a.2=false→∀ x∈a.1,∀ b∈(nextL F.blocks_)[x.toNat]?.getD default,b ≠ but→b∈a.1))
    (fun a=>(F.blocks_.length - a.1.length) * 2 + if a.2=true then 1 else 0) ([fr],true) [0] ?_ ?_ ?_
  · simp
    refine ⟨.inl (by simp), ?_⟩
    simp [closeK,DLe]
  · refine ⟨⟨List.pairwise_singleton _ _,List.mem_singleton.2 rfl,fun x hx=>?_,fun x hx=>?_⟩,fun h=>by cases h⟩
    · rw [List.mem_singleton] at hx;subst hx;exact ⟨h0,by rw [nextL,List.length_map];exact h1⟩
    · rw [List.mem_singleton] at hx;subst hx;exact .base hfb
  have hln:(nextL F.blocks_).length=F.blocks_.length:=by simp [nextL]
  rintro ⟨out0,more⟩ ⟨hI,hc⟩
  dsimp only at hI hc
  cases more with
  | false =>
    refine W_run mixed ⟨[K_48,K_53,K_70],[K_48h,K_53h,K_70h],[],48,0,[0,1,2,3,6,7,8,10,12,15,18,19,20,21,22,27,28,29,30,41],[15,18,22,30,36,41]⟩ (fun _=>[]) (by kernel_rfl) ?_
    simp only [stripX,stripOps,pickOps]
    simp [K_48_f,K_48_e,K_53_f,K_53_e,K_70_f,K_70_e,K_48h_f,K_48h_e,K_53h_f,K_53h_e,K_70h_f,K_70h_e,K_48h_g,K_53h_g,K_70h_g]
    rw [hI.done (hc rfl)]
    exact DLe.refl _
  | true =>
    have hl0:=hI.len
    refine W_run mixed ⟨[K_48,K_53,K_70],[K_48h,K_53h,K_70h],[],48,0,[0,1,2,3,6,7,8,10,12,15,18,19,20,21,22,27,28,29,30,41],[15,18,22,30,36,41]⟩ (fun _=>[]) (by kernel_rfl) ?_
    simp only [stripX,stripOps,pickOps]
    simp [K_48_f,K_48_e,K_53_f,K_53_e,K_70_f,K_70_e,K_48h_f,K_48h_e,K_53h_f,K_53h_e,K_70h_f,K_70h_e,K_48h_g,K_53h_g,K_70h_g]
    refine W_loopA (α:=List Int × Bool × Nat) (fun a=>[(2,.d (.int .i64 but)),(3,.ptr 0 2 0 0),(7,.d (dIntS a.1)),(8,.d (.bool a.2.1)),(19,.d (dIntS out0)),(20,.d (.int .i64 out0.length)),(21,.d (.int .i64 a.2.2))])
      (fun a=>[.row 2 [[.d (.int .i64 F.params_),.d (dBlockS F.blocks_)]]]) (fun a=>MInv (nextL F.blocks_) fr but out0 a.2.2 [] a.1 a.2.1∧a.2.2≤out0.length)
      (fun a=>out0.length - a.2.2) (out0,false,0) ?_ ?_ ?_
    · simp
    · exact ⟨⟨hI,fun _ h=>h,fun a ha=>absurd ha List.not_mem_nil,fun b hb=>absurd hb List.not_mem_nil,fun _=>rfl,fun h=>by cases h⟩,Nat.zero_le _⟩
    rintro ⟨out,more,i⟩ ⟨hM,hi⟩
    dsimp only at hM hi
    refine W_run mixed ⟨[K_48,K_53,K_70],[K_48h,K_53h,K_70h],[],48,0,[0,1,2,3,6,7,8,10,12,15,18,19,20,21,22,27,28,29,30,41],[15,18,22,30,36,41]⟩ (fun _=>[]) (by kernel_rfl) ?_
    simp only [stripX,stripOps,pickOps]
    simp [K_48_f,K_48_e,K_53_f,K_53_e,K_70_f,K_70_e,K_48h_f,K_48h_e,K_53h_f,K_53h_e,K_70h_f,K_70h_e,K_48h_g,K_53h_g,K_70h_g]
    refine ⟨fun h=>?_,fun h=>?_⟩
    · have hk:out0[i]?.getD 0∈out0:=by rw [List.getElem?_eq_getElem h];exact List.getElem_mem h
      have ek:out0[i]?.getD 0=out0[i]:=by rw [List.getElem?_eq_getElem h];rfl
      obtain ⟨k0,k1⟩:=hI.rng _ hk
      refine ⟨h,⟨hv,k0,by rw [← hln];exact k1⟩, ?_⟩
      have ml:∀ x,x∈nextS F (out0[i]?.getD 0) ↔ x∈(nextL F.blocks_)[(out0[i]?.getD 0).toNat]?.getD default:=fun x=>mem_nextS
      generalize hkk:out0[i]?.getD 0=kk at k0 k1 hk ml ek
      have hl2:(nextS F kk).length≤2:=by
        have q1:=foldl_len (tos (F.blocks_[kk.toNat]?.getD default)) []
        have q2:=(okNext_get hn kk.toNat).1
        rw [nextL_get] at q2
        simp only [List.length_nil] at q1
        unfold nextS;omega
      generalize nextS F kk=l at ml hl2
      have hl8:out0.length≤8:=by have:=hn.1;omega
      refine W_loopA (α:=List Int × Bool × Nat) (fun a=>[(2,.d (.int .i64 but)),(3,.ptr 0 2 0 0),(7,.d (dIntS a.1)),(8,.d (.bool a.2.1)),(19,.d (dIntS out0)),(20,.d (.int .i64 out0.length)),(21,.d (.int .i64 i)),(27,.d (dIntS l)),(28,.d (.int .i64 l.length)),(29,.d (.int .i64 a.2.2))])
        (fun a=>[.row 2 [[.d (.int .i64 F.params_),.d (dBlockS F.blocks_)]]]) (fun a=>MInv (nextL F.blocks_) fr but out0 i (l.take a.2.2) a.1 a.2.1∧a.2.2≤l.length)
        (fun a=>l.length - a.2.2) (out,more,0) ?_ ?_ ?_
      · simp
      · exact ⟨hM,Nat.zero_le _⟩
      rintro ⟨out,more,j⟩ ⟨hM,hj⟩
      dsimp only at hM hj
      have hlo:=hM.inv.len
      have hl1:out.length≤1000:=by have:=hn.1;omega
      refine W_run mixed ⟨[K_48,K_53,K_70],[K_48h,K_53h,K_70h],[],48,0,[0,1,2,3,6,7,8,10,12,15,18,19,20,21,22,27,28,29,30,41],[15,18,22,30,36,41]⟩ (fun _=>[]) (by kernel_rfl) ?_
      simp only [stripX,stripOps,pickOps]
      simp [K_48_f,K_48_e,K_53_f,K_53_e,K_70_f,K_70_e,K_48h_f,K_48h_e,K_53h_f,K_53h_e,K_70h_f,K_70h_e,K_48h_g,K_53h_g,K_70h_g,hl1]
      have wj:j < l.length→IntKind.i64.wrap ((j:Int) + 1)=((j + 1:Nat):Int):=fun q=>by rw [wrap_id] <;> omega
      have keep:j < l.length→(l[j]?.getD 0 ≠ but→l[j]?.getD 0∈out)→∃ a,
          (∃ b,(MInv (nextL F.blocks_) fr but out0 i (List.take b l) a false∧b≤l.length)∧l.length - b < l.length - j ∧
            (out.length=a.length∧(fun i x=>D.int IntKind.i64 (out[i]?.getD 0))=fun (i x:Nat)=>D.int IntKind.i64 (a[i]?.getD 0))∧more=false∧IntKind.i64.wrap (↑j + 1) = ↑b) ∨
          ∃ b,(MInv (nextL F.blocks_) fr but out0 i (List.take b l) a true∧b≤l.length)∧l.length - b < l.length - j ∧
            (out.length=a.length∧(fun i x=>D.int IntKind.i64 (out[i]?.getD 0))=fun (i x:Nat)=>D.int IntKind.i64 (a[i]?.getD 0))∧more=true∧IntKind.i64.wrap (↑j + 1) = ↑b:=fun hjl hb=>by
        have:=hM.keep hjl hb
        cases more with
        | false=>exact ⟨out,.inl ⟨j + 1,⟨this,by omega⟩,by omega,⟨rfl,rfl⟩,rfl,wj hjl⟩⟩
        | true=>exact ⟨out,.inr ⟨j + 1,⟨this,by omega⟩,by omega,⟨rfl,rfl⟩,rfl,wj hjl⟩⟩
      refine ⟨fun hjl=>⟨hjl,fun hne=>⟨fun hnew=>?_,fun hold=>keep hjl fun _=>of_decide_eq_true hold⟩,fun he=>keep hjl fun q=>absurd he q⟩,fun hjl=>?_⟩
      · have hb:l[j]?.getD 0∈(nextL F.blocks_)[kk.toNat]?.getD default:=(ml _).1 (by rw [List.getElem?_eq_getElem hjl];exact List.getElem_mem hjl)
        exact ⟨_,j + 1,⟨hM.put hn hjl hk hb hne (of_decide_eq_false hnew),by omega⟩,by omega,⟨rfl,rfl⟩,wj hjl⟩
      · rw [List.take_of_length_le hjl] at hM
        have:=hM.next h (by rw [← ek];exact ml)
        have wi:IntKind.i64.wrap ((i:Int) + 1)=((i + 1:Nat):Int):=by rw [wrap_id] <;> omega
        cases more with
        | false=>exact ⟨out,.inl ⟨i + 1,⟨this,by omega⟩,by omega,⟨rfl,rfl⟩,rfl,wi⟩⟩
        | true=>exact ⟨out,.inr ⟨i + 1,⟨this,by omega⟩,by omega,⟨rfl,rfl⟩,rfl,wi⟩⟩
    · have hM':=hM
      cases more with
      | false =>
        have e:=hM.same rfl
        subst e
        refine ⟨out,.inl ⟨⟨hM.inv,fun x hx=>hM.past x (by rw [List.take_of_length_le h];exact hx)⟩,by omega,[0],by simp,by simp;exact .inl (by simp),by simp,DLe.refl _,DLe.refl _⟩⟩
      | true =>
        have:=hM.grow rfl
        have:=hM.inv.len
        refine ⟨out,.inr ⟨hM.inv,by omega,[0],by simp,by simp;exact .inl (by simp),by simp,DLe.refl _,DLe.refl _⟩⟩
noncomputable def K_40:Ent Tryz.prog:=Ent.p3 (α:=Func) (β:=Int) (γ:=Int) 40 (fun F fr but=>fewJumps F.blocks_∧okNext (nextL F.blocks_)∧0≤fr∧fr < F.blocks_.length) (fun F fr but=>.d (dIntS (fromL F fr but))) (fun F fr but hc=>from_c F fr but hc.1 hc.2.1 hc.2.2.1 hc.2.2.2)
theorem K_40_f:K_40.f=40:=rfl
theorem K_40_e (F0:Int) (F1:List Block) (fr:Int) (but:Int):K_40.e [.agg [.d (.int .i64 F0),.d (dBlockS F1)],.d (.int .i64 fr),.d (.int .i64 but)]=some (fewJumps (Func.mk F0 F1).blocks_∧okNext (nextL (Func.mk F0 F1).blocks_)∧0≤fr∧fr < (Func.mk F0 F1).blocks_.length,.d (dIntS (fromL (Func.mk F0 F1) fr but)),[]):=by unfold K_40;exact Ent.p3_eq (α:=Func) (β:=Int) (γ:=Int) (Func.mk F0 F1) fr but
noncomputable def K_40h:EntH Tryz.prog:=EntH.pk3 (α:=Func) (β:=Int) (γ:=Int) 40 (fun F fr but=>fewJumps F.blocks_∧okNext (nextL F.blocks_)∧0≤fr∧fr < F.blocks_.length) (fun F fr but=>.d (dIntS (fromL F fr but))) (fun F fr but=>[]) (fun F fr but hc=>PureP.ans (from_c F fr but hc.1 hc.2.1 hc.2.2.1 hc.2.2.2))
theorem K_40h_f:K_40h.f=40:=rfl
theorem K_40h_g:K_40h.gro=true:=rfl
theorem K_40h_e {x1 x2 x3:V} {H:Heap}:K_40h.e [x1,x2,x3] H=guardR ((decA (α:=Func) H x1).1∧(decA (α:=Int) H x2).1∧(decA (α:=Int) H x3).1) (peekR (fewJumps (decA (α:=Func) H x1).2.blocks_∧okNext (nextL (decA (α:=Func) H x1).2.blocks_)∧0≤(decA (α:=Int) H x2).2∧(decA (α:=Int) H x2).2 < (decA (α:=Func) H x1).2.blocks_.length) (.d (dIntS (fromL (decA (α:=Func) H x1).2 (decA (α:=Int) H x2).2 (decA (α:=Int) H x3).2))) ([]) H):=rfl
end Go.Proofs.YthafdegfjadijaaGreat
