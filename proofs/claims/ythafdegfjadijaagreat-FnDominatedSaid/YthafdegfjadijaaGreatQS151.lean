/- The law FnDominated. No condition. -/
import Derived.Test.YthafdegfjadijaaGreatRows
import Derived.Test.YthafdegfjadijaaGreatQS144
import Derived.Test.YthafdegfjadijaaGreatQS146
import Derived.Test.YthafdegfjadijaaGreatQS150
namespace Go.Proofs.YthafdegfjadijaaGreat
set_option maxRecDepth 100000
set_option linter.unusedSimpArgs false
set_option linter.unusedVariables false
theorem boT_all {F:Func} (hg:goodF F=true) {x:Int}:x∈(boT F).1 ↔ Rch (nextL F.blocks_) 0 (-1) x:=by
  obtain ⟨hv1,hn1,hp1⟩:=good_flow hg
  have V:=boT_vis hg
  constructor
  · refine fun h=>V.rch hn1 (fun x hx=>.step (.base (by decide)) hx (by have:=(okNext_get hn1 _).2 x hx;omega)) (fun x hx=>?_) x h
    rw [List.mem_singleton.1 hx];exact .base (by decide)
  · intro h
    induction h with
    | base=>exact V.sub (List.mem_singleton.2 rfl)
    | step h1 hb hne ih =>
      rename_i a b
      by_cases e:a=0
      · subst e;exact V.all b hb
      · exact V.closed a ih (fun q=>e (List.mem_singleton.1 q)) b hb
theorem boV_facts {F:Func} (hg:goodF F=true):(boV F).length=(allR F).length∧(boV F).all (hasL (allR F))=true∧(boV F)[0]?.getD 0=0∧0 < (boV F).length∧(allR F).length≤8∧(boV F).Nodup:=by
  obtain ⟨hv1,hn1,hp1⟩:=good_flow hg
  have V:=boT_vis hg
  obtain ⟨v,e,m,nd⟩:=V.left
  simp only [List.append_nil] at e m
  subst e
  have hb:boV F=0 :: (boT F).2:=by unfold boV;rw [if_pos hg]
  have nd0:(boV F).Nodup:=by
    rw [hb]
    exact List.nodup_cons.2 ⟨fun q=>((m 0).1 q).2 (List.mem_singleton.2 rfl),nd⟩
  have mem:∀ x,x∈boV F ↔ x∈allR F:=fun x=>by
    rw [mem_allR hg,← boT_all hg,hb,List.mem_cons,m,List.mem_singleton]
    constructor
    · rintro (rfl | h)
      · exact V.sub (List.mem_singleton.2 rfl)
      · exact h.1
    · intro h
      by_cases e:x=0
      · exact .inl e
      · exact .inr ⟨h,e⟩
  have h8:(allR F).length≤8:=fromL_len hn1 0 (-1)
  have nr:(allR F).Nodup:=sorted_nodup (numsOf_sorted _ _)
  refine ⟨Nat.le_antisymm (nodup_len_le nd0 fun x hx=>(mem x).1 hx) (nodup_len_le nr fun x hx=>(mem x).2 hx),List.all_eq_true.2 fun x hx=>hasL_iff.2 ((mem x).1 hx),by rw [hb];rfl,by rw [hb];simp,h8,nd0⟩
theorem has_dS {F:Func} (hg:goodF F=true) {k:Int} (hk:0≤k∧k < F.blocks_.length):hasL (dS F k) k=hasL (allR F) k :=
  Bool.eq_iff_iff.2 (by rw [hasL_iff,hasL_iff,mem_allR hg,mem_dS hg hk];exact ⟨fun h=>h.1,.refl⟩)
theorem dS_len {F:Func} (hg:goodF F=true) (k:Int):(dS F k).length≤8:=by
  obtain ⟨hv1,hn1,hp1⟩:=good_flow hg
  by_cases h:k.toNat < F.blocks_.length
  · have:=nodup_len_le (m:=allR F) (sorted_nodup (dS_sorted F k)) fun x hx=>by
      have hk:0≤((k.toNat:Nat):Int)∧((k.toNat:Nat):Int) < F.blocks_.length:=by omega
      have:=(mem_dS hg hk (x:=x)).1 hx
      exact (mem_allR hg).2 this.rch
    have:=fromL_len hn1 0 (-1)
    unfold allR at *
    omega
  · unfold dS
    rw [List.getElem?_eq_none (by simpa [allS] using h)];exact Nat.zero_le _
theorem ah_dom {F:Func} (hg:goodF F=true) {k m x:Int} (hk:0≤k∧k < F.blocks_.length) (hm:m∈ahV F k) (hr:m∈allR F) (hx:x∈dS F k) (hne:x ≠ k):x∈dS F m:=by
  unfold ahV at hm
  split at hm
  · obtain ⟨h0,h1,h2⟩:=mem_numsOf.1 hm
    refine (mem_dS hg ⟨h0,h1⟩).2 (((mem_dS hg hk).1 hx).back ((mem_allR hg).1 hr) ?_ hne)
    rw [nextL_get]
    exact hasL_iff.1 h2
  · cases hm
theorem drawDom_p (code:List Byt) (hg:Enc.good code):PureP Tryz.prog 6 [.d (dBytS code)] fun r=>∃ F:Func,r=vFunc F∧Enc.good F:=by
  refine pure_of Tryz.func6 en_6 rfl rfl (W_run mixed ⟨[],[],[32],5,0,[0,2],[]⟩ (fun _=>[]) (by kernel_rfl) ?_)
  simp only [Tryz.f6,stripX,stripOps,pickOps]
  simp [hg]
  rw [aft_call]
  refine ((drawReached_p code hg).calls rfl).mono ?_
  rintro r H1 ⟨rfl,F,rfl,hF⟩
  simp [hg]
  exact ⟨F,⟨rfl,rfl,rfl⟩,hF⟩
set_option maxHeartbeats 4000000 in
theorem law_Dominated (code more : List Byt) (hc : Enc.good code) (hm : Enc.good more) : PureP Tryz.prog 3 [.d (dBytS code), .d (dBytS more)] (· = .d (.bool true)) := by
  cases hb:bigB code more with
  | true => refine pure_of Tryz.func3 en_3 rfl rfl (W_run mixed ⟨[K_5, K_7, K_8, K_9, K_10, K_11, K_12, K_13, K_14, K_15, K_16, K_17, K_18, K_19, K_20, K_21], [K_5h, K_7h, K_8h, K_9h, K_10h, K_11h, K_12h, K_13h, K_14h, K_15h, K_16h, K_17h, K_18h, K_19h, K_20h, K_21h], [6], 273, 0, [0, 1, 4, 5, 6, 7, 8, 9, 10, 11, 12, 13, 14, 15, 16, 17, 18, 19, 20, 21, 22, 23, 24, 25, 26, 28, 30, 31, 32, 35, 98, 100, 117, 120, 121, 122, 179, 180, 181, 182, 183, 189, 190, 191, 192, 211, 271], [35, 71, 77, 82, 88, 93, 98, 100, 106, 112, 117, 122, 151, 157, 162, 168, 179, 183, 192, 198, 203, 211, 224, 229, 231, 239, 244, 258, 271]⟩ (fun | 23 => [0, 1, 2, 3, 4, 5, 6, 7, 8, 9, 10, 11, 12, 13, 14, 15, 16, 17, 18, 19, 20, 21, 22, 23, 24, 25, 26, 28, 27, 29, 30, 31] | 36 => [0, 1, 2, 3, 4, 5, 6, 7, 8, 9, 10, 11, 12, 13, 14, 16, 15, 17, 18, 19, 20, 21, 22, 23, 24, 25, 26, 27, 30, 31, 32, 28, 29, 33, 34, 35, 36, 37, 38, 39, 40, 41, 43, 44, 45, 42, 46, 47, 48, 49, 50, 51] | _ => []) (by kernel_rfl) ?_)
            simp only [Tryz.f3,stripX,stripOps,pickOps]
            simp [K_5_f,K_5_e,K_7_f,K_7_e,K_8_f,K_8_e,K_9_f,K_9_e,K_10_f,K_10_e,K_11_f,K_11_e,K_12_f,K_12_e,K_13_f,K_13_e,K_14_f,K_14_e,K_15_f,K_15_e,K_16_f,K_16_e,K_17_f,K_17_e,K_18_f,K_18_e,K_19_f,K_19_e,K_20_f,K_20_e,K_21_f,K_21_e,K_5h_f,K_5h_e,K_7h_f,K_7h_e,K_8h_f,K_8h_e,K_9h_f,K_9h_e,K_10h_f,K_10h_e,K_11h_f,K_11h_e,K_12h_f,K_12h_e,K_13h_f,K_13h_e,K_14h_f,K_14h_e,K_15h_f,K_15h_e,K_16h_f,K_16h_e,K_17h_f,K_17h_e,K_18h_f,K_18h_e,K_19h_f,K_19h_e,K_20h_f,K_20h_e,K_21h_f,K_21h_e,K_5h_g,K_7h_g,K_8h_g,K_9h_g,K_10h_g,K_11h_g,K_12h_g,K_13h_g,K_14h_g,K_15h_g,K_16h_g,K_17h_g,K_18h_g,K_19h_g,K_20h_g,K_21h_g,hc,hm,hb]
  | false =>
  refine pure_of Tryz.func3 en_3 rfl rfl (W_run mixed ⟨[K_5,K_7,K_8,K_9,K_10,K_11,K_12,K_13,K_14,K_15,K_16,K_17,K_18,K_19,K_20,K_21],[K_5h,K_7h,K_8h,K_9h,K_10h,K_11h,K_12h,K_13h,K_14h,K_15h,K_16h,K_17h,K_18h,K_19h,K_20h,K_21h],[6],273,0,[0,1,4,5,6,7,8,9,10,11,12,13,14,15,16,17,18,19,20,21,22,23,24,25,26,28,30,31,32,35,98,100,117,120,121,122,179,180,181,182,183,189,190,191,192,211,271],[35,71,77,82,88,93,98,100,106,112,117,122,151,157,162,168,179,183,192,198,203,211,224,229,231,239,244,258,271]⟩ (fun | 23=>[0,1,2,3,4,5,6,7,8,9,10,11,12,13,14,15,16,17,18,19,20,21,22,23,24,25,26,28,27,29,30,31] | 36=>[0,1,2,3,4,5,6,7,8,9,10,11,12,13,14,16,15,17,18,19,20,21,22,23,24,25,26,27,30,31,32,28,29,33,34,35,36,37,38,39,40,41,43,44,45,42,46,47,48,49,50,51] | _=>[]) (by kernel_rfl) ?_)
  simp only [Tryz.f3,stripX,stripOps,pickOps]
  simp [K_5_f,K_5_e,K_7_f,K_7_e,K_8_f,K_8_e,K_9_f,K_9_e,K_10_f,K_10_e,K_11_f,K_11_e,K_12_f,K_12_e,K_13_f,K_13_e,K_14_f,K_14_e,K_15_f,K_15_e,K_16_f,K_16_e,K_17_f,K_17_e,K_18_f,K_18_e,K_19_f,K_19_e,K_20_f,K_20_e,K_21_f,K_21_e,K_5h_f,K_5h_e,K_7h_f,K_7h_e,K_8h_f,K_8h_e,K_9h_f,K_9h_e,K_10h_f,K_10h_e,K_11h_f,K_11h_e,K_12h_f,K_12h_e,K_13h_f,K_13h_e,K_14h_f,K_14h_e,K_15h_f,K_15h_e,K_16h_f,K_16h_e,K_17h_f,K_17h_e,K_18h_f,K_18h_e,K_19h_f,K_19h_e,K_20h_f,K_20h_e,K_21h_f,K_21h_e,K_5h_g,K_7h_g,K_8h_g,K_9h_g,K_10h_g,K_11h_g,K_12h_g,K_13h_g,K_14h_g,K_15h_g,K_16h_g,K_17h_g,K_18h_g,K_19h_g,K_20h_g,K_21h_g,hc,hm,hb]
  rw [aft_call]
  refine ((drawDom_p code hc).calls rfl).mono ?_
  rintro r H1 ⟨rfl,F,rfl,hF⟩
  cases hg:goodF F with
  | false =>
    have d1:domsR F=.tup [.d (dIntSS []),.d (.bool false)]:=by simp [domsR,domsV,hg]
    have d2:rbR F=.tup [.d (dIntS []),.d (.bool false)]:=by simp [rbR,rbV,hg]
    have d3:boR F=.tup [.d (dIntS []),.d (.bool false)]:=by simp [boR,boV,hg]
    simp [K_5_f,K_5_e,K_7_f,K_7_e,K_8_f,K_8_e,K_9_f,K_9_e,K_10_f,K_10_e,K_11_f,K_11_e,K_12_f,K_12_e,K_13_f,K_13_e,K_14_f,K_14_e,K_15_f,K_15_e,K_16_f,K_16_e,K_17_f,K_17_e,K_18_f,K_18_e,K_19_f,K_19_e,K_20_f,K_20_e,K_21_f,K_21_e,K_5h_f,K_5h_e,K_7h_f,K_7h_e,K_8h_f,K_8h_e,K_9h_f,K_9h_e,K_10h_f,K_10h_e,K_11h_f,K_11h_e,K_12h_f,K_12h_e,K_13h_f,K_13h_e,K_14h_f,K_14h_e,K_15h_f,K_15h_e,K_16h_f,K_16h_e,K_17h_f,K_17h_e,K_18h_f,K_18h_e,K_19h_f,K_19h_e,K_20h_f,K_20h_e,K_21h_f,K_21h_e,K_5h_g,K_7h_g,K_8h_g,K_9h_g,K_10h_g,K_11h_g,K_12h_g,K_13h_g,K_14h_g,K_15h_g,K_16h_g,K_17h_g,K_18h_g,K_19h_g,K_20h_g,K_21h_g,hc,hm,hF,d1,d2,d3]
  | true =>
    obtain ⟨hv1,hn1,hp1⟩:=good_flow hg
    have hv8:=hv1.1
    obtain ⟨n,hn⟩:∃ n,n=F.blocks_.length:=⟨_,rfl⟩
    obtain ⟨o1,o2,o3,o4,o5,o6⟩:=boV_facts hg
    obtain ⟨o,ho⟩:∃ o,o=boV F:=⟨_,rfl⟩
    obtain ⟨r,hr⟩:∃ r,r=allR F:=⟨_,rfl⟩
    obtain ⟨D,hD⟩:∃ D,D=allS F:=⟨_,rfl⟩
    have hDl:D.length=n:=by rw [hD,hn];simp [allS]
    have hDk:∀ k:Nat,D[k]?.getD []=dS F k:=fun k=>by rw [hD,dS,Int.toNat_natCast];rfl
    have hD8:D.length≤1000∧∀ l∈D,l.length≤1000:=⟨by omega,fun l hl=>by
      obtain ⟨k,hk⟩:=List.getElem?_of_mem hl
      have:=hDk k
      rw [hk] at this
      have h8:=dS_len hg k
      rw [← this] at h8
      simp at h8;omega⟩
    have d1:domsR F=.tup [.d (dIntSS D),.d (.bool true)]:=by simp [domsR,domsV,hg,hD]
    have d2:rbR F=.tup [.d (dIntS r),.d (.bool true)]:=by simp [rbR,rbV,hg,hr]
    have d3:boR F=.tup [.d (dIntS o),.d (.bool true)]:=by simp [boR,hg,ho]
    rw [← ho,← hr] at o1 o2
    rw [← ho] at o3 o4
    rw [← hr] at o5
    have p0:∀ h:0 < o.length,o[0]=0:=fun h=>by rw [← o3,List.getElem?_eq_getElem h];rfl
    have o8:o.length≤1000∧r.length≤1000:=by omega
    have r8:r.length≤1000:=by omega
    simp [K_5_f,K_5_e,K_7_f,K_7_e,K_8_f,K_8_e,K_9_f,K_9_e,K_10_f,K_10_e,K_11_f,K_11_e,K_12_f,K_12_e,K_13_f,K_13_e,K_14_f,K_14_e,K_15_f,K_15_e,K_16_f,K_16_e,K_17_f,K_17_e,K_18_f,K_18_e,K_19_f,K_19_e,K_20_f,K_20_e,K_21_f,K_21_e,K_5h_f,K_5h_e,K_7h_f,K_7h_e,K_8h_f,K_8h_e,K_9h_f,K_9h_e,K_10h_f,K_10h_e,K_11h_f,K_11h_e,K_12h_f,K_12h_e,K_13h_f,K_13h_e,K_14h_f,K_14h_e,K_15h_f,K_15h_e,K_16h_f,K_16h_e,K_17h_f,K_17h_e,K_18h_f,K_18h_e,K_19h_f,K_19h_e,K_20h_f,K_20h_e,K_21h_f,K_21h_e,K_5h_g,K_7h_g,K_8h_g,K_9h_g,K_10h_g,K_11h_g,K_12h_g,K_13h_g,K_14h_g,K_15h_g,K_16h_g,K_17h_g,K_18h_g,K_19h_g,K_20h_g,K_21h_g,hc,hm,hF,d1,d2,d3,hD8,o1,o2,o3,o4,p0,o8,r8,← hn]
    refine ⟨hD8.2,by omega, ?_⟩
    refine W_loopA (fun k:Nat=>[(5,.ptr 0 2 0 0),(6,.d (dIntSS D)),(10,.d (dIntS r)),(120,.d (.int .i64 n)),(121,.d (.int .i64 k))])
      (fun _=>[.row 2 [[.d (.int .i64 F.params_),.d (dBlockS F.blocks_)]]]) (fun k=>k≤n) (fun k=>n - k) 0 ?_ (Nat.zero_le _) ?_
    · simp
    intro k hk
    replace hk:k≤n:=hk
    by_cases h:k < n
    · have wk : IntKind.i64.wrap ((k : Int) + 1) = ((k + 1 : Nat) : Int) := by rw [wrap_id] <;> omega
      have hkr:0≤(k:Int)∧(k:Int) < F.blocks_.length:=by omega
      have hbk:isBlk F k=true:=by simp only [isBlk,hg,Bool.true_and];exact inR_t.2 (by rw [wrap_id] <;> omega)
      obtain ⟨nb,hnb⟩:∃ nb,nb=nbV F k:=⟨_,rfl⟩
      obtain ⟨ah,hah⟩:∃ ah,ah=ahV F k:=⟨_,rfl⟩
      have e1:nbR F k=.tup [.d (dIntS nb),.d (.bool true)]:=by simp [nbR,hbk,hnb]
      have e2:ahR F k=.tup [.d (dIntS ah),.d (.bool true)]:=by simp [ahR,hbk,hah]
      have nb8:nb.length≤1000:=by
        have h2:(tos (F.blocks_[((k:Int)).toNat]?.getD default)).length≤2:=by have:=(okNext_get hn1 k).1;rw [nextL_get] at this;rw [Int.toNat_natCast];exact this
        have:=foldl_len (tos (F.blocks_[((k:Int)).toNat]?.getD default)) []
        rw [hnb,nbV,if_pos hbk,nextS]
        simp only [List.length_nil] at this
        omega
      have ah8:ah.length≤1000:=by
        have:=numsOf_len (ahP F k) F.blocks_.length
        rw [hah,ahV,if_pos hbk];omega
      obtain ⟨d,hd⟩:∃ d,d=dS F k:=⟨_,rfl⟩
      have hd0:D[k]?.getD []=d:=by rw [hDk,hd]
      have hd1:∀ h:k < D.length,D[k]=d:=fun h=>by rw [← hd0,List.getElem?_eq_getElem h];rfl
      have d8:d.length≤1000:=by have:=dS_len hg k;rw [hd];omega
      have hh:hasL d k=hasL r k:=by rw [hd,hr];exact has_dS hg hkr
      have hmr:∀ m∈ah,0≤m∧m < n:=fun m hm=>by
        rw [hah,ahV,if_pos hbk] at hm
        have:=mem_numsOf.1 hm
        omega
      have hmx:∀ m∈ah,m∈r→∀ x∈d,x ≠ (k:Int)→x∈dS F m:=fun m hm hmr x hx hne=>by
        rw [hah] at hm;rw [hr] at hmr;rw [hd] at hx
        exact ah_dom hg hkr hm hmr hx hne
      refine W_run mixed ⟨[K_5,K_7,K_8,K_9,K_10,K_11,K_12,K_13,K_14,K_15,K_16,K_17,K_18,K_19,K_20,K_21],[K_5h,K_7h,K_8h,K_9h,K_10h,K_11h,K_12h,K_13h,K_14h,K_15h,K_16h,K_17h,K_18h,K_19h,K_20h,K_21h],[6],273,0,[0,1,4,5,6,7,8,9,10,11,12,13,14,15,16,17,18,19,20,21,22,23,24,25,26,28,30,31,32,35,98,100,117,120,121,122,179,180,181,182,183,189,190,191,192,211,271],[35,71,77,82,88,93,98,100,106,112,117,122,151,157,162,168,179,183,192,198,203,211,224,229,231,239,244,258,271]⟩ (fun | 23=>[0,1,2,3,4,5,6,7,8,9,10,11,12,13,14,15,16,17,18,19,20,21,22,23,24,25,26,28,27,29,30,31] | 36=>[0,1,2,3,4,5,6,7,8,9,10,11,12,13,14,16,15,17,18,19,20,21,22,23,24,25,26,27,30,31,32,28,29,33,34,35,36,37,38,39,40,41,43,44,45,42,46,47,48,49,50,51] | _=>[]) (by kernel_rfl) ?_
      simp only [stripX,stripOps,pickOps]
      simp [K_5_f,K_5_e,K_7_f,K_7_e,K_8_f,K_8_e,K_9_f,K_9_e,K_10_f,K_10_e,K_11_f,K_11_e,K_12_f,K_12_e,K_13_f,K_13_e,K_14_f,K_14_e,K_15_f,K_15_e,K_16_f,K_16_e,K_17_f,K_17_e,K_18_f,K_18_e,K_19_f,K_19_e,K_20_f,K_20_e,K_21_f,K_21_e,K_5h_f,K_5h_e,K_7h_f,K_7h_e,K_8h_f,K_8h_e,K_9h_f,K_9h_e,K_10h_f,K_10h_e,K_11h_f,K_11h_e,K_12h_f,K_12h_e,K_13h_f,K_13h_e,K_14h_f,K_14h_e,K_15h_f,K_15h_e,K_16h_f,K_16h_e,K_17h_f,K_17h_e,K_18h_f,K_18h_e,K_19h_f,K_19h_e,K_20h_f,K_20h_e,K_21h_f,K_21h_e,K_5h_g,K_7h_g,K_8h_g,K_9h_g,K_10h_g,K_11h_g,K_12h_g,K_13h_g,K_14h_g,K_15h_g,K_16h_g,K_17h_g,K_18h_g,K_19h_g,K_20h_g,K_21h_g,h,hF,e1,e2,nb8,ah8,r8,d8,hDl,hd0,hd1,hh]
      refine W_loopA (fun j:Nat=>[(5,.ptr 0 2 0 0),(6,.d (dIntSS D)),(10,.d (dIntS r)),(18,.d (.int .i64 k)),(120,.d (.int .i64 n)),(121,.d (.int .i64 k)),(180,.d (dIntS ah)),(181,.d (.int .i64 ah.length)),(182,.d (.int .i64 j))])
        (fun _=>[.row 2 [[.d (.int .i64 F.params_),.d (dBlockS F.blocks_)]]]) (fun j=>j≤ah.length) (fun j=>ah.length - j) 0 ?_ (Nat.zero_le _) ?_
      · simp
      intro j hj
      replace hj:j≤ah.length:=hj
      by_cases hja:j < ah.length
      · obtain ⟨m,hm⟩:∃ m,m=ah[j]?.getD 0:=⟨_,rfl⟩
        have hm0:=hm.symm
        have hm1:∀ h:j < ah.length,ah[j]=m:=fun h=>by rw [hm,List.getElem?_eq_getElem h];rfl
        have hma:m∈ah:=by rw [← hm1 hja];exact List.getElem_mem hja
        obtain ⟨m0,m1⟩:=hmr m hma
        have hmk:=hmx m hma
        obtain ⟨q,rfl⟩:=Int.eq_ofNat_of_zero_le m0
        have hq:q < n:=by omega
        obtain ⟨dm,hdm⟩:∃ dm,dm=dS F q:=⟨_,rfl⟩
        rw [← hdm] at hmk
        have hq0:D[q]?.getD []=dm:=by rw [hDk,hdm]
        have hq1:∀ h:q < D.length,D[q]=dm:=fun h=>by rw [← hq0,List.getElem?_eq_getElem h];rfl
        have q8:dm.length≤1000:=by have:=dS_len hg q;rw [hdm];omega
        have wj:IntKind.i64.wrap ((j:Int) + 1)=((j + 1:Nat):Int):=by rw [wrap_id] <;> omega
        refine W_run mixed ⟨[K_5,K_7,K_8,K_9,K_10,K_11,K_12,K_13,K_14,K_15,K_16,K_17,K_18,K_19,K_20,K_21],[K_5h,K_7h,K_8h,K_9h,K_10h,K_11h,K_12h,K_13h,K_14h,K_15h,K_16h,K_17h,K_18h,K_19h,K_20h,K_21h],[6],273,0,[0,1,4,5,6,7,8,9,10,11,12,13,14,15,16,17,18,19,20,21,22,23,24,25,26,28,30,31,32,35,98,100,117,120,121,122,179,180,181,182,183,189,190,191,192,211,271],[35,71,77,82,88,93,98,100,106,112,117,122,151,157,162,168,179,183,192,198,203,211,224,229,231,239,244,258,271]⟩ (fun | 23=>[0,1,2,3,4,5,6,7,8,9,10,11,12,13,14,15,16,17,18,19,20,21,22,23,24,25,26,28,27,29,30,31] | 36=>[0,1,2,3,4,5,6,7,8,9,10,11,12,13,14,16,15,17,18,19,20,21,22,23,24,25,26,27,30,31,32,28,29,33,34,35,36,37,38,39,40,41,43,44,45,42,46,47,48,49,50,51] | _=>[]) (by kernel_rfl) ?_
        simp only [stripX,stripOps,pickOps]
        simp [K_5_f,K_5_e,K_7_f,K_7_e,K_8_f,K_8_e,K_9_f,K_9_e,K_10_f,K_10_e,K_11_f,K_11_e,K_12_f,K_12_e,K_13_f,K_13_e,K_14_f,K_14_e,K_15_f,K_15_e,K_16_f,K_16_e,K_17_f,K_17_e,K_18_f,K_18_e,K_19_f,K_19_e,K_20_f,K_20_e,K_21_f,K_21_e,K_5h_f,K_5h_e,K_7h_f,K_7h_e,K_8h_f,K_8h_e,K_9h_f,K_9h_e,K_10h_f,K_10h_e,K_11h_f,K_11h_e,K_12h_f,K_12h_e,K_13h_f,K_13h_e,K_14h_f,K_14h_e,K_15h_f,K_15h_e,K_16h_f,K_16h_e,K_17h_f,K_17h_e,K_18h_f,K_18h_e,K_19h_f,K_19h_e,K_20h_f,K_20h_e,K_21h_f,K_21h_e,K_5h_g,K_7h_g,K_8h_g,K_9h_g,K_10h_g,K_11h_g,K_12h_g,K_13h_g,K_14h_g,K_15h_g,K_16h_g,K_17h_g,K_18h_g,K_19h_g,K_20h_g,K_21h_g,hja,hm0,hm1,h,hd0,hd1,hDl]
        refine W_loopA (fun i:Nat=>[(5,.ptr 0 2 0 0),(6,.d (dIntSS D)),(10,.d (dIntS r)),(18,.d (.int .i64 k)),(28,.d (.int .i64 q)),(120,.d (.int .i64 n)),(121,.d (.int .i64 k)),(180,.d (dIntS ah)),(181,.d (.int .i64 ah.length)),(182,.d (.int .i64 j)),(189,.d (dIntS d)),(190,.d (.int .i64 d.length)),(191,.d (.int .i64 i))])
          (fun _=>[.row 2 [[.d (.int .i64 F.params_),.d (dBlockS F.blocks_)]]]) (fun i=>i≤d.length) (fun i=>d.length - i) 0 ?_ (Nat.zero_le _) ?_
        · simp
        intro i hi
        replace hi:i≤d.length:=hi
        by_cases hid:i < d.length
        · obtain ⟨x,hx⟩:∃ x,x=d[i]?.getD 0:=⟨_,rfl⟩
          have hx0:=hx.symm
          have hx1:∀ h:i < d.length,d[i]=x:=fun h=>by rw [hx,List.getElem?_eq_getElem h];rfl
          have hxd:x∈d:=by rw [← hx1 hid];exact List.getElem_mem hid
          have wi:IntKind.i64.wrap ((i:Int) + 1)=((i + 1:Nat):Int):=by rw [wrap_id] <;> omega
          cases hrm:hasL r (q:Int) with
          | false =>
            refine W_run mixed ⟨[K_5,K_7,K_8,K_9,K_10,K_11,K_12,K_13,K_14,K_15,K_16,K_17,K_18,K_19,K_20,K_21],[K_5h,K_7h,K_8h,K_9h,K_10h,K_11h,K_12h,K_13h,K_14h,K_15h,K_16h,K_17h,K_18h,K_19h,K_20h,K_21h],[6],273,0,[0,1,4,5,6,7,8,9,10,11,12,13,14,15,16,17,18,19,20,21,22,23,24,25,26,28,30,31,32,35,98,100,117,120,121,122,179,180,181,182,183,189,190,191,192,211,271],[35,71,77,82,88,93,98,100,106,112,117,122,151,157,162,168,179,183,192,198,203,211,224,229,231,239,244,258,271]⟩ (fun | 23=>[0,1,2,3,4,5,6,7,8,9,10,11,12,13,14,15,16,17,18,19,20,21,22,23,24,25,26,28,27,29,30,31] | 36=>[0,1,2,3,4,5,6,7,8,9,10,11,12,13,14,16,15,17,18,19,20,21,22,23,24,25,26,27,30,31,32,28,29,33,34,35,36,37,38,39,40,41,43,44,45,42,46,47,48,49,50,51] | _=>[]) (by kernel_rfl) ?_
            simp only [stripX,stripOps,pickOps]
            simp [K_5_f,K_5_e,K_7_f,K_7_e,K_8_f,K_8_e,K_9_f,K_9_e,K_10_f,K_10_e,K_11_f,K_11_e,K_12_f,K_12_e,K_13_f,K_13_e,K_14_f,K_14_e,K_15_f,K_15_e,K_16_f,K_16_e,K_17_f,K_17_e,K_18_f,K_18_e,K_19_f,K_19_e,K_20_f,K_20_e,K_21_f,K_21_e,K_5h_f,K_5h_e,K_7h_f,K_7h_e,K_8h_f,K_8h_e,K_9h_f,K_9h_e,K_10h_f,K_10h_e,K_11h_f,K_11h_e,K_12h_f,K_12h_e,K_13h_f,K_13h_e,K_14h_f,K_14h_e,K_15h_f,K_15h_e,K_16h_f,K_16h_e,K_17h_f,K_17h_e,K_18h_f,K_18h_e,K_19h_f,K_19h_e,K_20h_f,K_20h_e,K_21h_f,K_21h_e,K_5h_g,K_7h_g,K_8h_g,K_9h_g,K_10h_g,K_11h_g,K_12h_g,K_13h_g,K_14h_g,K_15h_g,K_16h_g,K_17h_g,K_18h_g,K_19h_g,K_20h_g,K_21h_g,hid,hx0,hx1,hrm,r8,q8,hDl,hq,hq0,hq1,wi]
            exact ⟨i + 1,by omega,by omega,rfl⟩
          | true =>
            by_cases hxk:x=(k:Int)
            · refine W_run mixed ⟨[K_5,K_7,K_8,K_9,K_10,K_11,K_12,K_13,K_14,K_15,K_16,K_17,K_18,K_19,K_20,K_21],[K_5h,K_7h,K_8h,K_9h,K_10h,K_11h,K_12h,K_13h,K_14h,K_15h,K_16h,K_17h,K_18h,K_19h,K_20h,K_21h],[6],273,0,[0,1,4,5,6,7,8,9,10,11,12,13,14,15,16,17,18,19,20,21,22,23,24,25,26,28,30,31,32,35,98,100,117,120,121,122,179,180,181,182,183,189,190,191,192,211,271],[35,71,77,82,88,93,98,100,106,112,117,122,151,157,162,168,179,183,192,198,203,211,224,229,231,239,244,258,271]⟩ (fun | 23=>[0,1,2,3,4,5,6,7,8,9,10,11,12,13,14,15,16,17,18,19,20,21,22,23,24,25,26,28,27,29,30,31] | 36=>[0,1,2,3,4,5,6,7,8,9,10,11,12,13,14,16,15,17,18,19,20,21,22,23,24,25,26,27,30,31,32,28,29,33,34,35,36,37,38,39,40,41,43,44,45,42,46,47,48,49,50,51] | _=>[]) (by kernel_rfl) ?_
              simp only [stripX,stripOps,pickOps]
              simp [K_5_f,K_5_e,K_7_f,K_7_e,K_8_f,K_8_e,K_9_f,K_9_e,K_10_f,K_10_e,K_11_f,K_11_e,K_12_f,K_12_e,K_13_f,K_13_e,K_14_f,K_14_e,K_15_f,K_15_e,K_16_f,K_16_e,K_17_f,K_17_e,K_18_f,K_18_e,K_19_f,K_19_e,K_20_f,K_20_e,K_21_f,K_21_e,K_5h_f,K_5h_e,K_7h_f,K_7h_e,K_8h_f,K_8h_e,K_9h_f,K_9h_e,K_10h_f,K_10h_e,K_11h_f,K_11h_e,K_12h_f,K_12h_e,K_13h_f,K_13h_e,K_14h_f,K_14h_e,K_15h_f,K_15h_e,K_16h_f,K_16h_e,K_17h_f,K_17h_e,K_18h_f,K_18h_e,K_19h_f,K_19h_e,K_20h_f,K_20h_e,K_21h_f,K_21h_e,K_5h_g,K_7h_g,K_8h_g,K_9h_g,K_10h_g,K_11h_g,K_12h_g,K_13h_g,K_14h_g,K_15h_g,K_16h_g,K_17h_g,K_18h_g,K_19h_g,K_20h_g,K_21h_g,hid,hx0,hx1,hrm,hxk,r8,q8,hDl,hq,hq0,hq1,wi]
              exact ⟨i + 1,by omega,by omega,rfl⟩
            · have hdx:hasL dm x=true:=hasL_iff.2 (hmk (hasL_iff.1 hrm) x hxd hxk)
              refine W_run mixed ⟨[K_5,K_7,K_8,K_9,K_10,K_11,K_12,K_13,K_14,K_15,K_16,K_17,K_18,K_19,K_20,K_21],[K_5h,K_7h,K_8h,K_9h,K_10h,K_11h,K_12h,K_13h,K_14h,K_15h,K_16h,K_17h,K_18h,K_19h,K_20h,K_21h],[6],273,0,[0,1,4,5,6,7,8,9,10,11,12,13,14,15,16,17,18,19,20,21,22,23,24,25,26,28,30,31,32,35,98,100,117,120,121,122,179,180,181,182,183,189,190,191,192,211,271],[35,71,77,82,88,93,98,100,106,112,117,122,151,157,162,168,179,183,192,198,203,211,224,229,231,239,244,258,271]⟩ (fun | 23=>[0,1,2,3,4,5,6,7,8,9,10,11,12,13,14,15,16,17,18,19,20,21,22,23,24,25,26,28,27,29,30,31] | 36=>[0,1,2,3,4,5,6,7,8,9,10,11,12,13,14,16,15,17,18,19,20,21,22,23,24,25,26,27,30,31,32,28,29,33,34,35,36,37,38,39,40,41,43,44,45,42,46,47,48,49,50,51] | _=>[]) (by kernel_rfl) ?_
              simp only [stripX,stripOps,pickOps]
              simp [K_5_f,K_5_e,K_7_f,K_7_e,K_8_f,K_8_e,K_9_f,K_9_e,K_10_f,K_10_e,K_11_f,K_11_e,K_12_f,K_12_e,K_13_f,K_13_e,K_14_f,K_14_e,K_15_f,K_15_e,K_16_f,K_16_e,K_17_f,K_17_e,K_18_f,K_18_e,K_19_f,K_19_e,K_20_f,K_20_e,K_21_f,K_21_e,K_5h_f,K_5h_e,K_7h_f,K_7h_e,K_8h_f,K_8h_e,K_9h_f,K_9h_e,K_10h_f,K_10h_e,K_11h_f,K_11h_e,K_12h_f,K_12h_e,K_13h_f,K_13h_e,K_14h_f,K_14h_e,K_15h_f,K_15h_e,K_16h_f,K_16h_e,K_17h_f,K_17h_e,K_18h_f,K_18h_e,K_19h_f,K_19h_e,K_20h_f,K_20h_e,K_21h_f,K_21h_e,K_5h_g,K_7h_g,K_8h_g,K_9h_g,K_10h_g,K_11h_g,K_12h_g,K_13h_g,K_14h_g,K_15h_g,K_16h_g,K_17h_g,K_18h_g,K_19h_g,K_20h_g,K_21h_g,hid,hx0,hx1,hrm,hxk,hdx,r8,q8,hDl,hq,hq0,hq1,wi]
              exact ⟨i + 1,by omega,by omega,rfl⟩
        · refine W_run mixed ⟨[K_5,K_7,K_8,K_9,K_10,K_11,K_12,K_13,K_14,K_15,K_16,K_17,K_18,K_19,K_20,K_21],[K_5h,K_7h,K_8h,K_9h,K_10h,K_11h,K_12h,K_13h,K_14h,K_15h,K_16h,K_17h,K_18h,K_19h,K_20h,K_21h],[6],273,0,[0,1,4,5,6,7,8,9,10,11,12,13,14,15,16,17,18,19,20,21,22,23,24,25,26,28,30,31,32,35,98,100,117,120,121,122,179,180,181,182,183,189,190,191,192,211,271],[35,71,77,82,88,93,98,100,106,112,117,122,151,157,162,168,179,183,192,198,203,211,224,229,231,239,244,258,271]⟩ (fun | 23=>[0,1,2,3,4,5,6,7,8,9,10,11,12,13,14,15,16,17,18,19,20,21,22,23,24,25,26,28,27,29,30,31] | 36=>[0,1,2,3,4,5,6,7,8,9,10,11,12,13,14,16,15,17,18,19,20,21,22,23,24,25,26,27,30,31,32,28,29,33,34,35,36,37,38,39,40,41,43,44,45,42,46,47,48,49,50,51] | _=>[]) (by kernel_rfl) ?_
          simp only [stripX,stripOps,pickOps]
          simp [K_5_f,K_5_e,K_7_f,K_7_e,K_8_f,K_8_e,K_9_f,K_9_e,K_10_f,K_10_e,K_11_f,K_11_e,K_12_f,K_12_e,K_13_f,K_13_e,K_14_f,K_14_e,K_15_f,K_15_e,K_16_f,K_16_e,K_17_f,K_17_e,K_18_f,K_18_e,K_19_f,K_19_e,K_20_f,K_20_e,K_21_f,K_21_e,K_5h_f,K_5h_e,K_7h_f,K_7h_e,K_8h_f,K_8h_e,K_9h_f,K_9h_e,K_10h_f,K_10h_e,K_11h_f,K_11h_e,K_12h_f,K_12h_e,K_13h_f,K_13h_e,K_14h_f,K_14h_e,K_15h_f,K_15h_e,K_16h_f,K_16h_e,K_17h_f,K_17h_e,K_18h_f,K_18h_e,K_19h_f,K_19h_e,K_20h_f,K_20h_e,K_21h_f,K_21h_e,K_5h_g,K_7h_g,K_8h_g,K_9h_g,K_10h_g,K_11h_g,K_12h_g,K_13h_g,K_14h_g,K_15h_g,K_16h_g,K_17h_g,K_18h_g,K_19h_g,K_20h_g,K_21h_g,hid,wj]
          exact ⟨j + 1,by omega,by omega,rfl⟩
      · by_cases hk0:k=0
        · subst hk0
          have e3:imR F 0=.tup [.d (.int .i64 0),.d (.bool false)]:=by simp [imR]
          have h00:hasL r 0=true:=by rw [hr,hasL_iff,mem_allR hg];exact .base (by decide)
          refine W_run mixed ⟨[K_5,K_7,K_8,K_9,K_10,K_11,K_12,K_13,K_14,K_15,K_16,K_17,K_18,K_19,K_20,K_21],[K_5h,K_7h,K_8h,K_9h,K_10h,K_11h,K_12h,K_13h,K_14h,K_15h,K_16h,K_17h,K_18h,K_19h,K_20h,K_21h],[6],273,0,[0,1,4,5,6,7,8,9,10,11,12,13,14,15,16,17,18,19,20,21,22,23,24,25,26,28,30,31,32,35,98,100,117,120,121,122,179,180,181,182,183,189,190,191,192,211,271],[35,71,77,82,88,93,98,100,106,112,117,122,151,157,162,168,179,183,192,198,203,211,224,229,231,239,244,258,271]⟩ (fun | 23=>[0,1,2,3,4,5,6,7,8,9,10,11,12,13,14,15,16,17,18,19,20,21,22,23,24,25,26,28,27,29,30,31] | 36=>[0,1,2,3,4,5,6,7,8,9,10,11,12,13,14,16,15,17,18,19,20,21,22,23,24,25,26,27,30,31,32,28,29,33,34,35,36,37,38,39,40,41,43,44,45,42,46,47,48,49,50,51] | _=>[]) (by kernel_rfl) ?_
          simp only [stripX,stripOps,pickOps]
          simp [K_5_f,K_5_e,K_7_f,K_7_e,K_8_f,K_8_e,K_9_f,K_9_e,K_10_f,K_10_e,K_11_f,K_11_e,K_12_f,K_12_e,K_13_f,K_13_e,K_14_f,K_14_e,K_15_f,K_15_e,K_16_f,K_16_e,K_17_f,K_17_e,K_18_f,K_18_e,K_19_f,K_19_e,K_20_f,K_20_e,K_21_f,K_21_e,K_5h_f,K_5h_e,K_7h_f,K_7h_e,K_8h_f,K_8h_e,K_9h_f,K_9h_e,K_10h_f,K_10h_e,K_11h_f,K_11h_e,K_12h_f,K_12h_e,K_13h_f,K_13h_e,K_14h_f,K_14h_e,K_15h_f,K_15h_e,K_16h_f,K_16h_e,K_17h_f,K_17h_e,K_18h_f,K_18h_e,K_19h_f,K_19h_e,K_20h_f,K_20h_e,K_21h_f,K_21h_e,K_5h_g,K_7h_g,K_8h_g,K_9h_g,K_10h_g,K_11h_g,K_12h_g,K_13h_g,K_14h_g,K_15h_g,K_16h_g,K_17h_g,K_18h_g,K_19h_g,K_20h_g,K_21h_g,hja,hF,e3,h00,r8,wk]
          exact ⟨1,by omega,by omega,by decide⟩
        · have hk0':¬ (k:Int)=0:=by omega
          cases hrk:hasL r (k:Int) with
          | false =>
            have hnr:¬ Rch (nextL F.blocks_) 0 (-1) (k:Int):=fun q=>by
              rw [hr,hasL_iff.2 ((mem_allR hg).2 q)] at hrk;cases hrk
            have e3:imR F k=.tup [.d (.int .i64 (imP F k).1),.d (.bool false)]:=by
              simp [imR,hbk,hk0,hk0',imP_none hg hkr hnr]
            refine W_run mixed ⟨[K_5,K_7,K_8,K_9,K_10,K_11,K_12,K_13,K_14,K_15,K_16,K_17,K_18,K_19,K_20,K_21],[K_5h,K_7h,K_8h,K_9h,K_10h,K_11h,K_12h,K_13h,K_14h,K_15h,K_16h,K_17h,K_18h,K_19h,K_20h,K_21h],[6],273,0,[0,1,4,5,6,7,8,9,10,11,12,13,14,15,16,17,18,19,20,21,22,23,24,25,26,28,30,31,32,35,98,100,117,120,121,122,179,180,181,182,183,189,190,191,192,211,271],[35,71,77,82,88,93,98,100,106,112,117,122,151,157,162,168,179,183,192,198,203,211,224,229,231,239,244,258,271]⟩ (fun | 23=>[0,1,2,3,4,5,6,7,8,9,10,11,12,13,14,15,16,17,18,19,20,21,22,23,24,25,26,28,27,29,30,31] | 36=>[0,1,2,3,4,5,6,7,8,9,10,11,12,13,14,16,15,17,18,19,20,21,22,23,24,25,26,27,30,31,32,28,29,33,34,35,36,37,38,39,40,41,43,44,45,42,46,47,48,49,50,51] | _=>[]) (by kernel_rfl) ?_
            simp only [stripX,stripOps,pickOps]
            simp [K_5_f,K_5_e,K_7_f,K_7_e,K_8_f,K_8_e,K_9_f,K_9_e,K_10_f,K_10_e,K_11_f,K_11_e,K_12_f,K_12_e,K_13_f,K_13_e,K_14_f,K_14_e,K_15_f,K_15_e,K_16_f,K_16_e,K_17_f,K_17_e,K_18_f,K_18_e,K_19_f,K_19_e,K_20_f,K_20_e,K_21_f,K_21_e,K_5h_f,K_5h_e,K_7h_f,K_7h_e,K_8h_f,K_8h_e,K_9h_f,K_9h_e,K_10h_f,K_10h_e,K_11h_f,K_11h_e,K_12h_f,K_12h_e,K_13h_f,K_13h_e,K_14h_f,K_14h_e,K_15h_f,K_15h_e,K_16h_f,K_16h_e,K_17h_f,K_17h_e,K_18h_f,K_18h_e,K_19h_f,K_19h_e,K_20h_f,K_20h_e,K_21h_f,K_21h_e,K_5h_g,K_7h_g,K_8h_g,K_9h_g,K_10h_g,K_11h_g,K_12h_g,K_13h_g,K_14h_g,K_15h_g,K_16h_g,K_17h_g,K_18h_g,K_19h_g,K_20h_g,K_21h_g,hja,hF,e3,hrk,hk0,r8,wk]
            exact ⟨k + 1,by omega,by omega,rfl⟩
          | true =>
            have hrr:Rch (nextL F.blocks_) 0 (-1) (k:Int):=(mem_allR hg).1 (by rw [← hr];exact hasL_iff.1 hrk)
            obtain ⟨i1,i2,i3,i4,i5⟩:=imP_law hg hkr hk0' hrr
            have e3:imR F k=.tup [.d (.int .i64 (imP F k).1),.d (.bool true)]:=by
              simp [imR,hbk,hk0,hk0',i1]
            have hln:(nextL F.blocks_).length=F.blocks_.length:=by simp [nextL]
            have hir:=((mem_dS hg hkr).1 i2).rch.rng hn1 (by omega)
            generalize (imP F k).1=z at e3 i2 i3 i4 i5 hir
            obtain ⟨q,rfl⟩:=Int.eq_ofNat_of_zero_le hir.1
            have hq:q < n:=by omega
            obtain ⟨dm,hdm⟩:∃ dm,dm=dS F q:=⟨_,rfl⟩
            rw [← hdm] at i4 i5
            rw [← hd] at i2 i4 i5
            have hq0:D[q]?.getD []=dm:=by rw [hDk,hdm]
            have hq1:∀ h:q < D.length,D[q]=dm:=fun h=>by rw [← hq0,List.getElem?_eq_getElem h];rfl
            have q8:dm.length≤1000:=by have:=dS_len hg q;rw [hdm];omega
            have g1:hasL d (q:Int)=true:=hasL_iff.2 i2
            have g2:(dm.all (hasL d))=true:=List.all_eq_true.2 fun x hx=>hasL_iff.2 (i5 x hx)
            have g3:IntKind.i64.wrap ((d.length:Int) - 1)=dm.length:=by rw [wrap_id] <;> omega
            have g4:¬ q=k:=fun e=>i3 (by omega)
            refine W_run mixed ⟨[K_5,K_7,K_8,K_9,K_10,K_11,K_12,K_13,K_14,K_15,K_16,K_17,K_18,K_19,K_20,K_21],[K_5h,K_7h,K_8h,K_9h,K_10h,K_11h,K_12h,K_13h,K_14h,K_15h,K_16h,K_17h,K_18h,K_19h,K_20h,K_21h],[6],273,0,[0,1,4,5,6,7,8,9,10,11,12,13,14,15,16,17,18,19,20,21,22,23,24,25,26,28,30,31,32,35,98,100,117,120,121,122,179,180,181,182,183,189,190,191,192,211,271],[35,71,77,82,88,93,98,100,106,112,117,122,151,157,162,168,179,183,192,198,203,211,224,229,231,239,244,258,271]⟩ (fun | 23=>[0,1,2,3,4,5,6,7,8,9,10,11,12,13,14,15,16,17,18,19,20,21,22,23,24,25,26,28,27,29,30,31] | 36=>[0,1,2,3,4,5,6,7,8,9,10,11,12,13,14,16,15,17,18,19,20,21,22,23,24,25,26,27,30,31,32,28,29,33,34,35,36,37,38,39,40,41,43,44,45,42,46,47,48,49,50,51] | _=>[]) (by kernel_rfl) ?_
            simp only [stripX,stripOps,pickOps]
            simp [K_5_f,K_5_e,K_7_f,K_7_e,K_8_f,K_8_e,K_9_f,K_9_e,K_10_f,K_10_e,K_11_f,K_11_e,K_12_f,K_12_e,K_13_f,K_13_e,K_14_f,K_14_e,K_15_f,K_15_e,K_16_f,K_16_e,K_17_f,K_17_e,K_18_f,K_18_e,K_19_f,K_19_e,K_20_f,K_20_e,K_21_f,K_21_e,K_5h_f,K_5h_e,K_7h_f,K_7h_e,K_8h_f,K_8h_e,K_9h_f,K_9h_e,K_10h_f,K_10h_e,K_11h_f,K_11h_e,K_12h_f,K_12h_e,K_13h_f,K_13h_e,K_14h_f,K_14h_e,K_15h_f,K_15h_e,K_16h_f,K_16h_e,K_17h_f,K_17h_e,K_18h_f,K_18h_e,K_19h_f,K_19h_e,K_20h_f,K_20h_e,K_21h_f,K_21h_e,K_5h_g,K_7h_g,K_8h_g,K_9h_g,K_10h_g,K_11h_g,K_12h_g,K_13h_g,K_14h_g,K_15h_g,K_16h_g,K_17h_g,K_18h_g,K_19h_g,K_20h_g,K_21h_g,hja,hF,e3,hrk,hk0,h,hq,hDl,hd0,hd1,hq0,hq1,d8,q8,r8,g1,g2,g3,g4,wk]
            exact ⟨i3,fun _=>⟨k + 1,by omega,by omega,rfl⟩⟩
    · refine W_run mixed ⟨[K_5,K_7,K_8,K_9,K_10,K_11,K_12,K_13,K_14,K_15,K_16,K_17,K_18,K_19,K_20,K_21],[K_5h,K_7h,K_8h,K_9h,K_10h,K_11h,K_12h,K_13h,K_14h,K_15h,K_16h,K_17h,K_18h,K_19h,K_20h,K_21h],[6],273,0,[0,1,4,5,6,7,8,9,10,11,12,13,14,15,16,17,18,19,20,21,22,23,24,25,26,28,30,31,32,35,98,100,117,120,121,122,179,180,181,182,183,189,190,191,192,211,271],[35,71,77,82,88,93,98,100,106,112,117,122,151,157,162,168,179,183,192,198,203,211,224,229,231,239,244,258,271]⟩ (fun | 23=>[0,1,2,3,4,5,6,7,8,9,10,11,12,13,14,15,16,17,18,19,20,21,22,23,24,25,26,28,27,29,30,31] | 36=>[0,1,2,3,4,5,6,7,8,9,10,11,12,13,14,16,15,17,18,19,20,21,22,23,24,25,26,27,30,31,32,28,29,33,34,35,36,37,38,39,40,41,43,44,45,42,46,47,48,49,50,51] | _=>[]) (by kernel_rfl) ?_
      simp only [stripX,stripOps,pickOps]
      simp [K_5_f,K_5_e,K_7_f,K_7_e,K_8_f,K_8_e,K_9_f,K_9_e,K_10_f,K_10_e,K_11_f,K_11_e,K_12_f,K_12_e,K_13_f,K_13_e,K_14_f,K_14_e,K_15_f,K_15_e,K_16_f,K_16_e,K_17_f,K_17_e,K_18_f,K_18_e,K_19_f,K_19_e,K_20_f,K_20_e,K_21_f,K_21_e,K_5h_f,K_5h_e,K_7h_f,K_7h_e,K_8h_f,K_8h_e,K_9h_f,K_9h_e,K_10h_f,K_10h_e,K_11h_f,K_11h_e,K_12h_f,K_12h_e,K_13h_f,K_13h_e,K_14h_f,K_14h_e,K_15h_f,K_15h_e,K_16h_f,K_16h_e,K_17h_f,K_17h_e,K_18h_f,K_18h_e,K_19h_f,K_19h_e,K_20h_f,K_20h_e,K_21h_f,K_21h_e,K_5h_g,K_7h_g,K_8h_g,K_9h_g,K_10h_g,K_11h_g,K_12h_g,K_13h_g,K_14h_g,K_15h_g,K_16h_g,K_17h_g,K_18h_g,K_19h_g,K_20h_g,K_21h_g,h]
namespace fnDominated
open Go.ChangeShapes Go.WideShapes Go.RowKit
theorem own:ownKnob Tryz.prog.godebug=none:=by kernel_rfl
theorem lifted (os:Os) (started:os.Started) (H:Type) (enc:TypeId × Value→H) :
    ReturnsInHanded {} Tryz.checked os 3 .any (Rows.fnDominatedSpec.pre6 enc Tryz.prog Tryz.f3 Rows.fnDominatedRow.domain false) (Rows.fnDominatedSpec.post enc Tryz.prog Tryz.f3 false true false false):=by
  refine returnsInHanded_of_change (C:=Tryz.checked) own started (by kernel_rfl) Tryz.func3
    (ChangeSpec.witness6 (enc:=enc) (C:=Tryz.checked) false ⟨#[],#[.slice none 0 0,.slice none 0 0],[]⟩ 8 (by kernel_rfl) (by kernel_rfl) (by kernel_rfl) (by kernel_rfl)) ?_
  intro W base args ds gs before hval hW hcnd _
  have hW':=hW
  obtain ⟨p,q,hA,hV,_,_,_⟩:=hW
  rw [Tryz.params3] at hA hval
  obtain ⟨v0,vs0,d0,ds0,p0,q0,hargs,rfl,rfl,h0,r0⟩:=trodAll_cons hA
  obtain ⟨v1,vs1,d1,ds1,p1,q1,rfl,rfl,rfl,h1,r1⟩:=trodAll_cons r0
  obtain ⟨rfl,rfl,rfl⟩:=trodAll_nil r1
  obtain rfl:args=#[v0,v1]:=by cases args;simp_all
  obtain ⟨code,hcode,hv0⟩:=arg_of rd_LByt (hval 0 22 v0 rfl rfl) h0
  obtain ⟨more,hmore,hv1⟩:=arg_of rd_LByt (hval 1 22 v1 rfl rfl) h1
  obtain ⟨rfl,rfl⟩:=trodVars_none hV
  exact row_end (by kernel_rfl) (by kernel_rfl) (by kernel_rfl) Tryz.underlying4 hW' rfl rfl rfl rfl (vs:=[argV code,argV more]) (by exact ⟨v0,_,rfl,hv0,⟨v1,_,rfl,hv1,rfl⟩⟩) (law_Dominated code more hcode hmore)
theorem over:Rows.fnDominatedRow.holds Tryz.pinned (OpenSpec.ofChange Rows.fnDominatedSpec) :=
  OpenClaim.holds_of_wide 3 Tryz.f3 rfl rfl rfl rfl rfl rfl rfl ⟨rfl,rfl,rfl,rfl,rfl⟩ rfl rfl rfl rfl rfl (by kernel_rfl) Tryz.func3 (by kernel_rfl)
    (of_decide_eq_true (by kernel_rfl)) (by unfold Func.isWrapper;first | (rw [if_pos (by decide +kernel)];kernel_rfl) | (rw [if_neg (by decide +kernel)];exact ⟨rfl,rfl⟩))
    (fun os started H enc _=>lifted os started H enc)
end fnDominated
theorem fnDominated_holds:Rows.FnDominatedSaid:=fnDominated.over
end Go.Proofs.YthafdegfjadijaaGreat
