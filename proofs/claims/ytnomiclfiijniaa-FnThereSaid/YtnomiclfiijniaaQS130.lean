/- The reference's LiveAt: passes over all blocks. No condition. -/
import Derived.Test.YtnomiclfiijniaaQS92
import Derived.Test.YtnomiclfiijniaaQS125
namespace Go.Proofs.Ytnomiclfiijniaa
set_option maxRecDepth 100000
set_option linter.unusedSimpArgs false
set_option linter.unusedVariables false
theorem Gr.one {n0:Nat} {l:List Int} {H:Heap} {rows:List (List V)} {m:Nat} (h:n0≤H.length) (hl:0 < l.length) (hn:m=l.length) (hr:rows=rI l):Gr n0 l (.sl H.length 1 0 m) (H++[.row 1 rows]) :=
  .inr ⟨_,by rw [hn],hl,h,by rw [hr,List.getElem?_append_right (Nat.le_refl _),Nat.sub_self];rfl⟩
theorem Gr.one2 {n0 id:Nat} {l:List Int} {H:Heap} {rows:List (List V)} {m:Nat} (h:n0≤H.length) (hl:0 < l.length) (hn:m=l.length) (hr:rows=rI l):Gr n0 l (.sl H.length 1 0 m) (H.set id .dead++[.row 1 rows]):=by
  have:=Gr.one (n0:=n0) (H:=H.set id .dead) (by simpa using h) hl hn hr
  rwa [List.length_set] at this
theorem PureP.rd {P:Program} {f:FuncId} {vs vs':List V} {Q:V→Prop} (h:PureP P f vs' Q) (hv:Reads1 [] vs vs'):PureP P f vs Q:=by
  refine ⟨h.1,fun X w φ args hX hs hvs=>?_⟩
  have hφ:φ=[]:=List.length_eq_zero_iff.1 hs.len
  subst hφ
  exact h.2 X w [] args hX hs (by rw [owned_nil];exact hv X w [] _ hs hvs)
theorem has_nil (x:Int):K_78.e [.d .nilsl,.d (.int .i64 x)]=none:=by
  unfold K_78 Ent.p2
  exact if_neg fun h=>by cases h.1
theorem decA_nil {H:Heap}:decA (α:=List Int) H (.d .nilsl)=(True,[]) :=
  Prod.ext (eq_true ⟨rfl,of_eq_true (congrArg Prod.fst (dec_nilsl (α:=Int) (H:=H)))⟩) (by have:=congrArg Prod.snd (dec_nilsl (α:=Int) (H:=H));exact this)
set_option maxHeartbeats 16000000 in
theorem liveS_own (F : Func) (hF : Enc.good F) (hg : goodF F = true) : CallsD Try.prog 82 [vFunc F] [] fun r H' => ∃ o, r = .sl o 1 0 F.blocks_.length ∧ H'[o]? = some (.row 1 ((List.range F.blocks_.length).map fun k => [V.d (nz (liveL F k))])) := by
  obtain ⟨hv1,hn1,hp1⟩:=good_flow hg
  obtain ⟨m0,m80⟩:=many_rng hg
  obtain ⟨n,hn⟩:∃ n,n=F.blocks_.length:=⟨_,rfl⟩
  obtain ⟨tot,htot⟩:∃ tot:Nat,many F=tot:=⟨(many F).toNat,by omega⟩
  have hn8:n≤8:=by have:=hv1.1;omega
  have f1:(n:Int) * 24≤140737488355328:=by omega
  have f2:(n:Int)≤140737488355328:=by omega
  obtain ⟨B0,hB0⟩:∃ B0:Place,B0=.row 2 [[.d (.int .i64 F.params_),.d (dBlockS F.blocks_)]]:=⟨_,rfl⟩
  rw [← hn]
  refine calls_of Try.func82 en_82 rfl (of_decide_eq_true rfl) (W_run mixed ⟨[K_104,K_106,K_78],[K_104h,K_106h,K_78h],[103,105],88,0,[0,1,2,3,4,5,6,7,9,11,13,18,20,21,22,23,30,31,32,33,43,44,45,46,56,57,58,59,75],[18,23,33,46,59,67,75]⟩ (fun _=>[]) (by kernel_rfl) ?_)
  simp only [Try.f82,stripX,stripOps,pickOps]
  simp [K_104_f,K_104_e,K_106_f,K_106_e,K_78_f,K_78_e,K_104h_f,K_104h_e,K_106h_f,K_106h_e,K_78h_f,K_78h_e,K_104h_g,K_106h_g,K_78h_g,-V.flat,-V.one,one_int,one_bool,one_str,one_nilp,one_rp,one_nilsl,one_ro,one_cl,one_nilf,one_nili,one_ifc,one_ptr,one_sl,one_clo,flat_d,flat_ptr,flat_sl,flat_clo,flat_agg,hF,← hn,f1,f2,retQ]
  obtain ⟨c,o,hc0,ho1⟩:∃ c o:Nat,c=0∧o=1:=⟨_,_,rfl,rfl⟩
  have hco:c ≠ o:=by omega
  refine W_loopH (α:=Bool × (Nat→Nat→Bool) × Heap) (fun a=>[(1,.ptr c 2 0 0),(3,.sl o 1 0 n),(4,.d (.bool a.1))]) (fun a=>a.2.2)
    (fun a=>a.2.2[c]? = some B0∧a.2.2[o]? = some (.row 1 (RL n tot a.2.1))∧(∀ k v:Nat,k < n→v < tot→a.2.1 k v=true→Lv F k v)∧(a.1=false→Fx F n tot a.2.1))
    (fun a=>leftN n tot a.2.1 + if a.1 then 1 else 0) (true,fun _ _=>false,[B0,.row 1 (List.replicate n [.d .nilsl])]) ?_ ⟨by rw [hc0];rfl, ?_,fun k v _ _ h=>(by cases h),fun h=>by cases h⟩ ?_
  · simp [hc0,ho1,hB0]
  · rw [ho1]
    have e:RL n tot (fun _ _=>false)=List.replicate n [V.d .nilsl]:=by
      have e0:numsOf (fun _=>false) tot=[]:=by simp [numsOf]
      show ((List.range n).map fun k=>[V.d (nz (numsOf (fun _=>false) tot))])=_
      rw [e0,List.map_const',List.length_range];rfl
    rw [e];rfl
  clear hc0 ho1
  rintro ⟨again,L0,G⟩ ⟨hc,ho,hsnd,hfx⟩
  dsimp only at hc ho hsnd hfx
  rw [hB0] at hc
  cases again with
  | true =>
    refine W_run mixed ⟨[K_104,K_106,K_78],[K_104h,K_106h,K_78h],[103,105],88,0,[0,1,2,3,4,5,6,7,9,11,13,18,20,21,22,23,30,31,32,33,43,44,45,46,56,57,58,59,75],[18,23,33,46,59,67,75]⟩ (fun _=>[]) (by kernel_rfl) ?_
    simp only [stripX,stripOps,pickOps]
    simp [K_104_f,K_104_e,K_106_f,K_106_e,K_78_f,K_78_e,K_104h_f,K_104h_e,K_106h_f,K_106h_e,K_78h_f,K_78h_e,K_104h_g,K_106h_g,K_78h_g,-V.flat,-V.one,one_int,one_bool,one_str,one_nilp,one_rp,one_nilsl,one_ro,one_cl,one_nilf,one_nili,one_ifc,one_ptr,one_sl,one_clo,flat_d,flat_ptr,flat_sl,flat_clo,flat_agg,hc,ho]
    refine W_loopH (α:=Nat × Bool × (Nat→Nat→Bool) × Heap) (fun a=>[(1,.ptr c 2 0 0),(3,.sl o 1 0 n),(4,.d (.bool a.2.1)),(20,.d (dBlockS F.blocks_)),(21,.d (.int .i64 F.blocks_.length)),(22,.d (.int .i64 a.1))]) (fun a=>a.2.2.2)
      (fun a=>a.1≤n∧a.2.2.2[c]? = some B0∧a.2.2.2[o]? = some (.row 1 (RL n tot a.2.2.1))∧Pass F n tot L0 a.2.2.1 a.2.1 (Dk F a.1 0)∧(a.2.1=false→∀ k v:Nat,k < a.1→v < tot→L1 F k v=true→L0 k v=true)) (fun a=>n - a.1) (0,false,L0,G) ?_
      ⟨Nat.zero_le _,by rw [hB0];exact hc,ho,(Pass.begin_ hsnd).weak fun _ k m hD=>(by rcases hD with ⟨h,_⟩ | ⟨_,h⟩;exact absurd h (Nat.not_lt_zero _);cases h),fun _ k v h=>absurd h (Nat.not_lt_zero _)⟩ ?_
    · simp
    clear hfx hc ho G
    rintro ⟨k,again,L,G⟩ ⟨hk,hc,ho,hP,hbs⟩
    dsimp only at hk hc ho hP hbs
    rw [hB0] at hc
    by_cases hkn:k < n
    · have hkF:k < F.blocks_.length:=by omega
      obtain ⟨b,hbe⟩:∃ b,b=F.blocks_[k]?.getD default:=⟨_,rfl⟩
      have hb0:=hbe.symm
      have hb1:∀ h:k < F.blocks_.length,F.blocks_[k]=b:=fun h=>by rw [hbe,List.getElem?_eq_getElem h];rfl
      have hbm:b∈F.blocks_:=by rw [← hb1 hkF];exact List.getElem_mem hkF
      have hse:=good_end hg b hbm
      obtain ⟨q1,q2,q3,q4⟩:=(good_small hg).2 b hbm
      have hul:(usedL b).length≤1000000:=by
        have:=endP_len hse b.jumps_.length (Nat.le_refl _)
        have e:endP b b.jumps_.length=usedL b:=by unfold endP usedL;rw [List.take_length]
        rw [e] at this;have:=hse.1;omega
      have hfl:∀ i,i≤b.insts_.length→(accU b i).length≤1000000 + 1000 * i:=fun i=>by
        induction i with
        | zero=>intro _;unfold accU;simpa using hul
        | succ i ih=>intro hi;rw [accU_succ (by omega),List.length_append];have:=ih (by omega);have:=q3 (b.insts_[i]?.getD default) (by rw [List.getElem?_eq_getElem (by omega)];exact List.getElem_mem _);omega
      refine W_run mixed ⟨[K_104,K_106,K_78],[K_104h,K_106h,K_78h],[103,105],88,0,[0,1,2,3,4,5,6,7,9,11,13,18,20,21,22,23,30,31,32,33,43,44,45,46,56,57,58,59,75],[18,23,33,46,59,67,75]⟩ (fun _=>[]) (by kernel_rfl) ?_
      simp only [stripX,stripOps,pickOps]
      simp [K_104_f,K_104_e,K_106_f,K_106_e,K_78_f,K_78_e,K_104h_f,K_104h_e,K_106h_f,K_106h_e,K_78h_f,K_78h_e,K_104h_g,K_106h_g,K_78h_g,-V.flat,-V.one,one_int,one_bool,one_str,one_nilp,one_rp,one_nilsl,one_ro,one_cl,one_nilf,one_nili,one_ifc,one_ptr,one_sl,one_clo,flat_d,flat_ptr,flat_sl,flat_clo,flat_agg,hkn,hkF,hb0,hb1,hc,ho]
      rw [aft_call]
      refine (l14End_gr _ b hse).mono ?_
      rintro r H1 ⟨hgr,honl⟩
      obtain ⟨B,hB⟩:∃ B,B=G++[Place.row 5 [[V.d (.int .i64 b.params_),V.d (dInstS b.insts_),V.d (.int .i64 b.end_),V.d (.int .i64 b.value_),V.d (dJumpS b.jumps_)]]]:=⟨_,rfl⟩
      rw [← hB] at hgr honl
      have hcB:B[c]? = some (.row 2 [[.d (.int .i64 F.params_),.d (dBlockS F.blocks_)]]):=by rw [hB,List.getElem?_append_left (List.getElem?_eq_some_iff.1 hc).1];exact hc
      have hoB:B[o]? = some (.row 1 (RL n tot L)):=by rw [hB,List.getElem?_append_left (List.getElem?_eq_some_iff.1 ho).1];exact ho
      have hcl:=(List.getElem?_eq_some_iff.1 hcB).1
      have hol:=(List.getElem?_eq_some_iff.1 hoB).1
      have hc7:H1[G.length]? = some (.row 5 [[.d (.int .i64 b.params_),.d (dInstS b.insts_),.d (.int .i64 b.end_),.d (.int .i64 b.value_),.d (dJumpS b.jumps_)]]):=(honl.at_ G.length (by rw [hB];simp) List.not_mem_nil).trans (by rw [hB];simp)
      have hr1:r.one=true∧r.flat=[r]:=by rcases hgr with ⟨_,rfl⟩ | ⟨id,rfl,_⟩ <;> exact ⟨rfl,rfl⟩
      obtain ⟨hr1,hr2⟩:=hr1
      simp [K_104_f,K_104_e,K_106_f,K_106_e,K_78_f,K_78_e,K_104h_f,K_104h_e,K_106h_f,K_106h_e,K_78h_f,K_78h_e,K_104h_g,K_106h_g,K_78h_g,-V.flat,-V.one,one_int,one_bool,one_str,one_nilp,one_rp,one_nilsl,one_ro,one_cl,one_nilf,one_nili,one_ifc,one_ptr,one_sl,one_clo,flat_d,flat_ptr,flat_sl,flat_clo,flat_agg,hc7,hr1,hr2]
      obtain ⟨nB,hnB⟩:∃ nB,nB=B.length:=⟨_,rfl⟩
      have hl1:=honl.len
      rw [← hnB] at hgr hl1 hcl hol
      refine W_loopH (α:=Nat × V × Heap) (fun a=>[(1,.ptr c 2 0 0),(3,.sl o 1 0 n),(4,.d (.bool again)),(5,.d (.int .i64 k)),(7,a.2.1),(20,.d (dBlockS F.blocks_)),(21,.d (.int .i64 F.blocks_.length)),(22,.d (.int .i64 k)),(30,.d (dInstS b.insts_)),(31,.d (.int .i64 b.insts_.length)),(32,.d (.int .i64 a.1))]) (fun a=>a.2.2)
        (fun a=>a.1≤b.insts_.length∧Gr nB (accU b a.1) a.2.1 a.2.2∧Only [] B a.2.2) (fun a=>b.insts_.length - a.1) (0,r,H1) ?_ ⟨Nat.zero_le _,by unfold accU;simpa using hgr,honl⟩ ?_
      · simp
      clear hgr hc7 honl hl1 hr1 hr2 r H1
      rintro ⟨j,r,H1⟩ ⟨hj,hgr,honl⟩
      dsimp only at hj hgr honl
      have hl1:=honl.len
      rw [← hnB] at hl1
      have haj:=hfl j hj
      have wj:j < b.insts_.length→IntKind.i64.wrap ((j:Int) + 1)=((j + 1:Nat):Int):=fun h=>by rw [wrap_id] <;> omega
      have wk:IntKind.i64.wrap ((k:Int) + 1)=((k + 1:Nat):Int):=by rw [wrap_id] <;> omega
      by_cases hjl:j < b.insts_.length
      · obtain ⟨x,hgx⟩:∃ x:Inst,b.insts_[j]? = some x:=⟨_,List.getElem?_eq_getElem hjl⟩
        have hx1:b.insts_[j]?.getD default=x:=by rw [hgx];rfl
        have hx2:∀ h:j < b.insts_.length,b.insts_[j]=x:=fun h=>Option.some.inj ((List.getElem?_eq_getElem h).symm.trans hgx)
        have step:accU b (j + 1)=accU b j++x.args_:=by rw [accU_succ hjl,hx1]
        have has:x.args_.length≤1000:=q3 _ (List.mem_of_getElem? hgx)
        have hu:=upto_all x.args_
        generalize hargs:x.args_=av at step has hu
        generalize hacc:accU b j=acc at hgr step haj
        have hg0:=hgr
        rcases hgr with ⟨rfl,rfl⟩ | ⟨id,rfl,hp,hi0,hr⟩
        · refine W_run mixed ⟨[K_104,K_106,K_78],[K_104h,K_106h,K_78h],[103,105],88,0,[0,1,2,3,4,5,6,7,9,11,13,18,20,21,22,23,30,31,32,33,43,44,45,46,56,57,58,59,75],[18,23,33,46,59,67,75]⟩ (fun _=>[]) (by kernel_rfl) ?_
          simp only [stripX,stripOps,pickOps]
          simp [K_104_f,K_104_e,K_106_f,K_106_e,K_78_f,K_78_e,K_104h_f,K_104h_e,K_106h_f,K_106h_e,K_78h_f,K_78h_e,K_104h_g,K_106h_g,K_78h_g,-V.flat,-V.one,one_int,one_bool,one_str,one_nilp,one_rp,one_nilsl,one_ro,one_cl,one_nilf,one_nili,one_ifc,one_ptr,one_sl,one_clo,flat_d,flat_ptr,flat_sl,flat_clo,flat_agg,hargs,hu,hx1,hx2,hjl]
          refine ⟨by omega,fun e=>?_,fun e=>?_⟩
          · exact ⟨j + 1,_,_,⟨by omega,by rw [step,e];exact hg0.len _,only_more honl⟩,by omega,rfl,rfl,wj hjl⟩
          · exact ⟨j + 1,_,_,⟨by omega,by rw [step,List.nil_append];exact Gr.new hl1 (by cases av;exact absurd rfl e;simp) rfl rfl,only_more honl⟩,by omega,rfl,rfl,wj hjl⟩
        · have hid:=(List.getElem?_eq_some_iff.1 hr).1
          have hr':∀ R:Heap,(H1++R)[id]? = some (.row 1 (rI acc)):=fun R=>(List.getElem?_append_left hid).trans hr
          have hset:∀ (R:Heap) p,(H1++R).set id p=H1.set id p++R:=fun R p=>List.set_append_left _ _ hid
          refine W_run mixed ⟨[K_104,K_106,K_78],[K_104h,K_106h,K_78h],[103,105],88,0,[0,1,2,3,4,5,6,7,9,11,13,18,20,21,22,23,30,31,32,33,43,44,45,46,56,57,58,59,75],[18,23,33,46,59,67,75]⟩ (fun _=>[]) (by kernel_rfl) ?_
          simp only [stripX,stripOps,pickOps]
          simp [K_104_f,K_104_e,K_106_f,K_106_e,K_78_f,K_78_e,K_104h_f,K_104h_e,K_106h_f,K_106h_e,K_78h_f,K_78h_e,K_104h_g,K_106h_g,K_78h_g,-V.flat,-V.one,one_int,one_bool,one_str,one_nilp,one_rp,one_nilsl,one_ro,one_cl,one_nilf,one_nili,one_ifc,one_ptr,one_sl,one_clo,flat_d,flat_ptr,flat_sl,flat_clo,flat_agg,hargs,hu,hx1,hx2,hjl,hr',hset]
          refine ⟨by omega, ?_⟩
          exact ⟨j + 1,_,_,⟨by omega,by rw [step];exact Gr.new2 hl1 (by simp;omega) (by simp) (by simp),only_dead honl (by omega)⟩,by omega,rfl,rfl,wj hjl⟩
      · have hje:accU b j=bseq b:=by unfold accU bseq;rw [List.take_of_length_le (by omega)]
        have hcH:H1[c]? = some (.row 2 [[.d (.int .i64 F.params_),.d (dBlockS F.blocks_)]]):=(honl.at_ c (by omega) List.not_mem_nil).trans hcB
        rw [hje] at hgr haj
        have hba:(bseq b).length≤1080000:=by omega
        refine W_run mixed ⟨[K_104,K_106,K_78],[K_104h,K_106h,K_78h],[103,105],88,0,[0,1,2,3,4,5,6,7,9,11,13,18,20,21,22,23,30,31,32,33,43,44,45,46,56,57,58,59,75],[18,23,33,46,59,67,75]⟩ (fun _=>[]) (by kernel_rfl) ?_
        simp only [stripX,stripOps,pickOps]
        simp [K_104_f,K_104_e,K_106_f,K_106_e,K_78_f,K_78_e,K_104h_f,K_104h_e,K_106h_f,K_106h_e,K_78h_f,K_78h_e,K_104h_g,K_106h_g,K_78h_g,-V.flat,-V.one,one_int,one_bool,one_str,one_nilp,one_rp,one_nilsl,one_ro,one_cl,one_nilf,one_nili,one_ifc,one_ptr,one_sl,one_clo,flat_d,flat_ptr,flat_sl,flat_clo,flat_agg,hjl,hcH,hkF,hv1]
        obtain ⟨nx,hnx⟩:∃ nx,nx=nextS F k:=⟨_,rfl⟩
        have hnm:∀ x,x∈nx ↔ x∈tos b:=fun x=>by rw [hnx,mem_nextS,nextL_get,Int.toNat_natCast,hb0]
        have hnr:∀ x∈nx,0≤x∧x < n:=fun x hx=>by
          have:=(okNext_get hn1 k).2 x (by rw [nextL_get,hb0];exact (hnm x).1 hx)
          rw [show (nextL F.blocks_).length=F.blocks_.length by simp [nextL]] at this
          omega
        have hnl:nx.length≤2:=by
          have h1:=foldl_len (tos (F.blocks_[(k:Int).toNat]?.getD default)) []
          have h2:=(okNext_get hn1 k).1
          rw [nextL_get] at h2
          rw [hnx];unfold nextS
          simp only [Int.toNat_natCast,List.length_nil] at h1 ⊢
          omega
        rw [← hnx]
        obtain ⟨acN,hacN⟩:∃ acN:Nat→List Int,∀ i,acN i=bseq b++(nx.take i).flatMap fun m=>numsOf (L m.toNat) tot:=⟨_,fun _=>rfl⟩
        have acS:∀ i,i < nx.length→acN (i + 1)=acN i++numsOf (L (nx[i]?.getD 0).toNat) tot:=fun i hi=>by
          rw [hacN,hacN,List.take_succ_eq_append_getElem hi,List.flatMap_append,List.append_assoc,List.getElem?_eq_getElem hi];simp
        have acl:∀ i,i≤nx.length→(acN i).length≤1080000 + 80 * i:=fun i=>by
          induction i with
          | zero=>intro _;rw [hacN];simpa using hba
          | succ i ih=>intro hi;rw [acS i (by omega),List.length_append];have:=ih (by omega);have:=numsOf_len (L (nx[i]?.getD 0).toNat) tot;omega
        have fin:∀ L' again',Pass F n tot L0 L' again' (Dk F k 0)→(again'=false→again=false)→(again'=false→∀ x∈acN nx.length,bk (viewD F) x ≠ k→L0 k x.toNat=true) →
            Pass F n tot L0 L' again' (Dk F (k + 1) 0)∧(again'=false→∀ k' v:Nat,k' < k + 1→v < tot→L1 F k' v=true→L0 k' v=true):=fun L' again' hP' hag hcl=>by
          refine ⟨hP'.weak fun ha k' m' hD=>?_,fun ha k' v hk' hv h1=>?_⟩
          · rcases hD with ⟨h1,h2⟩ | ⟨_,h2⟩
            · by_cases e:k'=k
              · subst e
                refine .inr fun v hv h0 hne=>?_
                have hmx:=(hnm (m':Int)).2 (by rw [← hb0];exact h2)
                have:=hcl ha v (by
                  rw [hacN,List.take_length]
                  refine List.mem_append_right _ (List.mem_flatMap.2 ⟨_,hmx,mem_numsOf.2 ⟨by omega,by omega, ?_⟩⟩)
                  rw [hP.keep (hag ha)];exact h0) hne
                simpa using this
              · exact .inl (.inl ⟨by omega,h2⟩)
            · cases h2
          · by_cases e:k'=k
            · subst e
              rw [L1_iff (by rw [hb0];exact fun x hx=>(good_all hg hbm x hx).1),hb0] at h1
              have:=hcl ha v (by
                rw [hacN]
                refine List.mem_append_left _ ?_
                have:=h1.1
                unfold allU at this
                unfold bseq
                rw [List.mem_append] at this ⊢
                exact this.symm) h1.2
              simpa using this
            · exact hbs (hag ha) k' v (by omega) hv h1
        have hacm:∀ x∈acN nx.length,(0≤x∧x < tot)∧(bk (viewD F) x ≠ k→Lv F k x.toNat):=fun x hx=>by
          rw [hacN,List.take_length,List.mem_append] at hx
          rcases hx with hx | hx
          · have hx2:x∈allU b:=by
              unfold bseq at hx;unfold allU
              rw [List.mem_append] at hx ⊢
              exact hx.symm
            have hr:=good_all hg hbm x hx2
            refine ⟨by omega,fun hne=>.use ?_⟩
            rw [L1_iff (by rw [hb0];exact fun x hx=>(good_all hg hbm x hx).1),hb0,show ((x.toNat:Nat):Int)=x by omega]
            exact ⟨hx2,hne⟩
          · obtain ⟨m,hm,hx⟩:=List.mem_flatMap.1 hx
            obtain ⟨h1,h2,h3⟩:=mem_numsOf.1 hx
            have hmr:=hnr m hm
            refine ⟨⟨h1,h2⟩,fun hne=>.step (m:=m.toNat) ?_ (hP.snd m.toNat _ (by omega) (by omega) h3) (by rw [show ((x.toNat:Nat):Int)=x by omega];exact hne)⟩
            rw [hb0,show ((m.toNat:Nat):Int)=m by omega]
            exact (hnm m).1 hm
        refine W_loopH (α:=Nat × V × Heap) (fun a=>[(1,.ptr c 2 0 0),(3,.sl o 1 0 n),(4,.d (.bool again)),(5,.d (.int .i64 k)),(7,a.2.1),(20,.d (dBlockS F.blocks_)),(21,.d (.int .i64 F.blocks_.length)),(22,.d (.int .i64 k)),(43,.d (dIntS nx)),(44,.d (.int .i64 nx.length)),(45,.d (.int .i64 a.1))]) (fun a=>a.2.2)
          (fun a=>a.1≤nx.length∧Gr nB (acN a.1) a.2.1 a.2.2∧Only [] B a.2.2) (fun a=>nx.length - a.1) (0,r,H1) ?_ ⟨Nat.zero_le _,by rw [hacN];simpa using hgr,honl⟩ ?_
        · simp
        clear hgr honl hl1 hcH hje haj hba hjl r H1
        rintro ⟨i,r,H1⟩ ⟨hi,hgr,honl⟩
        dsimp only at hi hgr honl
        have hl1:=honl.len
        rw [← hnB] at hl1
        have hai:=acl i hi
        have hoH:H1[o]? = some (.row 1 (RL n tot L)):=(honl.at_ o (by omega) List.not_mem_nil).trans hoB
        have hcH:H1[c]? = some (.row 2 [[.d (.int .i64 F.params_),.d (dBlockS F.blocks_)]]):=(honl.at_ c (by omega) List.not_mem_nil).trans hcB
        by_cases hil:i < nx.length
        · obtain ⟨z,hz⟩:∃ z,z=nx[i]?.getD 0:=⟨_,rfl⟩
          have hz0:=hz.symm
          have hz1:∀ h:i < nx.length,nx[i]=z:=fun h=>by rw [hz,List.getElem?_eq_getElem h];rfl
          have hzm:z∈nx:=by rw [← hz1 hil];exact List.getElem_mem hil
          have hzr:=hnr z hzm
          obtain ⟨m,rfl⟩:∃ m:Nat,z=m:=⟨z.toNat,by omega⟩
          have hmn:m < n:=by omega
          have step:=acS i hil
          rw [hz0,Int.toNat_natCast] at step
          have wi:IntKind.i64.wrap ((i:Int) + 1)=((i + 1:Nat):Int):=by rw [wrap_id] <;> omega
          have rm:=RL_get (tot:=tot) (L:=L) hmn
          have hav:=numsOf_len (L m) tot
          obtain ⟨av,hav0⟩:∃ av,av=numsOf (L m) tot:=⟨_,rfl⟩
          rw [← hav0] at step rm hav
          generalize hacc:acN i=acc at hgr step hai
          have hg0:=hgr
          obtain ⟨rows,hrows⟩:∃ rows,rows=RL n tot L:=⟨_,rfl⟩
          have hrl:rows.length=n:=by rw [hrows,RL_len]
          rw [← hrows] at rm hoH
          by_cases hnil:av=[]
          · rw [hnil,show nz []=.nilsl from rfl] at rm
            have rm0:rows[m]?.getD []=[V.d .nilsl]:=by rw [rm];rfl
            have rm1:∀ h:m < rows.length,rows[m]=[V.d .nilsl]:=fun h=>Option.some.inj ((List.getElem?_eq_getElem h).symm.trans rm)
            rw [hnil,List.append_nil] at step
            rcases hgr with ⟨rfl,rfl⟩ | ⟨id,rfl,hp,hi0,hr⟩
            · refine W_run mixed ⟨[K_104,K_106,K_78],[K_104h,K_106h,K_78h],[103,105],88,0,[0,1,2,3,4,5,6,7,9,11,13,18,20,21,22,23,30,31,32,33,43,44,45,46,56,57,58,59,75],[18,23,33,46,59,67,75]⟩ (fun _=>[]) (by kernel_rfl) ?_
              simp only [stripX,stripOps,pickOps]
              simp [K_104_f,K_104_e,K_106_f,K_106_e,K_78_f,K_78_e,K_104h_f,K_104h_e,K_106h_f,K_106h_e,K_78h_f,K_78h_e,K_104h_g,K_106h_g,K_78h_g,-V.flat,-V.one,one_int,one_bool,one_str,one_nilp,one_rp,one_nilsl,one_ro,one_cl,one_nilf,one_nili,one_ifc,one_ptr,one_sl,one_clo,flat_d,flat_ptr,flat_sl,flat_clo,flat_agg,hil,hz0,hz1,hmn,hrl,rm0,rm1,hoH]
              exact ⟨i + 1,_,_,⟨by omega,by rw [step];exact hg0,honl⟩,by omega,rfl,rfl,wi⟩
            · refine W_run mixed ⟨[K_104,K_106,K_78],[K_104h,K_106h,K_78h],[103,105],88,0,[0,1,2,3,4,5,6,7,9,11,13,18,20,21,22,23,30,31,32,33,43,44,45,46,56,57,58,59,75],[18,23,33,46,59,67,75]⟩ (fun _=>[]) (by kernel_rfl) ?_
              simp only [stripX,stripOps,pickOps]
              simp [K_104_f,K_104_e,K_106_f,K_106_e,K_78_f,K_78_e,K_104h_f,K_104h_e,K_106h_f,K_106h_e,K_78h_f,K_78h_e,K_104h_g,K_106h_g,K_78h_g,-V.flat,-V.one,one_int,one_bool,one_str,one_nilp,one_rp,one_nilsl,one_ro,one_cl,one_nilf,one_nili,one_ifc,one_ptr,one_sl,one_clo,flat_d,flat_ptr,flat_sl,flat_clo,flat_agg,hil,hz0,hz1,hmn,hrl,rm0,rm1,hoH,hr]
              refine ⟨by omega, ?_⟩
              exact ⟨i + 1,_,_,⟨by omega,by rw [step];exact Gr.one2 hl1 hp rfl rfl,only_dead honl (by omega)⟩,by omega,rfl,rfl,wi⟩
          · rw [nz_ne hnil] at rm
            have rm0:rows[m]?.getD []=[V.d (dIntS av)]:=by rw [rm];rfl
            have rm1:∀ h:m < rows.length,rows[m]=[V.d (dIntS av)]:=fun h=>Option.some.inj ((List.getElem?_eq_getElem h).symm.trans rm)
            have hu:=upto_all av
            rcases hgr with ⟨rfl,rfl⟩ | ⟨id,rfl,hp,hi0,hr⟩
            · refine W_run mixed ⟨[K_104,K_106,K_78],[K_104h,K_106h,K_78h],[103,105],88,0,[0,1,2,3,4,5,6,7,9,11,13,18,20,21,22,23,30,31,32,33,43,44,45,46,56,57,58,59,75],[18,23,33,46,59,67,75]⟩ (fun _=>[]) (by kernel_rfl) ?_
              simp only [stripX,stripOps,pickOps]
              simp [K_104_f,K_104_e,K_106_f,K_106_e,K_78_f,K_78_e,K_104h_f,K_104h_e,K_106h_f,K_106h_e,K_78h_f,K_78h_e,K_104h_g,K_106h_g,K_78h_g,-V.flat,-V.one,one_int,one_bool,one_str,one_nilp,one_rp,one_nilsl,one_ro,one_cl,one_nilf,one_nili,one_ifc,one_ptr,one_sl,one_clo,flat_d,flat_ptr,flat_sl,flat_clo,flat_agg,hil,hz0,hz1,hmn,hrl,rm0,rm1,hoH,hu]
              refine ⟨by omega,fun e=>absurd e hnil,fun _=>?_⟩
              exact ⟨i + 1,_,_,⟨by omega,by rw [step,List.nil_append];exact Gr.one hl1 (by cases av;exact absurd rfl hnil;simp) rfl rfl,only_more honl⟩,by omega,rfl,rfl,wi⟩
            · have hid:=(List.getElem?_eq_some_iff.1 hr).1
              have hr':∀ R:Heap,(H1++R)[id]? = some (.row 1 (rI acc)):=fun R=>(List.getElem?_append_left hid).trans hr
              have hset:∀ (R:Heap) p,(H1++R).set id p=H1.set id p++R:=fun R p=>List.set_append_left _ _ hid
              refine W_run mixed ⟨[K_104,K_106,K_78],[K_104h,K_106h,K_78h],[103,105],88,0,[0,1,2,3,4,5,6,7,9,11,13,18,20,21,22,23,30,31,32,33,43,44,45,46,56,57,58,59,75],[18,23,33,46,59,67,75]⟩ (fun _=>[]) (by kernel_rfl) ?_
              simp only [stripX,stripOps,pickOps]
              simp [K_104_f,K_104_e,K_106_f,K_106_e,K_78_f,K_78_e,K_104h_f,K_104h_e,K_106h_f,K_106h_e,K_78h_f,K_78h_e,K_104h_g,K_106h_g,K_78h_g,-V.flat,-V.one,one_int,one_bool,one_str,one_nilp,one_rp,one_nilsl,one_ro,one_cl,one_nilf,one_nili,one_ifc,one_ptr,one_sl,one_clo,flat_d,flat_ptr,flat_sl,flat_clo,flat_agg,hil,hz0,hz1,hmn,hrl,rm0,rm1,hoH,hu,hr,hr',hset]
              refine ⟨by omega, ?_⟩
              exact ⟨i + 1,_,_,⟨by omega,by rw [step];exact Gr.one2 hl1 (by simp;omega) (by simp) (by simp),only_dead honl (by omega)⟩,by omega,rfl,rfl,wi⟩
        · have hie:i=nx.length:=by omega
          subst hie
          rcases hgr with ⟨hgn,rfl⟩ | ⟨id,rfl,hp,hi0,hr⟩
          · refine W_run mixed ⟨[K_104,K_106,K_78],[K_104h,K_106h,K_78h],[103,105],88,0,[0,1,2,3,4,5,6,7,9,11,13,18,20,21,22,23,30,31,32,33,43,44,45,46,56,57,58,59,75],[18,23,33,46,59,67,75]⟩ (fun _=>[]) (by kernel_rfl) ?_
            simp only [stripX,stripOps,pickOps]
            simp [K_104_f,K_104_e,K_106_f,K_106_e,K_78_f,K_78_e,K_104h_f,K_104h_e,K_106h_f,K_106h_e,K_78h_f,K_78h_e,K_104h_g,K_106h_g,K_78h_g,-V.flat,-V.one,one_int,one_bool,one_str,one_nilp,one_rp,one_nilsl,one_ro,one_cl,one_nilf,one_nili,one_ifc,one_ptr,one_sl,one_clo,flat_d,flat_ptr,flat_sl,flat_clo,flat_agg,hil]
            obtain ⟨hP2,hb2⟩:=fin L again hP (fun h=>h) (fun _ x hx=>by rw [hgn] at hx;cases hx)
            refine W_loopH (α:=Unit) (fun a=>[(1,.ptr c 2 0 0),(3,.sl o 1 0 n),(4,.d (.bool again)),(5,.d (.int .i64 k)),(20,.d (dBlockS F.blocks_)),(21,.d (.int .i64 F.blocks_.length)),(22,.d (.int .i64 k)),(56,.d .nilsl),(57,.d (.int .i64 0)),(58,.d (.int .i64 0))]) (fun a=>H1)
              (fun a=>True) (fun a=>0) () ?_ trivial ?_
            · simp
            rintro _ _
            refine W_run mixed ⟨[K_104,K_106,K_78],[K_104h,K_106h,K_78h],[103,105],88,0,[0,1,2,3,4,5,6,7,9,11,13,18,20,21,22,23,30,31,32,33,43,44,45,46,56,57,58,59,75],[18,23,33,46,59,67,75]⟩ (fun _=>[]) (by kernel_rfl) ?_
            simp only [stripX,stripOps,pickOps]
            simp [K_104_f,K_104_e,K_106_f,K_106_e,K_78_f,K_78_e,K_104h_f,K_104h_e,K_106h_f,K_106h_e,K_78h_f,K_78h_e,K_104h_g,K_106h_g,K_78h_g,-V.flat,-V.one,one_int,one_bool,one_str,one_nilp,one_rp,one_nilsl,one_ro,one_cl,one_nilf,one_nili,one_ifc,one_ptr,one_sl,one_clo,flat_d,flat_ptr,flat_sl,flat_clo,flat_agg]
            rw [← hB0] at hcH
            refine ⟨k + 1, ?_⟩
            cases again with
            | true=>exact .inr ⟨L,_,⟨by omega,hcH,hoH,hP2⟩,by omega,rfl,rfl,wk⟩
            | false=>exact .inl ⟨L,_,⟨by omega,hcH,hoH,hP2,hb2 rfl⟩,by omega,rfl,rfl,wk⟩
          · generalize acN nx.length=acc at hr hp hacm fin hai
            refine W_run mixed ⟨[K_104,K_106,K_78],[K_104h,K_106h,K_78h],[103,105],88,0,[0,1,2,3,4,5,6,7,9,11,13,18,20,21,22,23,30,31,32,33,43,44,45,46,56,57,58,59,75],[18,23,33,46,59,67,75]⟩ (fun _=>[]) (by kernel_rfl) ?_
            simp only [stripX,stripOps,pickOps]
            simp [K_104_f,K_104_e,K_106_f,K_106_e,K_78_f,K_78_e,K_104h_f,K_104h_e,K_106h_f,K_106h_e,K_78h_f,K_78h_e,K_104h_g,K_106h_g,K_78h_g,-V.flat,-V.one,one_int,one_bool,one_str,one_nilp,one_rp,one_nilsl,one_ro,one_cl,one_nilf,one_nili,one_ifc,one_ptr,one_sl,one_clo,flat_d,flat_ptr,flat_sl,flat_clo,flat_agg,hil,hr]
            have hio:id ≠ o:=by omega
            refine W_loopH (α:=Nat × Bool × (Nat→Nat→Bool) × Heap) (fun a=>[(1,.ptr c 2 0 0),(3,.sl o 1 0 n),(4,.d (.bool a.2.1)),(5,.d (.int .i64 k)),(20,.d (dBlockS F.blocks_)),(21,.d (.int .i64 F.blocks_.length)),(22,.d (.int .i64 k)),(56,.sl id 1 0 acc.length),(57,.d (.int .i64 acc.length)),(58,.d (.int .i64 a.1))]) (fun a=>a.2.2.2)
              (fun a=>a.1≤acc.length∧(a.2.2.2[c]? = some B0∧a.2.2.2[o]? = some (.row 1 (RL n tot a.2.2.1))∧a.2.2.2[id]? = some (.row 1 (rI acc)))∧Pass F n tot L0 a.2.2.1 a.2.1 (Dk F k 0)∧(a.2.1=false→again=false)∧(a.2.1=false→∀ x∈acc.take a.1,bk (viewD F) x ≠ k→L0 k x.toNat=true)) (fun a=>acc.length - a.1) (0,again,L,H1) ?_
              ⟨Nat.zero_le _,⟨by rw [hB0];exact hcH,hoH,hr⟩,hP,fun h=>h,fun _ x hx=>by cases hx⟩ ?_
            · simp
            clear hcH hoH hr honl hl1 H1 hP
            rintro ⟨t,again',L',G3⟩ ⟨ht,⟨hcH,hoH,hr⟩,hP,hag,hcla⟩
            dsimp only at ht hcH hoH hr hP hag hcla
            rw [hB0] at hcH
            by_cases htn:t < acc.length
            · obtain ⟨x,hx⟩:∃ x,x=acc[t]?.getD 0:=⟨_,rfl⟩
              have hx0:acc[t]? = some x:=by rw [hx,List.getElem?_eq_getElem htn];rfl
              have hx1:∀ h:t < acc.length,acc[t]=x:=fun h=>by rw [hx,List.getElem?_eq_getElem h];rfl
              have hxm:x∈acc:=by rw [← hx1 htn];exact List.getElem_mem htn
              obtain ⟨⟨x0,x1⟩,x2⟩:=hacm x hxm
              have hxt:x.toNat < tot:=by omega
              have hxx:((x.toNat:Nat):Int)=x:=by omega
              have wt:IntKind.i64.wrap ((t:Int) + 1)=((t + 1:Nat):Int):=by rw [wrap_id] <;> omega
              have tk:acc.take (t + 1)=acc.take t++[x]:=by rw [List.take_succ_eq_append_getElem htn,hx1 htn]
              have hbl:blkS F x F.blocks_ 0=bk (viewD F) x:=blk_same hg x0 (by omega)
              by_cases hbe:bk (viewD F) x=k
              · refine W_run mixed ⟨[K_104,K_106,K_78],[K_104h,K_106h,K_78h],[103,105],88,0,[0,1,2,3,4,5,6,7,9,11,13,18,20,21,22,23,30,31,32,33,43,44,45,46,56,57,58,59,75],[18,23,33,46,59,67,75]⟩ (fun _=>[]) (by kernel_rfl) ?_
                simp only [stripX,stripOps,pickOps]
                simp [K_104_f,K_104_e,K_106_f,K_106_e,K_78_f,K_78_e,K_104h_f,K_104h_e,K_106h_f,K_106h_e,K_78h_f,K_78h_e,K_104h_g,K_106h_g,K_78h_g,-V.flat,-V.one,one_int,one_bool,one_str,one_nilp,one_rp,one_nilsl,one_ro,one_cl,one_nilf,one_nili,one_ifc,one_ptr,one_sl,one_clo,flat_d,flat_ptr,flat_sl,flat_clo,flat_agg,htn,hx0,hx1,hr,hcH,hbl,hbe,hF]
                have hcl':again'=false→∀ y∈acc.take (t + 1),bk (viewD F) y ≠ k→L0 k y.toNat=true:=fun ha y hy hne=>by
                  rw [tk,List.mem_append,List.mem_singleton] at hy
                  rcases hy with hy | rfl
                  · exact hcla ha y hy hne
                  · exact absurd hbe hne
                rw [← hB0] at hcH
                refine ⟨t + 1, ?_⟩
                cases again' with
                | true=>exact .inr ⟨L',_,⟨by omega,⟨hcH,hoH,hr⟩,hP⟩,by omega,rfl,rfl,wt⟩
                | false=>exact .inl ⟨L',_,⟨by omega,⟨hcH,hoH,hr⟩,hP,hag rfl,hcl' rfl⟩,by omega,rfl,rfl,wt⟩
              · have rk:=RL_get (tot:=tot) (L:=L') hkn
                have hav:=numsOf_len (L' k) tot
                obtain ⟨av,hav0⟩:∃ av,av=numsOf (L' k) tot:=⟨_,rfl⟩
                rw [← hav0] at rk hav
                have hav8:av.length≤1000:=by omega
                have hhas:hasL av x=L' k x.toNat:=by
                  rw [Bool.eq_iff_iff,hasL,decide_eq_true_eq,hav0,mem_numsOf]
                  exact ⟨fun h=>h.2.2,fun h=>⟨x0,x1,h⟩⟩
                have hput:putL av x=numsOf (fun y=>if y=x.toNat then true else L' k y) tot:=by
                  have:=putL_nums (g:=L' k) hxt
                  rw [hxx,← hav0] at this
                  exact this
                obtain ⟨pv,hpv⟩:∃ pv,pv=putL av x:=⟨_,rfl⟩
                have hpn:pv ≠ []:=by
                  rw [hpv]
                  intro e
                  have:x∈putL av x:=mem_putL.2 (.inl rfl)
                  rw [e] at this;cases this
                have hrs:(RL n tot L').set k [V.d (dIntS pv)]=RL n tot fun j=>if j=k then (fun y=>if y=x.toNat then true else L' k y) else L' j:=by
                  rw [← RL_set _ hkn,← nz_ne hpn,hpv,hput]
                obtain ⟨rows,hrows⟩:∃ rows,rows=RL n tot L':=⟨_,rfl⟩
                have hrl:rows.length=n:=by rw [hrows,RL_len]
                have hoH':=hoH
                rw [← hrows] at rk hoH hrs
                have hpv0:=hpv.symm
                obtain ⟨L2,hL2e⟩:∃ L2,L2=fun j=>if j=k then (fun y=>if y=x.toNat then true else L' k y) else L' j:=⟨_,rfl⟩
                rw [← hL2e] at hrs
                have hputC:∀ d,decA (α:=List Int) [] (.d d)=(True,av)→CallsD Try.prog 105 [.d d,.d (.int .i64 x)] G3 fun r H'=>r=.d (dIntS pv)∧H'=G3:=fun d hd =>
                  (((l1Put_c av x hav8).rd (vs:=[.d d,.d (.int .i64 x)]) (Rd1.list (vs:=[.d d,.d (.int .i64 x)]) (vs':=[.d (dIntS av),.d (.int .i64 x)]) ⟨Rd1.dec (α:=List Int) (by rw [hd];exact ⟨trivial,rfl⟩),Rd1.d,trivial⟩)).calls rfl).mono fun r H' h=>⟨by rw [h.2,hpv],h.1⟩
                by_cases hnil:av=[]
                · have hLx:L' k x.toNat=false:=by rw [← hhas,hnil];rfl
                  have hL2:=hP.put hkn hxt (x2 hbe) hLx
                  rw [← hL2e] at hL2
                  rw [hnil,show nz []=.nilsl from rfl] at rk
                  have rk0:rows[k]?.getD []=[V.d .nilsl]:=by rw [rk];rfl
                  have rk1:∀ h:k < rows.length,rows[k]=[V.d .nilsl]:=fun h=>Option.some.inj ((List.getElem?_eq_getElem h).symm.trans rk)
                  rw [hLx,hnil] at hhas
                  rw [hnil] at hpv0
                  refine W_run mixed ⟨[K_104,K_106,K_78],[K_104h,K_106h,K_78h],[103,105],88,0,[0,1,2,3,4,5,6,7,9,11,13,18,20,21,22,23,30,31,32,33,43,44,45,46,56,57,58,59,75],[18,23,33,46,59,67,75]⟩ (fun _=>[]) (by kernel_rfl) ?_
                  simp only [stripX,stripOps,pickOps]
                  simp [K_104_f,K_104_e,K_106_f,K_106_e,K_78_f,K_78_e,K_104h_f,K_104h_e,K_106h_f,K_106h_e,K_78h_f,K_78h_e,K_104h_g,K_106h_g,K_78h_g,-V.flat,-V.one,one_int,one_bool,one_str,one_nilp,one_rp,one_nilsl,one_ro,one_cl,one_nilf,one_nili,one_ifc,one_ptr,one_sl,one_clo,flat_d,flat_ptr,flat_sl,flat_clo,flat_agg,htn,hx0,hx1,hr,hcH,hbl,hbe,hF,hrl,rk0,rk1,hkn,hoH,hhas,has_nil,decA_nil]
                  first | rw [aft_call] | skip
                  refine (hputC _ (by rw [hnil];exact decA_nil)).mono ?_
                  rintro r H' ⟨rfl,rfl⟩
                  simp [K_104_f,K_104_e,K_106_f,K_106_e,K_78_f,K_78_e,K_104h_f,K_104h_e,K_106h_f,K_106h_e,K_78h_f,K_78h_e,K_104h_g,K_106h_g,K_78h_g,-V.flat,-V.one,one_int,one_bool,one_str,one_nilp,one_rp,one_nilsl,one_ro,one_cl,one_nilf,one_nili,one_ifc,one_ptr,one_sl,one_clo,flat_d,flat_ptr,flat_sl,flat_clo,flat_agg,hkn,hrl,hoH,rk0,rk1]
                  exact ⟨t + 1,L2,_,⟨by omega,⟨(List.getElem?_set_ne (Ne.symm hco)).trans (by rw [hB0];exact hcH),by rw [hrs,List.getElem?_set_self (List.getElem?_eq_some_iff.1 hoH).1],(List.getElem?_set_ne (Ne.symm hio)).trans hr⟩,hL2⟩,by omega,rfl,wt⟩
                · rw [nz_ne hnil] at rk
                  have rk0:rows[k]?.getD []=[V.d (dIntS av)]:=by rw [rk];rfl
                  have rk1:∀ h:k < rows.length,rows[k]=[V.d (dIntS av)]:=fun h=>Option.some.inj ((List.getElem?_eq_getElem h).symm.trans rk)
                  cases hLx:L' k x.toNat with
                  | true =>
                    rw [hLx] at hhas
                    refine W_run mixed ⟨[K_104,K_106,K_78],[K_104h,K_106h,K_78h],[103,105],88,0,[0,1,2,3,4,5,6,7,9,11,13,18,20,21,22,23,30,31,32,33,43,44,45,46,56,57,58,59,75],[18,23,33,46,59,67,75]⟩ (fun _=>[]) (by kernel_rfl) ?_
                    simp only [stripX,stripOps,pickOps]
                    simp [K_104_f,K_104_e,K_106_f,K_106_e,K_78_f,K_78_e,K_104h_f,K_104h_e,K_106h_f,K_106h_e,K_78h_f,K_78h_e,K_104h_g,K_106h_g,K_78h_g,-V.flat,-V.one,one_int,one_bool,one_str,one_nilp,one_rp,one_nilsl,one_ro,one_cl,one_nilf,one_nili,one_ifc,one_ptr,one_sl,one_clo,flat_d,flat_ptr,flat_sl,flat_clo,flat_agg,htn,hx0,hx1,hr,hcH,hbl,hbe,hF,hrl,rk0,rk1,hkn,hoH,hav8,hhas]
                    have hcl':again'=false→∀ y∈acc.take (t + 1),bk (viewD F) y ≠ k→L0 k y.toNat=true:=fun ha y hy hne=>by
                      rw [tk,List.mem_append,List.mem_singleton] at hy
                      rcases hy with hy | rfl
                      · exact hcla ha y hy hne
                      · rw [← hP.keep ha];exact hLx
                    rw [← hB0] at hcH
                    refine ⟨t + 1, ?_⟩
                    cases again' with
                    | true=>exact .inr ⟨L',_,⟨by omega,⟨hcH,hoH',hr⟩,hP⟩,by omega,rfl,rfl,wt⟩
                    | false=>exact .inl ⟨L',_,⟨by omega,⟨hcH,hoH',hr⟩,hP,hag rfl,hcl' rfl⟩,by omega,rfl,rfl,wt⟩
                  | false =>
                    have hL2:=hP.put hkn hxt (x2 hbe) hLx
                    rw [← hL2e] at hL2
                    rw [hLx] at hhas
                    refine W_run mixed ⟨[K_104,K_106,K_78],[K_104h,K_106h,K_78h],[103,105],88,0,[0,1,2,3,4,5,6,7,9,11,13,18,20,21,22,23,30,31,32,33,43,44,45,46,56,57,58,59,75],[18,23,33,46,59,67,75]⟩ (fun _=>[]) (by kernel_rfl) ?_
                    simp only [stripX,stripOps,pickOps]
                    simp [K_104_f,K_104_e,K_106_f,K_106_e,K_78_f,K_78_e,K_104h_f,K_104h_e,K_106h_f,K_106h_e,K_78h_f,K_78h_e,K_104h_g,K_106h_g,K_78h_g,-V.flat,-V.one,one_int,one_bool,one_str,one_nilp,one_rp,one_nilsl,one_ro,one_cl,one_nilf,one_nili,one_ifc,one_ptr,one_sl,one_clo,flat_d,flat_ptr,flat_sl,flat_clo,flat_agg,htn,hx0,hx1,hr,hcH,hbl,hbe,hF,hrl,rk0,rk1,hkn,hoH,hav8,hhas]
                    first | rw [aft_call] | skip
                    refine (hputC _ decA_ro).mono ?_
                    rintro r H' ⟨rfl,rfl⟩
                    simp [K_104_f,K_104_e,K_106_f,K_106_e,K_78_f,K_78_e,K_104h_f,K_104h_e,K_106h_f,K_106h_e,K_78h_f,K_78h_e,K_104h_g,K_106h_g,K_78h_g,-V.flat,-V.one,one_int,one_bool,one_str,one_nilp,one_rp,one_nilsl,one_ro,one_cl,one_nilf,one_nili,one_ifc,one_ptr,one_sl,one_clo,flat_d,flat_ptr,flat_sl,flat_clo,flat_agg,hkn,hrl,hoH,rk0,rk1]
                    exact ⟨t + 1,L2,_,⟨by omega,⟨(List.getElem?_set_ne (Ne.symm hco)).trans (by rw [hB0];exact hcH),by rw [hrs,List.getElem?_set_self (List.getElem?_eq_some_iff.1 hoH).1],(List.getElem?_set_ne (Ne.symm hio)).trans hr⟩,hL2⟩,by omega,rfl,wt⟩
            · refine W_run mixed ⟨[K_104,K_106,K_78],[K_104h,K_106h,K_78h],[103,105],88,0,[0,1,2,3,4,5,6,7,9,11,13,18,20,21,22,23,30,31,32,33,43,44,45,46,56,57,58,59,75],[18,23,33,46,59,67,75]⟩ (fun _=>[]) (by kernel_rfl) ?_
              simp only [stripX,stripOps,pickOps]
              simp [K_104_f,K_104_e,K_106_f,K_106_e,K_78_f,K_78_e,K_104h_f,K_104h_e,K_106h_f,K_106h_e,K_78h_f,K_78h_e,K_104h_g,K_106h_g,K_78h_g,-V.flat,-V.one,one_int,one_bool,one_str,one_nilp,one_rp,one_nilsl,one_ro,one_cl,one_nilf,one_nili,one_ifc,one_ptr,one_sl,one_clo,flat_d,flat_ptr,flat_sl,flat_clo,flat_agg,htn]
              rw [← hB0] at hcH
              obtain ⟨hP2,hb2⟩:=fin L' again' hP hag fun ha=>by
                have:=hcla ha
                rwa [List.take_of_length_le (by omega)] at this
              refine ⟨k + 1, ?_⟩
              cases again' with
              | true=>exact .inr ⟨L',_,⟨by omega,hcH,hoH,hP2⟩,by omega,rfl,rfl,wk⟩
              | false=>exact .inl ⟨L',_,⟨by omega,hcH,hoH,hP2,hb2 rfl⟩,by omega,rfl,rfl,wk⟩
    · have hke:¬ k < F.blocks_.length:=by omega
      refine W_run mixed ⟨[K_104,K_106,K_78],[K_104h,K_106h,K_78h],[103,105],88,0,[0,1,2,3,4,5,6,7,9,11,13,18,20,21,22,23,30,31,32,33,43,44,45,46,56,57,58,59,75],[18,23,33,46,59,67,75]⟩ (fun _=>[]) (by kernel_rfl) ?_
      simp only [stripX,stripOps,pickOps]
      simp [K_104_f,K_104_e,K_106_f,K_106_e,K_78_f,K_78_e,K_104h_f,K_104h_e,K_106h_f,K_106h_e,K_78h_f,K_78h_e,K_104h_g,K_106h_g,K_78h_g,-V.flat,-V.one,one_int,one_bool,one_str,one_nilp,one_rp,one_nilsl,one_ro,one_cl,one_nilf,one_nili,one_ifc,one_ptr,one_sl,one_clo,flat_d,flat_ptr,flat_sl,flat_clo,flat_agg,hke]
      have hke2:k=n:=by omega
      have hfin:again=false→Fx F n tot L0:=fun ha=>⟨hsnd,fun k' v h1 h2 h3=>hbs ha k' v (by omega) h2 h3,fun k' m' v h1 h2 h3 h4 h5=>hP.cls ha k' m' v (.inl ⟨by omega,h2⟩) h3 h4 h5⟩
      rw [← hB0] at hc
      cases again with
      | true=>exact .inr ⟨L,_,⟨hc,ho,hP.snd⟩,hP.less,rfl,rfl⟩
      | false =>
        have e:L=L0:=by funext a b;exact hP.keep rfl a b
        exact .inl ⟨L,_,⟨hc,ho,hP.snd,by rw [e];exact hfin rfl⟩,by rw [e];omega,rfl,rfl⟩
  | false =>
    have hfx:=hfx rfl
    refine W_run mixed ⟨[K_104,K_106,K_78],[K_104h,K_106h,K_78h],[103,105],88,0,[0,1,2,3,4,5,6,7,9,11,13,18,20,21,22,23,30,31,32,33,43,44,45,46,56,57,58,59,75],[18,23,33,46,59,67,75]⟩ (fun _=>[]) (by kernel_rfl) ?_
    simp only [stripX,stripOps,pickOps]
    simp [K_104_f,K_104_e,K_106_f,K_106_e,K_78_f,K_78_e,K_104h_f,K_104h_e,K_106h_f,K_106h_e,K_78h_f,K_78h_e,K_104h_g,K_106h_g,K_78h_g,-V.flat,-V.one,one_int,one_bool,one_str,one_nilp,one_rp,one_nilsl,one_ro,one_cl,one_nilf,one_nili,one_ifc,one_ptr,one_sl,one_clo,flat_d,flat_ptr,flat_sl,flat_clo,flat_agg]
    have e:RL n tot L0=(List.range n).map fun k=>[V.d (nz (liveL F k))]:=by
      refine List.map_congr_left fun k hk=>?_
      have hkn:=List.mem_range.1 hk
      have:numsOf (L0 k) tot=liveL F k:=by
        unfold liveL
        rw [show (many F).toNat=tot by omega]
        refine numsOf_congr fun v hv=>?_
        have:=hfx.iff hn hkn hv fun j m hm=>(by
          have:=(okNext_get hn1 j).2
          rw [nextL_get,show (nextL F.blocks_).length=F.blocks_.length by simp [nextL]] at this
          have:=this m hm
          omega)
        by_cases h:Lv F k v <;> simp_all
      rw [this]
    exact ⟨_,_,Fin.same (Nat.zero_le _),⟨o,rfl,by rw [← e];exact ho⟩⟩
end Go.Proofs.Ytnomiclfiijniaa
