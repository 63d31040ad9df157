/- The program's LiveAt: what blocks use themselves. No condition. -/
import Derived.Test.YtnomiclfiijniaaQS125
import Derived.Test.YtnomiclfiijniaaQS101
namespace Go.Proofs.Ytnomiclfiijniaa
set_option maxRecDepth 100000
set_option linter.unusedSimpArgs false
set_option linter.unusedVariables false
structure LM (F:Func) (c6 c7 o n tot i:Nat) (id:Nat→Nat) (L:Nat→Nat→Bool) (H:Heap):Prop where
  vw:H[c6]? = some (.row 1 [[.d (.rp 5 (dView (viewD F)))]])
  hd:H[c7]? = some (.row 1 [[.sl o 1 0 n]])
  out:∃ rows:List (List V),H[o]? = some (.row 1 rows)∧rows.length=n∧(∀ j,j < i→rows[j]? = some [.sl (id j) 1 0 tot])∧∀ j,i≤j→j < n→rows[j]? = some [.d .nilsl]
  row:∀ j,j < i→H[id j]? = some (.row 1 (rB (rowOf tot (L j))))
  inj:∀ j k,j < i→k < i→id j=id k→j=k
  ne:c6 ≠ c7∧c6 ≠ o∧c7 ≠ o∧∀ j,j < i→id j ≠ c6∧id j ≠ c7∧id j ≠ o
section
variable {F:Func} {c6 c7 o n tot i:Nat} {id:Nat→Nat} {L:Nat→Nat→Bool} {H:Heap}
theorem LM.app (h:LM F c6 c7 o n tot i id L H) (X:Heap):LM F c6 c7 o n tot i id L (H++X):=by
  obtain ⟨rows,r1,r2,r3,r4⟩:=h.out
  have up:∀ {j:Nat} {P:Place},H[j]? = some P→(H++X)[j]? = some P:=fun q=>(List.getElem?_append_left (List.getElem?_eq_some_iff.1 q).1).trans q
  exact ⟨up h.vw,up h.hd,⟨rows,up r1,r2,r3,r4⟩,fun j hj=>up (h.row j hj),h.inj,h.ne⟩
theorem LM.put (h:LM F c6 c7 o n tot i id L H) {k:Nat} (hk:k < i) (g:Nat→Bool):LM F c6 c7 o n tot i id (fun j=>if j=k then g else L j) (H.set (id k) (.row 1 (rB (rowOf tot g)))):=by
  obtain ⟨rows,r1,r2,r3,r4⟩:=h.out
  obtain ⟨n1,n2,n3⟩:=h.ne.2.2.2 k hk
  refine ⟨(List.getElem?_set_ne n1).trans h.vw,(List.getElem?_set_ne n2).trans h.hd,⟨rows,(List.getElem?_set_ne n3).trans r1,r2,r3,r4⟩,fun j hj=>?_,h.inj,h.ne⟩
  by_cases e:j=k
  · subst e
    rw [if_pos rfl,List.getElem?_set_self (List.getElem?_eq_some_iff.1 (h.row j hj)).1]
  · rw [if_neg e,List.getElem?_set_ne (fun q=>e (h.inj k j hk hj q).symm)];exact h.row j hj
theorem LM.new (h:LM F c6 c7 o n tot i id L H) (hi:i < n) {rows:List (List V)} (hr:H[o]? = some (.row 1 rows)) {G:Heap} (hG:∀ j,j ≠ o→j < H.length→G[j]? = H[j]?) (hl:H.length≤G.length) {c:Nat} (hc:H.length≤c) (hGc:G[c]? = some (.row 1 (rB (rowOf tot fun _=>false)))) (hGo:G[o]? = some (.row 1 (rows.set i [.sl c 1 0 tot]))) :
    LM F c6 c7 o n tot (i + 1) (fun j=>if j=i then c else id j) (fun j=>if j=i then fun _=>false else L j) G:=by
  obtain ⟨rows',r1,r2,r3,r4⟩:=h.out
  obtain rfl:rows'=rows:=by
    have:=r1.symm.trans hr
    simpa using this
  obtain ⟨e1,e2,e3,e4⟩:=h.ne
  have lt:∀ {j:Nat} {P:Place},H[j]? = some P→j < H.length:=fun q=>(List.getElem?_eq_some_iff.1 q).1
  refine ⟨(hG c6 e2 (lt h.vw)).trans h.vw,(hG c7 e3 (lt h.hd)).trans h.hd,⟨_,hGo,by simpa using r2,fun j hj=>?_,fun j h1 h2=>?_⟩,fun j hj=>?_,fun j k hj hk e=>?_,e1,e2,e3,fun j hj=>?_⟩
  · by_cases e:j=i
    · subst e;rw [if_pos rfl,List.getElem?_set_self (by omega)]
    · rw [if_neg e,List.getElem?_set_ne (Ne.symm e)];exact r3 j (by omega)
  · rw [List.getElem?_set_ne (by omega)];exact r4 j (by omega) h2
  · by_cases e:j=i
    · subst e;simp only [if_true];exact hGc
    · simp only [if_neg e]
      have hj':j < i:=by omega
      exact (hG _ (e4 j hj').2.2 (lt (h.row j hj'))).trans (h.row j hj')
  · by_cases ej:j=i <;> by_cases ek:k=i
    · omega
    · simp only [ej,if_true,if_neg ek] at e
      have:=lt (h.row k (by omega));omega
    · simp only [ek,if_true,if_neg ej] at e
      have:=lt (h.row j (by omega));omega
    · simp only [if_neg ej,if_neg ek] at e
      exact h.inj j k (by omega) (by omega) e
  · by_cases e:j=i
    · simp only [e,if_true]
      have:=lt h.vw;have:=lt h.hd;have:=lt hr
      omega
    · simp only [if_neg e];exact e4 j (by omega)
end
set_option maxHeartbeats 16000000 in
theorem liveI_own (F : Func) (k0 : Int) (hF : Enc.good F) (hg : goodF F = true) (hb : isBlk F k0 = true) :
    CallsD Try.prog 31 [vFunc F,.d (.int .i64 k0)] [] fun r H'=>r=.tup [.d (dIntS (liveL F k0.toNat)),.d (.bool true)]:=by
  have hbi:inR k0 0 (IntKind.i64.wrap (F.blocks_.length - 1))=true:=by
    have:=hb;simp only [isBlk,hg,Bool.true_and] at this;exact this
  obtain ⟨hv1,hn1,hp1⟩:=good_flow hg
  obtain ⟨m0,m80⟩:=many_rng hg
  obtain ⟨n,hn⟩:∃ n,n=F.blocks_.length:=⟨_,rfl⟩
  obtain ⟨tot,htot⟩:∃ tot:Nat,many F=tot:=⟨(many F).toNat,by omega⟩
  have hn8:n≤8:=by have:=hv1.1;omega
  have f1:(n:Int) * 24≤140737488355328:=by omega
  have f2:(n:Int)≤140737488355328:=by omega
  refine calls_of Try.func31 en_31 rfl (of_decide_eq_true rfl) (W_runCut mixed 3 ⟨[K_40,K_71,K_70],[K_40h,K_71h,K_70h],[73,68],156,0,[0,1,2,4,5,6,7,8,9,10,11,12,13,14,15,16,18,20,30,41,42,43,65,66,67,77,78,79,99,100,101,102,103,107,108,109,110,117,118,119,120,141],[25,30,43,67,79,99,103,110,120,132,141]⟩ (fun | 4=>[0,1,2,3,4,5,7,8,6,9,10,11] | 8=>[0,1,2,3,4,5,6,7,8] | 10=>[0,1,2,3,4,5,6,7] | _=>[]) (by kernel_rfl) ?_)
  simp only [Try.f31,stripCut,stripX,stripOps,pickOps]
  simp [K_40_f,K_40_e,K_71_f,K_71_e,K_70_f,K_70_e,K_40h_f,K_40h_e,K_71h_f,K_71h_e,K_70h_f,K_70h_e,K_40h_g,K_71h_g,K_70h_g,-V.flat,-V.one,one_int,one_bool,one_str,one_nilp,one_rp,one_nilsl,one_ro,one_cl,one_nilf,one_nili,one_ifc,one_ptr,one_sl,one_clo,flat_d,flat_ptr,flat_sl,flat_clo,flat_agg,hF,viewV_t hg,viewD_blocks,hbi]
  refine W_seqR (α:=Nat × Nat × Nat × Heap) (fun a=>[(1,.d (.int .i64 k0)),(6,.ptr a.1 1 0 0),(7,.ptr a.2.1 1 0 0),(8,.d (dIntSS (nextL F.blocks_)))]) (fun a=>a.2.2.2)
    (fun a=>LM F a.1 a.2.1 a.2.2.1 n tot 0 (fun _=>0) (fun _ _=>false) a.2.2.2) ?_ ?_
  · refine W_drawC mixed ⟨[K_40,K_71,K_70],[K_40h,K_71h,K_70h],[73,68],156,0,[0,1,2,4,5,6,7,8,9,10,11,12,13,14,15,16,18,20,30,41,42,43,65,66,67,77,78,79,99,100,101,102,103,107,108,109,110,117,118,119,120,141],[25,30,43,67,79,99,103,110,120,132,141]⟩ [0,1,2,3,4,5,7,8] [6,9] [10,11] (.alt 6 (.alt 9 .leaf .nil) (.alt 9 (.alt 6 .leaf .nil) .nil)) (fun | 6=>[0,7] | 9=>[0,4,7] | _=>[]) [0,1,2,4,5,6,7,8,9,10,11,12,13,14,15,16,18,20,30,41,42,43,65,66,67,77,78,79,99,100,101,102,103,107,108,109,110,117,118,119,120,141,31,32,33,34,35,36,37,38,39] (by kernel_rfl) (by kernel_rfl) ?_
    simp only [stripOps,pickOps]
    simp [denC,demC,loadD,stripOps,pickOps,K_40_f,K_40_e,K_71_f,K_71_e,K_70_f,K_70_e,K_40h_f,K_40h_e,K_71h_f,K_71h_e,K_70h_f,K_70h_e,K_40h_g,K_71h_g,K_70h_g,-V.flat,-V.one,one_int,one_bool,one_str,one_nilp,one_rp,one_nilsl,one_ro,one_cl,one_nilf,one_nili,one_ifc,one_ptr,one_sl,one_clo,flat_d,flat_ptr,flat_sl,flat_clo,flat_agg,viewD_blocks,← hn,hv1,f1,f2]
    have lm0:∀ (c7 o:Nat) (G:Heap),G[1]? = some (.row 1 [[.d (.rp 5 (dView (viewD F)))]])→G[c7]? = some (.row 1 [[.sl o 1 0 n]])→G[o]? = some (.row 1 (List.replicate n [.d .nilsl]))→(1 ≠ c7∧1 ≠ o∧c7 ≠ o)→LM F 1 c7 o n tot 0 (fun _=>0) (fun _ _=>false) G:=fun c7 o G h1 h2 h3 h4 =>
      ⟨h1,h2,⟨_,h3,by simp,fun j hj=>absurd hj (Nat.not_lt_zero j),fun j _ hj=>by simp [hj]⟩,fun j hj=>absurd hj (Nat.not_lt_zero j),fun j k hj=>absurd hj (Nat.not_lt_zero j),h4.1,h4.2.1,h4.2.2,fun j hj=>absurd hj (Nat.not_lt_zero j)⟩
    exact ⟨⟨1,3,2,_,lm0 3 2 _ rfl rfl rfl (by decide),HLe.refl _,rfl,rfl⟩,⟨1,2,3,_,lm0 2 3 _ rfl rfl rfl (by decide),HLe.refl _,rfl,rfl⟩⟩
  rintro ⟨c6,c7,o,G⟩ hL
  simp only [] at hL ⊢
  have hd:=hL.hd
  refine W_run mixed ⟨[K_40,K_71,K_70],[K_40h,K_71h,K_70h],[73,68],156,0,[0,1,2,4,5,6,7,8,9,10,11,12,13,14,15,16,18,20,30,41,42,43,65,66,67,77,78,79,99,100,101,102,103,107,108,109,110,117,118,119,120,141],[25,30,43,67,79,99,103,110,120,132,141]⟩ (fun | 4=>[0,1,2,3,4,5,7,8,6,9,10,11] | 8=>[0,1,2,3,4,5,6,7,8] | 10=>[0,1,2,3,4,5,6,7] | _=>[]) (by kernel_rfl) ?_
  simp only [stripX,stripOps,pickOps]
  simp [K_40_f,K_40_e,K_71_f,K_71_e,K_70_f,K_70_e,K_40h_f,K_40h_e,K_71h_f,K_71h_e,K_70h_f,K_70h_e,K_40h_g,K_71h_g,K_70h_g,-V.flat,-V.one,one_int,one_bool,one_str,one_nilp,one_rp,one_nilsl,one_ro,one_cl,one_nilf,one_nili,one_ifc,one_ptr,one_sl,one_clo,flat_d,flat_ptr,flat_sl,flat_clo,flat_agg,hd]
  refine W_loopH (α:=Nat × (Nat→Nat) × (Nat→Nat→Bool) × Heap) (fun a=>[(1,.d (.int .i64 k0)),(6,.ptr c6 1 0 0),(7,.ptr c7 1 0 0),(8,.d (dIntSS (nextL F.blocks_))),(41,.d (.int .i64 n)),(42,.d (.int .i64 a.1))]) (fun a=>a.2.2.2)
    (fun a=>a.1≤n∧LM F c6 c7 o n tot a.1 a.2.1 a.2.2.1 a.2.2.2∧∀ j,j < a.1→∀ v,v < tot→a.2.2.1 j v=L1 F j v) (fun a=>n - a.1) (0,_,_,G) ?_ ⟨Nat.zero_le _,hL,fun j hj=>absurd hj (Nat.not_lt_zero j)⟩ ?_
  · simp
  clear hd hL G
  rintro ⟨i,id,L,G⟩ ⟨hi,hL,hs⟩
  simp only [] at hi hL hs ⊢
  by_cases hin:i < n
  · obtain ⟨rows,r1,r2,r3,r4⟩:=hL.out
    have up:∀ {j:Nat} {P:Place},G[j]? = some P→∀ X:Heap,(G++X)[j]? = some P:=fun q X=>(List.getElem?_append_left (List.getElem?_eq_some_iff.1 q).1).trans q
    have u6:=up hL.vw
    have u7:=up hL.hd
    have uo:=up r1
    have hol:=(List.getElem?_eq_some_iff.1 r1).1
    have so:∀ (X:Heap) p,(G++X).set o p=G.set o p++X:=fun X p=>List.set_append_left _ _ hol
    have ri:=r4 i (Nat.le_refl _) hin
    have ri0:rows[i]?.getD []=[V.d .nilsl]:=by rw [ri];rfl
    have ri1:∀ h:i < rows.length,rows[i]=[V.d .nilsl]:=fun h=>Option.some.inj ((List.getElem?_eq_getElem h).symm.trans ri)
    have f3:(tot:Int)≤140737488355328:=by omega
    have f4:(tot:Int) * 8≤140737488355328:=by omega
    have f0:(0:Int)≤tot:=by omega
    have q6:∀ (p:Place) X,(G.set o p++X)[c6]? = some (.row 1 [[.d (.rp 5 (dView (viewD F)))]]):=fun p X=>by rw [List.getElem?_append_left (by have:=(List.getElem?_eq_some_iff.1 hL.vw).1;simpa using this),List.getElem?_set_ne (Ne.symm hL.ne.2.1)];exact hL.vw
    have q9:∀ (p p':Place) X,(G.set o p++p' :: X)[G.length]? = some p':=fun p p' X=>by rw [List.getElem?_append_right (by simp),List.length_set,Nat.sub_self];rfl
    obtain ⟨b,hbe⟩:∃ b,b=F.blocks_[i]?.getD default:=⟨_,rfl⟩
    have hb0:=hbe.symm
    have hb1:∀ h:i < F.blocks_.length,F.blocks_[i]=b:=fun h=>by rw [hbe,List.getElem?_eq_getElem h];rfl
    have hiF:i < F.blocks_.length:=by omega
    refine W_run mixed ⟨[K_40,K_71,K_70],[K_40h,K_71h,K_70h],[73,68],156,0,[0,1,2,4,5,6,7,8,9,10,11,12,13,14,15,16,18,20,30,41,42,43,65,66,67,77,78,79,99,100,101,102,103,107,108,109,110,117,118,119,120,141],[25,30,43,67,79,99,103,110,120,132,141]⟩ (fun | 4=>[0,1,2,3,4,5,7,8,6,9,10,11] | 8=>[0,1,2,3,4,5,6,7,8] | 10=>[0,1,2,3,4,5,6,7] | _=>[]) (by kernel_rfl) ?_
    simp only [stripX,stripOps,pickOps]
    simp [K_40_f,K_40_e,K_71_f,K_71_e,K_70_f,K_70_e,K_40h_f,K_40h_e,K_71h_f,K_71h_e,K_70h_f,K_70h_e,K_40h_g,K_71h_g,K_70h_g,-V.flat,-V.one,one_int,one_bool,one_str,one_nilp,one_rp,one_nilsl,one_ro,one_cl,one_nilf,one_nili,one_ifc,one_ptr,one_sl,one_clo,flat_d,flat_ptr,flat_sl,flat_clo,flat_agg,hin,hiF,u6,u7,uo,r2,ri0,ri1,so,q6,q9,viewD_total,viewD_blocks,htot,f0,f3,f4,hb0,hb1]
    obtain ⟨B,hB⟩:∃ B,B=G.set o (.row 1 (rows.set i [V.sl (G.length + 1) 1 0 tot]))++[Place.row 1 [[V.d (.int .i64 i)]],Place.row 1 (List.replicate tot [V.d (D.bool false)])]:=⟨_,rfl⟩
    rw [← hB]
    have lB:B.length=G.length + 2:=by rw [hB];simp
    have hLB:LM F c6 c7 o n tot (i + 1) (fun j=>if j=i then G.length + 1 else id j) (fun j=>if j=i then fun _=>false else L j) B:=by
      refine hL.new hin r1 (fun j hj hjl=>?_) (by omega) (Nat.le_succ _) ?_ ?_
      · rw [hB,List.getElem?_append_left (by simpa using hjl),List.getElem?_set_ne (Ne.symm hj)]
      · rw [hB,List.getElem?_append_right (by simp),List.length_set,show G.length + 1 - G.length=1 by omega]
        have e:rB (rowOf tot fun _=>false)=List.replicate tot [V.d (D.bool false)]:=by
          show ((List.range tot).map fun _=>false).map (fun n:Bool=>[V.d (D.bool n)])=_
          rw [List.map_map,show ((fun n:Bool=>[V.d (D.bool n)]) ∘ fun _:Nat=>false)=fun _=>[V.d (D.bool false)] from rfl,List.map_const',List.length_range]
        rw [e];rfl
      · rw [hB,List.getElem?_append_left (by simpa using hol),List.getElem?_set_self hol]
    have h9:B[G.length]? = some (.row 1 [[V.d (.int .i64 i)]]):=by rw [hB];exact q9 _ _ _
    obtain ⟨Hs,hHs⟩:∃ Hs:(Nat→Bool)→Heap,∀ g,Hs g=B.set (G.length + 1) (.row 1 (rB (rowOf tot g))):=⟨_,fun _=>rfl⟩
    have P:∀ g,LM F c6 c7 o n tot (i + 1) (fun j=>if j=i then G.length + 1 else id j) (fun j=>if j=i then g else L j) (Hs g):=fun g=>by
      have:=hLB.put (k:=i) (by omega) g
      simp only [if_true] at this
      rw [hHs]
      have e:(fun j=>if j=i then g else if j=i then fun _=>false else L j)=fun j=>if j=i then g else L j:=by
        funext j;by_cases h:j=i <;> simp [h]
      rw [e] at this
      exact this
    have h90:∀ g,(Hs g)[G.length]? = some (.row 1 [[V.d (.int .i64 i)]]):=fun g=>by rw [hHs,List.getElem?_set_ne (by omega)];exact h9
    have hH0:B=Hs fun _=>false:=by
      rw [hHs]
      refine (set_same ?_).symm
      have:=hLB.row i (by omega)
      simpa using this
    have hss:∀ g p,(Hs g).set (G.length + 1) p=B.set (G.length + 1) p:=fun g p=>by rw [hHs,List.set_set]
    have step:∀ (g:Nat→Bool) (x:Int) (m:Nat) (d:Nat→D),x∈allU b→1≤m→d 0=.int .i64 x→CallsD Try.prog 72 (.d (.rp m d) :: [.ptr c7 1 0 0,.ptr G.length 1 0 0,.ptr c6 1 0 0]) (Hs g) fun r H'=>r=.tup []∧H'=Hs (ntF F i g x):=fun g x m d hx h1 h2=>by
      have q:=P g
      obtain ⟨rows',t1,t2,t3,t4⟩:=q.out
      have hr:=q.row i (by omega)
      have hk:=t3 i (by omega)
      simp only [if_true] at hr hk
      have hxr:=good_all hg (b:=b) (by rw [hbe,List.getElem?_eq_getElem hiF];exact List.getElem_mem hiF) x hx
      have:=live1_own (Hs g) F hg q.vw q.hd (h90 g) t1 hk t2 hr hxr.1 hxr.2 htot h1 h2
      rw [hss,← hHs] at this
      exact this
    have lHs:∀ g g',(Hs g).length=(Hs g').length:=fun g g'=>by rw [hHs,hHs];simp
    have hbm:b∈F.blocks_:=by rw [hbe,List.getElem?_eq_getElem hiF];exact List.getElem_mem hiF
    obtain ⟨b1,b2,b3⟩:=good_vals hg hbm
    obtain ⟨e1,e2⟩:=good_end hg b hbm
    rw [hH0]
    have eU:∀ g,(usedL b).foldl (ntF F i) ((b.insts_.flatMap (·.args_)).foldl (ntF F i) g)=(allU b).foldl (ntF F i) g:=fun g=>by unfold allU;rw [List.foldl_append]
    refine W_loopH (α:=Nat × (Nat→Bool)) (fun a=>[(1,.d (.int .i64 k0)),(6,.ptr c6 1 0 0),(7,.ptr c7 1 0 0),(8,.d (dIntSS (nextL F.blocks_))),(10,.clo 72 [.ptr c7 1 0 0,.ptr G.length 1 0 0,.ptr c6 1 0 0]),(11,.d (.rp 5 (dBlock b))),(41,.d (.int .i64 n)),(42,.d (.int .i64 i)),(65,.d (.int .i64 b.insts_.length)),(66,.d (.int .i64 a.1))]) (fun a=>Hs a.2)
      (fun a=>a.1≤b.insts_.length∧((b.insts_.drop a.1).flatMap (·.args_)).foldl (ntF F i) a.2=(b.insts_.flatMap (·.args_)).foldl (ntF F i) fun _=>false) (fun a=>b.insts_.length - a.1) (0,fun _=>false) ?_ ⟨Nat.zero_le _,rfl⟩ ?_
    · simp
    rintro ⟨j,g⟩ ⟨hj,hT⟩
    dsimp only at hj hT
    by_cases hjl:j < b.insts_.length
    · obtain ⟨y,hye⟩:∃ y,y=b.insts_[j]?.getD default:=⟨_,rfl⟩
      have hy0:=hye.symm
      have hy1:∀ h:j < b.insts_.length,b.insts_[j]=y:=fun h=>by rw [hye,List.getElem?_eq_getElem h];rfl
      have hym:y∈b.insts_:=by rw [hye,List.getElem?_eq_getElem hjl];exact List.getElem_mem hjl
      rw [drop_cons hjl,List.flatMap_cons,List.foldl_append,hy0] at hT
      have hal:=(b2 y hym).1
      have hUi:∀ x∈y.args_,x∈allU b:=fun x hx=>List.mem_append_left _ (List.mem_flatMap.2 ⟨_,hym,hx⟩)
      have wj:IntKind.i64.wrap ((j:Int) + 1)=((j + 1:Nat):Int):=by rw [wrap_id] <;> omega
      refine W_run mixed ⟨[K_40,K_71,K_70],[K_40h,K_71h,K_70h],[73,68],156,0,[0,1,2,4,5,6,7,8,9,10,11,12,13,14,15,16,18,20,30,41,42,43,65,66,67,77,78,79,99,100,101,102,103,107,108,109,110,117,118,119,120,141],[25,30,43,67,79,99,103,110,120,132,141]⟩ (fun | 4=>[0,1,2,3,4,5,7,8,6,9,10,11] | 8=>[0,1,2,3,4,5,6,7,8] | 10=>[0,1,2,3,4,5,6,7] | _=>[]) (by kernel_rfl) ?_
      simp only [stripX,stripOps,pickOps]
      simp [K_40_f,K_40_e,K_71_f,K_71_e,K_70_f,K_70_e,K_40h_f,K_40h_e,K_71h_f,K_71h_e,K_70h_f,K_70h_e,K_40h_g,K_71h_g,K_70h_g,-V.flat,-V.one,one_int,one_bool,one_str,one_nilp,one_rp,one_nilsl,one_ro,one_cl,one_nilf,one_nili,one_ifc,one_ptr,one_sl,one_clo,flat_d,flat_ptr,flat_sl,flat_clo,flat_agg,hjl,hy0,hy1]
      generalize hargs:y.args_=av at hal hUi hT
      refine W_loopH (α:=Nat × (Nat→Bool)) (fun a=>[(1,.d (.int .i64 k0)),(6,.ptr c6 1 0 0),(7,.ptr c7 1 0 0),(8,.d (dIntSS (nextL F.blocks_))),(10,.clo 72 [.ptr c7 1 0 0,.ptr G.length 1 0 0,.ptr c6 1 0 0]),(11,.d (.rp 5 (dBlock b))),(12,.d (.int .i64 j)),(41,.d (.int .i64 n)),(42,.d (.int .i64 i)),(65,.d (.int .i64 b.insts_.length)),(66,.d (.int .i64 j)),(77,.d (.int .i64 av.length)),(78,.d (.int .i64 a.1))]) (fun a=>Hs a.2)
        (fun a=>a.1≤av.length∧(av.drop a.1).foldl (ntF F i) a.2=av.foldl (ntF F i) g) (fun a=>av.length - a.1) (0,g) ?_ ⟨Nat.zero_le _,rfl⟩ ?_
      · simp
      rintro ⟨k,g1⟩ ⟨hk,hT2⟩
      dsimp only at hk hT2
      by_cases hka:k < av.length
      · have hx:av[k]?.getD 0∈av:=by rw [List.getElem?_eq_getElem hka];exact List.getElem_mem hka
        have hdr:av.drop k=av[k]?.getD 0 :: av.drop (k + 1):=by
          rw [List.drop_eq_getElem_cons hka,List.getElem?_eq_getElem hka];rfl
        rw [hdr,List.foldl_cons] at hT2
        have wk:IntKind.i64.wrap ((k:Int) + 1)=((k + 1:Nat):Int):=by rw [wrap_id] <;> omega
        refine W_run mixed ⟨[K_40,K_71,K_70],[K_40h,K_71h,K_70h],[73,68],156,0,[0,1,2,4,5,6,7,8,9,10,11,12,13,14,15,16,18,20,30,41,42,43,65,66,67,77,78,79,99,100,101,102,103,107,108,109,110,117,118,119,120,141],[25,30,43,67,79,99,103,110,120,132,141]⟩ (fun | 4=>[0,1,2,3,4,5,7,8,6,9,10,11] | 8=>[0,1,2,3,4,5,6,7,8] | 10=>[0,1,2,3,4,5,6,7] | _=>[]) (by kernel_rfl) ?_
        simp only [stripX,stripOps,pickOps]
        simp [K_40_f,K_40_e,K_71_f,K_71_e,K_70_f,K_70_e,K_40h_f,K_40h_e,K_71h_f,K_71h_e,K_70h_f,K_70h_e,K_40h_g,K_71h_g,K_70h_g,-V.flat,-V.one,one_int,one_bool,one_str,one_nilp,one_rp,one_nilsl,one_ro,one_cl,one_nilf,one_nili,one_ifc,one_ptr,one_sl,one_clo,flat_d,flat_ptr,flat_sl,flat_clo,flat_agg,hka,hjl,hy0,hy1,hargs]
        rw [aft_call]
        refine (step g1 (av[k]?.getD 0) _ _ (hUi _ hx) (Nat.le_refl _) (by rw [List.getElem?_eq_getElem hka];rfl)).mono ?_
        rintro r H' ⟨rfl,rfl⟩
        simp [K_40_f,K_40_e,K_71_f,K_71_e,K_70_f,K_70_e,K_40h_f,K_40h_e,K_71h_f,K_71h_e,K_70h_f,K_70h_e,K_40h_g,K_71h_g,K_70h_g,-V.flat,-V.one,one_int,one_bool,one_str,one_nilp,one_rp,one_nilsl,one_ro,one_cl,one_nilf,one_nili,one_ifc,one_ptr,one_sl,one_clo,flat_d,flat_ptr,flat_sl,flat_clo,flat_agg,wk]
        exact ⟨k + 1,_,⟨by omega,hT2⟩,by omega,rfl,by omega⟩
      · rw [List.drop_eq_nil_of_le (by omega)] at hT2
        have e:g1=av.foldl (ntF F i) g:=hT2
        refine W_run mixed ⟨[K_40,K_71,K_70],[K_40h,K_71h,K_70h],[73,68],156,0,[0,1,2,4,5,6,7,8,9,10,11,12,13,14,15,16,18,20,30,41,42,43,65,66,67,77,78,79,99,100,101,102,103,107,108,109,110,117,118,119,120,141],[25,30,43,67,79,99,103,110,120,132,141]⟩ (fun | 4=>[0,1,2,3,4,5,7,8,6,9,10,11] | 8=>[0,1,2,3,4,5,6,7,8] | 10=>[0,1,2,3,4,5,6,7] | _=>[]) (by kernel_rfl) ?_
        simp only [stripX,stripOps,pickOps]
        simp [K_40_f,K_40_e,K_71_f,K_71_e,K_70_f,K_70_e,K_40h_f,K_40h_e,K_71h_f,K_71h_e,K_70h_f,K_70h_e,K_40h_g,K_71h_g,K_70h_g,-V.flat,-V.one,one_int,one_bool,one_str,one_nilp,one_rp,one_nilsl,one_ro,one_cl,one_nilf,one_nili,one_ifc,one_ptr,one_sl,one_clo,flat_d,flat_ptr,flat_sl,flat_clo,flat_agg,hka,wj]
        exact ⟨j + 1,g1,⟨by omega,by rw [e];exact hT⟩,by omega,rfl,by omega⟩
    · rw [List.drop_eq_nil_of_le (by omega)] at hT
      have e1:g=(b.insts_.flatMap (·.args_)).foldl (ntF F i) fun _=>false:=hT
      have wi:IntKind.i64.wrap ((i:Int) + 1)=((i + 1:Nat):Int):=by rw [wrap_id] <;> omega
      refine W_run mixed ⟨[K_40,K_71,K_70],[K_40h,K_71h,K_70h],[73,68],156,0,[0,1,2,4,5,6,7,8,9,10,11,12,13,14,15,16,18,20,30,41,42,43,65,66,67,77,78,79,99,100,101,102,103,107,108,109,110,117,118,119,120,141],[25,30,43,67,79,99,103,110,120,132,141]⟩ (fun | 4=>[0,1,2,3,4,5,7,8,6,9,10,11] | 8=>[0,1,2,3,4,5,6,7,8] | 10=>[0,1,2,3,4,5,6,7] | _=>[]) (by kernel_rfl) ?_
      simp only [stripX,stripOps,pickOps]
      simp [K_40_f,K_40_e,K_71_f,K_71_e,K_70_f,K_70_e,K_40h_f,K_40h_e,K_71h_f,K_71h_e,K_70h_f,K_70h_e,K_40h_g,K_71h_g,K_70h_g,-V.flat,-V.one,one_int,one_bool,one_str,one_nilp,one_rp,one_nilsl,one_ro,one_cl,one_nilf,one_nili,one_ifc,one_ptr,one_sl,one_clo,flat_d,flat_ptr,flat_sl,flat_clo,flat_agg,hjl]
      rw [aft_call]
      refine (usedH (b:=b) (Hs:=Hs) (f:=ntF F i) g lHs (by omega) (fun j hj=>by have:=e2 j hj;omega) fun s x m d hx=>step s x m d (List.mem_append_right _ hx)).mono ?_
      rintro r H' ⟨rfl,rfl⟩
      rw [e1,eU]
      have hP:=P ((allU b).foldl (ntF F i) fun _=>false)
      simp [K_40_f,K_40_e,K_71_f,K_71_e,K_70_f,K_70_e,K_40h_f,K_40h_e,K_71h_f,K_71h_e,K_70h_f,K_70h_e,K_40h_g,K_71h_g,K_70h_g,-V.flat,-V.one,one_int,one_bool,one_str,one_nilp,one_rp,one_nilsl,one_ro,one_cl,one_nilf,one_nili,one_ifc,one_ptr,one_sl,one_clo,flat_d,flat_ptr,flat_sl,flat_clo,flat_agg,wi]
      refine ⟨i + 1,_,_,_,⟨by omega,hP,fun j hj v hv=>?_⟩,by omega,rfl,by omega⟩
      by_cases e:j=i
      · subst e
        rw [if_pos rfl]
        unfold L1
        rw [hb0]
      · rw [if_neg e];exact hs j (by omega) v hv
  · have hie:i=n:=by omega
    subst hie
    have hnx:(nextL F.blocks_).length=F.blocks_.length:=by simp [nextL]
    have hto:∀ (j m:Nat),(m:Int)∈tos (F.blocks_[j]?.getD default)→m < i:=fun j m hm=>by
      have:=(okNext_get hn1 j).2
      rw [nextL_get] at this
      have:=this m hm
      omega
    refine W_run mixed ⟨[K_40,K_71,K_70],[K_40h,K_71h,K_70h],[73,68],156,0,[0,1,2,4,5,6,7,8,9,10,11,12,13,14,15,16,18,20,30,41,42,43,65,66,67,77,78,79,99,100,101,102,103,107,108,109,110,117,118,119,120,141],[25,30,43,67,79,99,103,110,120,132,141]⟩ (fun | 4=>[0,1,2,3,4,5,7,8,6,9,10,11] | 8=>[0,1,2,3,4,5,6,7,8] | 10=>[0,1,2,3,4,5,6,7] | _=>[]) (by kernel_rfl) ?_
    simp only [stripX,stripOps,pickOps]
    simp [K_40_f,K_40_e,K_71_f,K_71_e,K_70_f,K_70_e,K_40h_f,K_40h_e,K_71h_f,K_71h_e,K_70h_f,K_70h_e,K_40h_g,K_71h_g,K_70h_g,-V.flat,-V.one,one_int,one_bool,one_str,one_nilp,one_rp,one_nilsl,one_ro,one_cl,one_nilf,one_nili,one_ifc,one_ptr,one_sl,one_clo,flat_d,flat_ptr,flat_sl,flat_clo,flat_agg,hin]
    refine W_loopH (α:=Bool × (Nat→Nat→Bool) × Heap) (fun a=>[(1,.d (.int .i64 k0)),(6,.ptr c6 1 0 0),(7,.ptr c7 1 0 0),(8,.d (dIntSS (nextL F.blocks_))),(14,.d (.bool a.1))]) (fun a=>a.2.2)
      (fun a=>LM F c6 c7 o i tot i id a.2.1 a.2.2∧(∀ k v:Nat,k < i→v < tot→a.2.1 k v=true→Lv F k v)∧(∀ k v:Nat,k < i→v < tot→L1 F k v=true→a.2.1 k v=true)∧(a.1=false→∀ k m v:Nat,k < i→(m:Int)∈tos (F.blocks_[k]?.getD default)→v < tot→a.2.1 m v=true→bk (viewD F) v ≠ k→a.2.1 k v=true))
      (fun a=>leftN i tot a.2.1 + if a.1 then 1 else 0) (true,L,G) ?_ ⟨hL,fun k v hk hv h=>.use ((hs k hk v hv).symm.trans h),fun k v hk hv h=>(hs k hk v hv).trans h,fun h=>by cases h⟩ ?_
    · simp
    clear hL hs hi hin G L
    rintro ⟨again,L0,G⟩ ⟨hL,hsnd,hbase,hcls⟩
    dsimp only at hL hsnd hbase hcls
    cases again with
    | true =>
      refine W_run mixed ⟨[K_40,K_71,K_70],[K_40h,K_71h,K_70h],[73,68],156,0,[0,1,2,4,5,6,7,8,9,10,11,12,13,14,15,16,18,20,30,41,42,43,65,66,67,77,78,79,99,100,101,102,103,107,108,109,110,117,118,119,120,141],[25,30,43,67,79,99,103,110,120,132,141]⟩ (fun | 4=>[0,1,2,3,4,5,7,8,6,9,10,11] | 8=>[0,1,2,3,4,5,6,7,8] | 10=>[0,1,2,3,4,5,6,7] | _=>[]) (by kernel_rfl) ?_
      simp only [stripX,stripOps,pickOps]
      simp [K_40_f,K_40_e,K_71_f,K_71_e,K_70_f,K_70_e,K_40h_f,K_40h_e,K_71h_f,K_71h_e,K_70h_f,K_70h_e,K_40h_g,K_71h_g,K_70h_g,-V.flat,-V.one,one_int,one_bool,one_str,one_nilp,one_rp,one_nilsl,one_ro,one_cl,one_nilf,one_nili,one_ifc,one_ptr,one_sl,one_clo,flat_d,flat_ptr,flat_sl,flat_clo,flat_agg,hnx]
      refine W_loopH (α:=Nat × Bool × (Nat→Nat→Bool) × Heap) (fun a=>[(1,.d (.int .i64 k0)),(6,.ptr c6 1 0 0),(7,.ptr c7 1 0 0),(8,.d (dIntSS (nextL F.blocks_))),(14,.d (.bool a.2.1)),(100,.d (dIntSS (nextL F.blocks_))),(101,.d (.int .i64 F.blocks_.length)),(102,.d (.int .i64 a.1))]) (fun a=>a.2.2.2)
        (fun a=>a.1≤i∧LM F c6 c7 o i tot i id a.2.2.1 a.2.2.2∧Pass F i tot L0 a.2.2.1 a.2.1 (Dk F a.1 0)) (fun a=>i - a.1) (0,false,L0,G) ?_ ⟨Nat.zero_le _,hL,(Pass.begin_ hsnd).weak fun _ k m hD=>by rcases hD with ⟨h,_⟩ | ⟨_,h⟩;exact absurd h (Nat.not_lt_zero _);cases h⟩ ?_
      · simp
      clear hcls hL
      rintro ⟨k,again,L,G1⟩ ⟨hk,hL,hP⟩
      dsimp only at hk hL hP
      by_cases hkn:k < i
      · have hkF:k < F.blocks_.length:=by omega
        obtain ⟨tl,htl⟩:∃ tl,tl=tos (F.blocks_[k]?.getD default):=⟨_,rfl⟩
        have ht0:(nextL F.blocks_)[k]?.getD []=tl:=by rw [htl];exact nextL_get _ _
        have ht1:∀ h:k < (nextL F.blocks_).length,(nextL F.blocks_)[k]=tl:=fun h=>by rw [← ht0,List.getElem?_eq_getElem h];rfl
        have htlen:tl.length≤2:=by have:=(okNext_get hn1 k).1;rw [nextL_get,← htl] at this;exact this
        have wk:IntKind.i64.wrap ((k:Int) + 1)=((k + 1:Nat):Int):=by rw [wrap_id] <;> omega
        refine W_run mixed ⟨[K_40,K_71,K_70],[K_40h,K_71h,K_70h],[73,68],156,0,[0,1,2,4,5,6,7,8,9,10,11,12,13,14,15,16,18,20,30,41,42,43,65,66,67,77,78,79,99,100,101,102,103,107,108,109,110,117,118,119,120,141],[25,30,43,67,79,99,103,110,120,132,141]⟩ (fun | 4=>[0,1,2,3,4,5,7,8,6,9,10,11] | 8=>[0,1,2,3,4,5,6,7,8] | 10=>[0,1,2,3,4,5,6,7] | _=>[]) (by kernel_rfl) ?_
        simp only [stripX,stripOps,pickOps]
        simp [K_40_f,K_40_e,K_71_f,K_71_e,K_70_f,K_70_e,K_40h_f,K_40h_e,K_71h_f,K_71h_e,K_70h_f,K_70h_e,K_40h_g,K_71h_g,K_70h_g,-V.flat,-V.one,one_int,one_bool,one_str,one_nilp,one_rp,one_nilsl,one_ro,one_cl,one_nilf,one_nili,one_ifc,one_ptr,one_sl,one_clo,flat_d,flat_ptr,flat_sl,flat_clo,flat_agg,hkn,hkF,hnx,ht0,ht1]
        refine W_loopH (α:=Nat × Bool × (Nat→Nat→Bool) × Heap) (fun a=>[(1,.d (.int .i64 k0)),(6,.ptr c6 1 0 0),(7,.ptr c7 1 0 0),(8,.d (dIntSS (nextL F.blocks_))),(14,.d (.bool a.2.1)),(15,.d (.int .i64 k)),(100,.d (dIntSS (nextL F.blocks_))),(101,.d (.int .i64 F.blocks_.length)),(102,.d (.int .i64 k)),(107,.d (dIntS tl)),(108,.d (.int .i64 tl.length)),(109,.d (.int .i64 a.1))]) (fun a=>a.2.2.2)
          (fun a=>a.1≤tl.length∧LM F c6 c7 o i tot i id a.2.2.1 a.2.2.2∧Pass F i tot L0 a.2.2.1 a.2.1 (Dk F k a.1)) (fun a=>tl.length - a.1) (0,again,L,G1) ?_ ⟨Nat.zero_le _,hL,hP⟩ ?_
        · simp
        clear hP hL
        rintro ⟨j,again,L,G2⟩ ⟨hj,hL,hP⟩
        dsimp only at hj hL hP
        by_cases hjl:j < tl.length
        · obtain ⟨z,hz⟩:∃ z,z=tl[j]?.getD 0:=⟨_,rfl⟩
          have hz0:=hz.symm
          have hz1:∀ h:j < tl.length,tl[j]=z:=fun h=>by rw [hz,List.getElem?_eq_getElem h];rfl
          have hzm:z∈tl:=by rw [← hz1 hjl];exact List.getElem_mem hjl
          have hzr:=(okNext_get hn1 k).2 z (by rw [nextL_get,← htl];exact hzm)
          obtain ⟨m,rfl⟩:∃ m:Nat,z=m:=⟨z.toNat,by omega⟩
          have hmi:m < i:=by omega
          have wj:IntKind.i64.wrap ((j:Int) + 1)=((j + 1:Nat):Int):=by rw [wrap_id] <;> omega
          obtain ⟨rows,r1,r2,r3,r4⟩:=hL.out
          have rm:=r3 m hmi
          have rm0:rows[m]?.getD []=[.sl (id m) 1 0 tot]:=by rw [rm];rfl
          have rm1:∀ h:m < rows.length,rows[m]=[.sl (id m) 1 0 tot]:=fun h=>Option.some.inj ((List.getElem?_eq_getElem h).symm.trans rm)
          have hd:=hL.hd
          refine W_run mixed ⟨[K_40,K_71,K_70],[K_40h,K_71h,K_70h],[73,68],156,0,[0,1,2,4,5,6,7,8,9,10,11,12,13,14,15,16,18,20,30,41,42,43,65,66,67,77,78,79,99,100,101,102,103,107,108,109,110,117,118,119,120,141],[25,30,43,67,79,99,103,110,120,132,141]⟩ (fun | 4=>[0,1,2,3,4,5,7,8,6,9,10,11] | 8=>[0,1,2,3,4,5,6,7,8] | 10=>[0,1,2,3,4,5,6,7] | _=>[]) (by kernel_rfl) ?_
          simp only [stripX,stripOps,pickOps]
          simp [K_40_f,K_40_e,K_71_f,K_71_e,K_70_f,K_70_e,K_40h_f,K_40h_e,K_71h_f,K_71h_e,K_70h_f,K_70h_e,K_40h_g,K_71h_g,K_70h_g,-V.flat,-V.one,one_int,one_bool,one_str,one_nilp,one_rp,one_nilsl,one_ro,one_cl,one_nilf,one_nili,one_ifc,one_ptr,one_sl,one_clo,flat_d,flat_ptr,flat_sl,flat_clo,flat_agg,hjl,hz0,hz1,hd,r1,r2,rm0,rm1,hmi]
          rw [aft_call]
          have hlo:=listOf_at (l:=rowOf tot (L m)) (hL.row m hmi) (by rw [rowOf_len];omega)
          rw [rowOf_len,listB_row] at hlo
          refine hlo.mono ?_
          rintro r H' ⟨rfl,nd,rfl⟩
          have hLa:=hL.app (List.replicate nd .dead)
          obtain ⟨lst,hlst⟩:∃ lst,lst=numsOf (L m) tot:=⟨_,rfl⟩
          have hlm:∀ x∈lst,0≤x∧x < tot∧L m x.toNat=true:=fun x hx=>by rw [hlst] at hx;exact mem_numsOf.1 hx
          have hll:lst.length≤tot:=by rw [hlst];exact numsOf_len _ _
          have hlv:∀ x∈lst,Lv F m x.toNat:=fun x hx=>hP.snd m _ hmi (by have:=hlm x hx;omega) (hlm x hx).2.2
          have hlc:again=false→∀ v,v < tot→L0 m v=true→(v:Int)∈lst:=fun ha v hv h0=>by
            rw [hlst]
            refine mem_numsOf.2 ⟨by omega,by omega, ?_⟩
            rw [hP.keep ha]
            exact h0
          rw [← hlst]
          simp [K_40_f,K_40_e,K_71_f,K_71_e,K_70_f,K_70_e,K_40h_f,K_40h_e,K_71h_f,K_71h_e,K_70h_f,K_70h_e,K_40h_g,K_71h_g,K_70h_g,-V.flat,-V.one,one_int,one_bool,one_str,one_nilp,one_rp,one_nilsl,one_ro,one_cl,one_nilf,one_nili,one_ifc,one_ptr,one_sl,one_clo,flat_d,flat_ptr,flat_sl,flat_clo,flat_agg,hmi]
          refine W_loopH (α:=Nat × Bool × (Nat→Nat→Bool) × Heap) (fun a=>[(1,.d (.int .i64 k0)),(6,.ptr c6 1 0 0),(7,.ptr c7 1 0 0),(8,.d (dIntSS (nextL F.blocks_))),(14,.d (.bool a.2.1)),(15,.d (.int .i64 k)),(100,.d (dIntSS (nextL F.blocks_))),(101,.d (.int .i64 F.blocks_.length)),(102,.d (.int .i64 k)),(107,.d (dIntS tl)),(108,.d (.int .i64 tl.length)),(109,.d (.int .i64 j)),(117,.d (dIntS lst)),(118,.d (.int .i64 lst.length)),(119,.d (.int .i64 a.1))]) (fun a=>a.2.2.2)
            (fun a=>a.1≤lst.length∧LM F c6 c7 o i tot i id a.2.2.1 a.2.2.2∧Pass F i tot L0 a.2.2.1 a.2.1 (Dk F k j)∧(a.2.1=false→again=false)∧(a.2.1=false→∀ x∈lst.take a.1,bk (viewD F) x ≠ k→L0 k x.toNat=true)) (fun a=>lst.length - a.1) (0,again,L,_) ?_ ⟨Nat.zero_le _,hLa,hP,fun h=>h,fun _ x hx=>by cases hx⟩ ?_
          · simp
          clear hd r1 r2 r3 r4 rm rm0 rm1 hlo hL hP hLa hlst
          rintro ⟨t,again',L',G3⟩ ⟨ht,hL,hP,hag,hcl⟩
          dsimp only at ht hL hP hag hcl
          by_cases htn:t < lst.length
          · obtain ⟨x,hx⟩:∃ x,x=lst[t]?.getD 0:=⟨_,rfl⟩
            have hx0:=hx.symm
            have hx1:∀ h:t < lst.length,lst[t]=x:=fun h=>by rw [hx,List.getElem?_eq_getElem h];rfl
            have hxm:x∈lst:=by rw [← hx1 htn];exact List.getElem_mem htn
            obtain ⟨x0,x1,x2⟩:=hlm x hxm
            have hxt:x.toNat < tot:=by omega
            have wt:IntKind.i64.wrap ((t:Int) + 1)=((t + 1:Nat):Int):=by rw [wrap_id] <;> omega
            have tk:lst.take (t + 1)=lst.take t++[x]:=by rw [List.take_succ_eq_append_getElem htn,hx1 htn]
            have hok:okV (viewD F) x:=(view_spec hg x0 (by omega)).1
            have hb1:=hok.1.2
            have hb1n:x.toNat < (viewD F).block_.length:=by omega
            have hbk:(viewD F).block_[x.toNat]?.getD 0=bk (viewD F) x:=rfl
            have hbk1:∀ h:x.toNat < (viewD F).block_.length,(viewD F).block_[x.toNat]=bk (viewD F) x:=fun h=>by rw [← hbk,List.getElem?_eq_getElem h];rfl
            have h6:=hL.vw
            have hd:=hL.hd
            by_cases hbe:bk (viewD F) x=k
            · refine W_run mixed ⟨[K_40,K_71,K_70],[K_40h,K_71h,K_70h],[73,68],156,0,[0,1,2,4,5,6,7,8,9,10,11,12,13,14,15,16,18,20,30,41,42,43,65,66,67,77,78,79,99,100,101,102,103,107,108,109,110,117,118,119,120,141],[25,30,43,67,79,99,103,110,120,132,141]⟩ (fun | 4=>[0,1,2,3,4,5,7,8,6,9,10,11] | 8=>[0,1,2,3,4,5,6,7,8] | 10=>[0,1,2,3,4,5,6,7] | _=>[]) (by kernel_rfl) ?_
              simp only [stripX,stripOps,pickOps]
              simp [K_40_f,K_40_e,K_71_f,K_71_e,K_70_f,K_70_e,K_40h_f,K_40h_e,K_71h_f,K_71h_e,K_70h_f,K_70h_e,K_40h_g,K_71h_g,K_70h_g,-V.flat,-V.one,one_int,one_bool,one_str,one_nilp,one_rp,one_nilsl,one_ro,one_cl,one_nilf,one_nili,one_ifc,one_ptr,one_sl,one_clo,flat_d,flat_ptr,flat_sl,flat_clo,flat_agg,htn,hx0,hx1,h6,x0,hxt,hb1,hb1n,hbk,hbk1,hbe,wt]
              have hcl':again'=false→∀ y∈lst.take (t + 1),bk (viewD F) y ≠ k→L0 k y.toNat=true:=fun ha y hy hne=>by
                rw [tk,List.mem_append,List.mem_singleton] at hy
                rcases hy with hy | rfl
                · exact hcl ha y hy hne
                · exact absurd hbe hne
              refine ⟨t + 1, ?_⟩
              cases again' with
              | true=>exact .inr ⟨L',_,⟨by omega,hL,hP⟩,by omega,rfl,rfl,by omega⟩
              | false=>exact .inl ⟨L',_,⟨by omega,hL,hP,hag rfl,hcl' rfl⟩,by omega,rfl,rfl,by omega⟩
            · obtain ⟨rows,r1,r2,r3,r4⟩:=hL.out
              have rk:=r3 k hkn
              have rk0:rows[k]?.getD []=[.sl (id k) 1 0 tot]:=by rw [rk];rfl
              have rk1:∀ h:k < rows.length,rows[k]=[.sl (id k) 1 0 tot]:=fun h=>Option.some.inj ((List.getElem?_eq_getElem h).symm.trans rk)
              have hr:=hL.row k hkn
              obtain ⟨bits,hbits⟩:∃ bits,bits=rowOf tot (L' k):=⟨_,rfl⟩
              have hbl:bits.length=tot:=by rw [hbits,rowOf_len]
              have hbg:bits[x.toNat]?.getD false=L' k x.toNat:=by rw [hbits,rowOf_get _ hxt];rfl
              have hbg2:∀ h:x.toNat < bits.length,bits[x.toNat]=L' k x.toNat:=fun h=>by rw [← hbg,List.getElem?_eq_getElem h];rfl
              have hset:∀ b:Bool,(List.map (fun n:Bool=>[V.d (D.bool n)]) bits).set x.toNat [.d (.bool b)]=rB (rowOf tot fun v=>if v=x.toNat then b else L' k v):=fun b=>by rw [hbits];exact rowOf_set (L' k) b hxt
              rw [← hbits] at hr
              cases hLx:L' k x.toNat with
              | true =>
                rw [hLx] at hbg hbg2
                refine W_run mixed ⟨[K_40,K_71,K_70],[K_40h,K_71h,K_70h],[73,68],156,0,[0,1,2,4,5,6,7,8,9,10,11,12,13,14,15,16,18,20,30,41,42,43,65,66,67,77,78,79,99,100,101,102,103,107,108,109,110,117,118,119,120,141],[25,30,43,67,79,99,103,110,120,132,141]⟩ (fun | 4=>[0,1,2,3,4,5,7,8,6,9,10,11] | 8=>[0,1,2,3,4,5,6,7,8] | 10=>[0,1,2,3,4,5,6,7] | _=>[]) (by kernel_rfl) ?_
                simp only [stripX,stripOps,pickOps]
                simp [K_40_f,K_40_e,K_71_f,K_71_e,K_70_f,K_70_e,K_40h_f,K_40h_e,K_71h_f,K_71h_e,K_70h_f,K_70h_e,K_40h_g,K_71h_g,K_70h_g,-V.flat,-V.one,one_int,one_bool,one_str,one_nilp,one_rp,one_nilsl,one_ro,one_cl,one_nilf,one_nili,one_ifc,one_ptr,one_sl,one_clo,flat_d,flat_ptr,flat_sl,flat_clo,flat_agg,htn,hx0,hx1,h6,x0,hxt,x1,hb1,hb1n,hbk,hbk1,hbe,wt,hd,r1,r2,rk0,rk1,hkn,hr,hbl,hbg,hbg2]
                have hcl':again'=false→∀ y∈lst.take (t + 1),bk (viewD F) y ≠ k→L0 k y.toNat=true:=fun ha y hy hne=>by
                  rw [tk,List.mem_append,List.mem_singleton] at hy
                  rcases hy with hy | rfl
                  · exact hcl ha y hy hne
                  · rw [← hP.keep ha];exact hLx
                refine ⟨t + 1, ?_⟩
                cases again' with
                | true=>exact .inr ⟨L',_,⟨by omega,hL,hP⟩,by omega,rfl,rfl,by omega⟩
                | false=>exact .inl ⟨L',_,⟨by omega,hL,hP,hag rfl,hcl' rfl⟩,by omega,rfl,rfl,by omega⟩
              | false =>
                rw [hLx] at hbg hbg2
                have hL2:=hL.put hkn fun v=>if v=x.toNat then true else L' k v
                have hP2:=hP.put hkn hxt (.step (by rw [← htl];exact hzm) (hlv x hxm) (by rw [show ((x.toNat:Nat):Int)=x by omega];exact hbe)) hLx
                refine W_run mixed ⟨[K_40,K_71,K_70],[K_40h,K_71h,K_70h],[73,68],156,0,[0,1,2,4,5,6,7,8,9,10,11,12,13,14,15,16,18,20,30,41,42,43,65,66,67,77,78,79,99,100,101,102,103,107,108,109,110,117,118,119,120,141],[25,30,43,67,79,99,103,110,120,132,141]⟩ (fun | 4=>[0,1,2,3,4,5,7,8,6,9,10,11] | 8=>[0,1,2,3,4,5,6,7,8] | 10=>[0,1,2,3,4,5,6,7] | _=>[]) (by kernel_rfl) ?_
                simp only [stripX,stripOps,pickOps]
                simp [K_40_f,K_40_e,K_71_f,K_71_e,K_70_f,K_70_e,K_40h_f,K_40h_e,K_71h_f,K_71h_e,K_70h_f,K_70h_e,K_40h_g,K_71h_g,K_70h_g,-V.flat,-V.one,one_int,one_bool,one_str,one_nilp,one_rp,one_nilsl,one_ro,one_cl,one_nilf,one_nili,one_ifc,one_ptr,one_sl,one_clo,flat_d,flat_ptr,flat_sl,flat_clo,flat_agg,htn,hx0,hx1,h6,x0,hxt,x1,hb1,hb1n,hbk,hbk1,hbe,wt,hd,r1,r2,rk0,rk1,hkn,hr,hbl,hbg,hbg2,hset,-List.map_set]
                exact ⟨t + 1,_,_,⟨by omega,hL2,hP2⟩,by omega,by rw [show (fun v=>decide (v=x.toNat) || L' k v)=fun v=>if v=x.toNat then true else L' k v from by funext v;by_cases h:v=x.toNat <;> simp [h]],by omega⟩
          · rw [List.take_of_length_le (by omega)] at hcl
            refine W_run mixed ⟨[K_40,K_71,K_70],[K_40h,K_71h,K_70h],[73,68],156,0,[0,1,2,4,5,6,7,8,9,10,11,12,13,14,15,16,18,20,30,41,42,43,65,66,67,77,78,79,99,100,101,102,103,107,108,109,110,117,118,119,120,141],[25,30,43,67,79,99,103,110,120,132,141]⟩ (fun | 4=>[0,1,2,3,4,5,7,8,6,9,10,11] | 8=>[0,1,2,3,4,5,6,7,8] | 10=>[0,1,2,3,4,5,6,7] | _=>[]) (by kernel_rfl) ?_
            simp only [stripX,stripOps,pickOps]
            simp [K_40_f,K_40_e,K_71_f,K_71_e,K_70_f,K_70_e,K_40h_f,K_40h_e,K_71h_f,K_71h_e,K_70h_f,K_70h_e,K_40h_g,K_71h_g,K_70h_g,-V.flat,-V.one,one_int,one_bool,one_str,one_nilp,one_rp,one_nilsl,one_ro,one_cl,one_nilf,one_nili,one_ifc,one_ptr,one_sl,one_clo,flat_d,flat_ptr,flat_sl,flat_clo,flat_agg,htn,wj]
            have hP2:Pass F i tot L0 L' again' (Dk F k (j + 1)):=hP.weak fun ha k' m' hD=>by
              rcases hD with hD | ⟨rfl,hD⟩
              · exact .inl (.inl hD)
              · rw [← htl,List.take_succ_eq_append_getElem hjl,hz1 hjl,List.mem_append,List.mem_singleton] at hD
                rcases hD with hD | hD
                · exact .inl (.inr ⟨rfl,by rw [← htl];exact hD⟩)
                · obtain rfl:m'=m:=by omega
                  exact .inr fun v hv h0 hne=>by
                    have:=hcl ha v (hlc (hag ha) v hv h0) hne
                    simpa using this
            refine ⟨j + 1, ?_⟩
            cases again' with
            | true=>exact .inr ⟨L',_,⟨by omega,hL,hP2⟩,by omega,rfl,rfl,by omega⟩
            | false=>exact .inl ⟨L',_,⟨by omega,hL,hP2⟩,by omega,rfl,rfl,by omega⟩
        · refine W_run mixed ⟨[K_40,K_71,K_70],[K_40h,K_71h,K_70h],[73,68],156,0,[0,1,2,4,5,6,7,8,9,10,11,12,13,14,15,16,18,20,30,41,42,43,65,66,67,77,78,79,99,100,101,102,103,107,108,109,110,117,118,119,120,141],[25,30,43,67,79,99,103,110,120,132,141]⟩ (fun | 4=>[0,1,2,3,4,5,7,8,6,9,10,11] | 8=>[0,1,2,3,4,5,6,7,8] | 10=>[0,1,2,3,4,5,6,7] | _=>[]) (by kernel_rfl) ?_
          simp only [stripX,stripOps,pickOps]
          simp [K_40_f,K_40_e,K_71_f,K_71_e,K_70_f,K_70_e,K_40h_f,K_40h_e,K_71h_f,K_71h_e,K_70h_f,K_70h_e,K_40h_g,K_71h_g,K_70h_g,-V.flat,-V.one,one_int,one_bool,one_str,one_nilp,one_rp,one_nilsl,one_ro,one_cl,one_nilf,one_nili,one_ifc,one_ptr,one_sl,one_clo,flat_d,flat_ptr,flat_sl,flat_clo,flat_agg,hjl,wk]
          have hP2:Pass F i tot L0 L again (Dk F (k + 1) 0):=hP.weak fun ha k' m' hD=>.inl (by
            rcases hD with ⟨h1,h2⟩ | ⟨_,h2⟩
            · by_cases e:k'=k
              · subst e
                exact .inr ⟨rfl,by rw [List.take_of_length_le (by rw [← htl];omega)];exact h2⟩
              · exact .inl ⟨by omega,h2⟩
            · cases h2)
          refine ⟨k + 1, ?_⟩
          cases again with
          | true=>exact .inr ⟨L,_,⟨by omega,hL,hP2⟩,by omega,rfl,rfl,by omega⟩
          | false=>exact .inl ⟨L,_,⟨by omega,hL,hP2⟩,by omega,rfl,rfl,by omega⟩
      · have hkF:¬ k < F.blocks_.length:=by omega
        refine W_run mixed ⟨[K_40,K_71,K_70],[K_40h,K_71h,K_70h],[73,68],156,0,[0,1,2,4,5,6,7,8,9,10,11,12,13,14,15,16,18,20,30,41,42,43,65,66,67,77,78,79,99,100,101,102,103,107,108,109,110,117,118,119,120,141],[25,30,43,67,79,99,103,110,120,132,141]⟩ (fun | 4=>[0,1,2,3,4,5,7,8,6,9,10,11] | 8=>[0,1,2,3,4,5,6,7,8] | 10=>[0,1,2,3,4,5,6,7] | _=>[]) (by kernel_rfl) ?_
        simp only [stripX,stripOps,pickOps]
        simp [K_40_f,K_40_e,K_71_f,K_71_e,K_70_f,K_70_e,K_40h_f,K_40h_e,K_71h_f,K_71h_e,K_70h_f,K_70h_e,K_40h_g,K_71h_g,K_70h_g,-V.flat,-V.one,one_int,one_bool,one_str,one_nilp,one_rp,one_nilsl,one_ro,one_cl,one_nilf,one_nili,one_ifc,one_ptr,one_sl,one_clo,flat_d,flat_ptr,flat_sl,flat_clo,flat_agg,hkF]
        have hd2:∀ k' m':Nat,k' < i→(m':Int)∈tos (F.blocks_[k']?.getD default)→Dk F k 0 k' m':=fun k' m' h1 h2=>.inl ⟨by omega,h2⟩
        have hb':∀ k v:Nat,k < i→v < tot→L1 F k v=true→L k v=true:=fun k v hk hv h=>hP.mono k v (hbase k v hk hv h)
        cases again with
        | true=>exact .inr ⟨L,_,⟨hL,hP.snd,hb'⟩,hP.less,rfl,rfl⟩
        | false =>
          have e:L=L0:=by funext a b;exact hP.keep rfl a b
          refine .inl ⟨L,_,⟨hL,hP.snd,hb',fun k' m' v h1 h2 h3 h4 h5=>?_⟩,by rw [e];omega,rfl,rfl⟩
          rw [e] at h4 ⊢
          exact hP.cls rfl k' m' v (hd2 k' m' h1 h2) h3 h4 h5
    | false =>
      have hfx:Fx F i tot L0:=⟨hsnd,hbase,hcls rfl⟩
      obtain ⟨q,rfl⟩:∃ q:Nat,k0=q:=⟨k0.toNat,by have:=(inR_index (by omega) hbi).1;omega⟩
      have hqi:q < i:=by have:=(inR_index (by omega) hbi).2;omega
      obtain ⟨rows,r1,r2,r3,r4⟩:=hL.out
      have rq:=r3 q hqi
      have rq0:rows[q]?.getD []=[.sl (id q) 1 0 tot]:=by rw [rq];rfl
      have rq1:∀ h:q < rows.length,rows[q]=[.sl (id q) 1 0 tot]:=fun h=>Option.some.inj ((List.getElem?_eq_getElem h).symm.trans rq)
      have hd:=hL.hd
      refine W_run mixed ⟨[K_40,K_71,K_70],[K_40h,K_71h,K_70h],[73,68],156,0,[0,1,2,4,5,6,7,8,9,10,11,12,13,14,15,16,18,20,30,41,42,43,65,66,67,77,78,79,99,100,101,102,103,107,108,109,110,117,118,119,120,141],[25,30,43,67,79,99,103,110,120,132,141]⟩ (fun | 4=>[0,1,2,3,4,5,7,8,6,9,10,11] | 8=>[0,1,2,3,4,5,6,7,8] | 10=>[0,1,2,3,4,5,6,7] | _=>[]) (by kernel_rfl) ?_
      simp only [stripX,stripOps,pickOps]
      simp [K_40_f,K_40_e,K_71_f,K_71_e,K_70_f,K_70_e,K_40h_f,K_40h_e,K_71h_f,K_71h_e,K_70h_f,K_70h_e,K_40h_g,K_71h_g,K_70h_g,-V.flat,-V.one,one_int,one_bool,one_str,one_nilp,one_rp,one_nilsl,one_ro,one_cl,one_nilf,one_nili,one_ifc,one_ptr,one_sl,one_clo,flat_d,flat_ptr,flat_sl,flat_clo,flat_agg,hd,r1,r2,rq0,rq1,hqi]
      rw [aft_call]
      have hlo:=listOf_at (l:=rowOf tot (L0 q)) (hL.row q hqi) (by rw [rowOf_len];omega)
      rw [rowOf_len,listB_row] at hlo
      refine hlo.mono ?_
      rintro r H' ⟨rfl,nd,rfl⟩
      have hfin:numsOf (L0 q) tot=liveL F q:=by
        unfold liveL
        rw [show (many F).toNat=tot by omega]
        refine numsOf_congr fun v hv=>?_
        have:=hfx.iff hn hqi hv hto
        by_cases h:Lv F q v <;> simp_all
      rw [hfin]
      simp [K_40_f,K_40_e,K_71_f,K_71_e,K_70_f,K_70_e,K_40h_f,K_40h_e,K_71h_f,K_71h_e,K_70h_f,K_70h_e,K_40h_g,K_71h_g,K_70h_g,-V.flat,-V.one,one_int,one_bool,one_str,one_nilp,one_rp,one_nilsl,one_ro,one_cl,one_nilf,one_nili,one_ifc,one_ptr,one_sl,one_clo,flat_d,flat_ptr,flat_sl,flat_clo,flat_agg,hqi,retQ]
      exact ⟨_,Fin.same (Nat.zero_le _)⟩
end Go.Proofs.Ytnomiclfiijniaa
