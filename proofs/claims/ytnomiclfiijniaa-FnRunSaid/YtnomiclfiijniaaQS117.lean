/- The reference's RunFunc. No condition. -/
import Derived.Test.YtnomiclfiijniaaQS116
namespace Go.Proofs.Ytnomiclfiijniaa
set_option maxRecDepth 100000
set_option linter.unusedSimpArgs false
set_option linter.unusedVariables false
def OutR (H:Heap) (O:Outcome) (r:V) (H':Heap):Prop:=∃ o:AOutcome,r=.agg (Tr.cells o)∧Tr.era o=O∧New H H' o
theorem out_some {H H1:Heap} {ms:List Int} {c v fu:Int} {me n:Nat} {O:Outcome} (hm:H1[me]? = some (.row 1 (rI ms))) (hme:H.length≤me) (ho:Only [] H H1) (hn:n=ms.length) (he:(⟨c,v,ms,fu⟩:Outcome)=O) :
    ∃ r' H',Fin H.length H1 (.agg [.d (.int .i64 c),.d (.int .i64 v),.sl me 1 0 n,.d (.int .i64 fu)]) H' r'∧OutR H O r' H':=by
  subst hn
  refine fin_new (a:=(⟨c,v,⟨.sl me 1 0 ms.length,ms⟩,fu⟩:AOutcome)) (AOutcome.own (own_row hm)) ho (fun j hj=>?_) fun H' h'=>⟨_,rfl, ?_,h'⟩
  · have:j∈ids (⟨.sl me 1 0 ms.length,ms⟩:AS Int):=hj
    rw [ids_row] at this
    rw [List.mem_singleton.1 this];exact hme
  · rw [← he]
    show (⟨c,v,ms.map (Tr.era (β:=Int)),fu⟩:Outcome)=_
    rw [era_ints]
set_option maxHeartbeats 16000000 in
theorem doR_own (H : Heap) (F : Func) (args mem : List Int) (fuel : Int) (hF : Enc.good F) (ha : args.length ≤ 1000) (hm : mem.length = 8) (hg : goodF F = true) (hfu : 0 ≤ fuel ∧ fuel ≤ 200) :
    CallsD Try.prog 56 [vFunc F,.d (dIntS args),.d (dIntS mem),.d (.int .i64 fuel)] H (OutR H (runV F fuel.toNat 0 (begV F args) mem)):=by
  refine calls_of Try.func56 en_56 rfl (of_decide_eq_true rfl) (W_runCut mixed 1 ⟨[K_39,K_48],[K_39h,K_48h],[97,98],141,H.length,[0,1,2,3,4,8,9,10,11,12,13,14,15,16,17,18,34,49,50,51,52,62,82,115],[34,52,62,82,105,115]⟩ (fun | 1=>[4,0,1,2,3,5,6,7,8] | 7=>[1,3,0,2,4,5,6] | 17=>[0,1,2,4,8,9,10,12,13,3,5,6,7,11,14,15] | 19=>[0,1,2,3,4,5,6,8,7,9,10,11,12,13] | 23=>[0,1,2,5,8,3,4,6,7,9] | _=>[]) (by kernel_rfl) ?_)
  simp only [Try.f56,stripCut,stripX,stripOps,pickOps]
  simp [K_39_f,K_39_e,K_48_f,K_48_e,K_39h_f,K_39h_e,K_48h_f,K_48h_e,K_39h_g,K_48h_g,-V.flat,-V.one,one_int,one_bool,one_str,one_nilp,one_rp,one_nilsl,one_ro,one_cl,one_nilf,one_nili,one_ifc,one_ptr,one_sl,one_clo,flat_d,flat_ptr,flat_sl,flat_clo,flat_agg,hF]
  refine W_seqR (α:=Nat × Nat × Nat × Heap) (fun a=>[(1,.d (dIntS args)),(3,.d (.int .i64 fuel)),(4,.ptr H.length 2 0 0),(8,.ptr (H.length + 1) 4 0 0),(9,.ptr a.2.2.1 2 0 0)]) (fun a=>a.2.2.2)
    (fun a=>Only [] H a.2.2.2∧Two a.2.2.2 a.2.2.1 a.1 a.2.1∧(H.length + 2≤a.1∧H.length + 2≤a.2.1∧H.length + 2≤a.2.2.1)∧a.2.2.2[H.length]? = some (.row 2 [[.d (.int .i64 F.params_),.d (dBlockS F.blocks_)]])∧a.2.2.2[H.length + 1]? = some (.row 4 [[.d (.int .i64 0),.d (.int .i64 0),.d .nilsl,.d (.int .i64 0)]]) ∧
      a.2.2.2[a.1]? = some (.row 1 (rI (List.replicate (many F).toNat 0)))∧a.2.2.2[a.2.1]? = some (.row 1 (rI mem))∧a.2.2.2[a.2.2.1]? = some (rS a.1 (many F).toNat a.2.1 mem.length)) ?_ ?_
  · have hl0:mem ≠ []:=fun e=>by rw [e] at hm;simp at hm
    have hmany:cntB F.blocks_ F.params_=many F:=rfl
    have hu:=upto_all mem
    obtain ⟨_,_,_,_,_,m0,m80⟩:=at_le hg (k:=0) (by obtain ⟨_,q,_⟩:=goodF_spec hg;omega)
    have f1:many F * 8≤140737488355328:=by omega
    have f2:many F≤140737488355328:=by omega
    have x1:mem.length * 8≤140737488355328:=by omega
    have x2:mem.length≤140737488355328:=by omega
    refine W_drawC mixed ⟨[K_39,K_48],[K_39h,K_48h],[97,98],141,H.length,[0,1,2,3,4,8,9,10,11,12,13,14,15,16,17,18,34,49,50,51,52,62,82,115],[34,52,62,82,105,115]⟩ [0,1,4] [2,3,5] [6,7,8] (.alt 2 (.alt 3 (.alt 5 .leaf .nil) .nil) (.alt 3 (.alt 2 (.alt 5 .leaf .nil) (.alt 5 (.alt 2 .leaf .nil) .nil)) .nil)) (fun | 2=>[0] | 3=>[0] | 5=>[0] | _=>[]) [0,1,2,3,4,8,9,10,11,12,13,14,15,16,17,18,34,49,50,51,52,62,82,115,19,20,21,22,23,24,25,26] (by kernel_rfl) (by kernel_rfl) ?_
    simp only [stripOps,pickOps]
    simp [denC,demC,loadD,stripOps,pickOps,K_39_f,K_39_e,K_48_f,K_48_e,K_39h_f,K_39h_e,K_48h_f,K_48h_e,K_39h_g,K_48h_g,-V.flat,-V.one,one_int,one_bool,one_str,one_nilp,one_rp,one_nilsl,one_ro,one_cl,one_nilf,one_nili,one_ifc,one_ptr,one_sl,one_clo,flat_d,flat_ptr,flat_sl,flat_clo,flat_agg,hF,hl0,x1,x2,hmany,hu,m0,f1,f2]
    have two:∀ {i j k:Nat} {A B C D E G:Place},2≤i→2≤j→2≤k→i≤5→j≤5→k≤5→i ≠ j→k ≠ i→k ≠ j→Two (H++[A,B,C,D,E,G]) (H.length + k) (H.length + i) (H.length + j):=fun h1 h2 h3 h4 h5 h6 h7 h8 h9=>⟨by simp;omega,by simp;omega,by simp;omega,by omega,by omega,by omega⟩
    have L:∀ (i j k:Nat) (X:Heap),(2≤i∧2≤j∧2≤k)→Two (H++X) (H.length + k) (H.length + i) (H.length + j)→X[0]? = some (.row 2 [[.d (.int .i64 F.params_),.d (dBlockS F.blocks_)]])→X[1]? = some (.row 4 [[.d (.int .i64 0),.d (.int .i64 0),.d .nilsl,.d (.int .i64 0)]])→X[i]? = some (.row 1 (List.replicate (many F).toNat [.d (.int .i64 0)]))→X[j]? = some (.row 1 (rI mem))→X[k]? = some (rS (H.length + i) (many F).toNat (H.length + j) mem.length) →
        ∃ a a_1 a_2 b,(Only [] H b∧Two b a_2 a a_1∧(H.length + 2≤a∧H.length + 2≤a_1∧H.length + 2≤a_2)∧b[H.length]? = some (.row 2 [[.d (.int .i64 F.params_),.d (dBlockS F.blocks_)]])∧b[H.length + 1]? = some (.row 4 [[.d (.int .i64 0),.d (.int .i64 0),.d .nilsl,.d (.int .i64 0)]])∧b[a]? = some (.row 1 (List.replicate (many F).toNat [.d (.int .i64 0)]))∧b[a_1]? = some (.row 1 (rI mem))∧b[a_2]? = some (rS a (many F).toNat a_1 mem.length))∧HLe (H++X) b∧H.length + k=a_2:=fun i j k X hX ht g0 g1 g2 g3 g4=>by
      have g:∀ n,(H++X)[H.length + n]? = X[n]?:=fun n=>by rw [List.getElem?_append_right (by omega),Nat.add_sub_cancel_left]
      exact ⟨H.length + i,H.length + j,H.length + k,H++X,⟨Only.app _ _ _,ht,by omega,(g 0).trans g0,(g 1).trans g1,(g i).trans g2,(g j).trans g3,(g k).trans g4⟩,HLe.refl _,rfl⟩
    repeat' apply And.intro
    all_goals first
      | exact L 2 4 5 _ (by omega) (two (by omega) (by omega) (by omega) (by omega) (by omega) (by omega) (by omega) (by omega) (by omega)) rfl rfl rfl rfl rfl
      | exact L 3 4 5 _ (by omega) (two (by omega) (by omega) (by omega) (by omega) (by omega) (by omega) (by omega) (by omega) (by omega)) rfl rfl rfl rfl rfl
      | exact L 4 3 5 _ (by omega) (two (by omega) (by omega) (by omega) (by omega) (by omega) (by omega) (by omega) (by omega) (by omega)) rfl rfl rfl rfl rfl
  rintro ⟨ve,me,R,G⟩ ⟨ho,t,⟨g1,g2,g3⟩,gbox,gres,gV,gM,gR⟩
  simp only [] at ho t g1 g2 g3 gbox gres gV gM gR ⊢
  have hu:=upto_all args
  have hbeg:List.take (many F).toNat (rI args)++List.replicate ((many F).toNat - min args.length (many F).toNat) [V.d (.int .i64 0)]=rI (begV F args):=by
    simp [begV,putV,rI]
  have hlb:(begV F args).length=(many F).toNat:=by unfold begV;rw [putV_len (Nat.zero_le _)];simp
  obtain ⟨_,hbl,_⟩:=goodF_spec hg
  generalize hO:runV F fuel.toNat 0 (begV F args) mem=O
  refine W_run mixed ⟨[K_39,K_48],[K_39h,K_48h],[97,98],141,H.length,[0,1,2,3,4,8,9,10,11,12,13,14,15,16,17,18,34,49,50,51,52,62,82,115],[34,52,62,82,105,115]⟩ (fun | 1=>[4,0,1,2,3,5,6,7,8] | 7=>[1,3,0,2,4,5,6] | 17=>[0,1,2,4,8,9,10,12,13,3,5,6,7,11,14,15] | 19=>[0,1,2,3,4,5,6,8,7,9,10,11,12,13] | 23=>[0,1,2,5,8,3,4,6,7,9] | _=>[]) (by kernel_rfl) ?_
  simp only [stripX,stripOps,pickOps]
  simp [K_39_f,K_39_e,K_48_f,K_48_e,K_39h_f,K_39h_e,K_48h_f,K_48h_e,K_39h_g,K_48h_g,-V.flat,-V.one,one_int,one_bool,one_str,one_nilp,one_rp,one_nilsl,one_ro,one_cl,one_nilf,one_nili,one_ifc,one_ptr,one_sl,one_clo,flat_d,flat_ptr,flat_sl,flat_clo,flat_agg,gR,gV,hu,hbeg]
  obtain ⟨G1,hG1⟩:∃ G1,G1=G.set ve (.row 1 (rI (begV F args))):=⟨_,rfl⟩
  rw [← hG1]
  have oG1:Only [ve,me] G G1:=⟨by rw [hG1];simp,fun j hj hn=>by rw [hG1,List.getElem?_set_ne (fun e=>hn (by simp [e]))]⟩
  have vG1:G1[ve]? = some (.row 1 (rI (begV F args))):=by rw [hG1,List.getElem?_set_self t.lv]
  have mG1:G1[me]? = some (.row 1 (rI mem)):=by rw [hG1,List.getElem?_set_ne t.vm];exact gM
  refine W_loopH (α:=Nat × Nat × List Int × List Int × Heap) (fun a=>[(3,.d (.int .i64 a.1)),(4,.ptr H.length 2 0 0),(8,.ptr (H.length + 1) 4 0 0),(9,.ptr R 2 0 0),(10,.d (.int .i64 a.2.1))]) (fun a=>a.2.2.2.2)
    (fun a=>Only [ve,me] G a.2.2.2.2∧a.2.2.2.2[ve]? = some (.row 1 (rI a.2.2.1))∧a.2.2.2.2[me]? = some (.row 1 (rI a.2.2.2.1))∧a.2.2.1.length=(many F).toNat∧a.2.2.2.1.length=mem.length∧a.2.1 < F.blocks_.length∧a.1≤200∧runV F a.1 a.2.1 a.2.2.1 a.2.2.2.1=O)
    (fun a=>a.1) (fuel.toNat,0,begV F args,mem,G1) ?_ ⟨oG1,vG1,mG1,hlb,rfl,by show 0 < F.blocks_.length;omega,by show fuel.toNat≤200;omega,hO⟩ ?_
  · simp [hfu.1];omega
  rintro ⟨fu,k,vs,ms,Gx⟩ ⟨oX,vX,mX,lX,l8,hk,hfu2,hrun⟩
  simp only [] at oX vX mX lX l8 hk hfu2 hrun ⊢
  have lt2:∀ j,j < H.length + 2→j < G.length:=fun j hj=>by have:=(List.getElem?_eq_some_iff.1 gres).1;omega
  have old:∀ j,j < G.length→j ≠ ve→j ≠ me→Gx[j]? = G[j]?:=fun j hj h1 h2=>oX.at_ j hj (by simp [h1,h2])
  have rX:Gx[R]? = some (rS ve vs.length me ms.length):=by rw [old R t.lr t.rv t.rm,lX,l8];exact gR
  have resX:Gx[H.length + 1]? = some (.row 4 [[.d (.int .i64 0),.d (.int .i64 0),.d .nilsl,.d (.int .i64 0)]]):=(old _ (lt2 _ (by omega)) (by omega) (by omega)).trans gres
  have boxX:Gx[H.length]? = some (.row 2 [[.d (.int .i64 F.params_),.d (dBlockS F.blocks_)]]):=(old _ (lt2 _ (by omega)) (by omega) (by omega)).trans gbox
  have tX:Two Gx R ve me:=⟨(List.getElem?_eq_some_iff.1 vX).1,(List.getElem?_eq_some_iff.1 mX).1,(List.getElem?_eq_some_iff.1 rX).1,t.vm,t.rv,t.rm⟩
  have oHH:∀ (v1 m1:List Int) (X:Heap),Only [ve,me] G (HH Gx ve me v1 m1++X):=fun v1 m1 X=>⟨by rw [List.length_append,HH_len];have:=oX.len;omega,fun j hj hn=>by
    simp only [List.mem_cons,List.not_mem_nil,not_or] at hn
    rw [List.getElem?_append_left (by rw [HH_len];have:=oX.len;omega),HH,List.getElem?_set_ne (fun e=>hn.2.1 e.symm),List.getElem?_set_ne (fun e=>hn.1 e.symm)]
    exact oX.at_ j hj (by simp only [List.mem_cons,List.not_mem_nil,not_or];exact hn)⟩
  have fin:∀ {Gy:Heap} {P:Place},Only [ve,me] G Gy→Only [] H (Gy.set (H.length + 1) P):=fun {Gy P} h=>⟨by have:=ho.len;have:=h.len;simp;omega,fun j hj hn=>by
    rw [List.getElem?_set_ne (by omega)]
    exact (h.at_ j (by have:=ho.len;omega) (by simp;omega)).trans (ho.at_ j hj hn)⟩
  cases fu with
  | zero =>
    have e:(⟨3,0,ms,0⟩:Outcome)=O:=hrun
    refine W_run mixed ⟨[K_39,K_48],[K_39h,K_48h],[97,98],141,H.length,[0,1,2,3,4,8,9,10,11,12,13,14,15,16,17,18,34,49,50,51,52,62,82,115],[34,52,62,82,105,115]⟩ (fun | 1=>[4,0,1,2,3,5,6,7,8] | 7=>[1,3,0,2,4,5,6] | 17=>[0,1,2,4,8,9,10,12,13,3,5,6,7,11,14,15] | 19=>[0,1,2,3,4,5,6,8,7,9,10,11,12,13] | 23=>[0,1,2,5,8,3,4,6,7,9] | _=>[]) (by kernel_rfl) ?_
    simp only [stripX,stripOps,pickOps]
    simp [K_39_f,K_39_e,K_48_f,K_48_e,K_39h_f,K_39h_e,K_48h_f,K_48h_e,K_39h_g,K_48h_g,-V.flat,-V.one,one_int,one_bool,one_str,one_nilp,one_rp,one_nilsl,one_ro,one_cl,one_nilf,one_nili,one_ifc,one_ptr,one_sl,one_clo,flat_d,flat_ptr,flat_sl,flat_clo,flat_agg,rX,resX,retQ]
    rw [List.getElem?_set_self (by have:=oX.len;have:=lt2 (H.length + 1) (by omega);omega)]
    exact ⟨rfl,_,rfl,out_some ((List.getElem?_set_ne (by omega)).trans mX) (by omega) (fin oX) rfl e⟩
  | succ n =>
    rw [runV] at hrun
    have hb0:F.blocks_[k]?.getD default=blkN F k:=rfl
    have hb1:∀ h:k < F.blocks_.length,F.blocks_[k]=blkN F k:=fun h=>by unfold blkN;rw [List.getElem?_eq_getElem h];rfl
    obtain ⟨a1,a2,a3,a4,a5,a6,a7⟩:=at_le hg hk
    have hkl:k≤F.blocks_.length:=by omega
    obtain ⟨na,hna⟩:∃ a,a=firstN F k + (blkN F k).params_.toNat:=⟨_,rfl⟩
    have wp:IntKind.i64.wrap ((firstN F k:Int) + (blkN F k).params_)=(na:Int):=by rw [wrap_id (by omega) (by omega)];omega
    have boxA:∀ X,(Gx++X)[H.length]? = some (.row 2 [[.d (.int .i64 F.params_),.d (dBlockS F.blocks_)]]):=fun X=>(List.getElem?_append_left (List.getElem?_eq_some_iff.1 boxX).1).trans boxX
    refine W_run mixed ⟨[K_39,K_48],[K_39h,K_48h],[97,98],141,H.length,[0,1,2,3,4,8,9,10,11,12,13,14,15,16,17,18,34,49,50,51,52,62,82,115],[34,52,62,82,105,115]⟩ (fun | 1=>[4,0,1,2,3,5,6,7,8] | 7=>[1,3,0,2,4,5,6] | 17=>[0,1,2,4,8,9,10,12,13,3,5,6,7,11,14,15] | 19=>[0,1,2,3,4,5,6,8,7,9,10,11,12,13] | 23=>[0,1,2,5,8,3,4,6,7,9] | _=>[]) (by kernel_rfl) ?_
    simp only [stripX,stripOps,pickOps]
    simp [K_39_f,K_39_e,K_48_f,K_48_e,K_39h_f,K_39h_e,K_48h_f,K_48h_e,K_39h_g,K_48h_g,-V.flat,-V.one,one_int,one_bool,one_str,one_nilp,one_rp,one_nilsl,one_ro,one_cl,one_nilf,one_nili,one_ifc,one_ptr,one_sl,one_clo,flat_d,flat_ptr,flat_sl,flat_clo,flat_agg,rX,boxX,boxA,hF,hk,hkl,hb0,hb1,a1,wp]
    have h0:=tX.same vX mX
    refine W_loopH (α:=Nat × List Int × List Int × Heap) (fun a=>[(3,.d (.int .i64 (n + 1))),(4,.ptr H.length 2 0 0),(8,.ptr (H.length + 1) 4 0 0),(9,.ptr R 2 0 0),(10,.d (.int .i64 k)),(11,.ptr Gx.length 5 0 0),(12,.d (.int .i64 na)),(49,.d (dInstS (blkN F k).insts_)),(50,.d (.int .i64 (blkN F k).insts_.length)),(51,.d (.int .i64 a.1))]) (fun a=>HH Gx ve me a.2.1 a.2.2.1++rBk (blkN F k) :: a.2.2.2)
      (fun a=>a.1≤(blkN F k).insts_.length∧a.2.1.length=vs.length∧a.2.2.1.length=ms.length∧instsV ((blkN F k).insts_.drop a.1) (na + a.1) a.2.1 a.2.2.1=instsF F k vs ms) (fun a=>(blkN F k).insts_.length - a.1) (0,vs,ms,[]) ?_ ⟨Nat.zero_le _,rfl,rfl,by rw [hna];rfl⟩ ?_
    · simp [h0]
    rintro ⟨i,v1,m1,X⟩ ⟨hi,hv1,hm1,hI⟩
    simp only [] at hi hv1 hm1 hI
    have gRa:=fun (v m:List Int) X=>(tX.getR v m X).trans rX
    have gVa:=fun (v m:List Int) X=>tX.getV v m X
    have gMa:=fun (v m:List Int) X=>tX.getM v m X
    have gNa:=fun (v m:List Int) P X=>tX.new v m P X
    have gBa:∀ (v m:List Int) X,(HH Gx ve me v m++X)[H.length]? = some (.row 2 [[.d (.int .i64 F.params_),.d (dBlockS F.blocks_)]]):=fun v m X=>((oHH v m X).at_ _ (lt2 _ (by omega)) (by simp;omega)).trans gbox
    have gSa:∀ (v m:List Int) X,(HH Gx ve me v m++X)[H.length + 1]? = some (.row 4 [[.d (.int .i64 0),.d (.int .i64 0),.d .nilsl,.d (.int .i64 0)]]):=fun v m X=>((oHH v m X).at_ _ (lt2 _ (by omega)) (by simp;omega)).trans gres
    have gSS:∀ (v m:List Int) X P,((HH Gx ve me v m++X).set (H.length + 1) P)[H.length + 1]? = some P:=fun v m X P=>List.getElem?_set_self (List.getElem?_eq_some_iff.1 (gSa v m X)).1
    have gSM:∀ (v m:List Int) X P,((HH Gx ve me v m++X).set (H.length + 1) P)[me]? = some (.row 1 (rI m)):=fun v m X P=>(List.getElem?_set_ne (by omega)).trans (gMa v m X)
    by_cases hlt:i < (blkN F k).insts_.length
    · obtain ⟨x,hx⟩:∃ x,x=(blkN F k).insts_[i]?.getD default:=⟨_,rfl⟩
      have hx0:=hx.symm
      have hx1:∀ h:i < (blkN F k).insts_.length,(blkN F k).insts_[i]=x:=fun h=>by rw [hx,List.getElem?_eq_getElem h];rfl
      obtain ⟨ok1,ok2⟩:=good_okX hg hk hlt
      rw [hx0] at ok1 ok2
      rw [← lX,← hv1] at ok1
      refine W_run mixed ⟨[K_39,K_48],[K_39h,K_48h],[97,98],141,H.length,[0,1,2,3,4,8,9,10,11,12,13,14,15,16,17,18,34,49,50,51,52,62,82,115],[34,52,62,82,105,115]⟩ (fun | 1=>[4,0,1,2,3,5,6,7,8] | 7=>[1,3,0,2,4,5,6] | 17=>[0,1,2,4,8,9,10,12,13,3,5,6,7,11,14,15] | 19=>[0,1,2,3,4,5,6,8,7,9,10,11,12,13] | 23=>[0,1,2,5,8,3,4,6,7,9] | _=>[]) (by kernel_rfl) ?_
      simp only [stripX,stripOps,pickOps]
      simp [K_39_f,K_39_e,K_48_f,K_48_e,K_39h_f,K_39h_e,K_48h_f,K_48h_e,K_39h_g,K_48h_g,-V.flat,-V.one,one_int,one_bool,one_str,one_nilp,one_rp,one_nilsl,one_ro,one_cl,one_nilf,one_nili,one_ifc,one_ptr,one_sl,one_clo,flat_d,flat_ptr,flat_sl,flat_clo,flat_agg,gRa,gVa,gMa,gNa,hlt,HH_len,hx0,hx1]
      rw [aft_call]
      have gR':=gRa v1 m1
      rw [← hv1,← hm1] at gR'
      refine (doS_own _ R ve me x v1 m1 (gR' _) (gVa _ _ _) (gMa _ _ _) (hm1.trans (l8.trans hm)) ok1 ok2).mono ?_
      rintro r H' ⟨rfl,kk,rfl⟩
      rw [tX.setM]
      rw [drop_cons hlt,hx0,instsV] at hI
      obtain ⟨d,hd⟩:∃ d,d=doV x v1 m1:=⟨_,rfl⟩
      have hm2:=doV_len x v1 m1
      rw [← hd] at hI hm2 ⊢
      obtain ⟨n1,tr,m2⟩:=d
      simp only [] at hI hm2 ⊢
      have rset:∀ (i:Nat) (y:Int),(List.map (fun n:Int=>[V.d (D.int .i64 n)]) v1).set i [V.d (.int .i64 y)]=List.map (fun n:Int=>[V.d (D.int .i64 n)]) (v1.set i y):=fun i y=>(List.map_set).symm
      have sV:∀ (y:List Int) (X:Heap),(HH Gx ve me v1 m2++X).set ve (.row 1 (List.map (fun n:Int=>[V.d (D.int .i64 n)]) y))=HH Gx ve me y m2++X:=fun y X=>tX.setV v1 m2 y X
      have wk:IntKind.i64.wrap ((i:Int) + 1)=((i + 1:Nat):Int):=by rw [wrap_id] <;> omega
      obtain ⟨nb,hnb⟩:∃ b,b=na + i:=⟨_,rfl⟩
      have wna:IntKind.i64.wrap ((na:Int) + i)=(nb:Int):=by rw [wrap_id (by omega) (by omega)];omega
      have wfu:IntKind.i64.wrap (n:Int)=n:=by rw [wrap_id (by omega) (by omega)]
      cases tr with
      | true =>
        rw [if_pos rfl] at hI
        rw [← hI,if_pos rfl] at hrun
        simp [K_39_f,K_39_e,K_48_f,K_48_e,K_39h_f,K_39h_e,K_48h_f,K_48h_e,K_39h_g,K_48h_g,-V.flat,-V.one,one_int,one_bool,one_str,one_nilp,one_rp,one_nilsl,one_ro,one_cl,one_nilf,one_nili,one_ifc,one_ptr,one_sl,one_clo,flat_d,flat_ptr,flat_sl,flat_clo,flat_agg,gRa,gVa,gMa,gSa,gSS,HH_len,wfu,retQ]
        exact out_some (gSM _ _ _ _) (by omega) (fin (oHH _ _ _)) (hm2.trans hm1).symm hrun
      | false =>
        rw [if_neg (by decide)] at hI
        simp [K_39_f,K_39_e,K_48_f,K_48_e,K_39h_f,K_39h_e,K_48h_f,K_48h_e,K_39h_g,K_48h_g,-V.flat,-V.one,one_int,one_bool,one_str,one_nilp,one_rp,one_nilsl,one_ro,one_cl,one_nilf,one_nili,one_ifc,one_ptr,one_sl,one_clo,flat_d,flat_ptr,flat_sl,flat_clo,flat_agg,gRa,gVa,gMa,gNa,sV,HH_len,rset,hv1,wk,wna,-List.map_set]
        refine ⟨by omega,i + 1,v1.set nb n1,m2,⟨by omega,by rw [List.length_set];exact hv1,by omega, ?_⟩,by omega,⟨_,rfl⟩,by omega⟩
        rw [← hI,hnb]
        rfl
    · have hil:i=(blkN F k).insts_.length:=by omega
      rw [List.drop_eq_nil_of_le (by omega),instsV] at hI
      rw [← hI,if_neg (show ¬ (false=true) by decide)] at hrun
      simp only [] at hrun
      have wfu:IntKind.i64.wrap (n:Int)=n:=by rw [wrap_id (by omega) (by omega)]
      have gR':=gRa v1 m1
      rw [← hv1,← hm1] at gR'
      by_cases he:(blkN F k).end_=1
      · have hvv:=good_ret hg hk he
        rw [if_pos he] at hrun
        refine W_run mixed ⟨[K_39,K_48],[K_39h,K_48h],[97,98],141,H.length,[0,1,2,3,4,8,9,10,11,12,13,14,15,16,17,18,34,49,50,51,52,62,82,115],[34,52,62,82,105,115]⟩ (fun | 1=>[4,0,1,2,3,5,6,7,8] | 7=>[1,3,0,2,4,5,6] | 17=>[0,1,2,4,8,9,10,12,13,3,5,6,7,11,14,15] | 19=>[0,1,2,3,4,5,6,8,7,9,10,11,12,13] | 23=>[0,1,2,5,8,3,4,6,7,9] | _=>[]) (by kernel_rfl) ?_
        simp only [stripX,stripOps,pickOps]
        simp [K_39_f,K_39_e,K_48_f,K_48_e,K_39h_f,K_39h_e,K_48h_f,K_48h_e,K_39h_g,K_48h_g,-V.flat,-V.one,one_int,one_bool,one_str,one_nilp,one_rp,one_nilsl,one_ro,one_cl,one_nilf,one_nili,one_ifc,one_ptr,one_sl,one_clo,flat_d,flat_ptr,flat_sl,flat_clo,flat_agg,gRa,gVa,gMa,gNa,gSa,gSS,hlt,he,HH_len,hil,hv1,wfu,retQ]
        refine ⟨by omega,by omega, ?_⟩
        exact out_some (gSM _ _ _ _) (by omega) (fin (oHH _ _ _)) hm1.symm hrun
      · rw [if_neg he] at hrun
        obtain ⟨hj1,hj2⟩:=good_jmp hg hk he
        rcases hj1 with ⟨e2,l1⟩ | ⟨e3,l2,w0,w1⟩
        · obtain ⟨j0,hj⟩:=List.length_eq_one_iff.1 l1
          have ej:jmpN (blkN F k) v1=j0:=by unfold jmpN;rw [if_neg (by omega),hj];rfl
          rw [ej] at hrun
          have hjm:=hj2 j0 (by rw [hj];exact List.mem_singleton_self _)
          refine W_run mixed ⟨[K_39,K_48],[K_39h,K_48h],[97,98],141,H.length,[0,1,2,3,4,8,9,10,11,12,13,14,15,16,17,18,34,49,50,51,52,62,82,115],[34,52,62,82,105,115]⟩ (fun | 1=>[4,0,1,2,3,5,6,7,8] | 7=>[1,3,0,2,4,5,6] | 17=>[0,1,2,4,8,9,10,12,13,3,5,6,7,11,14,15] | 19=>[0,1,2,3,4,5,6,8,7,9,10,11,12,13] | 23=>[0,1,2,5,8,3,4,6,7,9] | _=>[]) (by kernel_rfl) ?_
          simp only [stripX,stripOps,pickOps]
          simp [K_39_f,K_39_e,K_48_f,K_48_e,K_39h_f,K_39h_e,K_48h_f,K_48h_e,K_39h_g,K_48h_g,-V.flat,-V.one,one_int,one_bool,one_str,one_nilp,one_rp,one_nilsl,one_ro,one_cl,one_nilf,one_nili,one_ifc,one_ptr,one_sl,one_clo,flat_d,flat_ptr,flat_sl,flat_clo,flat_agg,gRa,gVa,gMa,gNa,gSa,gSS,hlt,e2,hj,HH_len,hil,hv1]
          obtain ⟨t0,t1,t2,t3⟩:=hjm
          have t1':j0.to_.toNat≤F.blocks_.length:=by omega
          obtain ⟨f1,f2,f3,f4,f5,f6,f7⟩:=at_le hg t1
          have gJ:∀ (v m:List Int) (Z:Heap),(HH Gx ve me v m++rBk (blkN F k) :: (X++Place.row 2 [[V.d (D.int IntKind.i64 j0.to_),V.d (dIntS j0.args_)]] :: Z))[Gx.length + (X.length + 1)]? = some (.row 2 [[V.d (D.int IntKind.i64 j0.to_),V.d (dIntS j0.args_)]]):=fun v m Z=>by
            rw [List.getElem?_append_right (by rw [HH_len];omega),HH_len,show Gx.length + (X.length + 1) - Gx.length=X.length + 1 by omega,List.getElem?_cons_succ,List.getElem?_append_right (Nat.le_refl _),Nat.sub_self];rfl
          rw [aft_call]
          refine (takeS_cl _ R ve me _ v1 j0.args_ (gR' _) (gVa _ _ _) (by omega) (fun n hn=>by have:=t3 n hn;omega)).mono ?_
          rintro r H' ⟨rfl,kk,rfl⟩
          generalize htk:takeV v1 j0.args_=tk at hrun ⊢
          generalize hfn:firstN F j0.to_.toNat=fn at hrun f1 f5
          have hu2:=upto_all tk
          have sVp:∀ X:Heap,(HH Gx ve me v1 m1++X).set ve (.row 1 (List.take fn (rI v1)++(List.take (vs.length - fn) (rI tk)++List.drop (fn + min tk.length (vs.length - fn)) (rI v1))))=HH Gx ve me (putV v1 fn tk) m1++X:=fun X=>by
            rw [← tX.setV v1 m1 (putV v1 fn tk) X,putV,← hv1]
            simp only [rI,List.map_append,List.map_take,List.map_drop]
          simp [K_39_f,K_39_e,K_48_f,K_48_e,K_39h_f,K_39h_e,K_48h_f,K_48h_e,K_39h_g,K_48h_g,-V.flat,-V.one,one_int,one_bool,one_str,one_nilp,one_rp,one_nilsl,one_ro,one_cl,one_nilf,one_nili,one_ifc,one_ptr,one_sl,one_clo,flat_d,flat_ptr,flat_sl,flat_clo,flat_agg,gRa,gVa,gMa,gNa,gBa,gJ,HH_len,hF,t0,t1',f1,hu2,sVp,hv1,wfu]
          exact ⟨by omega,by omega,n,j0.to_.toNat,_,m1,_,⟨oHH _ _ _,tX.getV _ _ _,tX.getM _ _ _,(putV_len (by omega)).trans (hv1.trans lX),hm1.trans l8,t1,by omega,hrun⟩,by omega,rfl,rfl,(Int.toNat_of_nonneg t0).symm⟩
        · obtain ⟨j0,j1,hj⟩:∃ a b,(blkN F k).jumps_=[a,b]:=by
            match h:(blkN F k).jumps_,l2 with
            | [a,b],_=>exact ⟨a,b,rfl⟩
          by_cases hz:v1[(blkN F k).value_.toNat]?.getD 0=0
          · have ej:jmpN (blkN F k) v1=j1:=by unfold jmpN;rw [if_pos ⟨e3,hz⟩,hj];rfl
            rw [ej] at hrun
            have hjm:=hj2 j1 (by rw [hj];simp)
            refine W_run mixed ⟨[K_39,K_48],[K_39h,K_48h],[97,98],141,H.length,[0,1,2,3,4,8,9,10,11,12,13,14,15,16,17,18,34,49,50,51,52,62,82,115],[34,52,62,82,105,115]⟩ (fun | 1=>[4,0,1,2,3,5,6,7,8] | 7=>[1,3,0,2,4,5,6] | 17=>[0,1,2,4,8,9,10,12,13,3,5,6,7,11,14,15] | 19=>[0,1,2,3,4,5,6,8,7,9,10,11,12,13] | 23=>[0,1,2,5,8,3,4,6,7,9] | _=>[]) (by kernel_rfl) ?_
            simp only [stripX,stripOps,pickOps]
            simp [K_39_f,K_39_e,K_48_f,K_48_e,K_39h_f,K_39h_e,K_48h_f,K_48h_e,K_39h_g,K_48h_g,-V.flat,-V.one,one_int,one_bool,one_str,one_nilp,one_rp,one_nilsl,one_ro,one_cl,one_nilf,one_nili,one_ifc,one_ptr,one_sl,one_clo,flat_d,flat_ptr,flat_sl,flat_clo,flat_agg,gRa,gVa,gMa,gNa,gSa,gSS,hlt,e3,hj,HH_len,hil,hv1,hz]
            refine ⟨⟨w0,by omega⟩,by omega, ?_⟩
            obtain ⟨t0,t1,t2,t3⟩:=hjm
            have t1':j1.to_.toNat≤F.blocks_.length:=by omega
            obtain ⟨f1,f2,f3,f4,f5,f6,f7⟩:=at_le hg t1
            have gJ:∀ (v m:List Int) (Z:Heap),(HH Gx ve me v m++rBk (blkN F k) :: (X++Place.row 2 [[V.d (D.int IntKind.i64 j1.to_),V.d (dIntS j1.args_)]] :: Z))[Gx.length + (X.length + 1)]? = some (.row 2 [[V.d (D.int IntKind.i64 j1.to_),V.d (dIntS j1.args_)]]):=fun v m Z=>by
              rw [List.getElem?_append_right (by rw [HH_len];omega),HH_len,show Gx.length + (X.length + 1) - Gx.length=X.length + 1 by omega,List.getElem?_cons_succ,List.getElem?_append_right (Nat.le_refl _),Nat.sub_self];rfl
            rw [aft_call]
            refine (takeS_cl _ R ve me _ v1 j1.args_ (gR' _) (gVa _ _ _) (by omega) (fun n hn=>by have:=t3 n hn;omega)).mono ?_
            rintro r H' ⟨rfl,kk,rfl⟩
            generalize htk:takeV v1 j1.args_=tk at hrun ⊢
            generalize hfn:firstN F j1.to_.toNat=fn at hrun f1 f5
            have hu2:=upto_all tk
            have sVp:∀ X:Heap,(HH Gx ve me v1 m1++X).set ve (.row 1 (List.take fn (rI v1)++(List.take (vs.length - fn) (rI tk)++List.drop (fn + min tk.length (vs.length - fn)) (rI v1))))=HH Gx ve me (putV v1 fn tk) m1++X:=fun X=>by
              rw [← tX.setV v1 m1 (putV v1 fn tk) X,putV,← hv1]
              simp only [rI,List.map_append,List.map_take,List.map_drop]
            simp [K_39_f,K_39_e,K_48_f,K_48_e,K_39h_f,K_39h_e,K_48h_f,K_48h_e,K_39h_g,K_48h_g,-V.flat,-V.one,one_int,one_bool,one_str,one_nilp,one_rp,one_nilsl,one_ro,one_cl,one_nilf,one_nili,one_ifc,one_ptr,one_sl,one_clo,flat_d,flat_ptr,flat_sl,flat_clo,flat_agg,gRa,gVa,gMa,gNa,gBa,gJ,HH_len,hF,t0,t1',f1,hu2,sVp,hv1,wfu]
            exact ⟨by omega,by omega,n,j1.to_.toNat,_,m1,_,⟨oHH _ _ _,tX.getV _ _ _,tX.getM _ _ _,(putV_len (by omega)).trans (hv1.trans lX),hm1.trans l8,t1,by omega,hrun⟩,by omega,rfl,rfl,(Int.toNat_of_nonneg t0).symm⟩
          · have ej:jmpN (blkN F k) v1=j0:=by unfold jmpN;rw [if_neg (fun h=>hz h.2),hj];rfl
            rw [ej] at hrun
            have hjm:=hj2 j0 (by rw [hj];simp)
            refine W_run mixed ⟨[K_39,K_48],[K_39h,K_48h],[97,98],141,H.length,[0,1,2,3,4,8,9,10,11,12,13,14,15,16,17,18,34,49,50,51,52,62,82,115],[34,52,62,82,105,115]⟩ (fun | 1=>[4,0,1,2,3,5,6,7,8] | 7=>[1,3,0,2,4,5,6] | 17=>[0,1,2,4,8,9,10,12,13,3,5,6,7,11,14,15] | 19=>[0,1,2,3,4,5,6,8,7,9,10,11,12,13] | 23=>[0,1,2,5,8,3,4,6,7,9] | _=>[]) (by kernel_rfl) ?_
            simp only [stripX,stripOps,pickOps]
            simp [K_39_f,K_39_e,K_48_f,K_48_e,K_39h_f,K_39h_e,K_48h_f,K_48h_e,K_39h_g,K_48h_g,-V.flat,-V.one,one_int,one_bool,one_str,one_nilp,one_rp,one_nilsl,one_ro,one_cl,one_nilf,one_nili,one_ifc,one_ptr,one_sl,one_clo,flat_d,flat_ptr,flat_sl,flat_clo,flat_agg,gRa,gVa,gMa,gNa,gSa,gSS,hlt,e3,hj,HH_len,hil,hv1,hz]
            refine ⟨⟨w0,by omega⟩,by omega, ?_⟩
            obtain ⟨t0,t1,t2,t3⟩:=hjm
            have t1':j0.to_.toNat≤F.blocks_.length:=by omega
            obtain ⟨f1,f2,f3,f4,f5,f6,f7⟩:=at_le hg t1
            have gJ:∀ (v m:List Int) (Z:Heap),(HH Gx ve me v m++rBk (blkN F k) :: (X++Place.row 2 [[V.d (D.int IntKind.i64 j0.to_),V.d (dIntS j0.args_)]] :: Z))[Gx.length + (X.length + 1)]? = some (.row 2 [[V.d (D.int IntKind.i64 j0.to_),V.d (dIntS j0.args_)]]):=fun v m Z=>by
              rw [List.getElem?_append_right (by rw [HH_len];omega),HH_len,show Gx.length + (X.length + 1) - Gx.length=X.length + 1 by omega,List.getElem?_cons_succ,List.getElem?_append_right (Nat.le_refl _),Nat.sub_self];rfl
            rw [aft_call]
            refine (takeS_cl _ R ve me _ v1 j0.args_ (gR' _) (gVa _ _ _) (by omega) (fun n hn=>by have:=t3 n hn;omega)).mono ?_
            rintro r H' ⟨rfl,kk,rfl⟩
            generalize htk:takeV v1 j0.args_=tk at hrun ⊢
            generalize hfn:firstN F j0.to_.toNat=fn at hrun f1 f5
            have hu2:=upto_all tk
            have sVp:∀ X:Heap,(HH Gx ve me v1 m1++X).set ve (.row 1 (List.take fn (rI v1)++(List.take (vs.length - fn) (rI tk)++List.drop (fn + min tk.length (vs.length - fn)) (rI v1))))=HH Gx ve me (putV v1 fn tk) m1++X:=fun X=>by
              rw [← tX.setV v1 m1 (putV v1 fn tk) X,putV,← hv1]
              simp only [rI,List.map_append,List.map_take,List.map_drop]
            simp [K_39_f,K_39_e,K_48_f,K_48_e,K_39h_f,K_39h_e,K_48h_f,K_48h_e,K_39h_g,K_48h_g,-V.flat,-V.one,one_int,one_bool,one_str,one_nilp,one_rp,one_nilsl,one_ro,one_cl,one_nilf,one_nili,one_ifc,one_ptr,one_sl,one_clo,flat_d,flat_ptr,flat_sl,flat_clo,flat_agg,gRa,gVa,gMa,gNa,gBa,gJ,HH_len,hF,t0,t1',f1,hu2,sVp,hv1,wfu]
            exact ⟨by omega,by omega,n,j0.to_.toNat,_,m1,_,⟨oHH _ _ _,tX.getV _ _ _,tX.getM _ _ _,(putV_len (by omega)).trans (hv1.trans lX),hm1.trans l8,t1,by omega,hrun⟩,by omega,rfl,rfl,(Int.toNat_of_nonneg t0).symm⟩
end Go.Proofs.Ytnomiclfiijniaa
