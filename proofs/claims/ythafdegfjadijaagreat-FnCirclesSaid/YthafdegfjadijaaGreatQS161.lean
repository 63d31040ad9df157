/- IsReducible of the program, closed. No condition. -/
import Derived.Test.YthafdegfjadijaaGreatQS160
namespace Go.Proofs.YthafdegfjadijaaGreat
set_option maxRecDepth 100000
set_option linter.unusedSimpArgs false
set_option linter.unusedVariables false
theorem Rw.step {H G:Heap} {n i:Nat} {f:Nat→List Int} {rows:List (List V)} (q:Rw H G n i f rows) (h:i < n) {G':Heap} {id:Nat} (g1:G.length≤G'.length) (g2:∀ j,j < G.length→j ≠ H.length→G'[j]? = G[j]?) (g3:G'[H.length]? = some (.row 1 (rows.set i [sv id (f i)]))) (g4:f i ≠ []→H.length < id∧G'[id]? = some (.row 1 (rI (f i)))) :
    ∃ rows,Rw H G' n (i + 1) f rows:=by
  have gl:=q.only.len
  have hl:=q.len
  have lH:=(List.getElem?_eq_some_iff.1 q.row).1
  refine ⟨_,g3,by simpa using hl,fun j hj hjn=>?_,fun j hj=>?_,⟨by omega,fun j hj hn=>(g2 j (by omega) (by omega)).trans (q.only.at_ j hj hn)⟩⟩
  · rw [List.getElem?_set_ne (by omega)];exact q.next j (by omega) hjn
  · by_cases e:j=i
    · subst e
      exact ⟨id,List.getElem?_set_self (by omega),g4⟩
    · obtain ⟨id',p1,p2⟩:=q.done j (by omega)
      refine ⟨id',(List.getElem?_set_ne fun q=>e q.symm).trans p1,fun hne=>?_⟩
      obtain ⟨p3,p4⟩:=p2 hne
      exact ⟨p3,(g2 id' (List.getElem?_eq_some_iff.1 p4).1 (by omega)).trans p4⟩
theorem Rw.close {H G:Heap} {n:Nat} {f:Nat→List Int} {rows:List (List V)} (q:Rw H G n n f rows) {K:List Nat} (hK:∀ j∈K,j < H.length) {L:List (List Int)} (hL:L.length=n) (hf:∀ j,j < n→L[j]?.getD default=f j):DLe (closeK K G 4 (.sl H.length 1 0 n)) (dIntSS L):=by
  have hk:H.length ∉ K:=fun h=>by have:=hK _ h;omega
  simp only [closeK]
  rw [if_neg hk,q.row]
  simp only []
  rw [if_pos (by rw [q.len];simp)]
  refine ⟨rfl,hL.symm,fun i hi j hj=>?_⟩
  have:j=0:=by omega
  subst this
  obtain ⟨id,p1,p2⟩:=q.done i hi
  dsimp only
  rw [Nat.zero_add,p1,hf i hi]
  simp only [Option.getD_some,List.getElem?_cons_zero]
  cases hl:f i with
  | nil=>simp [sv,closeK,DLe]
  | cons a l =>
    rw [hl] at p2
    obtain ⟨p3,p4⟩:=p2 (by simp)
    have hk2:id ∉ K:=fun h=>by have:=hK _ h;omega
    exact dle_row (f:=2) hk2 p4
theorem dom_bit {nx:List (List Int)} {b k:Nat} (hb:b < nx.length) (hk:k < nx.length):(((domL nx)[b]?.getD default)[k]?.getD false=true) ↔ Dm nx k b:=by
  rw [domL_get hb hk]
  exact ⟨fun h=>⟨h.2.1,h.2.2⟩,fun h=>⟨Dm.rch h,h.1,h.2⟩⟩
set_option maxHeartbeats 4000000 in
theorem rdI_c (F : Func) (hF : Enc.good F) : PureP Tryz.prog 25 [vFunc F] (· = rdR F) := by
  cases hg:goodF F with
  | false =>
    have e:rdR F=.tup [.d (.bool false),.d (.bool false)]:=by simp [rdR,rdB,hg]
    rw [e]
    refine pure_of Tryz.func25 en_25 rfl rfl (W_run mixed ⟨[K_33,K_35,K_34,K_39,K_36],[K_33h,K_35h,K_34h,K_39h,K_36h],[],85,0,[0,1,2,3,4,5,6,7,8,9,11,13,15,19,27,28,29,30,34,35,36,37,47,62,63,64,65,71,72,73,74,82],[19,30,37,47,65,74,82]⟩ (fun | 5=>[0,1,2,3,5,4,6] | _=>[]) (by kernel_rfl) ?_)
    simp only [Tryz.f25,stripX,stripOps,pickOps]
    simp [K_33_f,K_33_e,K_35_f,K_35_e,K_34_f,K_34_e,K_39_f,K_39_e,K_36_f,K_36_e,K_33h_f,K_33h_e,K_35h_f,K_35h_e,K_34h_f,K_34h_e,K_39h_f,K_39h_e,K_36h_f,K_36h_e,K_33h_g,K_35h_g,K_34h_g,K_39h_g,K_36h_g,hF,viewV_f hg]
  | true =>
    obtain ⟨hv1,hn1,hp1⟩:=good_flow hg
    have hv8:=hv1.1
    obtain ⟨nx,hnx⟩:∃ nx,nx=nextL F.blocks_:=⟨_,rfl⟩
    have hln:nx.length=F.blocks_.length:=by rw [hnx];simp [nextL]
    obtain ⟨n,hn⟩:∃ n,n=F.blocks_.length:=⟨_,rfl⟩
    have hvb:nextL (viewD F).blocks_=nx:=by rw [viewD_blocks,hnx]
    have hvb2:fewJumps (viewD F).blocks_:=by rw [viewD_blocks];exact hv1
    rw [← hnx] at hn1
    have hp2:0 < nx.length:=by omega
    have f1:(n:Int) * 24≤140737488355328:=by omega
    have f2:(n:Int)≤140737488355328:=by omega
    have hxn:nx.length=n:=by omega
    refine pure_of Tryz.func25 en_25 rfl rfl (W_run mixed ⟨[K_33,K_35,K_34,K_39,K_36],[K_33h,K_35h,K_34h,K_39h,K_36h],[],85,0,[0,1,2,3,4,5,6,7,8,9,11,13,15,19,27,28,29,30,34,35,36,37,47,62,63,64,65,71,72,73,74,82],[19,30,37,47,65,74,82]⟩ (fun | 5=>[0,1,2,3,5,4,6] | _=>[]) (by kernel_rfl) ?_)
    simp only [Tryz.f25,stripX,stripOps,pickOps]
    simp [K_33_f,K_33_e,K_35_f,K_35_e,K_34_f,K_34_e,K_39_f,K_39_e,K_36_f,K_36_e,K_33h_f,K_33h_e,K_35h_f,K_35h_e,K_34h_f,K_34h_e,K_39h_f,K_39h_e,K_36h_f,K_36h_e,K_33h_g,K_35h_g,K_34h_g,K_39h_g,K_36h_g,hF,viewV_t hg,hvb,hvb2,hn1,hp2,hxn,f1,f2]
    refine ⟨by omega, ?_⟩
    obtain ⟨f,hf⟩:∃ f:Nat→List Int,∀ j,f j=(forthL nx)[j]?.getD default:=⟨_,fun _=>rfl⟩
    obtain ⟨H,hH⟩:∃ H:Heap,H=[.row 2 [[.d (.int .i64 F.params_),.d (dBlockS F.blocks_)]]]:=⟨_,rfl⟩
    obtain ⟨p,hp⟩:∃ p,p=1:=⟨_,rfl⟩
    have lH:H.length=p:=by rw [hH,hp];rfl
    refine W_loopH (α:=Nat × Heap) (fun a=>[(1,.ptr 0 2 0 0),(5,.d (dIntSS nx)),(6,.d (dBoolSS (domL nx))),(7,.sl p 1 0 n),(27,.d (dIntSS nx)),(28,.d (.int .i64 n)),(29,.d (.int .i64 a.1))]) (fun a=>a.2)
      (fun a=>a.1≤n∧∃ rows,Rw H a.2 n a.1 f rows) (fun a=>n - a.1) (0,H++[.row 1 (List.replicate n [.d .nilsl])]) ?_ ⟨Nat.zero_le _,List.replicate n [.d .nilsl],by simp,by simp,fun j _ hj=>by simp [hj],fun j hj=>absurd hj (Nat.not_lt_zero _),Only.app [] _ _⟩ ?_
    · simp [hH,hp]
    rintro ⟨i,G⟩ ⟨hi,rows,q⟩
    dsimp only at hi q
    have lR:=(List.getElem?_eq_some_iff.1 q.row).1
    have hr:=q.row
    rw [lH] at lR hr
    by_cases h:i < n
    · have hi8:=okNext_get hn1 i
      have w1:IntKind.i64.wrap 1=1:=by decide
      have w2:IntKind.i64.wrap 2=2:=by decide
      have wi:IntKind.i64.wrap ((i:Int) + 1)=((i + 1:Nat):Int):=by rw [wrap_id] <;> omega
      have hl:=q.len
      have ri:=q.next i (Nat.le_refl _) h
      have ri0:rows[i]?.getD []=[.d .nilsl]:=by rw [ri];rfl
      have ri1:∀ h:i < rows.length,rows[i]=[.d .nilsl]:=fun h=>Option.some.inj ((List.getElem?_eq_getElem h).symm.trans ri)
      have rR:∀ R:Heap,(G++R)[p]? = some (.row 1 rows):=fun R=>(List.getElem?_append_left lR).trans hr
      have sR:∀ (R:Heap) P,(G++R).set p P=G.set p P++R:=fun R P=>List.set_append_left _ _ lR
      have rS:∀ (R:Heap) P,(G.set p P++R)[p]? = some P:=fun R P=>by rw [List.getElem?_append_left (by simpa using lR),List.getElem?_set_self lR]
      have sS:∀ (R:Heap) P P',(G.set p P++R).set p P'=G.set p P'++R:=fun R P P'=>by rw [List.set_append_left _ _ (by simpa using lR),List.set_set]
      obtain ⟨row,hrow⟩:∃ row,row=(domL nx)[i]?.getD default:=⟨_,rfl⟩
      have d0:(domL nx)[i]?.getD []=row:=hrow.symm
      have dl:(domL nx).length=n:=by simp [domL,hxn]
      have d1:∀ h:i < (domL nx).length,(domL nx)[i]=row:=fun h=>by rw [hrow,List.getElem?_eq_getElem h];rfl
      have rl:row.length=n:=by rw [hrow];simp [domL,hxn,h]
      obtain ⟨js,hjs⟩:∃ js,js=nx[i]?.getD default:=⟨_,rfl⟩
      have j0:nx[i]?.getD []=js:=hjs.symm
      have j1:∀ h:i < nx.length,nx[i]=js:=fun h=>by rw [hjs,List.getElem?_eq_getElem h];rfl
      rw [← hjs] at hi8
      have hfi:f i=js.filter fun t=>!(row[t.toNat]?.getD false):=by
        rw [hf]
        unfold forthL
        rw [List.getElem?_map,List.getElem?_range (by omega),hjs]
        show List.filter _ _=_
        refine List.filter_congr fun t ht=>?_
        rw [← hjs] at ht
        obtain ⟨t0,t1⟩:=hi8.2 t ht
        have:=dom_bit (nx:=nx) (b:=i) (k:=t.toNat) (by omega) (by omega)
        rw [← hrow,show ((t.toNat:Nat):Int)=t by omega] at this
        by_cases c:Dm nx t i
        · rw [this.2 c];simp [c]
        · have:row[t.toNat]?.getD false=false:=Bool.eq_false_iff.2 fun e=>c (this.1 e)
          rw [this];simp [c]
      have fin0:∀ (G':Heap) (id:Nat),G.length≤G'.length→(∀ j,j < G.length→j ≠ p→G'[j]? = G[j]?)→G'[p]? = some (.row 1 (rows.set i [sv id (f i)]))→(f i ≠ []→p < id∧G'[id]? = some (.row 1 (rI (f i))))→∃ rows,Rw H G' n (i + 1) f rows:=fun G' id g1 g2 g3 g4 =>
        q.step h g1 (by rw [lH];exact g2) (by rw [lH];exact g3) (by rw [lH];exact g4)
      have same:f i=[]→∃ rows,Rw H G n (i + 1) f rows:=fun e=>fin0 G 0 (Nat.le_refl _) (fun _ _ _=>rfl) (by
        rw [hr,e]
        have e:rows.set i [V.d .nilsl]=rows:=by rw [← ri1 (by omega)];exact List.set_getElem_self _
        exact (congrArg (fun r=>some (Place.row 1 r)) e).symm) fun hne=>absurd e hne
      clear hjs
      rcases js with _ | ⟨a,_ | ⟨b,_ | ⟨c,l⟩⟩⟩
      · have e:f i=[]:=hfi
        refine W_run mixed ⟨[K_33,K_35,K_34,K_39,K_36],[K_33h,K_35h,K_34h,K_39h,K_36h],[],85,0,[0,1,2,3,4,5,6,7,8,9,11,13,15,19,27,28,29,30,34,35,36,37,47,62,63,64,65,71,72,73,74,82],[19,30,37,47,65,74,82]⟩ (fun | 5=>[0,1,2,3,5,4,6] | _=>[]) (by kernel_rfl) ?_
        simp only [stripX,stripOps,pickOps]
        simp [K_33_f,K_33_e,K_35_f,K_35_e,K_34_f,K_34_e,K_39_f,K_39_e,K_36_f,K_36_e,K_33h_f,K_33h_e,K_35h_f,K_35h_e,K_34h_f,K_34h_e,K_39h_f,K_39h_e,K_36h_f,K_36h_e,K_33h_g,K_35h_g,K_34h_g,K_39h_g,K_36h_g,h,hxn,j0,j1]
        refine W_rounds 1 (WR_succ ?_)
        refine W_run mixed ⟨[K_33,K_35,K_34,K_39,K_36],[K_33h,K_35h,K_34h,K_39h,K_36h],[],85,0,[0,1,2,3,4,5,6,7,8,9,11,13,15,19,27,28,29,30,34,35,36,37,47,62,63,64,65,71,72,73,74,82],[19,30,37,47,65,74,82]⟩ (fun | 5=>[0,1,2,3,5,4,6] | _=>[]) (by kernel_rfl) ?_
        simp only [stripX,stripOps,pickOps]
        simp [K_33_f,K_33_e,K_35_f,K_35_e,K_34_f,K_34_e,K_39_f,K_39_e,K_36_f,K_36_e,K_33h_f,K_33h_e,K_35h_f,K_35h_e,K_34h_f,K_34h_e,K_39h_f,K_39h_e,K_36h_f,K_36h_e,K_33h_g,K_35h_g,K_34h_g,K_39h_g,K_36h_g,h,wi]
        exact ⟨i + 1,_,⟨by omega,same e⟩,by omega,rfl,rfl⟩
      · obtain ⟨a0,a1⟩:=hi8.2 a (by simp)
        obtain ⟨ta,rfl⟩:=Int.eq_ofNat_of_zero_le a0
        obtain ⟨ba,hba⟩:∃ ba,ba=row[ta]?.getD false:=⟨_,rfl⟩
        have ba0:=hba.symm
        have ba1:∀ h:ta < row.length,row[ta]=ba:=fun h=>by rw [hba,List.getElem?_eq_getElem h];rfl
        have hta:ta < n:=by omega
        simp only [List.filter_cons,List.filter_nil,Int.toNat_natCast,← hba] at hfi
        refine W_run mixed ⟨[K_33,K_35,K_34,K_39,K_36],[K_33h,K_35h,K_34h,K_39h,K_36h],[],85,0,[0,1,2,3,4,5,6,7,8,9,11,13,15,19,27,28,29,30,34,35,36,37,47,62,63,64,65,71,72,73,74,82],[19,30,37,47,65,74,82]⟩ (fun | 5=>[0,1,2,3,5,4,6] | _=>[]) (by kernel_rfl) ?_
        simp only [stripX,stripOps,pickOps]
        simp [K_33_f,K_33_e,K_35_f,K_35_e,K_34_f,K_34_e,K_39_f,K_39_e,K_36_f,K_36_e,K_33h_f,K_33h_e,K_35h_f,K_35h_e,K_34h_f,K_34h_e,K_39h_f,K_39h_e,K_36h_f,K_36h_e,K_33h_g,K_35h_g,K_34h_g,K_39h_g,K_36h_g,h,hxn,j0,j1]
        refine W_rounds 2 (WR_succ ?_)
        cases ba with
        | true =>
          refine W_run mixed ⟨[K_33,K_35,K_34,K_39,K_36],[K_33h,K_35h,K_34h,K_39h,K_36h],[],85,0,[0,1,2,3,4,5,6,7,8,9,11,13,15,19,27,28,29,30,34,35,36,37,47,62,63,64,65,71,72,73,74,82],[19,30,37,47,65,74,82]⟩ (fun | 5=>[0,1,2,3,5,4,6] | _=>[]) (by kernel_rfl) ?_
          simp only [stripX,stripOps,pickOps]
          simp [K_33_f,K_33_e,K_35_f,K_35_e,K_34_f,K_34_e,K_39_f,K_39_e,K_36_f,K_36_e,K_33h_f,K_33h_e,K_35h_f,K_35h_e,K_34h_f,K_34h_e,K_39h_f,K_39h_e,K_36h_f,K_36h_e,K_33h_g,K_35h_g,K_34h_g,K_39h_g,K_36h_g,h,dl,d0,d1,rl,hta,ba0,ba1,w1]
          refine WR_succ ?_
          refine W_run mixed ⟨[K_33,K_35,K_34,K_39,K_36],[K_33h,K_35h,K_34h,K_39h,K_36h],[],85,0,[0,1,2,3,4,5,6,7,8,9,11,13,15,19,27,28,29,30,34,35,36,37,47,62,63,64,65,71,72,73,74,82],[19,30,37,47,65,74,82]⟩ (fun | 5=>[0,1,2,3,5,4,6] | _=>[]) (by kernel_rfl) ?_
          simp only [stripX,stripOps,pickOps]
          simp [K_33_f,K_33_e,K_35_f,K_35_e,K_34_f,K_34_e,K_39_f,K_39_e,K_36_f,K_36_e,K_33h_f,K_33h_e,K_35h_f,K_35h_e,K_34h_f,K_34h_e,K_39h_f,K_39h_e,K_36h_f,K_36h_e,K_33h_g,K_35h_g,K_34h_g,K_39h_g,K_36h_g,h,wi,w1]
          exact ⟨i + 1,_,⟨by omega,same (by rw [hfi];rfl)⟩,by omega,rfl,rfl⟩
        | false =>
          refine W_run mixed ⟨[K_33,K_35,K_34,K_39,K_36],[K_33h,K_35h,K_34h,K_39h,K_36h],[],85,0,[0,1,2,3,4,5,6,7,8,9,11,13,15,19,27,28,29,30,34,35,36,37,47,62,63,64,65,71,72,73,74,82],[19,30,37,47,65,74,82]⟩ (fun | 5=>[0,1,2,3,5,4,6] | _=>[]) (by kernel_rfl) ?_
          simp only [stripX,stripOps,pickOps]
          simp [K_33_f,K_33_e,K_35_f,K_35_e,K_34_f,K_34_e,K_39_f,K_39_e,K_36_f,K_36_e,K_33h_f,K_33h_e,K_35h_f,K_35h_e,K_34h_f,K_34h_e,K_39h_f,K_39h_e,K_36h_f,K_36h_e,K_33h_g,K_35h_g,K_34h_g,K_39h_g,K_36h_g,h,dl,d0,d1,rl,hta,ba0,ba1,w1,ri0,ri1,hl,hr,rR,sR]
          refine WR_succ ?_
          refine W_run mixed ⟨[K_33,K_35,K_34,K_39,K_36],[K_33h,K_35h,K_34h,K_39h,K_36h],[],85,0,[0,1,2,3,4,5,6,7,8,9,11,13,15,19,27,28,29,30,34,35,36,37,47,62,63,64,65,71,72,73,74,82],[19,30,37,47,65,74,82]⟩ (fun | 5=>[0,1,2,3,5,4,6] | _=>[]) (by kernel_rfl) ?_
          simp only [stripX,stripOps,pickOps]
          simp [K_33_f,K_33_e,K_35_f,K_35_e,K_34_f,K_34_e,K_39_f,K_39_e,K_36_f,K_36_e,K_33h_f,K_33h_e,K_35h_f,K_35h_e,K_34h_f,K_34h_e,K_39h_f,K_39h_e,K_36h_f,K_36h_e,K_33h_g,K_35h_g,K_34h_g,K_39h_g,K_36h_g,h,wi,w1]
          have e:f i=[(ta:Int)]:=by rw [hfi];rfl
          exact ⟨i + 1,_,⟨by omega,fin0 _ (G.length + 1) (by simp) (fun j hj hne=>by rw [List.getElem?_append_left (by simpa using hj),List.getElem?_set_ne fun e=>hne e.symm]) (by rw [rS,e];rfl) (fun _=>⟨by omega,by rw [e,List.getElem?_append_right (by simp)];simp⟩)⟩,by omega,rfl,rfl⟩
      · obtain ⟨a0,a1⟩:=hi8.2 a (by simp)
        obtain ⟨ta,rfl⟩:=Int.eq_ofNat_of_zero_le a0
        obtain ⟨ba,hba⟩:∃ ba,ba=row[ta]?.getD false:=⟨_,rfl⟩
        have ba0:=hba.symm
        have ba1:∀ h:ta < row.length,row[ta]=ba:=fun h=>by rw [hba,List.getElem?_eq_getElem h];rfl
        have hta:ta < n:=by omega
        obtain ⟨b0,b1⟩:=hi8.2 b (by simp)
        obtain ⟨tb,rfl⟩:=Int.eq_ofNat_of_zero_le b0
        obtain ⟨bb,hbb⟩:∃ bb,bb=row[tb]?.getD false:=⟨_,rfl⟩
        have bb0:=hbb.symm
        have bb1:∀ h:tb < row.length,row[tb]=bb:=fun h=>by rw [hbb,List.getElem?_eq_getElem h];rfl
        have htb:tb < n:=by omega
        simp only [List.filter_cons,List.filter_nil,Int.toNat_natCast,← hba,← hbb] at hfi
        refine W_run mixed ⟨[K_33,K_35,K_34,K_39,K_36],[K_33h,K_35h,K_34h,K_39h,K_36h],[],85,0,[0,1,2,3,4,5,6,7,8,9,11,13,15,19,27,28,29,30,34,35,36,37,47,62,63,64,65,71,72,73,74,82],[19,30,37,47,65,74,82]⟩ (fun | 5=>[0,1,2,3,5,4,6] | _=>[]) (by kernel_rfl) ?_
        simp only [stripX,stripOps,pickOps]
        simp [K_33_f,K_33_e,K_35_f,K_35_e,K_34_f,K_34_e,K_39_f,K_39_e,K_36_f,K_36_e,K_33h_f,K_33h_e,K_35h_f,K_35h_e,K_34h_f,K_34h_e,K_39h_f,K_39h_e,K_36h_f,K_36h_e,K_33h_g,K_35h_g,K_34h_g,K_39h_g,K_36h_g,h,hxn,j0,j1]
        refine W_rounds 3 (WR_succ ?_)
        cases ba with
        | true =>
          refine W_run mixed ⟨[K_33,K_35,K_34,K_39,K_36],[K_33h,K_35h,K_34h,K_39h,K_36h],[],85,0,[0,1,2,3,4,5,6,7,8,9,11,13,15,19,27,28,29,30,34,35,36,37,47,62,63,64,65,71,72,73,74,82],[19,30,37,47,65,74,82]⟩ (fun | 5=>[0,1,2,3,5,4,6] | _=>[]) (by kernel_rfl) ?_
          simp only [stripX,stripOps,pickOps]
          simp [K_33_f,K_33_e,K_35_f,K_35_e,K_34_f,K_34_e,K_39_f,K_39_e,K_36_f,K_36_e,K_33h_f,K_33h_e,K_35h_f,K_35h_e,K_34h_f,K_34h_e,K_39h_f,K_39h_e,K_36h_f,K_36h_e,K_33h_g,K_35h_g,K_34h_g,K_39h_g,K_36h_g,h,dl,d0,d1,rl,hta,ba0,ba1,w1]
          refine WR_succ ?_
          cases bb with
          | true =>
            refine W_run mixed ⟨[K_33,K_35,K_34,K_39,K_36],[K_33h,K_35h,K_34h,K_39h,K_36h],[],85,0,[0,1,2,3,4,5,6,7,8,9,11,13,15,19,27,28,29,30,34,35,36,37,47,62,63,64,65,71,72,73,74,82],[19,30,37,47,65,74,82]⟩ (fun | 5=>[0,1,2,3,5,4,6] | _=>[]) (by kernel_rfl) ?_
            simp only [stripX,stripOps,pickOps]
            simp [K_33_f,K_33_e,K_35_f,K_35_e,K_34_f,K_34_e,K_39_f,K_39_e,K_36_f,K_36_e,K_33h_f,K_33h_e,K_35h_f,K_35h_e,K_34h_f,K_34h_e,K_39h_f,K_39h_e,K_36h_f,K_36h_e,K_33h_g,K_35h_g,K_34h_g,K_39h_g,K_36h_g,h,dl,d0,d1,rl,htb,bb0,bb1,w1,w2]
            refine WR_succ ?_
            refine W_run mixed ⟨[K_33,K_35,K_34,K_39,K_36],[K_33h,K_35h,K_34h,K_39h,K_36h],[],85,0,[0,1,2,3,4,5,6,7,8,9,11,13,15,19,27,28,29,30,34,35,36,37,47,62,63,64,65,71,72,73,74,82],[19,30,37,47,65,74,82]⟩ (fun | 5=>[0,1,2,3,5,4,6] | _=>[]) (by kernel_rfl) ?_
            simp only [stripX,stripOps,pickOps]
            simp [K_33_f,K_33_e,K_35_f,K_35_e,K_34_f,K_34_e,K_39_f,K_39_e,K_36_f,K_36_e,K_33h_f,K_33h_e,K_35h_f,K_35h_e,K_34h_f,K_34h_e,K_39h_f,K_39h_e,K_36h_f,K_36h_e,K_33h_g,K_35h_g,K_34h_g,K_39h_g,K_36h_g,h,wi,w1,w2]
            exact ⟨i + 1,_,⟨by omega,same (by rw [hfi];rfl)⟩,by omega,rfl,rfl⟩
          | false =>
            refine W_run mixed ⟨[K_33,K_35,K_34,K_39,K_36],[K_33h,K_35h,K_34h,K_39h,K_36h],[],85,0,[0,1,2,3,4,5,6,7,8,9,11,13,15,19,27,28,29,30,34,35,36,37,47,62,63,64,65,71,72,73,74,82],[19,30,37,47,65,74,82]⟩ (fun | 5=>[0,1,2,3,5,4,6] | _=>[]) (by kernel_rfl) ?_
            simp only [stripX,stripOps,pickOps]
            simp [K_33_f,K_33_e,K_35_f,K_35_e,K_34_f,K_34_e,K_39_f,K_39_e,K_36_f,K_36_e,K_33h_f,K_33h_e,K_35h_f,K_35h_e,K_34h_f,K_34h_e,K_39h_f,K_39h_e,K_36h_f,K_36h_e,K_33h_g,K_35h_g,K_34h_g,K_39h_g,K_36h_g,h,dl,d0,d1,rl,htb,bb0,bb1,w1,w2,ri0,ri1,hl,hr,rR,sR]
            refine WR_succ ?_
            refine W_run mixed ⟨[K_33,K_35,K_34,K_39,K_36],[K_33h,K_35h,K_34h,K_39h,K_36h],[],85,0,[0,1,2,3,4,5,6,7,8,9,11,13,15,19,27,28,29,30,34,35,36,37,47,62,63,64,65,71,72,73,74,82],[19,30,37,47,65,74,82]⟩ (fun | 5=>[0,1,2,3,5,4,6] | _=>[]) (by kernel_rfl) ?_
            simp only [stripX,stripOps,pickOps]
            simp [K_33_f,K_33_e,K_35_f,K_35_e,K_34_f,K_34_e,K_39_f,K_39_e,K_36_f,K_36_e,K_33h_f,K_33h_e,K_35h_f,K_35h_e,K_34h_f,K_34h_e,K_39h_f,K_39h_e,K_36h_f,K_36h_e,K_33h_g,K_35h_g,K_34h_g,K_39h_g,K_36h_g,h,wi,w1,w2]
            have e:f i=[(tb:Int)]:=by rw [hfi];rfl
            exact ⟨i + 1,_,⟨by omega,fin0 _ (G.length + 1) (by simp) (fun j hj hne=>by rw [List.getElem?_append_left (by simpa using hj),List.getElem?_set_ne fun e=>hne e.symm]) (by rw [rS,e];rfl) (fun _=>⟨by omega,by rw [e,List.getElem?_append_right (by simp)];simp⟩)⟩,by omega,rfl,rfl⟩
        | false =>
          refine W_run mixed ⟨[K_33,K_35,K_34,K_39,K_36],[K_33h,K_35h,K_34h,K_39h,K_36h],[],85,0,[0,1,2,3,4,5,6,7,8,9,11,13,15,19,27,28,29,30,34,35,36,37,47,62,63,64,65,71,72,73,74,82],[19,30,37,47,65,74,82]⟩ (fun | 5=>[0,1,2,3,5,4,6] | _=>[]) (by kernel_rfl) ?_
          simp only [stripX,stripOps,pickOps]
          simp [K_33_f,K_33_e,K_35_f,K_35_e,K_34_f,K_34_e,K_39_f,K_39_e,K_36_f,K_36_e,K_33h_f,K_33h_e,K_35h_f,K_35h_e,K_34h_f,K_34h_e,K_39h_f,K_39h_e,K_36h_f,K_36h_e,K_33h_g,K_35h_g,K_34h_g,K_39h_g,K_36h_g,h,dl,d0,d1,rl,hta,ba0,ba1,w1,ri0,ri1,hl,hr,rR,sR]
          refine WR_succ ?_
          cases bb with
          | true =>
            refine W_run mixed ⟨[K_33,K_35,K_34,K_39,K_36],[K_33h,K_35h,K_34h,K_39h,K_36h],[],85,0,[0,1,2,3,4,5,6,7,8,9,11,13,15,19,27,28,29,30,34,35,36,37,47,62,63,64,65,71,72,73,74,82],[19,30,37,47,65,74,82]⟩ (fun | 5=>[0,1,2,3,5,4,6] | _=>[]) (by kernel_rfl) ?_
            simp only [stripX,stripOps,pickOps]
            simp [K_33_f,K_33_e,K_35_f,K_35_e,K_34_f,K_34_e,K_39_f,K_39_e,K_36_f,K_36_e,K_33h_f,K_33h_e,K_35h_f,K_35h_e,K_34h_f,K_34h_e,K_39h_f,K_39h_e,K_36h_f,K_36h_e,K_33h_g,K_35h_g,K_34h_g,K_39h_g,K_36h_g,h,dl,d0,d1,rl,htb,bb0,bb1,w1,w2]
            refine WR_succ ?_
            refine W_run mixed ⟨[K_33,K_35,K_34,K_39,K_36],[K_33h,K_35h,K_34h,K_39h,K_36h],[],85,0,[0,1,2,3,4,5,6,7,8,9,11,13,15,19,27,28,29,30,34,35,36,37,47,62,63,64,65,71,72,73,74,82],[19,30,37,47,65,74,82]⟩ (fun | 5=>[0,1,2,3,5,4,6] | _=>[]) (by kernel_rfl) ?_
            simp only [stripX,stripOps,pickOps]
            simp [K_33_f,K_33_e,K_35_f,K_35_e,K_34_f,K_34_e,K_39_f,K_39_e,K_36_f,K_36_e,K_33h_f,K_33h_e,K_35h_f,K_35h_e,K_34h_f,K_34h_e,K_39h_f,K_39h_e,K_36h_f,K_36h_e,K_33h_g,K_35h_g,K_34h_g,K_39h_g,K_36h_g,h,wi,w1,w2]
            have e:f i=[(ta:Int)]:=by rw [hfi];rfl
            exact ⟨i + 1,_,⟨by omega,fin0 _ (G.length + 1) (by simp) (fun j hj hne=>by rw [List.getElem?_append_left (by simpa using hj),List.getElem?_set_ne fun e=>hne e.symm]) (by rw [rS,e];rfl) (fun _=>⟨by omega,by rw [e,List.getElem?_append_right (by simp)];simp⟩)⟩,by omega,rfl,rfl⟩
          | false =>
            refine W_run mixed ⟨[K_33,K_35,K_34,K_39,K_36],[K_33h,K_35h,K_34h,K_39h,K_36h],[],85,0,[0,1,2,3,4,5,6,7,8,9,11,13,15,19,27,28,29,30,34,35,36,37,47,62,63,64,65,71,72,73,74,82],[19,30,37,47,65,74,82]⟩ (fun | 5=>[0,1,2,3,5,4,6] | _=>[]) (by kernel_rfl) ?_
            simp only [stripX,stripOps,pickOps]
            simp [K_33_f,K_33_e,K_35_f,K_35_e,K_34_f,K_34_e,K_39_f,K_39_e,K_36_f,K_36_e,K_33h_f,K_33h_e,K_35h_f,K_35h_e,K_34h_f,K_34h_e,K_39h_f,K_39h_e,K_36h_f,K_36h_e,K_33h_g,K_35h_g,K_34h_g,K_39h_g,K_36h_g,h,dl,d0,d1,rl,htb,bb0,bb1,w1,w2,hl,rS,sS]
            refine WR_succ ?_
            refine W_run mixed ⟨[K_33,K_35,K_34,K_39,K_36],[K_33h,K_35h,K_34h,K_39h,K_36h],[],85,0,[0,1,2,3,4,5,6,7,8,9,11,13,15,19,27,28,29,30,34,35,36,37,47,62,63,64,65,71,72,73,74,82],[19,30,37,47,65,74,82]⟩ (fun | 5=>[0,1,2,3,5,4,6] | _=>[]) (by kernel_rfl) ?_
            simp only [stripX,stripOps,pickOps]
            simp [K_33_f,K_33_e,K_35_f,K_35_e,K_34_f,K_34_e,K_39_f,K_39_e,K_36_f,K_36_e,K_33h_f,K_33h_e,K_35h_f,K_35h_e,K_34h_f,K_34h_e,K_39h_f,K_39h_e,K_36h_f,K_36h_e,K_33h_g,K_35h_g,K_34h_g,K_39h_g,K_36h_g,h,wi,w1,w2]
            have e:f i=[(ta:Int),(tb:Int)]:=by rw [hfi];rfl
            exact ⟨i + 1,_,⟨by omega,fin0 _ (G.length + 3) (by simp) (fun j hj hne=>by rw [List.getElem?_append_left (by simpa using hj),List.getElem?_set_ne fun e=>hne e.symm]) (by rw [rS,e];rfl) (fun _=>⟨by omega,by rw [e,List.getElem?_append_right (by simp)];simp⟩)⟩,by omega,rfl,rfl⟩
      · exfalso
        have:=hi8.1
        simp at this
    · have e:i=n:=by omega
      subst e
      obtain ⟨R,hR⟩:∃ R,R=listB (rchB nx 0 (-1)):=⟨_,rfl⟩
      have rbl:(rchB nx 0 (-1)).length=i:=by simp [rchB,hxn]
      have R8:R.length≤8:=by
        have:=numsOf_len (fun k=>(rchB nx 0 (-1))[k]?.getD false) (rchB nx 0 (-1)).length
        rw [hR,listB];omega
      refine W_run mixed ⟨[K_33,K_35,K_34,K_39,K_36],[K_33h,K_35h,K_34h,K_39h,K_36h],[],85,0,[0,1,2,3,4,5,6,7,8,9,11,13,15,19,27,28,29,30,34,35,36,37,47,62,63,64,65,71,72,73,74,82],[19,30,37,47,65,74,82]⟩ (fun | 5=>[0,1,2,3,5,4,6] | _=>[]) (by kernel_rfl) ?_
      simp only [stripX,stripOps,pickOps]
      simp [K_33_f,K_33_e,K_35_f,K_35_e,K_34_f,K_34_e,K_39_f,K_39_e,K_36_f,K_36_e,K_33h_f,K_33h_e,K_35h_f,K_35h_e,K_34h_f,K_34h_e,K_39h_f,K_39h_e,K_36h_f,K_36h_e,K_33h_g,K_35h_g,K_34h_g,K_39h_g,K_36h_g,h,hn1,hp2,← hR,rbl]
      refine ⟨by omega, ?_⟩
      obtain ⟨fw,hfw⟩:∃ fw,fw=forthL nx:=⟨_,rfl⟩
      have fwl:fw.length=i:=by rw [hfw,forth_len,hxn]
      have fwo:okNext fw:=by rw [hfw];exact forth_ok hn1
      have cl:=q.close (K:=[]) (fun j hj=>absurd hj List.not_mem_nil) fwl fun j hj=>by rw [hf,hfw]
      rw [lH] at cl
      have Rm:∀ x,x∈R ↔ Rch nx 0 (-1) x:=fun x=>by
        rw [hR,listB_rchB]
        exact ⟨fun h=>h.2.2,fun h=>by have:=h.rng hn1 (by omega);exact ⟨this.1,this.2,h⟩⟩
      refine W_loopF (α:=Nat) (fun j=>[(7,.d (dIntSS fw)),(62,.d (dIntS R)),(63,.d (.int .i64 R.length)),(64,.d (.int .i64 j))]) (fun _=>[]) (fun j=>j≤R.length∧∀ k∈R.take j,¬ Cyc nx k) (fun j=>R.length - j) 0 [] ?_ ⟨Nat.zero_le _,fun k hk=>absurd hk (by simp)⟩ ?_
      · simp
        exact cl
      rintro j ⟨hj,hc⟩
      by_cases hjl:j < R.length
      · obtain ⟨k,hk⟩:∃ k,k=R[j]?.getD 0:=⟨_,rfl⟩
        have k0:=hk.symm
        have k1:∀ h:j < R.length,R[j]=k:=fun h=>by rw [hk,List.getElem?_eq_getElem h];rfl
        have hkR:k∈R:=by rw [← k1 hjl];exact List.getElem_mem hjl
        have hkr:=((Rm k).1 hkR).rng hn1 (by omega)
        have wj:IntKind.i64.wrap ((j:Int) + 1)=((j + 1:Nat):Int):=by rw [wrap_id] <;> omega
        obtain ⟨kn,rfl⟩:=Int.eq_ofNat_of_zero_le hkr.1
        have hkn:kn < i:=by omega
        obtain ⟨fk,hfk⟩:∃ fk,fk=fw[kn]?.getD default:=⟨_,rfl⟩
        have fk0:fw[kn]?.getD []=fk:=hfk.symm
        have fk1:∀ h:kn < fw.length,fw[kn]=fk:=fun h=>by rw [hfk,List.getElem?_eq_getElem h];rfl
        have fkr:=okNext_get fwo kn
        rw [← hfk] at fkr
        refine W_run mixed ⟨[K_33,K_35,K_34,K_39,K_36],[K_33h,K_35h,K_34h,K_39h,K_36h],[],85,0,[0,1,2,3,4,5,6,7,8,9,11,13,15,19,27,28,29,30,34,35,36,37,47,62,63,64,65,71,72,73,74,82],[19,30,37,47,65,74,82]⟩ (fun | 5=>[0,1,2,3,5,4,6] | _=>[]) (by kernel_rfl) ?_
        simp only [stripX,stripOps,pickOps]
        simp [K_33_f,K_33_e,K_35_f,K_35_e,K_34_f,K_34_e,K_39_f,K_39_e,K_36_f,K_36_e,K_33h_f,K_33h_e,K_35h_f,K_35h_e,K_34h_f,K_34h_e,K_39h_f,K_39h_e,K_36h_f,K_36h_e,K_33h_g,K_35h_g,K_34h_g,K_39h_g,K_36h_g,hjl,k0,k1,fk0,fk1,fwl,hkn]
        refine W_loopA (α:=Nat) (fun a=>[(7,.d (dIntSS fw)),(13,.d (.int .i64 kn)),(62,.d (dIntS R)),(63,.d (.int .i64 R.length)),(64,.d (.int .i64 j)),(71,.d (dIntS fk)),(72,.d (.int .i64 fk.length)),(73,.d (.int .i64 a))]) (fun _=>[])
          (fun a=>a≤fk.length∧∀ t∈fk.take a,¬ Rch fw t (-1) kn) (fun a=>fk.length - a) 0 ?_ ⟨Nat.zero_le _,fun t ht=>absurd ht (by simp)⟩ ?_
        · simp
        rintro a ⟨ha,hca⟩
        by_cases hal:a < fk.length
        · obtain ⟨t,ht⟩:∃ t,t=fk[a]?.getD 0:=⟨_,rfl⟩
          have t0:=ht.symm
          have t1:∀ h:a < fk.length,fk[a]=t:=fun h=>by rw [ht,List.getElem?_eq_getElem h];rfl
          have htf:t∈fk:=by rw [← t1 hal];exact List.getElem_mem hal
          obtain ⟨s0,s1⟩:=fkr.2 t htf
          have wa:IntKind.i64.wrap ((a:Int) + 1)=((a + 1:Nat):Int):=by rw [wrap_id] <;> omega
          obtain ⟨bits,hbits⟩:∃ bits,bits=rchB fw t (-1):=⟨_,rfl⟩
          have bl:bits.length=i:=by rw [hbits];simp [rchB,fwl]
          obtain ⟨bt,hbt⟩:∃ bt,bt=bits[kn]?.getD false:=⟨_,rfl⟩
          have bt0:=hbt.symm
          have bt1:∀ h:kn < bits.length,bits[kn]=bt:=fun h=>by rw [hbt,List.getElem?_eq_getElem h];rfl
          have hbr:bt=true ↔ Rch fw t (-1) kn:=by rw [hbt,hbits];exact rchB_get (by omega)
          cases bt with
          | true =>
            have hcy:Cyc nx kn:=⟨t,by rw [Int.toNat_natCast,← hfw,← hfk];exact htf,by rw [← hfw];exact hbr.1 rfl⟩
            have hnr:¬ Red nx:=fun hr=>hr kn ((Rm kn).1 hkR) hcy
            have er:rdR F=.tup [.d (.bool false),.d (.bool true)]:=by
              rw [hnx] at hnr
              simp [rdR,rdB,hg,hnr]
            rw [er]
            refine W_run mixed ⟨[K_33,K_35,K_34,K_39,K_36],[K_33h,K_35h,K_34h,K_39h,K_36h],[],85,0,[0,1,2,3,4,5,6,7,8,9,11,13,15,19,27,28,29,30,34,35,36,37,47,62,63,64,65,71,72,73,74,82],[19,30,37,47,65,74,82]⟩ (fun | 5=>[0,1,2,3,5,4,6] | _=>[]) (by kernel_rfl) ?_
            simp only [stripX,stripOps,pickOps]
            simp [K_33_f,K_33_e,K_35_f,K_35_e,K_34_f,K_34_e,K_39_f,K_39_e,K_36_f,K_36_e,K_33h_f,K_33h_e,K_35h_f,K_35h_e,K_34h_f,K_34h_e,K_39h_f,K_39h_e,K_36h_f,K_36h_e,K_33h_g,K_35h_g,K_34h_g,K_39h_g,K_36h_g,hal,t0,t1,fwo,s0,s1,← hbits,bl,bt0,bt1,hkn]
          | false =>
            refine W_run mixed ⟨[K_33,K_35,K_34,K_39,K_36],[K_33h,K_35h,K_34h,K_39h,K_36h],[],85,0,[0,1,2,3,4,5,6,7,8,9,11,13,15,19,27,28,29,30,34,35,36,37,47,62,63,64,65,71,72,73,74,82],[19,30,37,47,65,74,82]⟩ (fun | 5=>[0,1,2,3,5,4,6] | _=>[]) (by kernel_rfl) ?_
            simp only [stripX,stripOps,pickOps]
            simp [K_33_f,K_33_e,K_35_f,K_35_e,K_34_f,K_34_e,K_39_f,K_39_e,K_36_f,K_36_e,K_33h_f,K_33h_e,K_35h_f,K_35h_e,K_34h_f,K_34h_e,K_39h_f,K_39h_e,K_36h_f,K_36h_e,K_33h_g,K_35h_g,K_34h_g,K_39h_g,K_36h_g,hal,t0,t1,fwo,s0,s1,← hbits,bl,bt0,bt1,hkn,wa]
            refine ⟨a + 1,⟨by omega,fun y hy=>?_⟩,by omega,rfl⟩
            rw [List.take_succ_eq_append_getElem hal,t1 hal] at hy
            rcases List.mem_append.1 hy with hy | hy
            · exact hca y hy
            · rw [List.mem_singleton.1 hy]
              exact fun q=>by have:=hbr.2 q;cases this
        · rw [List.take_of_length_le (by omega)] at hca
          refine W_run mixed ⟨[K_33,K_35,K_34,K_39,K_36],[K_33h,K_35h,K_34h,K_39h,K_36h],[],85,0,[0,1,2,3,4,5,6,7,8,9,11,13,15,19,27,28,29,30,34,35,36,37,47,62,63,64,65,71,72,73,74,82],[19,30,37,47,65,74,82]⟩ (fun | 5=>[0,1,2,3,5,4,6] | _=>[]) (by kernel_rfl) ?_
          simp only [stripX,stripOps,pickOps]
          simp [K_33_f,K_33_e,K_35_f,K_35_e,K_34_f,K_34_e,K_39_f,K_39_e,K_36_f,K_36_e,K_33h_f,K_33h_e,K_35h_f,K_35h_e,K_34h_f,K_34h_e,K_39h_f,K_39h_e,K_36h_f,K_36h_e,K_33h_g,K_35h_g,K_34h_g,K_39h_g,K_36h_g,hal,wj]
          refine ⟨j + 1,⟨by omega,fun y hy=>?_⟩,by omega,[],by simp,rfl,DLe.refl _⟩
          rw [List.take_succ_eq_append_getElem hjl,k1 hjl] at hy
          rcases List.mem_append.1 hy with hy | hy
          · exact hc y hy
          · rw [List.mem_singleton.1 hy]
            rintro ⟨t,h1,h2⟩
            rw [Int.toNat_natCast,← hfw,← hfk] at h1
            rw [← hfw] at h2
            exact hca t h1 h2
      · rw [List.take_of_length_le (by omega)] at hc
        have hre:Red nx:=fun k hk=>hc k ((Rm k).2 hk)
        have er:rdR F=.tup [.d (.bool true),.d (.bool true)]:=by
          rw [hnx] at hre
          simp [rdR,rdB,hg,hre]
        rw [er]
        refine W_run mixed ⟨[K_33,K_35,K_34,K_39,K_36],[K_33h,K_35h,K_34h,K_39h,K_36h],[],85,0,[0,1,2,3,4,5,6,7,8,9,11,13,15,19,27,28,29,30,34,35,36,37,47,62,63,64,65,71,72,73,74,82],[19,30,37,47,65,74,82]⟩ (fun | 5=>[0,1,2,3,5,4,6] | _=>[]) (by kernel_rfl) ?_
        simp only [stripX,stripOps,pickOps]
        simp [K_33_f,K_33_e,K_35_f,K_35_e,K_34_f,K_34_e,K_39_f,K_39_e,K_36_f,K_36_e,K_33h_f,K_33h_e,K_35h_f,K_35h_e,K_34h_f,K_34h_e,K_39h_f,K_39h_e,K_36h_f,K_36h_e,K_33h_g,K_35h_g,K_34h_g,K_39h_g,K_36h_g,hjl]
noncomputable def K_25:Ent Tryz.prog:=Ent.p1 (α:=Func) 25 (fun F=>Enc.good F) (fun F=>rdR F) (fun F hc=>rdI_c F hc)
theorem K_25_f:K_25.f=25:=rfl
theorem K_25_e (F0:Int) (F1:List Block):K_25.e [.agg [.d (.int .i64 F0),.d (dBlockS F1)]]=some (Enc.good (Func.mk F0 F1),rdR (Func.mk F0 F1),[]):=by unfold K_25;exact Ent.p1_eq (α:=Func) (Func.mk F0 F1)
noncomputable def K_25h:EntH Tryz.prog:=EntH.pk1 (α:=Func) 25 (fun F=>Enc.good F) (fun F=>rdR F) (fun F=>[]) (fun F hc=>PureP.ans (rdI_c F hc))
theorem K_25h_f:K_25h.f=25:=rfl
theorem K_25h_g:K_25h.gro=true:=rfl
theorem K_25h_e {x1:V} {H:Heap}:K_25h.e [x1] H=guardR ((decA (α:=Func) H x1).1) (peekR (Enc.good (decA (α:=Func) H x1).2) (rdR (decA (α:=Func) H x1).2) ([]) H):=rfl
end Go.Proofs.YthafdegfjadijaaGreat
