/- The program's NextBlocks, closed. No condition. -/
import Derived.Test.YthafdegfjadijaaGreatQS145
namespace Go.Proofs.YthafdegfjadijaaGreat
set_option maxRecDepth 100000
set_option linter.unusedSimpArgs false
set_option linter.unusedVariables false
structure Rw (H G:Heap) (n i:Nat) (f:Nat→List Int) (rows:List (List V)):Prop where
  row:G[H.length]? = some (.row 1 rows)
  len:rows.length=n
  next:∀ j,i≤j→j < n→rows[j]? = some [.d .nilsl]
  done:∀ j,j < i→∃ id,rows[j]? = some [sv id (f j)]∧(f j ≠ []→H.length < id∧G[id]? = some (.row 1 (rI (f j))))
  only:Only [] H G
set_option maxHeartbeats 4000000 in
theorem nextO (H : Heap) (v : View) (hv : fewJumps v.blocks_) : CallsD Tryz.prog 35 [.d (.rp 5 (dView v))] H fun r H' => r = .sl H.length 1 0 v.blocks_.length ∧ ∃ rows, Rw H H' v.blocks_.length v.blocks_.length (fun j => tos (v.blocks_[j]?.getD default)) rows := by
  obtain ⟨h8,h2⟩:=hv
  have e1:¬ (140737488355328:Int) < v.blocks_.length:=by omega
  obtain ⟨n,hn⟩:∃ n,n=v.blocks_.length:=⟨_,rfl⟩
  have f1:(n:Int) * 24≤140737488355328:=by omega
  have f2:(n:Int)≤140737488355328:=by omega
  rw [← hn]
  refine calls_of Tryz.func35 en_35 rfl (of_decide_eq_true rfl) (W_run mixed ⟨[],[],[],47,H.length,[0,2,3,4,5,7,19,20,21,22,27,28,29,30],[22,30]⟩ (fun | 8=>[0,1,2,3,4,6,5,7,8,9,10,11] | _=>[]) (by kernel_rfl) ?_)
  simp only [Tryz.f35,stripX,stripOps,pickOps]
  simp [-V.flat,-V.one,one_int,one_bool,one_str,one_nilp,one_rp,one_nilsl,one_ro,one_cl,one_nilf,one_nili,one_ifc,one_ptr,one_sl,one_clo,flat_d,flat_ptr,flat_sl,flat_clo,flat_agg,← hn,f1,f2]
  refine W_loopH (α:=Nat × Heap) (fun a=>[(3,.sl H.length 1 0 n),(19,.d (dBlockS v.blocks_)),(20,.d (.int .i64 n)),(21,.d (.int .i64 a.1))])
    (fun a=>a.2) (fun a=>a.1≤n∧∃ rows,Rw H a.2 n a.1 (fun j=>tos (v.blocks_[j]?.getD default)) rows) (fun a=>n - a.1) (0,H++[.row 1 (List.replicate n [.d .nilsl])]) ?_ ⟨Nat.zero_le _,List.replicate n [.d .nilsl],by simp,by simp,fun j _ hj=>by simp [hj],fun j hj=>absurd hj (Nat.not_lt_zero _),Only.app [] _ _⟩ ?_
  · simp
  rintro ⟨i,G⟩ ⟨hi,rows,q⟩
  dsimp only at hi q
  have lH:=(List.getElem?_eq_some_iff.1 q.row).1
  by_cases h:i < n
  · have hj:=h2 (v.blocks_[i]?.getD default) (by rw [List.getElem?_eq_getElem (by omega)];exact List.getElem_mem _)
    have hin:∀ js,(v.blocks_[i]?.getD default).jumps_=js→tos (v.blocks_[i]?.getD default)=js.map (·.to_):=fun js e=>by rw [tos,e]
    have w1:IntKind.i64.wrap 1=1:=by decide
    have w2:IntKind.i64.wrap 2=2:=by decide
    have wi:IntKind.i64.wrap ((i:Int) + 1)=((i + 1:Nat):Int):=by rw [wrap_id] <;> omega
    have hl:=q.len
    have hr:=q.row
    have ri:=q.next i (Nat.le_refl _) h
    have ri0:rows[i]?.getD []=[.d .nilsl]:=by rw [ri];rfl
    have ri1:∀ h:i < rows.length,rows[i]=[.d .nilsl]:=fun h=>Option.some.inj ((List.getElem?_eq_getElem h).symm.trans ri)
    have rR:∀ R:Heap,(G++R)[H.length]? = some (.row 1 rows):=fun R=>(List.getElem?_append_left lH).trans hr
    have sR:∀ (R:Heap) P,(G++R).set H.length P=G.set H.length P++R:=fun R P=>List.set_append_left _ _ lH
    have rS:∀ (R:Heap) P,(G.set H.length P++R)[H.length]? = some P:=fun R P=>by rw [List.getElem?_append_left (by simpa using lH),List.getElem?_set_self lH]
    have sS:∀ (R:Heap) P P',(G.set H.length P++R).set H.length P'=G.set H.length P'++R:=fun R P P'=>by rw [List.set_append_left _ _ (by simpa using lH),List.set_set]
    have key:∀ (G':Heap) (id:Nat),G.length≤G'.length→(∀ j,j < G.length→j ≠ H.length→G'[j]? = G[j]?)→G'[H.length]? = some (.row 1 (rows.set i [sv id (tos (v.blocks_[i]?.getD default))]))→(tos (v.blocks_[i]?.getD default) ≠ []→H.length < id∧G'[id]? = some (.row 1 (rI (tos (v.blocks_[i]?.getD default))))) →
        ∃ rows,Rw H G' n (i + 1) (fun j=>tos (v.blocks_[j]?.getD default)) rows:=fun G' id g1 g2 g3 g4=>by
      have gl:=q.only.len
      refine ⟨_,g3,by simpa using hl,fun j hj hjn=>?_,fun j hj=>?_,⟨by omega,fun j hj hn=>(g2 j (by omega) (by omega)).trans (q.only.at_ j hj hn)⟩⟩
      · rw [List.getElem?_set_ne (by omega)];exact q.next j (by omega) hjn
      · by_cases e:j=i
        · subst e
          exact ⟨id,List.getElem?_set_self (by omega),g4⟩
        · obtain ⟨id',p1,p2⟩:=q.done j (by omega)
          refine ⟨id',(List.getElem?_set_ne fun q=>e q.symm).trans p1,fun hne=>?_⟩
          obtain ⟨p3,p4⟩:=p2 hne
          exact ⟨p3,(g2 id' (List.getElem?_eq_some_iff.1 p4).1 (by omega)).trans p4⟩
    match hjs:(v.blocks_[i]?.getD default).jumps_,hj with
    | [],_ =>
      refine W_run mixed ⟨[],[],[],47,H.length,[0,2,3,4,5,7,19,20,21,22,27,28,29,30],[22,30]⟩ (fun | 8=>[0,1,2,3,4,6,5,7,8,9,10,11] | _=>[]) (by kernel_rfl) ?_
      simp only [stripX,stripOps,pickOps]
      simp [-V.flat,-V.one,one_int,one_bool,one_str,one_nilp,one_rp,one_nilsl,one_ro,one_cl,one_nilf,one_nili,one_ifc,one_ptr,one_sl,one_clo,flat_d,flat_ptr,flat_sl,flat_clo,flat_agg,h,hjs]
      refine ⟨by omega,W_rounds 1 (WR_succ ?_)⟩
      refine W_run mixed ⟨[],[],[],47,H.length,[0,2,3,4,5,7,19,20,21,22,27,28,29,30],[22,30]⟩ (fun | 8=>[0,1,2,3,4,6,5,7,8,9,10,11] | _=>[]) (by kernel_rfl) ?_
      simp only [stripX,stripOps,pickOps]
      simp [-V.flat,-V.one,one_int,one_bool,one_str,one_nilp,one_rp,one_nilsl,one_ro,one_cl,one_nilf,one_nili,one_ifc,one_ptr,one_sl,one_clo,flat_d,flat_ptr,flat_sl,flat_clo,flat_agg,h,hjs,wi]
      refine ⟨i + 1,_,⟨by omega,key _ 0 (by simp) (fun j hj _=>List.getElem?_append_left hj) ?_ fun hne=>absurd (hin _ hjs) hne⟩,by omega,rfl,rfl⟩
      rw [rR,hin _ hjs]
      have e:rows.set i [V.d .nilsl]=rows:=by
        rw [← ri1 (by omega)];exact List.set_getElem_self _
      exact (congrArg (fun r=>some (Place.row 1 r)) e).symm
    | [a],_ =>
      refine W_run mixed ⟨[],[],[],47,H.length,[0,2,3,4,5,7,19,20,21,22,27,28,29,30],[22,30]⟩ (fun | 8=>[0,1,2,3,4,6,5,7,8,9,10,11] | _=>[]) (by kernel_rfl) ?_
      simp only [stripX,stripOps,pickOps]
      simp [-V.flat,-V.one,one_int,one_bool,one_str,one_nilp,one_rp,one_nilsl,one_ro,one_cl,one_nilf,one_nili,one_ifc,one_ptr,one_sl,one_clo,flat_d,flat_ptr,flat_sl,flat_clo,flat_agg,h,hjs]
      refine ⟨by omega,W_rounds 2 (WR_succ ?_)⟩
      refine W_run mixed ⟨[],[],[],47,H.length,[0,2,3,4,5,7,19,20,21,22,27,28,29,30],[22,30]⟩ (fun | 8=>[0,1,2,3,4,6,5,7,8,9,10,11] | _=>[]) (by kernel_rfl) ?_
      simp only [stripX,stripOps,pickOps]
      simp [-V.flat,-V.one,one_int,one_bool,one_str,one_nilp,one_rp,one_nilsl,one_ro,one_cl,one_nilf,one_nili,one_ifc,one_ptr,one_sl,one_clo,flat_d,flat_ptr,flat_sl,flat_clo,flat_agg,h,hjs,w1,ri0,ri1,hl,rR,sR]
      refine WR_succ ?_
      refine W_run mixed ⟨[],[],[],47,H.length,[0,2,3,4,5,7,19,20,21,22,27,28,29,30],[22,30]⟩ (fun | 8=>[0,1,2,3,4,6,5,7,8,9,10,11] | _=>[]) (by kernel_rfl) ?_
      simp only [stripX,stripOps,pickOps]
      simp [-V.flat,-V.one,one_int,one_bool,one_str,one_nilp,one_rp,one_nilsl,one_ro,one_cl,one_nilf,one_nili,one_ifc,one_ptr,one_sl,one_clo,flat_d,flat_ptr,flat_sl,flat_clo,flat_agg,h,hjs,w1,wi,ri0,ri1,hl,rR,sR]
      refine ⟨i + 1,_,⟨by omega,key _ (G.length + 3) (by simp) (fun j hj hne=>by rw [List.getElem?_append_left (by simpa using hj),List.getElem?_set_ne fun e=>hne e.symm]) ?_ fun hne=>⟨by omega, ?_⟩⟩,by omega,rfl,rfl⟩
      · rw [rS,hin _ hjs];rfl
      · rw [List.getElem?_append_right (by simp),hin _ hjs];simp
    | [a,b],_ =>
      refine W_run mixed ⟨[],[],[],47,H.length,[0,2,3,4,5,7,19,20,21,22,27,28,29,30],[22,30]⟩ (fun | 8=>[0,1,2,3,4,6,5,7,8,9,10,11] | _=>[]) (by kernel_rfl) ?_
      simp only [stripX,stripOps,pickOps]
      simp [-V.flat,-V.one,one_int,one_bool,one_str,one_nilp,one_rp,one_nilsl,one_ro,one_cl,one_nilf,one_nili,one_ifc,one_ptr,one_sl,one_clo,flat_d,flat_ptr,flat_sl,flat_clo,flat_agg,h,hjs]
      refine ⟨by omega,W_rounds 3 (WR_succ ?_)⟩
      refine W_run mixed ⟨[],[],[],47,H.length,[0,2,3,4,5,7,19,20,21,22,27,28,29,30],[22,30]⟩ (fun | 8=>[0,1,2,3,4,6,5,7,8,9,10,11] | _=>[]) (by kernel_rfl) ?_
      simp only [stripX,stripOps,pickOps]
      simp [-V.flat,-V.one,one_int,one_bool,one_str,one_nilp,one_rp,one_nilsl,one_ro,one_cl,one_nilf,one_nili,one_ifc,one_ptr,one_sl,one_clo,flat_d,flat_ptr,flat_sl,flat_clo,flat_agg,h,hjs,w1,ri0,ri1,hl,rR,sR]
      refine WR_succ ?_
      refine W_run mixed ⟨[],[],[],47,H.length,[0,2,3,4,5,7,19,20,21,22,27,28,29,30],[22,30]⟩ (fun | 8=>[0,1,2,3,4,6,5,7,8,9,10,11] | _=>[]) (by kernel_rfl) ?_
      simp only [stripX,stripOps,pickOps]
      simp [-V.flat,-V.one,one_int,one_bool,one_str,one_nilp,one_rp,one_nilsl,one_ro,one_cl,one_nilf,one_nili,one_ifc,one_ptr,one_sl,one_clo,flat_d,flat_ptr,flat_sl,flat_clo,flat_agg,h,hjs,w1,w2,ri0,ri1,hl,rR,sR,rS,sS]
      refine WR_succ ?_
      refine W_run mixed ⟨[],[],[],47,H.length,[0,2,3,4,5,7,19,20,21,22,27,28,29,30],[22,30]⟩ (fun | 8=>[0,1,2,3,4,6,5,7,8,9,10,11] | _=>[]) (by kernel_rfl) ?_
      simp only [stripX,stripOps,pickOps]
      simp [-V.flat,-V.one,one_int,one_bool,one_str,one_nilp,one_rp,one_nilsl,one_ro,one_cl,one_nilf,one_nili,one_ifc,one_ptr,one_sl,one_clo,flat_d,flat_ptr,flat_sl,flat_clo,flat_agg,h,hjs,w1,w2,wi,ri0,ri1,hl,rR,sR,rS,sS]
      refine ⟨i + 1,_,⟨by omega,key _ (G.length + 6) (by simp) (fun j hj hne=>by rw [List.getElem?_append_left (by simpa using hj),List.getElem?_set_ne fun e=>hne e.symm]) ?_ fun hne=>⟨by omega, ?_⟩⟩,by omega,rfl,rfl⟩
      · rw [rS,hin _ hjs];rfl
      · rw [List.getElem?_append_right (by simp),hin _ hjs];simp
  · have e:i=n:=by omega
    subst e
    refine W_run mixed ⟨[],[],[],47,H.length,[0,2,3,4,5,7,19,20,21,22,27,28,29,30],[22,30]⟩ (fun | 8=>[0,1,2,3,4,6,5,7,8,9,10,11] | _=>[]) (by kernel_rfl) ?_
    simp only [stripX,stripOps,pickOps]
    simp [-V.flat,-V.one,one_int,one_bool,one_str,one_nilp,one_rp,one_nilsl,one_ro,one_cl,one_nilf,one_nili,one_ifc,one_ptr,one_sl,one_clo,flat_d,flat_ptr,flat_sl,flat_clo,flat_agg,h,retQ]
    exact ⟨_,_,Fin.same q.only.len,rfl,rows,q⟩
def co (l:List Int):List Int:=match l with | [a,b]=>if a=b then [a] else [a,b] | l=>l
def coR (H:Heap) (id:Nat) (l:List Int) (r:V) (H':Heap):Prop:=r=sv id (co l)∧(l ≠ []→∃ row,H'[id]? = some (.row 1 row)∧row.take (co l).length=rI (co l))∧H'.length=H.length
theorem compact_own (H:Heap) (id:Nat) (l:List Int) (h2:l.length≤2) (h:l ≠ []→H[id]? = some (.row 1 (rI l))):CallsD Tryz.prog 46 [sv id l] H fun r H'=>coR H id l r H':=by
  have w1:IntKind.i64.wrap 1=1:=by decide
  have w0:IntKind.i64.wrap 0=0:=by decide
  have w2:IntKind.i64.wrap 2=2:=by decide
  match l,h2 with
  | [],_ =>
    refine calls_of Tryz.func46 en_46 rfl (of_decide_eq_true rfl) (W_runQ mixed [14] ⟨[],[],[],61,H.length,[0,2,3,4,5,8,13,25,32,44],[8,13,25,32,44]⟩ (fun | 6=>[0,1,2,4,5,6,7,3,8,9] | 11=>[0,1,2,4,5,6,7,3,8,9] | _=>[]) (by kernel_rfl) ?_)
    simp only [Tryz.f46,stripQ,skip_cons,skip_nil,Nat.reduceBEq,Bool.or_false,Bool.or_self,Bool.or_true,Bool.true_or,cond_true,cond_false,stripX,stripOps,pickOps]
    simp [-V.flat,-V.one,one_int,one_bool,one_str,one_nilp,one_rp,one_nilsl,one_ro,one_cl,one_nilf,one_nili,one_ifc,one_ptr,one_sl,one_clo,flat_d,flat_ptr,flat_sl,flat_clo,flat_agg,sv,retQ]
    exact ⟨_,_,Fin.same (Nat.le_refl _),rfl,fun h=>absurd rfl h,rfl⟩
  | [a],_ =>
    refine calls_of Tryz.func46 en_46 rfl (of_decide_eq_true rfl) (W_runQ mixed [14] ⟨[],[],[],61,H.length,[0,2,3,4,5,8,13,25,32,44],[8,13,25,32,44]⟩ (fun | 6=>[0,1,2,4,5,6,7,3,8,9] | 11=>[0,1,2,4,5,6,7,3,8,9] | _=>[]) (by kernel_rfl) ?_)
    simp only [Tryz.f46,stripQ,skip_cons,skip_nil,Nat.reduceBEq,Bool.or_false,Bool.or_self,Bool.or_true,Bool.true_or,cond_true,cond_false,stripX,stripOps,pickOps]
    simp [-V.flat,-V.one,one_int,one_bool,one_str,one_nilp,one_rp,one_nilsl,one_ro,one_cl,one_nilf,one_nili,one_ifc,one_ptr,one_sl,one_clo,flat_d,flat_ptr,flat_sl,flat_clo,flat_agg,sv,retQ]
    exact ⟨_,_,Fin.same (Nat.le_refl _),rfl,fun _=>⟨_,h (by simp),rfl⟩,rfl⟩
  | [a,b],_ =>
    have hr:=h (by simp)
    have lH:=(List.getElem?_eq_some_iff.1 hr).1
    by_cases e:a=b
    · subst e
      refine calls_of Tryz.func46 en_46 rfl (of_decide_eq_true rfl) (W_runQ mixed [14] ⟨[],[],[],61,H.length,[0,2,3,4,5,8,13,25,32,44],[8,13,25,32,44]⟩ (fun | 6=>[0,1,2,4,5,6,7,3,8,9] | 11=>[0,1,2,4,5,6,7,3,8,9] | _=>[]) (by kernel_rfl) ?_)
      simp only [Tryz.f46,stripQ,skip_cons,skip_nil,Nat.reduceBEq,Bool.or_false,Bool.or_self,Bool.or_true,Bool.true_or,cond_true,cond_false,stripX,stripOps,pickOps]
      simp [-V.flat,-V.one,one_int,one_bool,one_str,one_nilp,one_rp,one_nilsl,one_ro,one_cl,one_nilf,one_nili,one_ifc,one_ptr,one_sl,one_clo,flat_d,flat_ptr,flat_sl,flat_clo,flat_agg,sv,w1]
      refine W_rounds 1 (WR_succ ?_)
      refine W_runQ mixed [14] ⟨[],[],[],61,H.length,[0,2,3,4,5,8,13,25,32,44],[8,13,25,32,44]⟩ (fun | 6=>[0,1,2,4,5,6,7,3,8,9] | 11=>[0,1,2,4,5,6,7,3,8,9] | _=>[]) (by kernel_rfl) ?_
      simp only [stripQ,skip_cons,skip_nil,Nat.reduceBEq,Bool.or_false,Bool.or_self,Bool.or_true,Bool.true_or,cond_true,cond_false,stripX,stripOps,pickOps]
      simp [-V.flat,-V.one,one_int,one_bool,one_str,one_nilp,one_rp,one_nilsl,one_ro,one_cl,one_nilf,one_nili,one_ifc,one_ptr,one_sl,one_clo,flat_d,flat_ptr,flat_sl,flat_clo,flat_agg,sv,w0,w1,hr]
      refine W_rounds 1 (WR_succ ?_)
      refine W_runQ mixed [14] ⟨[],[],[],61,H.length,[0,2,3,4,5,8,13,25,32,44],[8,13,25,32,44]⟩ (fun | 6=>[0,1,2,4,5,6,7,3,8,9] | 11=>[0,1,2,4,5,6,7,3,8,9] | _=>[]) (by kernel_rfl) ?_
      simp only [stripQ,skip_cons,skip_nil,Nat.reduceBEq,Bool.or_false,Bool.or_self,Bool.or_true,Bool.true_or,cond_true,cond_false,stripX,stripOps,pickOps]
      simp [-V.flat,-V.one,one_int,one_bool,one_str,one_nilp,one_rp,one_nilsl,one_ro,one_cl,one_nilf,one_nili,one_ifc,one_ptr,one_sl,one_clo,flat_d,flat_ptr,flat_sl,flat_clo,flat_agg,sv,w0,w1,hr]
      refine W_clear (os:=[_,_,_]) (u:=56) (by simp) (by decide) ⟨rfl,rfl,rfl⟩ ti_31 ti_3 ?_
      simp
      refine ⟨id,1,⟨rfl,rfl⟩,_,by simp,hr, ?_⟩
      simp [retQ]
      exact ⟨_,_,Fin.same (by simp),by simp [co,sv],fun _=>⟨_,List.getElem?_set_self lH,by simp [co]⟩,by simp⟩
    · have e':¬ b=a:=fun q=>e q.symm
      refine calls_of Tryz.func46 en_46 rfl (of_decide_eq_true rfl) (W_runQ mixed [14] ⟨[],[],[],61,H.length,[0,2,3,4,5,8,13,25,32,44],[8,13,25,32,44]⟩ (fun | 6=>[0,1,2,4,5,6,7,3,8,9] | 11=>[0,1,2,4,5,6,7,3,8,9] | _=>[]) (by kernel_rfl) ?_)
      simp only [Tryz.f46,stripQ,skip_cons,skip_nil,Nat.reduceBEq,Bool.or_false,Bool.or_self,Bool.or_true,Bool.true_or,cond_true,cond_false,stripX,stripOps,pickOps]
      simp [-V.flat,-V.one,one_int,one_bool,one_str,one_nilp,one_rp,one_nilsl,one_ro,one_cl,one_nilf,one_nili,one_ifc,one_ptr,one_sl,one_clo,flat_d,flat_ptr,flat_sl,flat_clo,flat_agg,sv,w1]
      refine W_rounds 2 (WR_succ ?_)
      refine W_runQ mixed [14] ⟨[],[],[],61,H.length,[0,2,3,4,5,8,13,25,32,44],[8,13,25,32,44]⟩ (fun | 6=>[0,1,2,4,5,6,7,3,8,9] | 11=>[0,1,2,4,5,6,7,3,8,9] | _=>[]) (by kernel_rfl) ?_
      simp only [stripQ,skip_cons,skip_nil,Nat.reduceBEq,Bool.or_false,Bool.or_self,Bool.or_true,Bool.true_or,cond_true,cond_false,stripX,stripOps,pickOps]
      simp [-V.flat,-V.one,one_int,one_bool,one_str,one_nilp,one_rp,one_nilsl,one_ro,one_cl,one_nilf,one_nili,one_ifc,one_ptr,one_sl,one_clo,flat_d,flat_ptr,flat_sl,flat_clo,flat_agg,sv,w0,w1,w2,hr,e,e']
      refine WR_succ ?_
      refine W_runQ mixed [14] ⟨[],[],[],61,H.length,[0,2,3,4,5,8,13,25,32,44],[8,13,25,32,44]⟩ (fun | 6=>[0,1,2,4,5,6,7,3,8,9] | 11=>[0,1,2,4,5,6,7,3,8,9] | _=>[]) (by kernel_rfl) ?_
      simp only [stripQ,skip_cons,skip_nil,Nat.reduceBEq,Bool.or_false,Bool.or_self,Bool.or_true,Bool.true_or,cond_true,cond_false,stripX,stripOps,pickOps]
      simp [-V.flat,-V.one,one_int,one_bool,one_str,one_nilp,one_rp,one_nilsl,one_ro,one_cl,one_nilf,one_nili,one_ifc,one_ptr,one_sl,one_clo,flat_d,flat_ptr,flat_sl,flat_clo,flat_agg,sv,w0,w1,w2,hr,e,e',retQ]
      exact ⟨_,_,Fin.same (Nat.le_refl _),by simp [co,e,sv],fun _=>⟨_,hr,by simp [co,e]⟩,rfl⟩
theorem so_len {l:List Int} (h:l.length≤2):(so l).length=l.length:=by
  match l,h with
  | [],_=>rfl
  | [a],_=>rfl
  | [a,b],_=>unfold so so2;dsimp only;split <;> rfl
theorem co_so {l : List Int} (h : l.length ≤ 2) : co (so l) = l.foldl putL [] := by
  match l,h with
  | [],_=>rfl
  | [a],_=>rfl
  | [a, b], _ =>
    simp only [List.foldl,putL,so,so2]
    by_cases h1:b < a
    · have h2:¬ b=a:=by omega
      have h3:¬ a < b:=by omega
      have h4:¬ a=b:=by omega
      simp [co,h1,h2,h3,h4]
    · by_cases h2:a=b
      · subst h2;simp [co]
      · have h3:a < b:=by omega
        simp [co,h1,h2,h3]
theorem sv_so {id:Nat} {l:List Int} (h:l.length≤2):sv id (so l)=sv id l:=by
  match l,h with
  | [],_=>rfl
  | [a],_=>rfl
  | [a,b],_=>unfold so so2;dsimp only;split <;> rfl
theorem rd_sv {H : Heap} {id : Nat} {l : List Int} (h : l ≠ [] → ∃ row, H[id]? = some (.row 1 row) ∧ row.take l.length = rI l) : Rd1 H (sv id l) (.d (dIntS l)) := by
  cases l with
  | nil=>exact Rd1.nilL
  | cons a l =>
    obtain ⟨row,h1,h2⟩:=h (by simp)
    refine Rd1.dec (α:=List Int) ?_
    have hd:(Dec.dec (α:=List Int) H [.sl id 1 0 (l.length + 1)]).1∧(Dec.dec (α:=List Int) H [.sl id 1 0 (l.length + 1)]).2=a :: l:=by
      rw [dec_sl,h1]
      have e:(row.drop 0).take (l.length + 1)=rI (a :: l):=by rw [List.drop_zero];exact h2
      simp only [e]
      refine ⟨⟨⟨rfl,trivial⟩,by have:=congrArg List.length h2;simp [rI] at this ⊢;omega,fun r hr=>?_⟩, ?_⟩
      · obtain ⟨x,hx,rfl⟩:=List.mem_map.1 hr
        exact trivial
      · rw [rI,List.map_map]
        exact List.map_id' (a :: l)
    exact ⟨⟨rfl,hd.1⟩,hd.2⟩
set_option maxHeartbeats 4000000 in
theorem nbI_own (F:Func) (k:Nat) (hF:Enc.good F) (hg:goodF F=true) (hk:k < F.blocks_.length) (hbi:inR (k:Int) 0 (IntKind.i64.wrap (F.blocks_.length - 1))=true):CallsD Tryz.prog 16 [vFunc F,.d (.int .i64 k)] [] fun r H'=>Rd1 H' r (.tup [.d (dIntS (nextS F k)),.d (.bool true)]):=by
  obtain ⟨hv1,hn1,hp1⟩:=good_flow hg
  have hvb:(viewD F).blocks_=F.blocks_:=viewD_blocks F
  refine calls_of Tryz.func16 en_16 rfl (of_decide_eq_true rfl) (W_run mixed ⟨[K_33,K_44],[K_33h,K_44h],[35,45,46],27,0,[0,1,2,4,5,6,7,17],[12,17]⟩ (fun _=>[]) (by kernel_rfl) ?_)
  simp only [Tryz.f16,stripX,stripOps,pickOps]
  simp [K_33_f,K_33_e,K_44_f,K_44_e,K_33h_f,K_33h_e,K_44h_f,K_44h_e,K_33h_g,K_44h_g,-V.flat,-V.one,one_int,one_bool,one_str,one_nilp,one_rp,one_nilsl,one_ro,one_cl,one_nilf,one_nili,one_ifc,one_ptr,one_sl,one_clo,flat_d,flat_ptr,flat_sl,flat_clo,flat_agg,hF,viewV_t hg,viewD_blocks,hbi]
  rw [aft_call]
  refine (nextO _ (viewD F) (by rw [hvb];exact hv1)).mono ?_
  rw [hvb]
  rintro r G ⟨rfl,rows,q⟩
  obtain ⟨l,hl⟩:∃ l,l=tos (F.blocks_[k]?.getD default):=⟨_,rfl⟩
  have hl2:l.length≤2:=by
    have:=(okNext_get hn1 k).1
    rw [nextL_get] at this
    rw [hl];exact this
  obtain ⟨id,p1,p2⟩:=q.done k hk
  rw [← hl] at p1 p2
  have rl:=q.len
  have rr:G[1]? = some (.row 1 rows):=q.row
  have r0:rows[k]?.getD []=[sv id l]:=by rw [p1];rfl
  have r1:∀ h:k < rows.length,rows[k]=[sv id l]:=fun h=>Option.some.inj ((List.getElem?_eq_getElem h).symm.trans p1)
  have so1:(sv id l).one=true:=by cases l <;> rfl
  simp [K_33_f,K_33_e,K_44_f,K_44_e,K_33h_f,K_33h_e,K_44h_f,K_44h_e,K_33h_g,K_44h_g,-V.flat,-V.one,one_int,one_bool,one_str,one_nilp,one_rp,one_nilsl,one_ro,one_cl,one_nilf,one_nili,one_ifc,one_ptr,one_sl,one_clo,flat_d,flat_ptr,flat_sl,flat_clo,flat_agg,rl,rr,r0,r1,hk,so1]
  rw [aft_call]
  refine (sort_own G id l hl2 fun hne=>(p2 hne).2).mono ?_
  rintro r G2 ⟨rfl,e2⟩
  have hso:so l ≠ []→l ≠ []:=fun h e=>h (by rw [e];rfl)
  have h2:so l ≠ []→G2[id]? = some (.row 1 (rI (so l))):=fun h=>by
    rw [e2,if_neg (hso h)]
    exact List.getElem?_set_self (List.getElem?_eq_some_iff.1 (p2 (hso h)).2).1
  simp [K_33_f,K_33_e,K_44_f,K_44_e,K_33h_f,K_33h_e,K_44h_f,K_44h_e,K_33h_g,K_44h_g,-V.flat,-V.one,one_int,one_bool,one_str,one_nilp,one_rp,one_nilsl,one_ro,one_cl,one_nilf,one_nili,one_ifc,one_ptr,one_sl,one_clo,flat_d,flat_ptr,flat_sl,flat_clo,flat_agg,so1]
  rw [← sv_so (id:=id) hl2,aft_call]
  refine (compact_own G2 id (so l) (by rw [so_len hl2];exact hl2) h2).mono ?_
  rintro r G3 ⟨rfl,h3,h4⟩
  have so3:∀ l,(sv id l).one=true:=fun l=>by cases l <;> rfl
  simp [K_33_f,K_33_e,K_44_f,K_44_e,K_33h_f,K_33h_e,K_44h_f,K_44h_e,K_33h_g,K_44h_g,-V.flat,-V.one,one_int,one_bool,one_str,one_nilp,one_rp,one_nilsl,one_ro,one_cl,one_nilf,one_nili,one_ifc,one_ptr,one_sl,one_clo,flat_d,flat_ptr,flat_sl,flat_clo,flat_agg,so3,retQ]
  have ec:co (so l)=nextS F k:=by rw [co_so hl2,hl];unfold nextS;rw [Int.toNat_natCast]
  rw [← ec]
  refine ⟨_,_,Fin.same (Nat.zero_le _),Rd1.tup ⟨rd_sv fun hne=>h3 fun e=>hne (by rw [e];rfl),Rd1.d,trivial⟩⟩
theorem nbI_c (F : Func) (k : Int) (hF : Enc.good F) : PureP Tryz.prog 16 [vFunc F, .d (.int .i64 k)] (· = nbR F k) := by
  refine PureP.of_own ?_
  cases hg:goodF F with
  | false =>
    have hb:isBlk F k=false:=by simp [isBlk,hg]
    have h:PureP Tryz.prog 16 [vFunc F,.d (.int .i64 k)] (· = .tup [.d .nilsl,.d (.bool false)]):=by
      refine pure_of Tryz.func16 en_16 rfl rfl (W_run mixed ⟨[K_33,K_44],[K_33h,K_44h],[35,45,46],27,0,[0,1,2,4,5,6,7,17],[12,17]⟩ (fun _=>[]) (by kernel_rfl) ?_)
      simp only [Tryz.f16,stripX,stripOps,pickOps]
      simp [K_33_f,K_33_e,K_44_f,K_44_e,K_33h_f,K_33h_e,K_44h_f,K_44h_e,K_33h_g,K_44h_g,hF,viewV_f hg]
    refine h.ans.mono ?_
    rintro r H' ⟨rfl,rfl⟩
    simp only [nbR,nbV,hb]
    exact Rd1.tup ⟨Rd1.nilL,Rd1.d,trivial⟩
  | true =>
    cases hv:inR k 0 (IntKind.i64.wrap (F.blocks_.length - 1)) with
    | false =>
      have hb:isBlk F k=false:=by simp [isBlk,hg,hv]
      have h:PureP Tryz.prog 16 [vFunc F,.d (.int .i64 k)] (· = .tup [.d .nilsl,.d (.bool false)]):=by
        refine pure_of Tryz.func16 en_16 rfl rfl (W_run mixed ⟨[K_33,K_44],[K_33h,K_44h],[35,45,46],27,0,[0,1,2,4,5,6,7,17],[12,17]⟩ (fun _=>[]) (by kernel_rfl) ?_)
        simp only [Tryz.f16,stripX,stripOps,pickOps]
        simp [K_33_f,K_33_e,K_44_f,K_44_e,K_33h_f,K_33h_e,K_44h_f,K_44h_e,K_33h_g,K_44h_g,hF,viewV_t hg,viewD_blocks,hv]
      refine h.ans.mono ?_
      rintro r H' ⟨rfl,rfl⟩
      simp only [nbR,nbV,hb]
      exact Rd1.tup ⟨Rd1.nilL,Rd1.d,trivial⟩
    | true =>
      have hb:isBlk F k=true:=by simp [isBlk,hg,hv]
      obtain ⟨_,h0,h1⟩:=isBlk_n hF hb
      obtain ⟨q,rfl⟩:=Int.eq_ofNat_of_zero_le h0
      refine (nbI_own F q hF hg (by omega) hv).mono ?_
      intro r H' h
      simp only [nbR,nbV,hb,if_true]
      exact h
noncomputable def K_16:Ent Tryz.prog:=Ent.p2 (α:=Func) (β:=Int) 16 (fun F k=>Enc.good F) (fun F k=>nbR F k) (fun F k hc=>nbI_c F k hc)
theorem K_16_f:K_16.f=16:=rfl
theorem K_16_e (F0:Int) (F1:List Block) (k:Int):K_16.e [.agg [.d (.int .i64 F0),.d (dBlockS F1)],.d (.int .i64 k)]=some (Enc.good (Func.mk F0 F1),nbR (Func.mk F0 F1) k,[]):=by unfold K_16;exact Ent.p2_eq (α:=Func) (β:=Int) (Func.mk F0 F1) k
noncomputable def K_16h:EntH Tryz.prog:=EntH.pk2 (α:=Func) (β:=Int) 16 (fun F k=>Enc.good F) (fun F k=>nbR F k) (fun F k=>[]) (fun F k hc=>PureP.ans (nbI_c F k hc))
theorem K_16h_f:K_16h.f=16:=rfl
theorem K_16h_g:K_16h.gro=true:=rfl
theorem K_16h_e {x1 x2:V} {H:Heap}:K_16h.e [x1,x2] H=guardR ((decA (α:=Func) H x1).1∧(decA (α:=Int) H x2).1) (peekR (Enc.good (decA (α:=Func) H x1).2) (nbR (decA (α:=Func) H x1).2 (decA (α:=Int) H x2).2) ([]) H):=rfl
end Go.Proofs.YthafdegfjadijaaGreat
