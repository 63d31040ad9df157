/- Contracts of the program's check of a function. No condition. -/
import Derived.Test.YtnomiclfiijniaaQS20
namespace Go.Proofs.Ytnomiclfiijniaa
set_option maxRecDepth 100000
set_option linter.unusedSimpArgs false
set_option linter.unusedVariables false
def fsV (v:View) (k:Int):Int:=IntKind.i64.wrap (v.first_[k.toNat]?.getD 0 + (v.blocks_[k.toNat]?.getD default).params_)
theorem valueAt_c (v:View) (k a:Int) (h0:0≤k) (h1:k < v.first_.length) (h2:k < v.blocks_.length):PureP Try.prog 95 [.d (.rp 5 (dView v)),.d (.int .i64 k),.d (.int .i64 a)] (· = .d (.int .i64 (IntKind.i64.wrap (fsV v k + a)))):=by
  refine pure_of Try.func95 en_95 rfl rfl (W_run mixed ⟨[],[],[],26,0,[0,1,2,6],[]⟩ (fun | 1=>[0,1,2,4,7,8,9,10,12,17,3,5,6,11,13,14,15,16,18,19] | _=>[]) (by kernel_rfl) ?_)
  simp only [Try.f95,stripX,stripOps,pickOps]
  simp []
  exact ⟨⟨h0,h1⟩,⟨h0,h2⟩,rfl⟩
noncomputable def K_95:Ent Try.prog:=Ent.p3 (α:=Ptr View) (β:=Int) (γ:=Int) 95 (fun v k a=>0≤k∧k < v.v.first_.length∧k < v.v.blocks_.length) (fun v k a=>.d (.int .i64 (IntKind.i64.wrap (fsV v.v k + a)))) (fun v k a hc=>valueAt_c v.v k a hc.1 hc.2.1 hc.2.2)
theorem K_95_f:K_95.f=95:=rfl
theorem K_95_e (v:View) (k:Int) (a:Int):K_95.e [.d (.rp 5 (dView v)),.d (.int .i64 k),.d (.int .i64 a)]=some (0≤k∧k < v.first_.length∧k < v.blocks_.length,.d (.int .i64 (IntKind.i64.wrap (fsV v k + a))),[]):=by unfold K_95;exact Ent.p3_eq (α:=Ptr View) (β:=Int) (γ:=Int) (Ptr.mk v) k a
noncomputable def K_95h:EntH Try.prog:=EntH.pk3 (α:=Ptr View) (β:=Int) (γ:=Int) 95 (fun v k a=>0≤k∧k < v.v.first_.length∧k < v.v.blocks_.length) (fun v k a=>.d (.int .i64 (IntKind.i64.wrap (fsV v.v k + a)))) (fun v k a=>[]) (fun v k a hc=>PureP.ans (valueAt_c v.v k a hc.1 hc.2.1 hc.2.2))
theorem K_95h_f:K_95h.f=95:=rfl
theorem K_95h_g:K_95h.gro=true:=rfl
theorem K_95h_e {x1 x2 x3:V} {H:Heap}:K_95h.e [x1,x2,x3] H=guardR ((decA (α:=Ptr View) H x1).1∧(decA (α:=Int) H x2).1∧(decA (α:=Int) H x3).1) (peekR (0≤(decA (α:=Int) H x2).2∧(decA (α:=Int) H x2).2 < (decA (α:=Ptr View) H x1).2.v.first_.length∧(decA (α:=Int) H x2).2 < (decA (α:=Ptr View) H x1).2.v.blocks_.length) (.d (.int .i64 (IntKind.i64.wrap (fsV (decA (α:=Ptr View) H x1).2.v (decA (α:=Int) H x2).2 + (decA (α:=Int) H x3).2)))) ([]) H):=rfl
abbrev cell4 (s:Int × Int × Int × Int):List V:=[.d (.int .i64 s.1),.d (.int .i64 s.2.1),.d (.int .i64 s.2.2.1),.d (.int .i64 s.2.2.2)]
theorem fault1_c (w:Ways) (b:Block) (k j x:Int) (xc:List V) (hok:okW w x k):CallsD Try.prog 101 [.d (.int .i64 x),.ptr 0 1 0 0,.ptr 2 1 0 0,.ptr 4 1 0 0]
    [.row 1 [[.d (.rp 3 (dWays w))]],.row 4 [cell4 (0,0,0,0)],.row 1 [[.d (.int .i64 k)]],.row 1 [[.d (.rp 5 (dBlock b))]],.row 1 [[.d (.int .i64 j)]],.row 3 [xc]]
    fun r H'=>r=.d (.bool (!thereW w x k j))∧H'=[.row 1 [[.d (.rp 3 (dWays w))]],.row 4 [cell4 (0,0,0,0)],.row 1 [[.d (.int .i64 k)]],.row 1 [[.d (.rp 5 (dBlock b))]],.row 1 [[.d (.int .i64 j)]],.row 3 [xc]]:=by
  refine calls_of Try.func101 en_101 rfl (of_decide_eq_true rfl) (W_run mixed ⟨[K_74],[K_74h],[],12,6,[0,1,2,3,5],[]⟩ (fun _=>[]) (by kernel_rfl) ?_)
  simp only [Try.f101,stripX,stripOps,pickOps]
  simp [K_74_f,K_74_e,K_74h_f,K_74h_e,K_74h_g,retQ,hok]
  exact Fin.same (by simp)
def stepE (w:Ways) (k a:Int) (s:Int × Int × Int × Int) (x:Int):Int × Int × Int × Int:=if s.1=0∧thereW w x k a=false then (2,x,k,a) else s
theorem stepE_fold (w:Ways) (k a:Int):∀ (l:List Int) (s:Int × Int × Int × Int),l.foldl (stepE w k a) s=if s.1=0 then (match faultE (thereW w) k a l with | some p=>p | none=>s) else s
  | [],s=>by simp [faultE]
  | v :: l, s => by
    rw [List.foldl_cons,stepE_fold]
    by_cases h:s.1=0
    · cases ht:thereW w v k a with
      | true=>simp [stepE,h,ht,faultE]
      | false=>simp [stepE,h,ht,faultE]
    · simp [stepE,h]
theorem faultE_two {th:Int→Int→Int→Bool} {k a:Int}:∀ {l:List Int} {p:Int × Int × Int × Int},faultE th k a l=some p→p.1=2
  | [],p,h=>by cases h
  | v :: l,p,h=>by
    simp only [faultE] at h
    split at h
    · exact faultE_two h
    · cases h;rfl
theorem fault2_c (w:Ways) (b:Block) (k x:Int) (n:Nat) (g:Nat→D) (s:Int × Int × Int × Int) (hn:1≤n) (hg:g 0=.int .i64 x) (hok:okW w x k):CallsD Try.prog 102 [.d (.rp n g),.ptr 4 4 0 0,.ptr 0 1 0 0,.ptr 2 1 0 0,.ptr 3 1 0 0]
    [.row 1 [[.d (.rp 3 (dWays w))]],.row 4 [cell4 (0,0,0,0)],.row 1 [[.d (.int .i64 k)]],.row 1 [[.d (.rp 5 (dBlock b))]],.row 4 [cell4 s]]
    fun r H'=>r=.tup []∧H'=[.row 1 [[.d (.rp 3 (dWays w))]],.row 4 [cell4 (0,0,0,0)],.row 1 [[.d (.int .i64 k)]],.row 1 [[.d (.rp 5 (dBlock b))]],.row 4 [cell4 (stepE w k b.insts_.length s x)]]:=by
  refine calls_of (c:=.seq _ (.cond _ _ .skip)) Try.func102 en_102 rfl (of_decide_eq_true rfl) ?_
  refine W_seq (W_run mixed ⟨[K_74],[K_74h],[],36,5,[0,1,2,3,4,22],[9,22]⟩ (fun | 0=>[0,1,2,3,5,6,4,7,8,9,10,11,12,13,14,15,16] | 1=>[0,1,2,3,4,5,6,7,8,9,10,11,12,13,14,15,16,17] | _=>[]) (by kernel_rfl) ?_)
  simp only [stripX,stripOps,pickOps]
  simp [K_74_f,K_74_e,K_74h_f,K_74h_e,K_74h_g,hok,hn,hg]
  refine ⟨fun h0=>⟨fun ht=>W_condT rfl ?_,fun ht=>W_condF rfl (W_skip ?_)⟩,fun h0=>W_condF rfl (W_skip ?_)⟩
  · refine W_drawA mixed (tabG_good []) [0,1,2,3,4,22] [] [0,1,2,3,4,5,6,7,8,9,10,11,12,13,14,15,16,17] 4 (by kernel_rfl) (by kernel_rfl) ?_
    simp [sop,hn,hg]
    have e:stepE w k b.insts_.length s x=(2,x,k,(b.insts_.length:Int)):=by simp [stepE,h0,ht]
    simp [retQ,e]
    exact Fin.same (by simp)
  · have e:stepE w k b.insts_.length s x=s:=by simp [stepE,ht]
    simp [retQ,e]
    exact Fin.same (by simp)
  · have e:stepE w k b.insts_.length s x=s:=by simp [stepE,h0]
    simp [retQ,e]
    exact Fin.same (by simp)
structure OkF (w:Ways):Prop where
  len:w.all_.length≤8
  blk:∀ k∈listB w.all_,0≤k∧k < w.view_.v.blocks_.length∧k < w.view_.v.first_.length
  fin:∀ k∈listB w.all_,smallEnd (w.view_.v.blocks_[k.toNat]?.getD default)
  ins:∀ k∈listB w.all_,(w.view_.v.blocks_[k.toNat]?.getD default).insts_.length≤1000∧∀ x∈(w.view_.v.blocks_[k.toNat]?.getD default).insts_,x.args_.length≤1000∧∀ n∈x.args_,okW w n k
  use:∀ k∈listB w.all_,∀ n∈usedL (w.view_.v.blocks_[k.toNat]?.getD default),okW w n k
def faultV (w:Ways):Int × Int × Int × Int:=faultR (thereW w) (fsV w.view_.v) w.view_.v.blocks_ (listB w.all_)
theorem fault_c (w : Ways) (h : OkF w) : PureP Try.prog 66 [.d (.rp 3 (dWays w))] (· = .agg (cell4 (faultV w))) := by
  have hl8:=h.len
  have hlb:(listB w.all_).length≤8:=by
    have:=numsOf_len (fun k=>w.all_[k]?.getD false) w.all_.length
    unfold listB;omega
  refine pure_of Try.func66 en_66 rfl rfl (W_run mixed ⟨[K_68,K_95],[K_68h,K_95h],[89,73],64,0,[0,1,2,4,5,6,7,8,13,14,15,16,32,33,34,35,42,60],[16,35,42,60]⟩ (fun | 4=>[0,1,2,3,4,5,6,7,8,9,10,11] | 9=>[0,1,2,3,4,5,6,7,8,9,10] | _=>[]) (by kernel_rfl) ?_)
  simp only [Try.f66,stripX,stripOps,pickOps]
  simp [K_68_f,K_68_e,K_95_f,K_95_e,K_68h_f,K_68h_e,K_95h_f,K_95h_e,K_68h_g,K_95h_g,hl8]
  refine W_loopA (fun i:Nat=>[(1,.ptr 0 1 0 0),(2,.ptr 1 4 0 0),(13,.d (dIntS (listB w.all_))),(14,.d (.int .i64 (listB w.all_).length)),(15,.d (.int .i64 i))])
    (fun _=>[.row 1 [[.d (.rp 3 (dWays w))]],.row 4 [cell4 (0,0,0,0)]]) (fun i=>i≤(listB w.all_).length∧faultR (thereW w) (fsV w.view_.v) w.view_.v.blocks_ ((listB w.all_).drop i)=faultV w) (fun i=>(listB w.all_).length - i) 0 ?_ ?_ ?_
  · simp
  · exact ⟨Nat.zero_le _,rfl⟩
  rintro i ⟨hi,hT⟩
  refine W_run mixed ⟨[K_68,K_95],[K_68h,K_95h],[89,73],64,0,[0,1,2,4,5,6,7,8,13,14,15,16,32,33,34,35,42,60],[16,35,42,60]⟩ (fun | 4=>[0,1,2,3,4,5,6,7,8,9,10,11] | 9=>[0,1,2,3,4,5,6,7,8,9,10] | _=>[]) (by kernel_rfl) ?_
  simp only [stripX,stripOps,pickOps]
  simp [K_68_f,K_68_e,K_95_f,K_95_e,K_68h_f,K_68h_e,K_95h_f,K_95h_e,K_68h_g,K_95h_g,hl8]
  refine ⟨fun hil=>⟨hil, ?_⟩,fun hil=>?_⟩
  · have hk:(listB w.all_)[i]?.getD 0∈listB w.all_:=by rw [List.getElem?_eq_getElem hil];exact List.getElem_mem hil
    have hdr:(listB w.all_).drop i=(listB w.all_)[i]?.getD 0 :: (listB w.all_).drop (i + 1):=by
      rw [List.drop_eq_getElem_cons hil,List.getElem?_eq_getElem hil];rfl
    rw [hdr] at hT
    generalize (listB w.all_)[i]?.getD 0=k at hk hT
    obtain ⟨k0,k1,k2⟩:=h.blk k hk
    have hsm:=h.fin k hk
    obtain ⟨hIl,hIx⟩:=h.ins k hk
    have hus:=h.use k hk
    simp only [faultR] at hT
    refine ⟨⟨k0,k1⟩, ?_⟩
    generalize hb:w.view_.v.blocks_[k.toNat]?.getD default=b at hT hsm hIl hIx hus
    have hit:∀ p,faultB (thereW w) (fsV w.view_.v) k b=some p→faultV w=p:=fun p q=>by rw [q] at hT;exact hT.symm
    have miss:faultB (thereW w) (fsV w.view_.v) k b=none→faultR (thereW w) (fsV w.view_.v) w.view_.v.blocks_ ((listB w.all_).drop (i + 1))=faultV w:=fun q=>by rw [q] at hT;exact hT
    have wi:IntKind.i64.wrap ((i:Int) + 1)=((i + 1:Nat):Int):=by rw [wrap_id] <;> omega
    refine W_loopA (fun j:Nat=>[(1,.ptr 0 1 0 0),(2,.ptr 1 4 0 0),(4,.ptr 2 1 0 0),(5,.ptr 3 1 0 0),(13,.d (dIntS (listB w.all_))),(14,.d (.int .i64 (listB w.all_).length)),(15,.d (.int .i64 i)),(32,.d (dInstS b.insts_)),(33,.d (.int .i64 b.insts_.length)),(34,.d (.int .i64 j))])
      (fun _=>[.row 1 [[.d (.rp 3 (dWays w))]],.row 4 [cell4 (0,0,0,0)],.row 1 [[.d (.int .i64 k)]],.row 1 [[.d (.rp 5 (dBlock b))]]])
      (fun j=>j≤b.insts_.length∧faultI (thereW w) (fsV w.view_.v) k (b.insts_.drop j) j=faultI (thereW w) (fsV w.view_.v) k b.insts_ 0) (fun j=>b.insts_.length - j) 0 ?_ ?_ ?_
    · simp
    · simp
    rintro j ⟨hj,hTj⟩
    refine W_run mixed ⟨[K_68,K_95],[K_68h,K_95h],[89,73],64,0,[0,1,2,4,5,6,7,8,13,14,15,16,32,33,34,35,42,60],[16,35,42,60]⟩ (fun | 4=>[0,1,2,3,4,5,6,7,8,9,10,11] | 9=>[0,1,2,3,4,5,6,7,8,9,10] | _=>[]) (by kernel_rfl) ?_
    simp only [stripX,stripOps,pickOps]
    simp [K_68_f,K_68_e,K_95_f,K_95_e,K_68h_f,K_68h_e,K_95h_f,K_95h_e,K_68h_g,K_95h_g,hl8]
    refine ⟨fun hjl=>⟨hjl, ?_⟩,fun hjl=>?_⟩
    · obtain ⟨hal,hax⟩:=hIx (b.insts_[j]?.getD default) (by rw [List.getElem?_eq_getElem hjl];exact List.getElem_mem hjl)
      rw [drop_cons hjl] at hTj
      simp only [faultI] at hTj
      refine (containsOwn (b.insts_[j]?.getD default).args_ _ _ _ (fun n=>!thereW w n k j) hal ?_ ?_ fun x hx=>fault1_c w b k j x _ (hax x hx)).mono ?_
      · simp
      · simp
      rintro r H' ⟨rfl,rfl⟩
      have hna:((b.insts_[j]?.getD default).args_.any fun n=>!thereW w n k j) = !((b.insts_[j]?.getD default).args_.all fun n=>thereW w n k j):=List.not_all_eq_any_not.symm
      rw [hna]
      cases ha:(b.insts_[j]?.getD default).args_.all fun n=>thereW w n k j with
      | true =>
        rw [ha,if_pos rfl] at hTj
        simp [K_68_f,K_68_e,K_95_f,K_95_e,K_68h_f,K_68h_e,K_95h_f,K_95h_e,K_68h_g,K_95h_g]
        exact ⟨j + 1,⟨by omega,hTj⟩,by omega,by rw [wrap_id] <;> omega⟩
      | false =>
        rw [ha,if_neg (by decide)] at hTj
        have e:=hit _ (by unfold faultB;rw [← hTj])
        have k3:0≤k∧k < w.view_.v.first_.length∧k < w.view_.v.blocks_.length:=⟨k0,k2,k1⟩
        simp [K_68_f,K_68_e,K_95_f,K_95_e,K_68h_f,K_68h_e,K_95h_f,K_95h_e,K_68h_g,K_95h_g,k0,k1,k2]
        rw [e]
        exact ⟨rfl,rfl,rfl,rfl⟩
    · have hTE:faultI (thereW w) (fsV w.view_.v) k b.insts_ 0=none:=by rw [← hTj,List.drop_eq_nil_of_le hjl];rfl
      have hfb:faultB (thereW w) (fsV w.view_.v) k b=faultE (thereW w) k b.insts_.length (usedL b):=by unfold faultB;rw [hTE]
      rw [hfb] at hit miss
      refine (usedOwn (b:=b) (fn:=102) (L:=5) (Hs:=fun s:Int × Int × Int × Int=>[.row 1 [[.d (.rp 3 (dWays w))]],.row 4 [cell4 (0,0,0,0)],.row 1 [[.d (.int .i64 k)]],.row 1 [[.d (.rp 5 (dBlock b))]],.row 4 [cell4 s]]) (f:=stepE w k b.insts_.length) (0,0,0,0)
        (by have:=hsm.1;omega) (fun j hj=>by have:=hsm.2 j hj;omega) (fun _=>rfl) (fun s=>by simp) ?_ fun s x n g hx hn hg=>fault2_c w b k x n g s hn hg (hus x hx)).mono ?_
      · simp
      rintro r H' ⟨rfl,rfl⟩
      rw [stepE_fold,if_pos rfl]
      cases hE:faultE (thereW w) k b.insts_.length (usedL b) with
      | none =>
        have hm:=miss hE
        simp [K_68_f,K_68_e,K_95_f,K_95_e,K_68h_f,K_68h_e,K_95h_f,K_95h_e,K_68h_g,K_95h_g]
        exact ⟨i + 1,⟨by omega,hm⟩,by omega,wi⟩
      | some p =>
        have hp2:=faultE_two hE
        obtain ⟨c,v,q1,q2⟩:=p
        have hc2:c=2:=hp2
        subst hc2
        have e:=hit _ hE
        simp [K_68_f,K_68_e,K_95_f,K_95_e,K_68h_f,K_68h_e,K_95h_f,K_95h_e,K_68h_g,K_95h_g]
        rw [e]
        exact ⟨rfl,rfl,rfl,rfl⟩
  · rw [List.drop_eq_nil_of_le hil] at hT
    rw [← hT];exact ⟨rfl,rfl,rfl,rfl⟩
noncomputable def K_66:Ent Try.prog:=Ent.p1 (α:=Ptr Ways) 66 (fun w=>OkF w.v) (fun w=>.agg (cell4 (faultV w.v))) (fun w hc=>fault_c w.v hc)
theorem K_66_f:K_66.f=66:=rfl
theorem K_66_e (w:Ways):K_66.e [.d (.rp 3 (dWays w))]=some (OkF w,.agg (cell4 (faultV w)),[]):=by unfold K_66;exact Ent.p1_eq (α:=Ptr Ways) (Ptr.mk w)
noncomputable def K_66h:EntH Try.prog:=EntH.pk1 (α:=Ptr Ways) 66 (fun w=>OkF w.v) (fun w=>.agg (cell4 (faultV w.v))) (fun w=>[]) (fun w hc=>PureP.ans (fault_c w.v hc))
theorem K_66h_f:K_66h.f=66:=rfl
theorem K_66h_g:K_66h.gro=true:=rfl
theorem K_66h_e {x1:V} {H:Heap}:K_66h.e [x1] H=guardR ((decA (α:=Ptr Ways) H x1).1) (peekR (OkF (decA (α:=Ptr Ways) H x1).2.v) (.agg (cell4 (faultV (decA (α:=Ptr Ways) H x1).2.v))) ([]) H):=rfl
theorem faultI_congr {th th':Int→Int→Int→Bool} {fs fs':Int→Int} {k:Int}:∀ (l:List Inst) (i:Nat),(∀ x∈l,∀ n∈x.args_,∀ a,th n k a=th' n k a)→fs k=fs' k→faultI th fs k l i=faultI th' fs' k l i
  | [],i,_,_=>rfl
  | x :: l, i, h, hf => by
    have e:(x.args_.all fun n=>th n k i)=(x.args_.all fun n=>th' n k i):=by
      refine Bool.eq_iff_iff.2 ?_
      simp only [List.all_eq_true]
      exact ⟨fun q n hn=>by rw [← h x List.mem_cons_self n hn];exact q n hn,fun q n hn=>by rw [h x List.mem_cons_self n hn];exact q n hn⟩
    simp only [faultI,e,hf]
    rw [faultI_congr l (i + 1) (fun y hy=>h y (List.mem_cons_of_mem _ hy)) hf]
theorem faultE_congr {th th':Int→Int→Int→Bool} {k a:Int}:∀ (l:List Int),(∀ n∈l,th n k a=th' n k a)→faultE th k a l=faultE th' k a l
  | [],_=>rfl
  | v :: l,h=>by
    simp only [faultE,h v List.mem_cons_self]
    rw [faultE_congr l fun n hn=>h n (List.mem_cons_of_mem _ hn)]
theorem faultR_congr {th th':Int→Int→Int→Bool} {fs fs':Int→Int} {bs:List Block}:∀ (ks:List Int),(∀ k∈ks,fs k=fs' k∧(∀ x∈(bs[k.toNat]?.getD default).insts_,∀ n∈x.args_,∀ a,th n k a=th' n k a)∧∀ n∈usedL (bs[k.toNat]?.getD default),∀ a,th n k a=th' n k a)→faultR th fs bs ks=faultR th' fs' bs ks
  | [],_=>rfl
  | k :: ks,h=>by
    obtain ⟨h1,h2,h3⟩:=h k List.mem_cons_self
    simp only [faultR,faultB]
    rw [faultI_congr _ _ h2 h1,faultE_congr _ fun n hn=>h3 n hn _,faultR_congr ks fun k hk=>h k (List.mem_cons_of_mem _ hk)]
theorem good_vals {F : Func} (h : goodF F = true) {b : Block} (hb : b ∈ F.blocks_) : b.insts_.length ≤ 80 ∧ (∀ x ∈ b.insts_, x.args_.length ≤ 1000 ∧ ∀ n ∈ x.args_, 0 ≤ n ∧ n < many F) ∧ ∀ n ∈ usedL b, 0 ≤ n ∧ n < many F := by
  obtain ⟨hp,hl,hh,hm,hc,hs,hbo⟩:=goodF_spec h
  have hm0:0≤many F:=by omega
  have inr:∀ n,inR n 0 (IntKind.i64.wrap (many F - 1))=true→0≤n∧n < many F:=fun n q=>by
    have:=inR_t.1 q
    rw [wrap_sub (by omega) (by omega)] at this
    omega
  have alln:∀ l:List Int,allIn l 0 (IntKind.i64.wrap (many F - 1))=true→∀ n∈l,0≤n∧n < many F:=fun l q n hn=>inr n (List.all_eq_true.1 q n hn)
  have h1:=List.all_eq_true.1 hbo b hb
  simp only [bodyOk,Bool.and_eq_true] at h1
  have hd:=headOk_sz (List.all_eq_true.1 hh b hb)
  refine ⟨by omega,fun x hx=>?_,fun n hn=>?_⟩
  · have q:=List.all_eq_true.1 h1.1 x hx
    simp only [instOk,Bool.and_eq_true,decide_eq_true_eq] at q
    have har:arity x.op_≤1000:=by
      unfold arity arity1
      repeat' split
      all_goals omega
    exact ⟨by omega,alln _ q.2.2.1⟩
  · have h2:=h1.2
    have js:jumpsOk F.blocks_ (many F) b.jumps_=true→n∈b.jumps_.flatMap (·.args_)→0≤n∧n < many F:=fun q hn=>by
      obtain ⟨j,hj,hn⟩:=List.mem_flatMap.1 hn
      have q2:=List.all_eq_true.1 q j hj
      simp only [jumpOk,Bool.and_eq_true] at q2
      exact alln _ q2.2.2 n hn
    unfold usedL at hn
    unfold endsOk at h2
    split at h2
    · rename_i e
      rw [if_neg (by omega)] at hn
      simp only [Bool.and_eq_true] at h2
      rcases List.mem_append.1 hn with q | q
      · rw [List.mem_singleton.1 q];exact inr _ h2.2.1
      · exact js h2.2.2 q
    · split at h2
      · rename_i e
        rw [if_pos e] at hn
        simp only [Bool.and_eq_true] at h2
        rcases List.mem_append.1 hn with q | q
        · exact absurd q List.not_mem_nil
        · exact js h2.2.2 q
      · split at h2
        · rename_i e
          rw [if_neg (by omega)] at hn
          simp only [Bool.and_eq_true] at h2
          rcases List.mem_append.1 hn with q | q
          · rw [List.mem_singleton.1 q];exact inr _ h2.2.1
          · exact js h2.2.2 q
        · cases h2
theorem firsts_len:∀ (bs:List Block) (m:Int),(firsts bs m).length=bs.length
  | [],_=>rfl
  | b :: bs,m=>by simp only [firsts,List.length_cons,firsts_len bs]
theorem allR_rng {F:Func} {k:Int} (hk:k∈allR F):0≤k∧k < F.blocks_.length:=by
  obtain ⟨q0,q1,_⟩:=listB_rchB.1 hk
  exact ⟨q0,by simpa [nextL] using q1⟩
theorem okF_good {F:Func} (h:goodF F=true):OkF (waysV (viewD F)):=by
  have e1:listB (waysV (viewD F)).all_=allR F:=rfl
  have e2:(waysV (viewD F)).view_.v.blocks_=F.blocks_:=rfl
  have e3:(waysV (viewD F)).view_.v.first_=firsts F.blocks_ F.params_:=rfl
  have hf:=good_flow h
  have mem:∀ k∈allR F,F.blocks_[k.toNat]?.getD default∈F.blocks_:=fun k hk=>by
    obtain ⟨q0,q1⟩:=allR_rng hk
    rw [List.getElem?_eq_getElem (by omega)];exact List.getElem_mem _
  constructor
  · show (rchB (nextL F.blocks_) 0 (-1)).length≤8
    have:=hf.2.1.1
    simpa [rchB] using this
  all_goals (rw [e1];intro k hk;obtain ⟨q0,q1⟩:=allR_rng hk;obtain ⟨g1,g2,g3⟩:=good_vals h (mem k hk))
  · rw [e2,e3,firsts_len];exact ⟨q0,q1,q1⟩
  · rw [e2];exact good_end h _ (mem k hk)
  · rw [e2]
    exact ⟨by omega,fun x hx=>⟨(g2 x hx).1,fun n hn=>okW_good h ((g2 x hx).2 n hn).1 ((g2 x hx).2 n hn).2 q0 q1⟩⟩
  · rw [e2]
    exact fun n hn=>okW_good h (g3 n hn).1 (g3 n hn).2 q0 q1
theorem fault_same {F:Func} (h:goodF F=true):faultV (waysV (viewD F))=checkS F:=by
  refine faultR_congr (allR F) fun k hk=>?_
  obtain ⟨q0,q1⟩:=allR_rng hk
  have hm:F.blocks_[k.toNat]?.getD default∈F.blocks_:=by rw [List.getElem?_eq_getElem (by omega)];exact List.getElem_mem _
  obtain ⟨g1,g2,g3⟩:=good_vals h hm
  refine ⟨?_,fun x hx n hn a=>there_same h ((g2 x hx).2 n hn).1 ((g2 x hx).2 n hn).2 q0 q1,fun n hn a=>there_same h (g3 n hn).1 (g3 n hn).2 q0 q1⟩
  show IntKind.i64.wrap ((firsts F.blocks_ F.params_)[k.toNat]?.getD 0 + _)=_
  rw [firsts_get _ _ _ (by omega)]
  rfl
theorem checkI_c (F:Func) (hF:Enc.good F):PureP Try.prog 28 [vFunc F] (· = checkR F):=by
  cases hg:goodF F with
  | false =>
    refine pure_of Try.func28 en_28 rfl rfl (W_run mixed ⟨[K_40,K_65,K_66],[K_40h,K_65h,K_66h],[],18,0,[0,1,2,3,4,5,6,10],[10]⟩ (fun | 5=>[0,2,1,4,3,5,6] | _=>[]) (by kernel_rfl) ?_)
    simp only [Try.f28,stripX,stripOps,pickOps]
    simp [K_40_f,K_40_e,K_65_f,K_65_e,K_66_f,K_66_e,K_40h_f,K_40h_e,K_65h_f,K_65h_e,K_66h_f,K_66h_e,K_40h_g,K_65h_g,K_66h_g,hF,viewV_f hg]
    simp [checkR,hg]
  | true =>
    have hf:=good_flow hg
    obtain ⟨hv1,hn1,hp1⟩:=hf
    have hp2:0 < (nextL F.blocks_).length:=by simp [nextL];omega
    have hok:=okF_good hg
    refine pure_of Try.func28 en_28 rfl rfl (W_run mixed ⟨[K_40,K_65,K_66],[K_40h,K_65h,K_66h],[],18,0,[0,1,2,3,4,5,6,10],[10]⟩ (fun | 5=>[0,2,1,4,3,5,6] | _=>[]) (by kernel_rfl) ?_)
    simp only [Try.f28,stripX,stripOps,pickOps]
    simp [K_40_f,K_40_e,K_65_f,K_65_e,K_66_f,K_66_e,K_40h_f,K_40h_e,K_65h_f,K_65h_e,K_66h_f,K_66h_e,K_40h_g,K_65h_g,K_66h_g,hF,viewV_t hg,viewD_blocks,hv1,hn1,hp2,hok]
    simp [checkR,hg,fault_same hg]
noncomputable def K_28:Ent Try.prog:=Ent.p1 (α:=Func) 28 (fun F=>Enc.good F) (fun F=>checkR F) (fun F hc=>checkI_c F hc)
theorem K_28_f:K_28.f=28:=rfl
theorem K_28_e (F0:Int) (F1:List Block):K_28.e [.agg [.d (.int .i64 F0),.d (dBlockS F1)]]=some (Enc.good (Func.mk F0 F1),checkR (Func.mk F0 F1),[]):=by unfold K_28;exact Ent.p1_eq (α:=Func) (Func.mk F0 F1)
noncomputable def K_28h:EntH Try.prog:=EntH.pk1 (α:=Func) 28 (fun F=>Enc.good F) (fun F=>checkR F) (fun F=>[]) (fun F hc=>PureP.ans (checkI_c F hc))
theorem K_28h_f:K_28h.f=28:=rfl
theorem K_28h_g:K_28h.gro=true:=rfl
theorem K_28h_e {x1:V} {H:Heap}:K_28h.e [x1] H=guardR ((decA (α:=Func) H x1).1) (peekR (Enc.good (decA (α:=Func) H x1).2) (checkR (decA (α:=Func) H x1).2) ([]) H):=rfl
end Go.Proofs.Ytnomiclfiijniaa
