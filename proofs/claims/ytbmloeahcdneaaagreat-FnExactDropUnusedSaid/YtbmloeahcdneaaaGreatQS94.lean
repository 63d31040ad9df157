/- spec.l15Unused: the reference leaves out what nobody uses. No condition. -/
import Derived.Test.YtbmloeahcdneaaaGreatQS93
namespace Go.Proofs.YtbmloeahcdneaaaGreat
set_option maxRecDepth 100000
set_option linter.unusedSimpArgs false
set_option linter.unusedVariables false
theorem lastN_top (F:Func) {u:Nat}:∀ n,u≤n→(∀ k,u≤k→k < n→candU F k=false)→lastN F n=lastN F u
  | 0,h,_=>by rw [show u=0 by omega]
  | n + 1, h, hc => by
    by_cases e:u=n + 1
    · rw [e]
    · have:=hc n (by omega) (by omega)
      show (if candU F n=true then (n:Int) else lastN F n)=_
      rw [if_neg (by rw [this];decide)]
      exact lastN_top F n (by omega) fun k h1 h2=>hc k h1 (by omega)
theorem duG_good:∀ (n:Nat) (F:Func) (m:Int),goodF F=true→goodF (duP n (F,m)).1=true
  | 0,F,m,h=>h
  | n + 1, F, m, h => by
    show goodF (if lastU F < 0 then (F,m) else duP n (leaveF F (lastU F).toNat,m + 1)).1=true
    by_cases hl:lastU F < 0
    · rw [if_pos hl];exact h
    · rw [if_neg hl]
      obtain ⟨r1,r2,r3⟩:=lastN_rng F (many F).toNat
      have hc:=r3 (by have:lastU F=lastN F (many F).toNat:=rfl;omega)
      unfold candU at hc
      rw [Bool.and_eq_true,decide_eq_true_eq] at hc
      obtain ⟨m0,m80⟩:=many_rng h
      have e:lastU F=((lastN F (many F).toNat).toNat:Nat):=by unfold lastU;have:lastU F=lastN F (many F).toNat:=rfl;omega
      obtain ⟨k0,hin⟩:=pure_inB h (v:=(lastN F (many F).toNat).toNat) (by have:lastU F=lastN F (many F).toNat:=rfl;omega) hc.2
      exact duG_good n _ _ (leave_good h hin (unused_ne hc.1))
set_option maxHeartbeats 4000000 in
theorem l15Unused_c (F : Func) (hF : Enc.good F) (hg : goodF F = true) : PureP Tryz.prog 60 [vFunc F] (· = .tup [vFunc (duG F), .d (.int .i64 (duK F))]) := by
  obtain ⟨m0,m80⟩:=many_rng hg
  have gm:cntB F.blocks_ F.params_=many F:=rfl
  have wm0:IntKind.i64.wrap (many F - 1)=many F - 1:=wrap_id (by omega) (by omega)
  refine pure_of Tryz.func60 en_60 rfl rfl (W_run mixed ⟨[K_98,K_80,K_111,K_112,K_113,K_114],[K_98h,K_80h,K_111h,K_112h,K_113h,K_114h],[],54,0,[0,1,2,3,4,5,6,7,8,15,44],[15,26,39,44]⟩ (fun _=>[]) (by kernel_rfl) ?_)
  simp only [Tryz.f60,stripX,stripOps,pickOps]
  simp [K_98_f,K_98_e,K_80_f,K_80_e,K_111_f,K_111_e,K_112_f,K_112_e,K_113_f,K_113_e,K_114_f,K_114_e,K_98h_f,K_98h_e,K_80h_f,K_80h_e,K_111h_f,K_111h_e,K_112h_f,K_112h_e,K_113h_f,K_113h_e,K_114h_f,K_114h_e,K_98h_g,K_80h_g,K_111h_g,K_112h_g,K_113h_g,K_114h_g,hF,hg,gm,wm0]
  refine W_loopA (fun a:Nat × Func × Int=>[(2,.ptr 1 2 0 0),(4,.ptr 2 2 0 0),(5,.d (.int .i64 a.2.2)),(6,.d (.int .i64 ((a.1:Int) - 1)))]) (fun a=>[.row 2 [[.d (.int .i64 F.params_),.d (dBlockS F.blocks_)]],.row 2 [[.d (.int .i64 0),.d .nilsl]],.row 2 [[.d (.int .i64 a.2.1.params_),.d (dBlockS a.2.1.blocks_)]]])
    (fun a=>((a.1:Int)≤many a.2.1∧0≤a.2.2∧a.2.2 + many a.2.1≤80)∧Enc.good a.2.1∧goodF a.2.1=true∧(∀ k,a.1≤k→(k:Int) < many a.2.1→candU a.2.1 k=false)∧duP (many a.2.1).toNat a.2=duP (many F).toNat (F,0)) (fun a=>(many a.2.1).toNat * 100 + a.1) ((many F).toNat,F,0) ?_ ?_ ?_
  · simp;omega
  · exact ⟨⟨by show ((many F).toNat:Int)≤many F;omega,Int.le_refl 0,by show (0:Int) + many F≤80;omega⟩,hF,hg,fun k h1 h2=>by have:(many F).toNat≤k:=h1;have:(k:Int) < many F:=h2;omega,rfl⟩
  rintro ⟨u,F1,m⟩ ⟨⟨hu,hm0,hm1⟩,hF1,hg1,hcn,he⟩
  simp only [] at hu hm0 hm1 hF1 hg1 hcn he ⊢
  obtain ⟨n0,n80⟩:=many_rng hg1
  obtain ⟨tot,htot⟩:∃ n:Nat,many F1=n:=⟨(many F1).toNat,by omega⟩
  have htn:(many F1).toNat=tot:=by omega
  have eU:lastU F1=lastN F1 u:=by
    unfold lastU
    rw [htn]
    exact lastN_top F1 tot (by omega) fun k h1 h2=>hcn k h1 (by omega)
  cases u with
  | zero =>
    have e0:duP tot (F1,m)=(F1,m):=by
      cases tot with
      | zero=>rfl
      | succ n =>
        show (if lastU F1 < 0 then (F1,m) else _)=_
        rw [if_pos (by rw [eU];exact (by decide:(-1:Int) < 0))]
    rw [htn,e0] at he
    have e1:duG F=F1:=by unfold duG;rw [← he]
    have e2:duK F=m:=by unfold duK;rw [← he]
    refine W_run mixed ⟨[K_98,K_80,K_111,K_112,K_113,K_114],[K_98h,K_80h,K_111h,K_112h,K_113h,K_114h],[],54,0,[0,1,2,3,4,5,6,7,8,15,44],[15,26,39,44]⟩ (fun _=>[]) (by kernel_rfl) ?_
    simp only [stripX,stripOps,pickOps]
    simp [K_98_f,K_98_e,K_80_f,K_80_e,K_111_f,K_111_e,K_112_f,K_112_e,K_113_f,K_113_e,K_114_f,K_114_e,K_98h_f,K_98h_e,K_80h_f,K_80h_e,K_111h_f,K_111h_e,K_112h_f,K_112h_e,K_113h_f,K_113h_e,K_114h_f,K_114h_e,K_98h_g,K_80h_g,K_111h_g,K_112h_g,K_113h_g,K_114h_g,hF1,hg1]
    simp [e1,e2]
  | succ k =>
    have hk:(k:Int) < many F1:=by omega
    have hv:isVal F1 k=true:=isVal_of hg1 (by omega) hk
    have hok:=instS_ok hv
    have hps:=pure_same hg1 (n:=(k:Int)) (by omega) hk
    have ek:((k + 1:Nat):Int) - 1=k:=by omega
    have wk:IntKind.i64.wrap ((k:Int) - 1)=(k:Int) - 1:=wrap_id (by omega) (by omega)
    have hcu:candU F1 k=(decide (usesN F1.blocks_ k=0) && pureS F1 k):=by unfold candU;rw [hps]
    have gm1:cntB F1.blocks_ F1.params_=many F1:=rfl
    have keep:candU F1 k=false→∃ (a:Nat) (a_1:Func) (b:Int),(((a:Int)≤many a_1∧0≤b∧b + many a_1≤80)∧Enc.good a_1∧goodF a_1=true∧(∀ (k:Nat),a≤k→(k:Int) < many a_1→candU a_1 k=false)∧duP (many a_1).toNat (a_1,b)=duP (many F).toNat (F,0)) ∧
        (many a_1).toNat * 100 + a < (many F1).toNat * 100 + (k + 1)∧(F1.params_=a_1.params_∧F1.blocks_.length=a_1.blocks_.length∧(fun (i j:Nat)=>dBlock (F1.blocks_[i]?.getD default) j)=fun i j=>dBlock (a_1.blocks_[i]?.getD default) j)∧m=b∧(k:Int)=a:=fun hc =>
      ⟨k,F1,m,⟨⟨by omega,hm0,hm1⟩,hF1,hg1,fun j h1 h2=>by
        by_cases e:j=k
        · rw [e];exact hc
        · exact hcn j (by omega) h2,he⟩,by omega,⟨rfl,rfl,rfl⟩,rfl,rfl⟩
    have drop:candU F1 k=true→((∃ k0,InB F1 k k0)∧∀ (b:Block),b∈F1.blocks_→∀ (x:Int),x∈allU b→¬x=(k:Int))∧Enc.good (leaveF F1 k)∧∃ (a:Nat) (a_1:Func) (b:Int),(((a:Int)≤many a_1∧0≤b∧b + many a_1≤80)∧Enc.good a_1∧goodF a_1=true∧(∀ (k:Nat),a≤k→(k:Int) < many a_1→candU a_1 k=false)∧duP (many a_1).toNat (a_1,b)=duP (many F).toNat (F,0)) ∧
        (many a_1).toNat * 100 + a < (many F1).toNat * 100 + (k + 1)∧((leaveF F1 k).params_=a_1.params_∧(leaveF F1 k).blocks_.length=a_1.blocks_.length∧(fun (i j:Nat)=>dBlock ((leaveF F1 k).blocks_[i]?.getD default) j)=fun i j=>dBlock (a_1.blocks_[i]?.getD default) j)∧IntKind.i64.wrap (m + 1)=b∧IntKind.i64.wrap (cntB (leaveF F1 k).blocks_ (leaveF F1 k).params_ - 1)=(a:Int) - 1:=fun hc=>by
      have hc2:=hc
      unfold candU at hc2
      rw [Bool.and_eq_true,decide_eq_true_eq] at hc2
      obtain ⟨k0,hin⟩:=pure_inB hg1 hk hc2.2
      have hu:=unused_ne hc2.1
      have hG:=leave_good hg1 hin hu
      have hmn:=leave_many hg1 hin
      have hE:=leave_enc hF1 hin.par
      refine ⟨⟨⟨k0,hin⟩,hu⟩,hE,(many F1 - 1).toNat,leaveF F1 k,m + 1,⟨⟨by omega,by omega,by omega⟩,hE,hG,fun j h1 h2=>by omega, ?_⟩,by omega,⟨rfl,rfl,rfl⟩,wrap_id (by omega) (by omega), ?_⟩
      · rw [← he,hmn]
        obtain ⟨n,hn⟩:∃ n,(many F1).toNat=n + 1:=⟨(many F1).toNat - 1,by omega⟩
        rw [hn,show (many F1 - 1).toNat=n by omega]
        have eL:lastU F1=k:=by
          rw [eU]
          show (if candU F1 k=true then (k:Int) else lastN F1 k)=_
          rw [if_pos hc]
        show _=if lastU F1 < 0 then (F1,m) else duP n (leaveF F1 (lastU F1).toNat,m + 1)
        rw [if_neg (by omega),eL,Int.toNat_natCast]
      · have:cntB (leaveF F1 k).blocks_ (leaveF F1 k).params_=many F1 - 1:=hmn
        rw [this,wrap_id (by omega) (by omega)];omega
    refine W_run mixed ⟨[K_98,K_80,K_111,K_112,K_113,K_114],[K_98h,K_80h,K_111h,K_112h,K_113h,K_114h],[],54,0,[0,1,2,3,4,5,6,7,8,15,44],[15,26,39,44]⟩ (fun _=>[]) (by kernel_rfl) ?_
    simp only [stripX,stripOps,pickOps]
    simp [K_98_f,K_98_e,K_80_f,K_80_e,K_111_f,K_111_e,K_112_f,K_112_e,K_113_f,K_113_e,K_114_f,K_114_e,K_98h_f,K_98h_e,K_80h_f,K_80h_e,K_111h_f,K_111h_e,K_112h_f,K_112h_e,K_113h_f,K_113h_e,K_114h_f,K_114h_e,K_98h_g,K_80h_g,K_111h_g,K_112h_g,K_113h_g,K_114h_g,hF1,hg1,gm1,ek,wk]
    have pt:0≤(instS F1 (k:Int) F1.blocks_ 0).1→∀ b,pureOp ((F1.blocks_[(instS F1 (k:Int) F1.blocks_ 0).1.toNat]?.getD default).insts_[(instS F1 (k:Int) F1.blocks_ 0).2.toNat]?.getD default).op_=b→pureS F1 k=b:=fun q b h=>by
      unfold pureS
      rw [decide_eq_true q];exact h
    refine ⟨fun q=>⟨⟨q,(hok q).1⟩,(hok q).2,fun p=>⟨fun c=>drop (by rw [hcu,pt q _ p,c];rfl),fun c=>keep (by rw [hcu,decide_eq_false c];rfl)⟩,fun p=>keep (by rw [hcu,pt q _ p,Bool.and_false])⟩,fun q=>keep ?_⟩
    rw [hcu]
    unfold pureS
    rw [decide_eq_false (show ¬ 0≤(instS F1 (k:Int) F1.blocks_ 0).1 by omega),Bool.false_and,Bool.and_false]
noncomputable def K_60:Ent Tryz.prog:=Ent.p1 (α:=Func) 60 (fun F=>Enc.good F∧goodF F=true) (fun F=>.tup [vFunc (duG F),.d (.int .i64 (duK F))]) (fun F hc=>l15Unused_c F hc.1 hc.2)
theorem K_60_f:K_60.f=60:=rfl
theorem K_60_e (F0:Int) (F1:List Block):K_60.e [.agg [.d (.int .i64 F0),.d (dBlockS F1)]]=some (Enc.good (Func.mk F0 F1)∧goodF (Func.mk F0 F1)=true,.tup [vFunc (duG (Func.mk F0 F1)),.d (.int .i64 (duK (Func.mk F0 F1)))],[]):=by unfold K_60;exact Ent.p1_eq (α:=Func) (Func.mk F0 F1)
noncomputable def K_60h:EntH Tryz.prog:=EntH.pk1 (α:=Func) 60 (fun F=>Enc.good F∧goodF F=true) (fun F=>.tup [vFunc (duG F),.d (.int .i64 (duK F))]) (fun F=>[]) (fun F hc=>PureP.ans (l15Unused_c F hc.1 hc.2))
theorem K_60h_f:K_60h.f=60:=rfl
theorem K_60h_g:K_60h.gro=true:=rfl
theorem K_60h_e {x1:V} {H:Heap}:K_60h.e [x1] H=guardR ((decA (α:=Func) H x1).1) (peekR (Enc.good (decA (α:=Func) H x1).2∧goodF (decA (α:=Func) H x1).2=true) (.tup [vFunc (duG (decA (α:=Func) H x1).2),.d (.int .i64 (duK (decA (α:=Func) H x1).2))]) ([]) H):=rfl
end Go.Proofs.YtbmloeahcdneaaaGreat
