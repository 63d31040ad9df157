/- Contracts of the specification's functions that look at a function's shape: how many values, where a block's begin, what is good. No condition. -/
import Derived.Test.YtcgekblpbheikaaGreatDoorQS1
namespace Go.Proofs.YtcgekblpbheikaaGreatDoor
set_option maxRecDepth 100000
set_option linter.unusedSimpArgs false
set_option linter.unusedVariables false
def cntB (bs:List Block) (n:Int):Int:=bs.foldl (fun n b=>IntKind.i64.wrap (n + IntKind.i64.wrap (b.params_ + b.insts_.length))) n
theorem cntB_cons (b:Block) (bs:List Block) (n:Int):cntB (b :: bs) n=cntB bs (IntKind.i64.wrap (n + IntKind.i64.wrap (b.params_ + b.insts_.length))):=rfl
theorem l12Count_c (F:Func) (hF:Enc.good F):PureP Tryz.prog 93 [vFunc F] (· = .d (.int .i64 (cntB F.blocks_ F.params_))):=by
  have hl:=good_len hF.2
  refine pure_of Tryz.func93 en_93 rfl rfl (W_run mixed ⟨[],[],[],25,0,[0,1,2,3,5,9,10,11,12],[12]⟩ (fun _=>[]) (by kernel_rfl) ?_)
  simp only [Tryz.f93,stripX,stripOps,pickOps]
  simp []
  refine W_loopA (fun a:Nat × Int=>[(3,.d (.int .i64 a.2)),(9,.d (dBlockS F.blocks_)),(10,.d (.int .i64 F.blocks_.length)),(11,.d (.int .i64 a.1))]) (fun _=>[]) (fun a=>a.1≤F.blocks_.length∧cntB (F.blocks_.drop a.1) a.2=cntB F.blocks_ F.params_) (fun a=>F.blocks_.length - a.1) (0,F.params_) ?_ ?_ ?_
  · simp
  · simp
  · rintro ⟨i,m⟩ ⟨hi,hm⟩
    refine W_run mixed ⟨[],[],[],25,0,[0,1,2,3,5,9,10,11,12],[12]⟩ (fun _=>[]) (by kernel_rfl) ?_
    simp only [stripX,stripOps,pickOps]
    simp []
    simp only [] at hi hm
    refine ⟨fun h=>?_,fun h=>?_⟩
    · rw [drop_cons h,cntB_cons] at hm
      exact ⟨h,i + 1,_,⟨by omega,hm⟩,by omega,rfl,by rw [wrap_id] <;> omega⟩
    · rw [List.drop_eq_nil_of_le h] at hm;exact hm
noncomputable def K_93:Ent Tryz.prog:=Ent.p1 (α:=Func) 93 (fun F=>Enc.good F) (fun F=>.d (.int .i64 (cntB F.blocks_ F.params_))) (fun F hc=>l12Count_c F hc)
theorem K_93_f:K_93.f=93:=rfl
theorem K_93_e (F0:Int) (F1:List Block):K_93.e [.agg [.d (.int .i64 F0),.d (dBlockS F1)]]=some (Enc.good (Func.mk F0 F1),.d (.int .i64 (cntB (Func.mk F0 F1).blocks_ (Func.mk F0 F1).params_)),[]):=by unfold K_93;exact Ent.p1_eq (α:=Func) (Func.mk F0 F1)
noncomputable def K_93h:EntH Tryz.prog:=EntH.pk1 (α:=Func) 93 (fun F=>Enc.good F) (fun F=>.d (.int .i64 (cntB F.blocks_ F.params_))) (fun F=>[]) (fun F hc=>PureP.ans (l12Count_c F hc))
theorem K_93h_f:K_93h.f=93:=rfl
theorem K_93h_g:K_93h.gro=true:=rfl
theorem K_93h_e {x1:V} {H:Heap}:K_93h.e [x1] H=guardR ((decA (α:=Func) H x1).1) (peekR (Enc.good (decA (α:=Func) H x1).2) (.d (.int .i64 (cntB (decA (α:=Func) H x1).2.blocks_ (decA (α:=Func) H x1).2.params_))) ([]) H):=rfl
def jumpOk (bs:List Block) (many:Int) (j:Jump):Bool :=
  inR j.to_ 0 (IntKind.i64.wrap (bs.length - 1)) && (decide ((j.args_.length:Int)=(bs[j.to_.toNat]?.getD default).params_) && allIn j.args_ 0 (IntKind.i64.wrap (many - 1)))
def jumpsOk (bs:List Block) (many:Int) (l:List Jump):Bool:=l.all (jumpOk bs many)
theorem jumpsOk_cons (bs:List Block) (many:Int) (j:Jump) (l:List Jump):jumpsOk bs many (j :: l)=(jumpOk bs many j && jumpsOk bs many l):=by simp [jumpsOk]
def endsOk (bs:List Block) (b:Block) (many:Int):Bool :=
  if b.end_=1 then decide ((b.jumps_.length:Int)=0) && (inR b.value_ 0 (IntKind.i64.wrap (many - 1)) && jumpsOk bs many b.jumps_)
  else if b.end_=2 then decide (b.value_=0) && (decide ((b.jumps_.length:Int)=1) && jumpsOk bs many b.jumps_)
  else if b.end_=3 then decide ((b.jumps_.length:Int)=2) && (inR b.value_ 0 (IntKind.i64.wrap (many - 1)) && jumpsOk bs many b.jumps_)
  else false
theorem inR_index {n:Int} {len:Nat} (hl:len≤9223372036854775807) (h:inR n 0 (IntKind.i64.wrap (len - 1))=true):0≤n∧n.toNat < len:=by
  rw [wrap_id (by omega) (by omega)] at h
  simp [inR] at h
  omega
theorem l12Ends_loop (F:Func) (l:List Jump) (many:Int) (hF:Enc.good F) (hj:Enc.good l) {c:Code} (hc:(loopsIn (Tryz.f96.body.getD .skip))[0]? = some c) {Q:Exit→St→Prop} {s:St}
    (hs:Into 0 s [(2,.d (.int .i64 many)),(3,.ptr 0 2 0 0),(40,.d (dJumpS l)),(41,.d (.int .i64 l.length)),(42,.d (.int .i64 0))] [.row 2 [[.d (.int .i64 F.params_),.d (dBlockS F.blocks_)]]])
    (h1:jumpsOk F.blocks_ many l=false→∀ l' H',mk l' 6=.d (.bool false)→Q .ret ⟨mk l',H'⟩) (h2:jumpsOk F.blocks_ many l=true→∀ l' H',Q (.exit 1) ⟨mk l',H'⟩):W Tryz.prog 76 0 c Q s:=by
  have hbs:Enc.good F.blocks_:=hF.2
  have hl:=good_len hj
  have hg:=good_get hj
  have hlb:=good_len hbs
  have hga:∀ i:Nat,Enc.good (l[i]?.getD default).args_:=fun i=>(hg i).2
  cases hc
  refine W_loopA (fun i:Nat=>[(2,.d (.int .i64 many)),(3,.ptr 0 2 0 0),(40,.d (dJumpS l)),(41,.d (.int .i64 l.length)),(42,.d (.int .i64 i))]) (fun _=>[.row 2 [[.d (.int .i64 F.params_),.d (dBlockS F.blocks_)]]]) (fun i=>i≤l.length∧jumpsOk F.blocks_ many (l.drop i)=jumpsOk F.blocks_ many l) (fun i=>l.length - i) 0 hs ?_ ?_
  · simp
  · rintro i ⟨hi,hm⟩
    refine W_run mixed ⟨[K_90,K_95],[K_90h,K_95h],[],76,0,[0,1,2,3,4,6,7,9,11,12,14,18,19,38,40,41,42,43,74],[12,14,18,19,26,30,38,43,54,67,74]⟩ (fun | 16=>[0,2,1,3,4,5,6,7,8,9,12,14,10,11,13,15,16,17,18,19,20,21,22,24,25,23,26,27,28] | _=>[]) (by kernel_rfl) ?_
    simp only [stripX,stripOps,pickOps]
    simp [K_90_f,K_90_e,K_95_f,K_95_e,K_90h_f,K_90h_e,K_95h_f,K_95h_e,K_90h_g,K_95h_g,hga]
    refine ⟨fun h=>?_,fun h=>h2 (by rw [← hm,List.drop_eq_nil_of_le h];rfl) _ _⟩
    rw [drop_cons h,jumpsOk_cons] at hm
    refine ⟨h,fun g1=>h1 (by rw [← hm];simp [jumpOk,g1]) _ _ rfl,fun g1=>?_⟩
    have hix:=inR_index hlb g1
    refine ⟨⟨hix.1,by omega⟩,fun g2=>h1 (by rw [← hm];simp [jumpOk,g2]) _ _ rfl,fun g2=>⟨fun g3=>h1 (by rw [← hm];simp [jumpOk,g3]) _ _ rfl,fun g3=>⟨i + 1,⟨by omega, ?_⟩,by omega,by rw [wrap_id] <;> omega⟩⟩⟩
    rw [← hm]
    simp [jumpOk,g1,g2,g3]
theorem l12Ends_c (F:Func) (b:Block) (many:Int) (hF:Enc.good F) (hb:Enc.good b):PureP Tryz.prog 96 [vFunc F,vBlock b,.d (.int .i64 many)] (· = .d (.bool (endsOk F.blocks_ b many))):=by
  have hj:Enc.good b.jumps_:=hb.2.2.2.2
  by_cases e1:b.end_=1
  · refine pure_of Tryz.func96 en_96 rfl rfl (W_run mixed ⟨[K_90,K_95],[K_90h,K_95h],[],76,0,[0,1,2,3,4,6,7,9,11,12,14,18,19,38,40,41,42,43,74],[12,14,18,19,26,30,38,43,54,67,74]⟩ (fun | 16=>[0,2,1,3,4,5,6,7,8,9,12,14,10,11,13,15,16,17,18,19,20,21,22,24,25,23,26,27,28] | _=>[]) (by kernel_rfl) ?_)
    simp only [Tryz.f96,stripX,stripOps,pickOps]
    simp [K_90_f,K_90_e,K_95_f,K_95_e,K_90h_f,K_90h_e,K_95h_f,K_95h_e,K_90h_g,K_95h_g,e1]
    refine ⟨fun g=>by simp [endsOk,e1,g],fun g=>⟨fun g2=>by simp [endsOk,e1,g2],fun g2=>?_⟩⟩
    refine l12Ends_loop F b.jumps_ many hF hj rfl ?_ (fun h l' H' hs=>?_) (fun h l' H'=>?_)
    · simp
    · simp [hs,endsOk,e1,h]
    · simp [endsOk,e1,h,g2]
      simp [g,jumpsOk]
  by_cases e2:b.end_=2
  · refine pure_of Tryz.func96 en_96 rfl rfl (W_run mixed ⟨[K_90,K_95],[K_90h,K_95h],[],76,0,[0,1,2,3,4,6,7,9,11,12,14,18,19,38,40,41,42,43,74],[12,14,18,19,26,30,38,43,54,67,74]⟩ (fun | 16=>[0,2,1,3,4,5,6,7,8,9,12,14,10,11,13,15,16,17,18,19,20,21,22,24,25,23,26,27,28] | _=>[]) (by kernel_rfl) ?_)
    simp only [Tryz.f96,stripX,stripOps,pickOps]
    simp [K_90_f,K_90_e,K_95_f,K_95_e,K_90h_f,K_90h_e,K_95h_f,K_95h_e,K_90h_g,K_95h_g,e2]
    refine ⟨fun g=>by simp [endsOk,e2,g],fun g=>⟨fun g2=>by simp [endsOk,e2,g2],fun g2=>?_⟩⟩
    refine l12Ends_loop F b.jumps_ many hF hj rfl ?_ (fun h l' H' hs=>?_) (fun h l' H'=>?_)
    · simp
    · simp [hs,endsOk,e2,h]
    · simp [endsOk,e2,h,g,g2]
  by_cases e3:b.end_=3
  · refine pure_of Tryz.func96 en_96 rfl rfl (W_run mixed ⟨[K_90,K_95],[K_90h,K_95h],[],76,0,[0,1,2,3,4,6,7,9,11,12,14,18,19,38,40,41,42,43,74],[12,14,18,19,26,30,38,43,54,67,74]⟩ (fun | 16=>[0,2,1,3,4,5,6,7,8,9,12,14,10,11,13,15,16,17,18,19,20,21,22,24,25,23,26,27,28] | _=>[]) (by kernel_rfl) ?_)
    simp only [Tryz.f96,stripX,stripOps,pickOps]
    simp [K_90_f,K_90_e,K_95_f,K_95_e,K_90h_f,K_90h_e,K_95h_f,K_95h_e,K_90h_g,K_95h_g,e3]
    refine ⟨fun g=>by simp [endsOk,e3,g],fun g=>⟨fun g2=>by simp [endsOk,e3,g2],fun g2=>?_⟩⟩
    refine l12Ends_loop F b.jumps_ many hF hj rfl ?_ (fun h l' H' hs=>?_) (fun h l' H'=>?_)
    · simp
    · simp [hs,endsOk,e3,h]
    · simp [endsOk,e3,h,g,g2]
  · refine pure_of Tryz.func96 en_96 rfl rfl (W_run mixed ⟨[K_90,K_95],[K_90h,K_95h],[],76,0,[0,1,2,3,4,6,7,9,11,12,14,18,19,38,40,41,42,43,74],[12,14,18,19,26,30,38,43,54,67,74]⟩ (fun | 16=>[0,2,1,3,4,5,6,7,8,9,12,14,10,11,13,15,16,17,18,19,20,21,22,24,25,23,26,27,28] | _=>[]) (by kernel_rfl) ?_)
    simp only [Tryz.f96,stripX,stripOps,pickOps]
    simp [K_90_f,K_90_e,K_95_f,K_95_e,K_90h_f,K_90h_e,K_95h_f,K_95h_e,K_90h_g,K_95h_g,e1,e2,e3]
    simp [endsOk,e1,e2,e3]
noncomputable def K_96:Ent Tryz.prog:=Ent.p3 (α:=Func) (β:=Block) (γ:=Int) 96 (fun F b many=>Enc.good F∧Enc.good b) (fun F b many=>.d (.bool (endsOk F.blocks_ b many))) (fun F b many hc=>l12Ends_c F b many hc.1 hc.2)
theorem K_96_f:K_96.f=96:=rfl
theorem K_96_e (F0:Int) (F1:List Block) (b0:Int) (b1:List Inst) (b2:Int) (b3:Int) (b4:List Jump) (many:Int):K_96.e [.agg [.d (.int .i64 F0),.d (dBlockS F1)],.agg [.d (.int .i64 b0),.d (dInstS b1),.d (.int .i64 b2),.d (.int .i64 b3),.d (dJumpS b4)],.d (.int .i64 many)]=some (Enc.good (Func.mk F0 F1)∧Enc.good (Block.mk b0 b1 b2 b3 b4),.d (.bool (endsOk (Func.mk F0 F1).blocks_ (Block.mk b0 b1 b2 b3 b4) many)),[]):=by unfold K_96;exact Ent.p3_eq (α:=Func) (β:=Block) (γ:=Int) (Func.mk F0 F1) (Block.mk b0 b1 b2 b3 b4) many
noncomputable def K_96h:EntH Tryz.prog:=EntH.pk3 (α:=Func) (β:=Block) (γ:=Int) 96 (fun F b many=>Enc.good F∧Enc.good b) (fun F b many=>.d (.bool (endsOk F.blocks_ b many))) (fun F b many=>[]) (fun F b many hc=>PureP.ans (l12Ends_c F b many hc.1 hc.2))
theorem K_96h_f:K_96h.f=96:=rfl
theorem K_96h_g:K_96h.gro=true:=rfl
theorem K_96h_e {x1 x2 x3:V} {H:Heap}:K_96h.e [x1,x2,x3] H=guardR ((decA (α:=Func) H x1).1∧(decA (α:=Block) H x2).1∧(decA (α:=Int) H x3).1) (peekR (Enc.good (decA (α:=Func) H x1).2∧Enc.good (decA (α:=Block) H x2).2) (.d (.bool (endsOk (decA (α:=Func) H x1).2.blocks_ (decA (α:=Block) H x2).2 (decA (α:=Int) H x3).2))) ([]) H):=rfl
end Go.Proofs.YtcgekblpbheikaaGreatDoor
