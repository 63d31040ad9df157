/- What the lines of a good function are made of. No condition. -/
import Derived.Test.YtcgekblpbheikaaGreatDoorQS31
namespace Go.Proofs.YtcgekblpbheikaaGreatDoor
set_option maxRecDepth 100000
set_option linter.unusedSimpArgs false
set_option linter.unusedVariables false
structure LnJ (j:Jump):Prop where
  to:0≤j.to_∧j.to_ < 8
  len:j.args_.length≤4
  args:∀ v∈j.args_,0≤v∧v < 80
structure LnI (x:Inst):Prop where
  op:x.op_=1∨(3≤x.op_∧x.op_≤13)
  n:Enc.good x.n_
  len:x.args_.length≤3
  args:∀ v∈x.args_,0≤v∧v < 80
structure LnB (b:Block):Prop where
  par:0≤b.params_∧b.params_≤4
  ni:b.insts_.length≤80
  ins:∀ x∈b.insts_,LnI x
  nd:(b.end_=1∧0≤b.value_∧b.value_ < 80)∨(b.end_=2∧∃ j,b.jumps_=[j]∧LnJ j)∨(b.end_=3∧(0≤b.value_∧b.value_ < 80)∧∃ j k,b.jumps_=[j,k]∧LnJ j∧LnJ k)
theorem arity_in {op:Int} (h:0≤arity op):(op=1∨(3≤op∧op≤13))∧arity op≤3:=by
  unfold arity arity1 at *
  split at h
  · rename_i e;rw [if_pos e];omega
  rename_i e1
  rw [if_neg e1]
  split at h
  · rename_i e;rw [if_pos e];omega
  rename_i e2
  rw [if_neg e2]
  split at h
  · omega
  rename_i e3
  rw [if_neg e3]
  split at h
  · rename_i e;rw [if_pos e];omega
  rename_i e4
  rw [if_neg e4]
  split at h
  · rename_i e;rw [if_pos e];omega
  rename_i e5
  rw [if_neg e5]
  split at h
  · rename_i e;rw [if_pos e];omega
  rename_i e6
  rw [if_neg e6]
  split at h
  · rename_i e;rw [if_pos e];have:=inR_t.1 e;omega
  · omega
theorem good_ln {F : Func} (hg : goodF F = true) (hE : Enc.good F) {b : Block} (hb : b ∈ F.blocks_) : LnB b := by
  obtain ⟨hp,hl,hh,hm,hc,hs,hbo⟩:=goodF_spec hg
  have hm0:0≤many F:=by omega
  have inr:∀ n,inR n 0 (IntKind.i64.wrap (many F - 1))=true→0≤n∧n < 80:=fun n q=>by
    have:=inR_t.1 q
    rw [wrap_sub (by omega) (by omega)] at this
    omega
  have h1:=List.all_eq_true.1 hbo _ hb
  have h2:=List.all_eq_true.1 hh _ hb
  simp only [bodyOk,Bool.and_eq_true] at h1
  simp only [headOk,Bool.and_eq_true,decide_eq_true_eq] at h2
  have hbE:Enc.good b:=hE.2.2 b hb
  have hj:∀ j∈b.jumps_,jumpsOk F.blocks_ (many F) b.jumps_=true→LnJ j:=fun j hj q=>by
    have q2:=List.all_eq_true.1 q j hj
    simp only [jumpOk,Bool.and_eq_true,decide_eq_true_eq] at q2
    obtain ⟨r1,r2⟩:=inR_index (by omega) q2.1
    refine ⟨by omega, ?_,fun v hv=>inr v (List.all_eq_true.1 q2.2.2 v hv)⟩
    have h3:=List.all_eq_true.1 hh (F.blocks_[j.to_.toNat]?.getD default) (by rw [List.getElem?_eq_getElem r2];exact List.getElem_mem r2)
    simp only [headOk,Bool.and_eq_true,decide_eq_true_eq] at h3
    have:=inR_t.1 h3.1
    have:=q2.2.1
    omega
  refine ⟨inR_t.1 h2.1,by omega,fun x hx=>?_, ?_⟩
  · have h3:=List.all_eq_true.1 h1.1 x hx
    simp only [instOk,Bool.and_eq_true,decide_eq_true_eq] at h3
    obtain ⟨a1,a2⟩:=arity_in h3.1
    exact ⟨a1,(hbE.2.1.2 x hx).2.1,by omega,fun v hv=>inr v (List.all_eq_true.1 h3.2.2.1 v hv)⟩
  · have h3:=h1.2
    unfold endsOk at h3
    split at h3
    · rename_i e
      simp only [Bool.and_eq_true,decide_eq_true_eq] at h3
      exact .inl ⟨e,inr _ h3.2.1⟩
    split at h3
    · rename_i e
      simp only [Bool.and_eq_true,decide_eq_true_eq] at h3
      obtain ⟨j,hjj⟩:=List.length_eq_one_iff.1 (show b.jumps_.length=1 by omega)
      exact .inr (.inl ⟨e,j,hjj,hj j (by rw [hjj];exact List.mem_cons_self) h3.2.2⟩)
    split at h3
    · rename_i e
      simp only [Bool.and_eq_true,decide_eq_true_eq] at h3
      have hl2:b.jumps_.length=2:=by omega
      match hjs:b.jumps_,hl2 with
      | [j,k],_ =>
        rw [hjs] at hj h3
        exact .inr (.inr ⟨e,inr _ h3.2.1,j,k,rfl,hj j List.mem_cons_self h3.2.2,hj k (List.mem_cons_of_mem _ List.mem_cons_self) h3.2.2⟩)
    · cases h3
end Go.Proofs.YtcgekblpbheikaaGreatDoor
