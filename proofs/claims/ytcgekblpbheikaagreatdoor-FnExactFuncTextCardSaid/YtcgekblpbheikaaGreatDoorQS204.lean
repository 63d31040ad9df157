/- The text of a function: data, and the reference's l20Text and FuncText. No condition. -/
import Derived.Test.YtcgekblpbheikaaGreatDoorQS202
namespace Go.Proofs.YtcgekblpbheikaaGreatDoor
set_option maxRecDepth 100000
set_option linter.unusedSimpArgs false
set_option linter.unusedVariables false
theorem lsB_app:∀ (a b:List ByteArray) (w:ByteArray),lsB w (a++b)=lsB (lsB w a) b
  | [],b,w=>rfl
  | x :: a,b,w=>by rw [List.cons_append,lsB,lsB,lsB_app a b]
theorem lsB_one {w w':ByteArray} (x:ByteArray) (h:w++⟨#[32]⟩=w'):w'++x=lsB w [x]:=by
  rw [← h,lsB,lsB,ByteArray.append_assoc]
theorem lsB_jmp (w:ByteArray) (j:Jump):lsB ((w++⟨#[32]⟩)++numB j.to_) (j.args_.map numB)=lsB w (jmpW j):=by
  rw [ByteArray.append_assoc];rfl
def headT (b:Block):ByteArray:=lsB ⟨#[98,108,111,99,107]⟩ [numB b.params_]++⟨#[10]⟩
def insT (s:ByteArray) (l:List Inst):ByteArray:=l.foldl (fun s x=>s++instB x) s
def blkT (s:ByteArray) (b:Block):ByteArray:=insT (s++headT b) b.insts_++endT b
def begT (F:Func):ByteArray:=lsB ⟨#[102,117,110,99]⟩ [numB F.params_]++⟨#[10]⟩
def funT (F:Func):ByteArray:=F.blocks_.foldl blkT (begT F)
theorem insT_snoc (s:ByteArray) (l:List Inst) {i:Nat} (h:i < l.length):insT s (l.take (i + 1))=insT s (l.take i)++instB (l[i]?.getD default):=by
  unfold insT
  rw [take_snocD h,List.foldl_append];rfl
theorem blkT_snoc (s:ByteArray) (l:List Block) {i:Nat} (h:i < l.length):(l.take (i + 1)).foldl blkT s=blkT ((l.take i).foldl blkT s) (l[i]?.getD default):=by
  rw [take_snocD h,List.foldl_append];rfl
theorem one_len (w:ByteArray) (n:Int) (hw:w.size≤10) (hn:Enc.good n):(lsB w [numB n]).size≤40:=by
  rw [lsB,lsB,ByteArray.size_append,ByteArray.size_append]
  have:=numB_len hn
  show _ + (1 + _)≤_
  omega
theorem instB_len {x:Inst} (h:LnI x):(instB x).size≤4000:=by
  unfold instB
  have h1:=wordB_len x.op_
  have h2:=lsB_size (if x.op_=1 then [numB x.n_] else x.args_.map numB) (wordB x.op_) 1000 (fun y hy=>by
    split at hy
    · rw [List.mem_singleton.1 hy];exact numB_1000 h.n
    · obtain ⟨v,hv,rfl⟩:=List.mem_map.1 hy
      exact numB_1000 (good_80 (h.args v hv)))
  have h3:(if x.op_=1 then [numB x.n_] else x.args_.map numB).length≤3:=by
    have:=h.len
    split
    · simp
    · rw [List.length_map];exact this
  have h4:=Nat.mul_le_mul_right (1000 + 1) h3
  rw [ByteArray.size_append]
  show _ + 1≤_
  omega
theorem headT_len {b:Block} (h:LnB b):(headT b).size≤50:=by
  unfold headT
  rw [ByteArray.size_append]
  have:=one_len ⟨#[98,108,111,99,107]⟩ b.params_ (by decide) (good_80 (by have:=h.par;omega))
  show _ + 1≤_
  omega
theorem endT_len {b : Block} (h : LnB b) : (endT b).size ≤ 20000 := by
  unfold endT
  rw [ByteArray.size_append]
  show _ + 1≤_
  rcases h.nd with ⟨he,hv⟩ | ⟨he,j,hj,lj⟩ | ⟨he,hv,j,k,hj,lj,lk⟩
  · rw [if_pos he]
    have:=one_len ⟨#[114,101,116,117,114,110]⟩ b.value_ (by decide) (good_80 hv)
    omega
  · rw [if_neg (by omega),if_pos he,show b.jumps_[0]?.getD default=j by rw [hj];rfl]
    obtain ⟨l1,l2⟩:=jmpW_1000 lj
    have h1:=lsB_size (jmpW j) ⟨#[106,117,109,112]⟩ 1000 l2
    have h4:=Nat.mul_le_mul_right (1000 + 1) l1
    have:(⟨#[106,117,109,112]⟩:ByteArray).size=4:=rfl
    omega
  · rw [if_neg (by omega),if_neg (by omega),show b.jumps_[0]?.getD default=j by rw [hj];rfl,show b.jumps_[1]?.getD default=k by rw [hj];rfl]
    obtain ⟨l1,l2⟩:=jmpW_1000 lj
    obtain ⟨l3,l4⟩:=jmpW_1000 lk
    have h1:=lsB_size (numB b.value_ :: (jmpW j++⟨#[124]⟩ :: jmpW k)) ⟨#[98,114,97,110,99,104]⟩ 1000 (fun y hy=>by
      rcases List.mem_cons.1 hy with rfl | hy
      · exact numB_1000 (good_80 hv)
      · rcases List.mem_append.1 hy with hy | hy
        · exact l2 y hy
        · rcases List.mem_cons.1 hy with rfl | hy
          · decide
          · exact l4 y hy)
    have h3:(numB b.value_ :: (jmpW j++⟨#[124]⟩ :: jmpW k)).length≤12:=by simp;omega
    have h4:=Nat.mul_le_mul_right (1000 + 1) h3
    have:(⟨#[98,114,97,110,99,104]⟩:ByteArray).size=6:=rfl
    omega
theorem insT_len (s:ByteArray):∀ (l:List Inst),(∀ x∈l,LnI x)→(insT s l).size≤s.size + 4000 * l.length:=by
  intro l
  induction l generalizing s with
  | nil=>intro _;exact Nat.le_refl _
  | cons x l ih =>
    intro h
    have h1:=ih (s++instB x) fun y hy=>h y (List.mem_cons_of_mem _ hy)
    have h2:=instB_len (h x List.mem_cons_self)
    rw [ByteArray.size_append] at h1
    show (insT (s++instB x) l).size≤_
    rw [List.length_cons]
    omega
theorem blkT_len (s:ByteArray) {b:Block} (h:LnB b):(blkT s b).size≤s.size + 400000:=by
  unfold blkT
  have h1:=insT_len (s++headT b) b.insts_ h.ins
  have h2:=headT_len h
  have h3:=endT_len h
  have h4:=h.ni
  rw [ByteArray.size_append] at h1 ⊢
  omega
theorem blksT_len (s:ByteArray):∀ (l:List Block),(∀ b∈l,LnB b)→(l.foldl blkT s).size≤s.size + 400000 * l.length:=by
  intro l
  induction l generalizing s with
  | nil=>intro _;exact Nat.le_refl _
  | cons x l ih =>
    intro h
    have h1:=ih (blkT s x) fun y hy=>h y (List.mem_cons_of_mem _ hy)
    have h2:=blkT_len s (h x List.mem_cons_self)
    show (l.foldl blkT (blkT s x)).size≤_
    rw [List.length_cons]
    omega
theorem l20List_c (w:ByteArray) (l:List Int) (hw:w.size≤1000000000) (hl:l.length≤1000) (hg:∀ v∈l,0≤v∧v < 80):PureP Tryz.prog 97 [.d (.str w),.d (dIntS l)] (· = .d (.str (lsB w (l.map numB)))):=by
  refine pure_of Tryz.func97 en_97 rfl rfl (W_run mixed ⟨[K_69],[K_69h],[],20,0,[0,1,4,6,7,8,9,10],[10]⟩ (fun _=>[]) (by kernel_rfl) ?_)
  simp only [Tryz.f97,stripX,stripOps,pickOps]
  simp [K_69_f,K_69_e,K_69h_f,K_69h_e,K_69h_g,hl]
  refine W_loopA (fun i:Nat=>[(0,.d (.str (lsB w ((l.take i).map numB)))),(7,.d (dIntS l)),(8,.d (.int .i64 l.length)),(9,.d (.int .i64 i))]) (fun _=>[]) (fun i=>i≤l.length) (fun i=>l.length - i) 0 ?_ ?_ ?_
  · simp [lsB]
  · simp
  intro i hi
  replace hi:i≤l.length:=hi
  by_cases hil:i < l.length
  · have wi:IntKind.i64.wrap ((i:Int) + 1)=((i + 1:Nat):Int):=by rw [wrap_id] <;> omega
    have hv:0≤l[i]?.getD default∧l[i]?.getD default < 80:=by rw [List.getElem?_eq_getElem hil];exact hg _ (List.getElem_mem hil)
    refine W_run mixed ⟨[K_69],[K_69h],[],20,0,[0,1,4,6,7,8,9,10],[10]⟩ (fun _=>[]) (by kernel_rfl) ?_
    simp only [stripX,stripOps,pickOps]
    simp [K_69_f,K_69_e,K_69h_f,K_69h_e,K_69h_g,hil,wi]
    rw [List.getElem?_eq_getElem hil] at hv
    have hv:0≤l[i]∧l[i] < 80:=hv
    have h1:=numB_len (good_80 hv)
    have h2:=lsB_size (List.take i (List.map numB l)) w 1000 fun y hy=>by
      obtain ⟨v,hv,rfl⟩:=List.mem_map.1 (List.mem_of_mem_take hy)
      exact numB_1000 (good_80 (hg v hv))
    have h3:=Nat.mul_le_mul_right (1000 + 1) (show (List.take i (List.map numB l)).length≤1000 by simp;omega)
    have h4:(⟨#[32]⟩:ByteArray).size=1:=rfl
    refine ⟨⟨by omega,by omega⟩,by omega,by omega,i + 1,hil,by omega, ?_,rfl⟩
    rw [List.take_succ_eq_append_getElem (by simpa using hil),lsB_app,List.getElem_map];rfl
  · have e:i=l.length:=by omega
    subst e
    refine W_run mixed ⟨[K_69],[K_69h],[],20,0,[0,1,4,6,7,8,9,10],[10]⟩ (fun _=>[]) (by kernel_rfl) ?_
    simp only [stripX,stripOps,pickOps]
    simp [K_69_f,K_69_e,K_69h_f,K_69h_e,K_69h_g,hil]
noncomputable def K_97:Ent Tryz.prog:=Ent.p2 (α:=ByteArray) (β:=List Int) 97 (fun w l=>w.size≤1000000000∧l.length≤1000∧∀ v∈l,0≤v∧v < 80) (fun w l=>.d (.str (lsB w (l.map numB)))) (fun w l hc=>l20List_c w l hc.1 hc.2.1 hc.2.2)
theorem K_97_f:K_97.f=97:=rfl
theorem K_97_e (w:ByteArray) (l:List Int):K_97.e [.d (.str w),.d (dIntS l)]=some (w.size≤1000000000∧l.length≤1000∧∀ v∈l,0≤v∧v < 80,.d (.str (lsB w (l.map numB))),[]):=by unfold K_97;exact Ent.p2_eq (α:=ByteArray) (β:=List Int) w l
noncomputable def K_97h:EntH Tryz.prog:=EntH.pk2 (α:=ByteArray) (β:=List Int) 97 (fun w l=>w.size≤1000000000∧l.length≤1000∧∀ v∈l,0≤v∧v < 80) (fun w l=>.d (.str (lsB w (l.map numB)))) (fun w l=>[]) (fun w l hc=>PureP.ans (l20List_c w l hc.1 hc.2.1 hc.2.2))
theorem K_97h_f:K_97h.f=97:=rfl
theorem K_97h_g:K_97h.gro=true:=rfl
theorem K_97h_e {x1 x2:V} {H:Heap}:K_97h.e [x1,x2] H=guardR ((decA (α:=ByteArray) H x1).1∧(decA (α:=List Int) H x2).1) (peekR ((decA (α:=ByteArray) H x1).2.size≤1000000000∧(decA (α:=List Int) H x2).2.length≤1000∧∀ v∈(decA (α:=List Int) H x2).2,0≤v∧v < 80) (.d (.str (lsB (decA (α:=ByteArray) H x1).2 ((decA (α:=List Int) H x2).2.map numB)))) ([]) H):=rfl
theorem l20Jump_c (w:ByteArray) (j:Jump) (hw:w.size≤900000000) (hj:LnJ j):PureP Tryz.prog 98 [.d (.str w),vJump j] (· = .d (.str (lsB w (jmpW j)))):=by
  have ht:=hj.to
  have hl:=hj.len
  have ha:=hj.args
  have h1:=numB_len (good_80 (v:=j.to_) (by omega))
  have h4:(⟨#[32]⟩:ByteArray).size=1:=rfl
  rw [← lsB_jmp]
  refine pure_of Tryz.func98 en_98 rfl rfl (W_run mixed ⟨[K_69,K_97],[K_69h,K_97h],[],14,0,[0,1,3,4],[]⟩ (fun | 1=>[0,1,2,6,3,4,5,7,8,9] | _=>[]) (by kernel_rfl) ?_)
  simp only [Tryz.f98,stripX,stripOps,pickOps]
  simp [K_69_f,K_69_e,K_97_f,K_97_e,K_69h_f,K_69h_e,K_97h_f,K_97h_e,K_69h_g,K_97h_g,ByteArray.size_append]
  exact ⟨by omega,⟨by omega,by omega⟩,by omega,by omega,by omega,ha⟩
noncomputable def K_98:Ent Tryz.prog:=Ent.p2 (α:=ByteArray) (β:=Jump) 98 (fun w j=>w.size≤900000000∧LnJ j) (fun w j=>.d (.str (lsB w (jmpW j)))) (fun w j hc=>l20Jump_c w j hc.1 hc.2)
theorem K_98_f:K_98.f=98:=rfl
theorem K_98_e (w:ByteArray) (j0:Int) (j1:List Int):K_98.e [.d (.str w),.agg [.d (.int .i64 j0),.d (dIntS j1)]]=some (w.size≤900000000∧LnJ (Jump.mk j0 j1),.d (.str (lsB w (jmpW (Jump.mk j0 j1)))),[]):=by unfold K_98;exact Ent.p2_eq (α:=ByteArray) (β:=Jump) w (Jump.mk j0 j1)
noncomputable def K_98h:EntH Tryz.prog:=EntH.pk2 (α:=ByteArray) (β:=Jump) 98 (fun w j=>w.size≤900000000∧LnJ j) (fun w j=>.d (.str (lsB w (jmpW j)))) (fun w j=>[]) (fun w j hc=>PureP.ans (l20Jump_c w j hc.1 hc.2))
theorem K_98h_f:K_98h.f=98:=rfl
theorem K_98h_g:K_98h.gro=true:=rfl
theorem K_98h_e {x1 x2:V} {H:Heap}:K_98h.e [x1,x2] H=guardR ((decA (α:=ByteArray) H x1).1∧(decA (α:=Jump) H x2).1) (peekR ((decA (α:=ByteArray) H x1).2.size≤900000000∧LnJ (decA (α:=Jump) H x2).2) (.d (.str (lsB (decA (α:=ByteArray) H x1).2 (jmpW (decA (α:=Jump) H x2).2)))) ([]) H):=rfl
theorem l20Text_c (F : Func) (hF : Enc.good F) (hg : goodF F = true) : PureP Tryz.prog 41 [vFunc F] (· = .d (.str (funT F))) := by
  obtain ⟨hp,hl,hh,hm,hc,hs,hbo⟩:=goodF_spec hg
  have hLn:∀ b∈F.blocks_,LnB b:=fun b hb=>good_ln hg hF hb
  have hpg:=good_80 (v:=F.params_) (by omega)
  have h1:=numB_len hpg
  have q1:=lsB_one (w':=⟨#[102,117,110,99,32]⟩) (numB F.params_) (show (⟨#[102,117,110,99]⟩:ByteArray)++⟨#[32]⟩=_ from rfl)
  have n1:(⟨#[10]⟩:ByteArray).size=1:=rfl
  have n2:(⟨#[102,117,110,99,32]⟩:ByteArray).size=5:=rfl
  have n3:(⟨#[98,108,111,99,107,32]⟩:ByteArray).size=6:=rfl
  have n4:(⟨#[110,117,109,32]⟩:ByteArray).size=4:=rfl
  have n5:(⟨#[114,101,116,117,114,110,32]⟩:ByteArray).size=7:=rfl
  have n6:(⟨#[98,114,97,110,99,104,32]⟩:ByteArray).size=7:=rfl
  have n7:(⟨#[32,124]⟩:ByteArray).size=2:=rfl
  have hb0:(begT F).size≤50:=by
    unfold begT
    rw [ByteArray.size_append]
    have:=one_len ⟨#[102,117,110,99]⟩ F.params_ (by decide) hpg
    show _ + 1≤_
    omega
  have hq1:(lsB ⟨#[102,117,110,99]⟩ [numB F.params_]).size≤40:=one_len _ _ (by decide) hpg
  refine pure_of Tryz.func41 en_41 rfl rfl (W_run mixed ⟨[K_69,K_71,K_85,K_97,K_98],[K_69h,K_71h,K_85h,K_97h,K_98h],[],95,0,[0,1,2,3,5,7,14,15,16,17,28,29,30,31,36,55,74,83],[17,31,36,74,83]⟩ (fun | 11=>[0,1,4,2,3,5,6,7,8,9] | 14=>[0,1,5,11,2,3,4,6,7,8,9,10,12,13,14,15,16,17,18] | _=>[]) (by kernel_rfl) ?_)
  simp only [Tryz.f41,stripX,stripOps,pickOps]
  simp [K_69_f,K_69_e,K_71_f,K_71_e,K_85_f,K_85_e,K_97_f,K_97_e,K_98_f,K_98_e,K_69h_f,K_69h_e,K_71h_f,K_71h_e,K_85h_f,K_85h_e,K_97h_f,K_97h_e,K_98h_f,K_98h_e,K_69h_g,K_71h_g,K_85h_g,K_97h_g,K_98h_g,hF,q1]
  refine ⟨⟨by omega,by omega⟩,by omega,by omega, ?_⟩
  refine W_loopA (fun i:Nat=>[(1,.ptr 0 2 0 0),(3,.d (.str ((F.blocks_.take i).foldl blkT (begT F)))),(14,.d (dBlockS F.blocks_)),(15,.d (.int .i64 F.blocks_.length)),(16,.d (.int .i64 i))]) (fun _=>[.row 2 [[.d (.int .i64 F.params_),.d (dBlockS F.blocks_)]]]) (fun i=>i≤F.blocks_.length) (fun i=>F.blocks_.length - i) 0 ?_ ?_ ?_
  · simp [begT]
  · exact Nat.zero_le _
  intro i hi
  replace hi:i≤F.blocks_.length:=hi
  by_cases hil:i < F.blocks_.length
  · have wi:IntKind.i64.wrap ((i:Int) + 1)=((i + 1:Nat):Int):=by rw [wrap_id] <;> omega
    have hsn:=blkT_snoc (begT F) F.blocks_ hil
    have hS:=blksT_len (begT F) (F.blocks_.take i) fun b hb=>hLn b (List.mem_of_mem_take hb)
    have hLb:LnB (F.blocks_[i]?.getD default):=by rw [List.getElem?_eq_getElem hil];exact hLn _ (List.getElem_mem hil)
    have hb1:∀ h:i < F.blocks_.length,F.blocks_[i]=F.blocks_[i]?.getD default:=fun h=>by rw [List.getElem?_eq_getElem h];rfl
    have hb2:F.blocks_[i]?.getD default=F.blocks_[i]?.getD default:=rfl
    generalize F.blocks_[i]?.getD default=b at hsn hLb hb1 hb2
    have hl8:(F.blocks_.take i).length≤8:=by simp;omega
    generalize (F.blocks_.take i).foldl blkT (begT F)=S at hsn hS ⊢
    have hS2:S.size≤4000000:=by omega
    have pb:=good_80 (v:=b.params_) (by have:=hLb.par;omega)
    have hpb:=hLb.par
    have q2:=lsB_one (w':=⟨#[98,108,111,99,107,32]⟩) (numB b.params_) (show (⟨#[98,108,111,99,107]⟩:ByteArray)++⟨#[32]⟩=_ from rfl)
    have hq2:(lsB ⟨#[98,108,111,99,107]⟩ [numB b.params_]).size≤40:=one_len _ _ (by decide) pb
    have h2:=numB_len pb
    have hHT:headT b=lsB ⟨#[98,108,111,99,107]⟩ [numB b.params_]++⟨#[10]⟩:=rfl
    refine W_run mixed ⟨[K_69,K_71,K_85,K_97,K_98],[K_69h,K_71h,K_85h,K_97h,K_98h],[],95,0,[0,1,2,3,5,7,14,15,16,17,28,29,30,31,36,55,74,83],[17,31,36,74,83]⟩ (fun | 11=>[0,1,4,2,3,5,6,7,8,9] | 14=>[0,1,5,11,2,3,4,6,7,8,9,10,12,13,14,15,16,17,18] | _=>[]) (by kernel_rfl) ?_
    simp only [stripX,stripOps,pickOps]
    simp [K_69_f,K_69_e,K_71_f,K_71_e,K_85_f,K_85_e,K_97_f,K_97_e,K_98_f,K_98_e,K_69h_f,K_69h_e,K_71h_f,K_71h_e,K_85h_f,K_85h_e,K_97h_f,K_97h_e,K_98h_f,K_98h_e,K_69h_g,K_71h_g,K_85h_g,K_97h_g,K_98h_g,hil,hb1,hb2,wi,q2,ByteArray.size_append]
    rw [← hHT]
    refine ⟨⟨by omega,by omega⟩,by omega,by omega,by omega, ?_⟩
    refine W_loopA (fun j:Nat=>[(1,.ptr 0 2 0 0),(3,.d (.str (insT (S++headT b) (b.insts_.take j)))),(5,.ptr 1 5 0 0),(14,.d (dBlockS F.blocks_)),(15,.d (.int .i64 F.blocks_.length)),(16,.d (.int .i64 i)),(28,.d (dInstS b.insts_)),(29,.d (.int .i64 b.insts_.length)),(30,.d (.int .i64 j))])
      (fun _=>[.row 2 [[.d (.int .i64 F.params_),.d (dBlockS F.blocks_)]],.row 5 [[.d (.int .i64 b.params_),.d (dInstS b.insts_),.d (.int .i64 b.end_),.d (.int .i64 b.value_),.d (dJumpS b.jumps_)]]]) (fun j=>j≤b.insts_.length) (fun j=>b.insts_.length - j) 0 ?_ ?_ ?_
    · simp [insT]
    · exact Nat.zero_le _
    intro j hj
    replace hj:j≤b.insts_.length:=hj
    have hH:=headT_len hLb
    have hni:=hLb.ni
    by_cases hjl:j < b.insts_.length
    · have wj:IntKind.i64.wrap ((j:Int) + 1)=((j + 1:Nat):Int):=by rw [wrap_id] <;> omega
      have hsn2:=insT_snoc (S++headT b) b.insts_ hjl
      have hT:=insT_len (S++headT b) (b.insts_.take j) fun x hx=>hLb.ins x (List.mem_of_mem_take hx)
      have hLx:LnI (b.insts_[j]?.getD default):=by rw [List.getElem?_eq_getElem hjl];exact hLb.ins _ (List.getElem_mem hjl)
      have hx1:∀ h:j < b.insts_.length,b.insts_[j]=b.insts_[j]?.getD default:=fun h=>by rw [List.getElem?_eq_getElem h];rfl
      generalize b.insts_[j]?.getD default=x at hsn2 hLx hx1
      have ht80:(b.insts_.take j).length≤80:=by simp;omega
      rw [ByteArray.size_append] at hT
      generalize insT (S++headT b) (b.insts_.take j)=T at hsn2 hT ⊢
      have hT2:T.size≤5000000:=by omega
      have hxn:=hLx.n
      have h5:=numB_len hxn
      have h6:=instB_len hLx
      by_cases hx:x.op_=1
      · have q3:(⟨#[110,117,109,32]⟩:ByteArray)++numB x.n_++⟨#[10]⟩=instB x:=by
          rw [lsB_one (w:=⟨#[110,117,109]⟩) (w':=⟨#[110,117,109,32]⟩) (numB x.n_) rfl]
          unfold instB
          rw [if_pos hx,hx];rfl
        refine W_run mixed ⟨[K_69,K_71,K_85,K_97,K_98],[K_69h,K_71h,K_85h,K_97h,K_98h],[],95,0,[0,1,2,3,5,7,14,15,16,17,28,29,30,31,36,55,74,83],[17,31,36,74,83]⟩ (fun | 11=>[0,1,4,2,3,5,6,7,8,9] | 14=>[0,1,5,11,2,3,4,6,7,8,9,10,12,13,14,15,16,17,18] | _=>[]) (by kernel_rfl) ?_
        simp only [stripX,stripOps,pickOps]
        simp [K_69_f,K_69_e,K_71_f,K_71_e,K_85_f,K_85_e,K_97_f,K_97_e,K_98_f,K_98_e,K_69h_f,K_69h_e,K_71h_f,K_71h_e,K_85h_f,K_85h_e,K_97h_f,K_97h_e,K_98h_f,K_98h_e,K_69h_g,K_71h_g,K_85h_g,K_97h_g,K_98h_g,hjl,hx1,wj,hx,q3,ByteArray.size_append]
        exact ⟨hxn,by omega,by omega,by omega,j + 1,hjl,by omega,hsn2.symm,rfl⟩
      · have hxl:=hLx.len
        have hxa:=hLx.args
        have hwl:=wordB_len x.op_
        have q3:lsB (wordB x.op_) (x.args_.map numB)++⟨#[10]⟩=instB x:=by
          unfold instB
          rw [if_neg hx]
        have h7:(lsB (wordB x.op_) (x.args_.map numB)).size≤4000:=by
          have:=congrArg ByteArray.size q3
          rw [ByteArray.size_append] at this
          omega
        refine W_run mixed ⟨[K_69,K_71,K_85,K_97,K_98],[K_69h,K_71h,K_85h,K_97h,K_98h],[],95,0,[0,1,2,3,5,7,14,15,16,17,28,29,30,31,36,55,74,83],[17,31,36,74,83]⟩ (fun | 11=>[0,1,4,2,3,5,6,7,8,9] | 14=>[0,1,5,11,2,3,4,6,7,8,9,10,12,13,14,15,16,17,18] | _=>[]) (by kernel_rfl) ?_
        simp only [stripX,stripOps,pickOps]
        simp [K_69_f,K_69_e,K_71_f,K_71_e,K_85_f,K_85_e,K_97_f,K_97_e,K_98_f,K_98_e,K_69h_f,K_69h_e,K_71h_f,K_71h_e,K_85h_f,K_85h_e,K_97h_f,K_97h_e,K_98h_f,K_98h_e,K_69h_g,K_71h_g,K_85h_g,K_97h_g,K_98h_g,hjl,hx1,wj,hx,q3,ByteArray.size_append]
        exact ⟨⟨by omega,by omega,hxa⟩,by omega,by omega,j + 1,hjl,by omega,hsn2.symm,rfl⟩
    · have e:j=b.insts_.length:=by omega
      subst e
      have hT:=insT_len (S++headT b) b.insts_ hLb.ins
      rw [ByteArray.size_append] at hT
      have hE:=endT_len hLb
      rw [List.take_of_length_le (Nat.le_refl _)]
      have hfin:blkT S b=insT (S++headT b) b.insts_++endT b:=rfl
      generalize insT (S++headT b) b.insts_=T at hT hfin ⊢
      have hT2:T.size≤5000000:=by omega
      rcases hLb.nd with ⟨he,hv⟩ | ⟨he,u,hju,lu⟩ | ⟨he,hv,u,v,hju,lu,lv⟩
      · have h5:=numB_len (good_80 hv)
        have q3:(⟨#[114,101,116,117,114,110,32]⟩:ByteArray)++numB b.value_++⟨#[10]⟩=endT b:=by
          rw [lsB_one (w:=⟨#[114,101,116,117,114,110]⟩) (w':=⟨#[114,101,116,117,114,110,32]⟩) (numB b.value_) rfl]
          unfold endT
          rw [if_pos he]
        refine W_run mixed ⟨[K_69,K_71,K_85,K_97,K_98],[K_69h,K_71h,K_85h,K_97h,K_98h],[],95,0,[0,1,2,3,5,7,14,15,16,17,28,29,30,31,36,55,74,83],[17,31,36,74,83]⟩ (fun | 11=>[0,1,4,2,3,5,6,7,8,9] | 14=>[0,1,5,11,2,3,4,6,7,8,9,10,12,13,14,15,16,17,18] | _=>[]) (by kernel_rfl) ?_
        simp only [stripX,stripOps,pickOps]
        simp [K_69_f,K_69_e,K_71_f,K_71_e,K_85_f,K_85_e,K_97_f,K_97_e,K_98_f,K_98_e,K_69h_f,K_69h_e,K_71h_f,K_71h_e,K_85h_f,K_85h_e,K_97h_f,K_97h_e,K_98h_f,K_98h_e,K_69h_g,K_71h_g,K_85h_g,K_97h_g,K_98h_g,hjl,he,wi,q3,ByteArray.size_append]
        exact ⟨⟨by omega,by omega⟩,by omega,by omega,by omega,i + 1,hil,by omega,by rw [hsn,hfin],rfl⟩
      · have hju1:∀ h:0 < b.jumps_.length,b.jumps_[0]=u:=fun h=>by simp [hju]
        have hju2:b.jumps_[0]?.getD default=u:=by rw [hju];rfl
        have hju3:b.jumps_.length=1:=by rw [hju];rfl
        have q3:lsB ⟨#[106,117,109,112]⟩ (jmpW u)++⟨#[10]⟩=endT b:=by
          unfold endT
          rw [if_neg (by omega),if_pos he,hju2]
        have h7:(lsB ⟨#[106,117,109,112]⟩ (jmpW u)).size≤20000:=by
          have:=congrArg ByteArray.size q3
          rw [ByteArray.size_append] at this
          omega
        refine W_run mixed ⟨[K_69,K_71,K_85,K_97,K_98],[K_69h,K_71h,K_85h,K_97h,K_98h],[],95,0,[0,1,2,3,5,7,14,15,16,17,28,29,30,31,36,55,74,83],[17,31,36,74,83]⟩ (fun | 11=>[0,1,4,2,3,5,6,7,8,9] | 14=>[0,1,5,11,2,3,4,6,7,8,9,10,12,13,14,15,16,17,18] | _=>[]) (by kernel_rfl) ?_
        simp only [stripX,stripOps,pickOps]
        simp [K_69_f,K_69_e,K_71_f,K_71_e,K_85_f,K_85_e,K_97_f,K_97_e,K_98_f,K_98_e,K_69h_f,K_69h_e,K_71h_f,K_71h_e,K_85h_f,K_85h_e,K_97h_f,K_97h_e,K_98h_f,K_98h_e,K_69h_g,K_71h_g,K_85h_g,K_97h_g,K_98h_g,hjl,he,hju1,hju2,hju3,wi,q3,ByteArray.size_append]
        exact ⟨⟨by decide,lu⟩,by omega,by omega,i + 1,hil,by omega,by rw [hsn,hfin],rfl⟩
      · have hju1:∀ h:0 < b.jumps_.length,b.jumps_[0]=u:=fun h=>by simp [hju]
        have hju2:b.jumps_[0]?.getD default=u:=by rw [hju];rfl
        have hju3:b.jumps_.length=2:=by rw [hju];rfl
        have hju4:∀ h:1 < b.jumps_.length,b.jumps_[1]=v:=fun h=>by simp [hju]
        have hju5:b.jumps_[1]?.getD default=v:=by rw [hju];rfl
        have h5:=numB_len (good_80 hv)
        obtain ⟨l1,l2⟩:=jmpW_1000 lu
        have q4:=lsB_one (w:=⟨#[98,114,97,110,99,104]⟩) (w':=⟨#[98,114,97,110,99,104,32]⟩) (numB b.value_) rfl
        have h8:=one_len ⟨#[98,114,97,110,99,104]⟩ b.value_ (by decide) (good_80 hv)
        have h9:=lsB_size (jmpW u) (lsB ⟨#[98,114,97,110,99,104]⟩ [numB b.value_]) 1000 l2
        have h10:=Nat.mul_le_mul_right (1000 + 1) l1
        have q3:lsB (lsB (lsB ⟨#[98,114,97,110,99,104]⟩ [numB b.value_]) (jmpW u)++⟨#[32,124]⟩) (jmpW v)++⟨#[10]⟩=endT b:=by
          unfold endT
          rw [if_neg (by omega),if_neg (by omega),hju2,hju5,lsB,lsB,lsB,lsB_app,lsB];rfl
        have h7:(lsB (lsB (lsB ⟨#[98,114,97,110,99,104]⟩ [numB b.value_]) (jmpW u)++⟨#[32,124]⟩) (jmpW v)).size≤20000:=by
          have:=congrArg ByteArray.size q3
          rw [ByteArray.size_append] at this
          omega
        refine W_run mixed ⟨[K_69,K_71,K_85,K_97,K_98],[K_69h,K_71h,K_85h,K_97h,K_98h],[],95,0,[0,1,2,3,5,7,14,15,16,17,28,29,30,31,36,55,74,83],[17,31,36,74,83]⟩ (fun | 11=>[0,1,4,2,3,5,6,7,8,9] | 14=>[0,1,5,11,2,3,4,6,7,8,9,10,12,13,14,15,16,17,18] | _=>[]) (by kernel_rfl) ?_
        simp only [stripX,stripOps,pickOps]
        simp [K_69_f,K_69_e,K_71_f,K_71_e,K_85_f,K_85_e,K_97_f,K_97_e,K_98_f,K_98_e,K_69h_f,K_69h_e,K_71h_f,K_71h_e,K_85h_f,K_85h_e,K_97h_f,K_97h_e,K_98h_f,K_98h_e,K_69h_g,K_71h_g,K_85h_g,K_97h_g,K_98h_g,hjl,he,hju1,hju2,hju3,hju4,hju5,wi,q4,q3,ByteArray.size_append]
        exact ⟨⟨by omega,by omega⟩,by omega,⟨by omega,lu⟩,by omega,⟨by omega,lv⟩,by omega,by omega,i + 1,hil,by omega,by rw [hsn,hfin],rfl⟩
  · have e:i=F.blocks_.length:=by omega
    subst e
    refine W_run mixed ⟨[K_69,K_71,K_85,K_97,K_98],[K_69h,K_71h,K_85h,K_97h,K_98h],[],95,0,[0,1,2,3,5,7,14,15,16,17,28,29,30,31,36,55,74,83],[17,31,36,74,83]⟩ (fun | 11=>[0,1,4,2,3,5,6,7,8,9] | 14=>[0,1,5,11,2,3,4,6,7,8,9,10,12,13,14,15,16,17,18] | _=>[]) (by kernel_rfl) ?_
    simp only [stripX,stripOps,pickOps]
    simp [K_69_f,K_69_e,K_71_f,K_71_e,K_85_f,K_85_e,K_97_f,K_97_e,K_98_f,K_98_e,K_69h_f,K_69h_e,K_71h_f,K_71h_e,K_85h_f,K_85h_e,K_97h_f,K_97h_e,K_98h_f,K_98h_e,K_69h_g,K_71h_g,K_85h_g,K_97h_g,K_98h_g,hil]
    rfl
noncomputable def K_41:Ent Tryz.prog:=Ent.p1 (α:=Func) 41 (fun F=>Enc.good F∧goodF F=true) (fun F=>.d (.str (funT F))) (fun F hc=>l20Text_c F hc.1 hc.2)
theorem K_41_f:K_41.f=41:=rfl
theorem K_41_e (F0:Int) (F1:List Block):K_41.e [.agg [.d (.int .i64 F0),.d (dBlockS F1)]]=some (Enc.good (Func.mk F0 F1)∧goodF (Func.mk F0 F1)=true,.d (.str (funT (Func.mk F0 F1))),[]):=by unfold K_41;exact Ent.p1_eq (α:=Func) (Func.mk F0 F1)
noncomputable def K_41h:EntH Tryz.prog:=EntH.pk1 (α:=Func) 41 (fun F=>Enc.good F∧goodF F=true) (fun F=>.d (.str (funT F))) (fun F=>[]) (fun F hc=>PureP.ans (l20Text_c F hc.1 hc.2))
theorem K_41h_f:K_41h.f=41:=rfl
theorem K_41h_g:K_41h.gro=true:=rfl
theorem K_41h_e {x1:V} {H:Heap}:K_41h.e [x1] H=guardR ((decA (α:=Func) H x1).1) (peekR (Enc.good (decA (α:=Func) H x1).2∧goodF (decA (α:=Func) H x1).2=true) (.d (.str (funT (decA (α:=Func) H x1).2))) ([]) H):=rfl
def txOk (F:Func):Bool:=goodF F && decide ((funT F).size≤4000)
noncomputable def txV (F:Func):ByteArray:=if txOk F=true then funT F else ⟨#[]⟩
noncomputable def txR (F:Func):V:=.tup [.d (.str (txV F)),.d (.bool (txOk F))]
theorem tx_f {F:Func} (h:txOk F=false):txR F=.tup [.d (.str ⟨#[]⟩),.d (.bool false)]:=by unfold txR txV;rw [h];rfl
theorem tx_t {F:Func} (h:txOk F=true):txR F=.tup [.d (.str (funT F)),.d (.bool true)]:=by unfold txR txV;rw [h];rfl
theorem funcTextS_c (F:Func) (hF:Enc.good F):PureP Tryz.prog 9 [vFunc F] (· = txR F):=by
  cases hg:goodF F with
  | false =>
    have e:=tx_f (F:=F) (by unfold txOk;rw [hg];rfl)
    refine pure_of Tryz.func9 en_9 rfl rfl (W_run mixed ⟨[K_40,K_41],[K_40h,K_41h],[],15,0,[0,1,2,3,12],[7,12]⟩ (fun _=>[]) (by kernel_rfl) ?_)
    simp only [Tryz.f9,stripX,stripOps,pickOps]
    simp [K_40_f,K_40_e,K_41_f,K_41_e,K_40h_f,K_40h_e,K_41h_f,K_41h_e,K_40h_g,K_41h_g,hF,hg,e]
  | true =>
    by_cases hl:(funT F).size≤4000
    · have e:=tx_t (F:=F) (by unfold txOk;rw [hg,decide_eq_true hl];rfl)
      have c0:((4000:Int) < (funT F).size)=False:=eq_false (by omega)
      refine pure_of Tryz.func9 en_9 rfl rfl (W_run mixed ⟨[K_40,K_41],[K_40h,K_41h],[],15,0,[0,1,2,3,12],[7,12]⟩ (fun _=>[]) (by kernel_rfl) ?_)
      simp only [Tryz.f9,stripX,stripOps,pickOps]
      simp [K_40_f,K_40_e,K_41_f,K_41_e,K_40h_f,K_40h_e,K_41h_f,K_41h_e,K_40h_g,K_41h_g,hF,hg,e,c0]
    · have e:=tx_f (F:=F) (by unfold txOk;rw [hg,decide_eq_false hl];rfl)
      have c0:((4000:Int) < (funT F).size)=True:=eq_true (by omega)
      refine pure_of Tryz.func9 en_9 rfl rfl (W_run mixed ⟨[K_40,K_41],[K_40h,K_41h],[],15,0,[0,1,2,3,12],[7,12]⟩ (fun _=>[]) (by kernel_rfl) ?_)
      simp only [Tryz.f9,stripX,stripOps,pickOps]
      simp [K_40_f,K_40_e,K_41_f,K_41_e,K_40h_f,K_40h_e,K_41h_f,K_41h_e,K_40h_g,K_41h_g,hF,hg,e,c0]
noncomputable def K_9:Ent Tryz.prog:=Ent.p1 (α:=Func) 9 (fun F=>Enc.good F) (fun F=>txR F) (fun F hc=>funcTextS_c F hc)
theorem K_9_f:K_9.f=9:=rfl
theorem K_9_e (F0:Int) (F1:List Block):K_9.e [.agg [.d (.int .i64 F0),.d (dBlockS F1)]]=some (Enc.good (Func.mk F0 F1),txR (Func.mk F0 F1),[]):=by unfold K_9;exact Ent.p1_eq (α:=Func) (Func.mk F0 F1)
noncomputable def K_9h:EntH Tryz.prog:=EntH.pk1 (α:=Func) 9 (fun F=>Enc.good F) (fun F=>txR F) (fun F=>[]) (fun F hc=>PureP.ans (funcTextS_c F hc))
theorem K_9h_f:K_9h.f=9:=rfl
theorem K_9h_g:K_9h.gro=true:=rfl
theorem K_9h_e {x1:V} {H:Heap}:K_9h.e [x1] H=guardR ((decA (α:=Func) H x1).1) (peekR (Enc.good (decA (α:=Func) H x1).2) (txR (decA (α:=Func) H x1).2) ([]) H):=rfl
end Go.Proofs.YtcgekblpbheikaaGreatDoor
