/- impl.funcText walked: the text of a function. No condition. -/
import Derived.Test.YtcgekblpbheikaaGreatDoorQS206
namespace Go.Proofs.YtcgekblpbheikaaGreatDoor
set_option maxRecDepth 100000
set_option linter.unusedSimpArgs false
set_option linter.unusedVariables false
theorem foldl_grow (f:ByteArray→Block→ByteArray) (hf:∀ s b,s.size≤(f s b).size):∀ (l:List Block) (s:ByteArray),s.size≤(l.foldl f s).size
  | [],s=>Nat.le_refl _
  | x :: l,s=>Nat.le_trans (hf s x) (foldl_grow f hf l _)
theorem insT_grow:∀ (l:List Inst) (s:ByteArray),s.size≤(insT s l).size
  | [],s=>Nat.le_refl _
  | x :: l,s=>Nat.le_trans (by rw [ByteArray.size_append];omega) (insT_grow l (s++instB x))
theorem funT_size (F:Func):(funT F).size ≠ 0:=by
  have h1:=foldl_grow blkT (fun s b=>by
    unfold blkT
    have:=insT_grow b.insts_ (s++headT b)
    rw [ByteArray.size_append] at this ⊢
    omega) F.blocks_ (begT F)
  have h2:1≤(begT F).size:=by
    unfold begT
    rw [ByteArray.size_append]
    show 1≤_ + 1
    omega
  show (F.blocks_.foldl blkT (begT F)).size ≠ 0
  omega
set_option maxHeartbeats 4000000 in
theorem funcTextI_c (F : Func) (hF : Enc.good F) (hg : goodF F = true) : PureP Tryz.prog 44 [vFunc F] (· = .d (.str (funT F))) := by
  obtain ⟨hp,hl,hh,hm,hc,hs0,hbo⟩:=goodF_spec hg
  have hLn:∀ b∈F.blocks_,LnB b:=fun b hb=>good_ln hg hF hb
  have hpg:=good_80 (v:=F.params_) (by omega)
  have hb0:(begT F).size≤50:=by
    unfold begT
    rw [ByteArray.size_append]
    have:=one_len ⟨#[102,117,110,99]⟩ F.params_ (by decide) hpg
    show _ + 1≤_
    omega
  have hb1:=funT_size F
  have hfs:=blksT_len (begT F) F.blocks_ hLn
  refine PureP.th Tryz.func44 en_44 rfl (of_decide_eq_true rfl) rfl fun X w0 a hs=>?_
  refine hs.piece [(1,.ptr 0 2 0 0)] [.row 2 [[.d (.int .i64 F.params_),.d (dBlockS F.blocks_)]]] ?_ fun φ a w hs=>?_
  · refine W_run mixed ⟨[K_101,K_74,K_102,K_103],[K_101h,K_74h,K_102h,K_103h],[100,104],48,0,[0,1,2,3,5,7,18,19,20,21,33,34,35,36],[21,36]⟩ (fun _=>[]) (by kernel_rfl) ?_
    simp only [stripX,stripOps,pickOps]
    simp [K_101_f,K_101_e,K_74_f,K_74_e,K_102_f,K_102_e,K_103_f,K_103_e,K_101h_f,K_101h_e,K_74h_f,K_74h_e,K_102h_f,K_102h_e,K_103h_f,K_103h_e,K_101h_g,K_74h_g,K_102h_g,K_103h_g]
  refine wp_seq (wp_mono (bld_new (r:=8) (q:=3) (of_decide_eq_true rfl) (of_decide_eq_true rfl) (by decide) rfl rfl rfl rfl hs) ?_)
  rintro e a1 w1 ⟨rfl,b0,x1,φ1,hT⟩
  have hT:SimT (bldT b0) w0 1 b0 x1 _ ⟨_,_⟩ φ1 a1 w1 (some (⟨#[]⟩:ByteArray).data.toList):=hT
  refine Wt_run hT ?_
  refine Wt_into (l:=[(1,.ptr 0 2 0 0),(3,.ptr 1 2 0 0)]) (H:=[.row 2 [[.d (.int .i64 F.params_),.d (dBlockS F.blocks_)]],.dead]) (by simp [upd,Into,intoE,V.under,placesBelow,placeBelow]) rfl ?_
  have wr:=write_T b0 ⟨#[]⟩ (begT F) (by show 0 + _≤_;omega)
  rw [show (⟨#[]⟩:ByteArray)++begT F=begT F from ByteArray.empty_append] at wr
  refine Wt_callN ⟨[K_102,K_103],[K_102h,K_103h],[101,74,100,104],48,2,[0,1,2,3,5,7,18,19,20,21,33,34,35,36,15],[21,36]⟩ rfl 7 3 15 [1,3] [(1,.ptr 0 2 0 0),(3,.ptr 1 2 0 0)] [.row 2 [[.d (.int .i64 F.params_),.d (dBlockS F.blocks_)]],.dead] rfl wr rfl rfl (by kernel_rfl) (by kernel_rfl) (fun t h=>by cases h;exact of_decide_eq_true rfl) ?_ ?_
  · simp [K_102_f,K_102_e,K_103_f,K_103_e,K_102h_f,K_102h_e,K_103h_f,K_103h_e,K_102h_g,K_103h_g,-V.flat,-V.one,one_int,one_bool,one_str,one_nilp,one_rp,one_nilsl,one_ro,one_cl,one_nilf,one_nili,one_ifc,one_ptr,one_sl,one_clo,flat_d,flat_ptr,flat_sl,flat_clo,flat_agg]
    refine (nw_at (l:=[F.params_]) rfl rfl (by simp) (fun x hx=>by rw [List.mem_singleton.1 hx];exact hpg)).mono ?_
    rintro r H1 ⟨rfl,k,rfl⟩
    simp [K_102_f,K_102_e,K_103_f,K_103_e,K_102h_f,K_102h_e,K_103h_f,K_103h_e,K_102h_g,K_103h_g,-V.flat,-V.one,one_int,one_bool,one_str,one_nilp,one_rp,one_nilsl,one_ro,one_cl,one_nilf,one_nili,one_ifc,one_ptr,one_sl,one_clo,flat_d,flat_ptr,flat_sl,flat_clo,flat_agg]
    refine (text_at (w:=⟨#[102,117,110,99]⟩) (ws:=[numB F.params_]) (by simp [rBy]) rfl (by simp) (by decide) fun y hy=>by rw [List.mem_singleton.1 hy];exact numB_1000 hpg).mono ?_
    rintro r H1 ⟨rfl,rfl⟩
    simp [K_102_f,K_102_e,K_103_f,K_103_e,K_102h_f,K_102h_e,K_103h_f,K_103h_e,K_102h_g,K_103h_g,-V.flat,-V.one,one_int,one_bool,one_str,one_nilp,one_rp,one_nilsl,one_ro,one_cl,one_nilf,one_nili,one_ifc,one_ptr,one_sl,one_clo,flat_d,flat_ptr,flat_sl,flat_clo,flat_agg]
    try rfl
  refine Wt_seq (Wt_next [(1,.ptr 0 2 0 0),(3,.ptr 1 2 0 0),(18,.d (dBlockS F.blocks_)),(19,.d (.int .i64 F.blocks_.length)),(20,.d (.int .i64 0))] [.row 2 [[.d (.int .i64 F.params_),.d (dBlockS F.blocks_)]],.dead] (n0:=2) rfl rfl ?_ ?_)
  · refine W_run mixed ⟨[K_102,K_103],[K_102h,K_103h],[101,74,100,104],48,2,[0,1,2,3,5,7,18,19,20,21,33,34,35,36],[21,36]⟩ (fun _=>[]) (by kernel_rfl) ?_
    simp only [stripX,stripOps,pickOps]
    simp [K_102_f,K_102_e,K_103_f,K_103_e,K_102h_f,K_102h_e,K_103h_f,K_103h_e,K_102h_g,K_103h_g,-V.flat,-V.one,one_int,one_bool,one_str,one_nilp,one_rp,one_nilsl,one_ro,one_cl,one_nilf,one_nili,one_ifc,one_ptr,one_sl,one_clo,flat_d,flat_ptr,flat_sl,flat_clo,flat_agg]
  refine Wt_block ?_
  refine Wt_loopT (fun i:Nat=>[(1,.ptr 0 2 0 0),(3,.ptr 1 2 0 0),(18,.d (dBlockS F.blocks_)),(19,.d (.int .i64 F.blocks_.length)),(20,.d (.int .i64 i))]) (fun _=>[.row 2 [[.d (.int .i64 F.params_),.d (dBlockS F.blocks_)]],.dead]) (fun i=>some ((F.blocks_.take i).foldl blkT (begT F)).data.toList) (fun i=>i≤F.blocks_.length) (fun i=>F.blocks_.length - i) 0 (by simp [Into,intoE,V.under,placesBelow,placeBelow]) rfl (Nat.zero_le _) (fun _ _=>rfl) ?_
  intro i hi
  replace hi:i≤F.blocks_.length:=hi
  by_cases hil:i < F.blocks_.length
  · have wi:IntKind.i64.wrap ((i:Int) + 1)=((i + 1:Nat):Int):=by rw [wrap_id] <;> omega
    have hsn:=blkT_snoc (begT F) F.blocks_ hil
    have hS:=blksT_len (begT F) (F.blocks_.take i) fun b hb=>hLn b (List.mem_of_mem_take hb)
    have hLb:LnB (F.blocks_[i]?.getD default):=by rw [List.getElem?_eq_getElem hil];exact hLn _ (List.getElem_mem hil)
    have hb1:∀ h:i < F.blocks_.length,F.blocks_[i]=F.blocks_[i]?.getD default:=fun h=>by rw [List.getElem?_eq_getElem h];rfl
    have hb2:F.blocks_[i]?.getD default=F.blocks_[i]?.getD default:=rfl
    generalize F.blocks_[i]?.getD default=b at hsn hLb hb1 hb2
    have hl8:(F.blocks_.take i).length≤8:=by simp;omega
    generalize (F.blocks_.take i).foldl blkT (begT F)=S at hsn hS ⊢
    have hS2:S.size≤4000000:=by omega
    have hpb:=hLb.par
    have pb:=good_80 (v:=b.params_) (by omega)
    have hH:=headT_len hLb
    have hni:=hLb.ni
    refine Wt_next [(1,.ptr 0 2 0 0),(3,.ptr 1 2 0 0),(18,.d (dBlockS F.blocks_)),(19,.d (.int .i64 F.blocks_.length)),(20,.d (.int .i64 i)),(21,.d (.bool true))] [.row 2 [[.d (.int .i64 F.params_),.d (dBlockS F.blocks_)]],.dead] (n0:=2) rfl rfl ?_ ?_
    · refine W_run mixed ⟨[K_102,K_103],[K_102h,K_103h],[101,74,100,104],48,2,[0,1,2,3,5,7,18,19,20,21,33,34,35,36],[21,36]⟩ (fun _=>[]) (by kernel_rfl) ?_
      simp only [stripX,stripOps,pickOps]
      simp [K_102_f,K_102_e,K_103_f,K_103_e,K_102h_f,K_102h_e,K_103h_f,K_103h_e,K_102h_g,K_103h_g,-V.flat,-V.one,one_int,one_bool,one_str,one_nilp,one_rp,one_nilsl,one_ro,one_cl,one_nilf,one_nili,one_ifc,one_ptr,one_sl,one_clo,flat_d,flat_ptr,flat_sl,flat_clo,flat_agg,hil]
    refine Wt_next [(1,.ptr 0 2 0 0),(3,.ptr 1 2 0 0),(18,.d (dBlockS F.blocks_)),(19,.d (.int .i64 F.blocks_.length)),(20,.d (.int .i64 i))] [.row 2 [[.d (.int .i64 F.params_),.d (dBlockS F.blocks_)]],.dead] (n0:=2) rfl rfl ?_ ?_
    · refine W_run mixed ⟨[K_102,K_103],[K_102h,K_103h],[101,74,100,104],48,2,[0,1,2,3,5,7,18,19,20,21,33,34,35,36],[21,36]⟩ (fun _=>[]) (by kernel_rfl) ?_
      simp only [stripX,stripOps,pickOps]
      simp [K_102_f,K_102_e,K_103_f,K_103_e,K_102h_f,K_102h_e,K_103h_f,K_103h_e,K_102h_g,K_103h_g,-V.flat,-V.one,one_int,one_bool,one_str,one_nilp,one_rp,one_nilsl,one_ro,one_cl,one_nilf,one_nili,one_ifc,one_ptr,one_sl,one_clo,flat_d,flat_ptr,flat_sl,flat_clo,flat_agg,hil]
    refine Wt_seq (Wt_block ?_)
    refine Wt_next [(1,.ptr 0 2 0 0),(3,.ptr 1 2 0 0),(5,.ptr 2 5 0 0),(18,.d (dBlockS F.blocks_)),(19,.d (.int .i64 F.blocks_.length)),(20,.d (.int .i64 i))] [.row 2 [[.d (.int .i64 F.params_),.d (dBlockS F.blocks_)]],.dead,.row 5 [[.d (.int .i64 b.params_),.d (dInstS b.insts_),.d (.int .i64 b.end_),.d (.int .i64 b.value_),.d (dJumpS b.jumps_)]]] (n0:=2) rfl rfl ?_ ?_
    · refine W_run mixed ⟨[K_102,K_103],[K_102h,K_103h],[101,74,100,104],48,2,[0,1,2,3,5,7,18,19,20,21,33,34,35,36],[21,36]⟩ (fun _=>[]) (by kernel_rfl) ?_
      simp only [stripX,stripOps,pickOps]
      simp [K_102_f,K_102_e,K_103_f,K_103_e,K_102h_f,K_102h_e,K_103h_f,K_103h_e,K_102h_g,K_103h_g,-V.flat,-V.one,one_int,one_bool,one_str,one_nilp,one_rp,one_nilsl,one_ro,one_cl,one_nilf,one_nili,one_ifc,one_ptr,one_sl,one_clo,flat_d,flat_ptr,flat_sl,flat_clo,flat_agg,hil,hb1,hb2]
    refine Wt_callN ⟨[K_102,K_103],[K_102h,K_103h],[101,74,100,104],48,3,[0,1,2,3,5,7,18,19,20,21,33,34,35,36,30],[21,36]⟩ rfl 7 3 30 [1,3,5,18,19,20] [(1,.ptr 0 2 0 0),(3,.ptr 1 2 0 0),(5,.ptr 2 5 0 0),(18,.d (dBlockS F.blocks_)),(19,.d (.int .i64 F.blocks_.length)),(20,.d (.int .i64 i))] [.row 2 [[.d (.int .i64 F.params_),.d (dBlockS F.blocks_)]],.dead,.row 5 [[.d (.int .i64 b.params_),.d (dInstS b.insts_),.d (.int .i64 b.end_),.d (.int .i64 b.value_),.d (dJumpS b.jumps_)]]] rfl (write_T b0 S (headT b) (by omega)) rfl rfl (by kernel_rfl) (by kernel_rfl) (fun t h=>by cases h;exact of_decide_eq_true rfl) ?_ ?_
    · simp [K_102_f,K_102_e,K_103_f,K_103_e,K_102h_f,K_102h_e,K_103h_f,K_103h_e,K_102h_g,K_103h_g,-V.flat,-V.one,one_int,one_bool,one_str,one_nilp,one_rp,one_nilsl,one_ro,one_cl,one_nilf,one_nili,one_ifc,one_ptr,one_sl,one_clo,flat_d,flat_ptr,flat_sl,flat_clo,flat_agg]
      refine (nw_at (l:=[b.params_]) rfl rfl (by simp) (fun x hx=>by rw [List.mem_singleton.1 hx];exact pb)).mono ?_
      rintro r H1 ⟨rfl,k,rfl⟩
      simp [K_102_f,K_102_e,K_103_f,K_103_e,K_102h_f,K_102h_e,K_103h_f,K_103h_e,K_102h_g,K_103h_g,-V.flat,-V.one,one_int,one_bool,one_str,one_nilp,one_rp,one_nilsl,one_ro,one_cl,one_nilf,one_nili,one_ifc,one_ptr,one_sl,one_clo,flat_d,flat_ptr,flat_sl,flat_clo,flat_agg]
      refine (text_at (w:=⟨#[98,108,111,99,107]⟩) (ws:=[numB b.params_]) (by simp [rBy]) rfl (by simp) (by decide) fun y hy=>by rw [List.mem_singleton.1 hy];exact numB_1000 pb).mono ?_
      rintro r H1 ⟨rfl,rfl⟩
      simp [K_102_f,K_102_e,K_103_f,K_103_e,K_102h_f,K_102h_e,K_103h_f,K_103h_e,K_102h_g,K_103h_g,-V.flat,-V.one,one_int,one_bool,one_str,one_nilp,one_rp,one_nilsl,one_ro,one_cl,one_nilf,one_nili,one_ifc,one_ptr,one_sl,one_clo,flat_d,flat_ptr,flat_sl,flat_clo,flat_agg]
      try rfl
    refine Wt_seq (Wt_next [(1,.ptr 0 2 0 0),(3,.ptr 1 2 0 0),(5,.ptr 2 5 0 0),(18,.d (dBlockS F.blocks_)),(19,.d (.int .i64 F.blocks_.length)),(20,.d (.int .i64 i)),(33,.d (dInstS b.insts_)),(34,.d (.int .i64 b.insts_.length)),(35,.d (.int .i64 0))] [.row 2 [[.d (.int .i64 F.params_),.d (dBlockS F.blocks_)]],.dead,.row 5 [[.d (.int .i64 b.params_),.d (dInstS b.insts_),.d (.int .i64 b.end_),.d (.int .i64 b.value_),.d (dJumpS b.jumps_)]]] (n0:=3) rfl rfl ?_ ?_)
    · refine W_run mixed ⟨[K_102,K_103],[K_102h,K_103h],[101,74,100,104],48,3,[0,1,2,3,5,7,18,19,20,21,33,34,35,36],[21,36]⟩ (fun _=>[]) (by kernel_rfl) ?_
      simp only [stripX,stripOps,pickOps]
      simp [K_102_f,K_102_e,K_103_f,K_103_e,K_102h_f,K_102h_e,K_103h_f,K_103h_e,K_102h_g,K_103h_g,-V.flat,-V.one,one_int,one_bool,one_str,one_nilp,one_rp,one_nilsl,one_ro,one_cl,one_nilf,one_nili,one_ifc,one_ptr,one_sl,one_clo,flat_d,flat_ptr,flat_sl,flat_clo,flat_agg]
    refine Wt_block ?_
    refine Wt_loopT (fun j:Nat=>[(1,.ptr 0 2 0 0),(3,.ptr 1 2 0 0),(5,.ptr 2 5 0 0),(18,.d (dBlockS F.blocks_)),(19,.d (.int .i64 F.blocks_.length)),(20,.d (.int .i64 i)),(33,.d (dInstS b.insts_)),(34,.d (.int .i64 b.insts_.length)),(35,.d (.int .i64 j))]) (fun _=>[.row 2 [[.d (.int .i64 F.params_),.d (dBlockS F.blocks_)]],.dead,.row 5 [[.d (.int .i64 b.params_),.d (dInstS b.insts_),.d (.int .i64 b.end_),.d (.int .i64 b.value_),.d (dJumpS b.jumps_)]]]) (fun j=>some (insT (S++headT b) (b.insts_.take j)).data.toList) (fun j=>j≤b.insts_.length) (fun j=>b.insts_.length - j) 0 (by simp [Into,intoE,V.under,placesBelow,placeBelow]) rfl (Nat.zero_le _) (fun _ _=>rfl) ?_
    intro j hj
    replace hj:j≤b.insts_.length:=hj
    by_cases hjl:j < b.insts_.length
    · have wj:IntKind.i64.wrap ((j:Int) + 1)=((j + 1:Nat):Int):=by rw [wrap_id] <;> omega
      have hsn2:=insT_snoc (S++headT b) b.insts_ hjl
      have hT:=insT_len (S++headT b) (b.insts_.take j) fun x hx=>hLb.ins x (List.mem_of_mem_take hx)
      have hLx:LnI (b.insts_[j]?.getD default):=by rw [List.getElem?_eq_getElem hjl];exact hLb.ins _ (List.getElem_mem hjl)
      have hx1:∀ h:j < b.insts_.length,b.insts_[j]=b.insts_[j]?.getD default:=fun h=>by rw [List.getElem?_eq_getElem h];rfl
      have hx2:b.insts_[j]?.getD default=b.insts_[j]?.getD default:=rfl
      generalize b.insts_[j]?.getD default=x at hsn2 hLx hx1 hx2
      have ht80:(b.insts_.take j).length≤80:=by simp;omega
      rw [ByteArray.size_append] at hT
      generalize insT (S++headT b) (b.insts_.take j)=T at hsn2 hT ⊢
      have hT2:T.size≤5000000:=by omega
      have h6:=instB_len hLx
      refine Wt_next [(1,.ptr 0 2 0 0),(3,.ptr 1 2 0 0),(5,.ptr 2 5 0 0),(18,.d (dBlockS F.blocks_)),(19,.d (.int .i64 F.blocks_.length)),(20,.d (.int .i64 i)),(33,.d (dInstS b.insts_)),(34,.d (.int .i64 b.insts_.length)),(35,.d (.int .i64 j)),(36,.d (.bool true))] [.row 2 [[.d (.int .i64 F.params_),.d (dBlockS F.blocks_)]],.dead,.row 5 [[.d (.int .i64 b.params_),.d (dInstS b.insts_),.d (.int .i64 b.end_),.d (.int .i64 b.value_),.d (dJumpS b.jumps_)]]] (n0:=3) rfl rfl ?_ ?_
      · refine W_run mixed ⟨[K_102,K_103],[K_102h,K_103h],[101,74,100,104],48,3,[0,1,2,3,5,7,18,19,20,21,33,34,35,36],[21,36]⟩ (fun _=>[]) (by kernel_rfl) ?_
        simp only [stripX,stripOps,pickOps]
        simp [K_102_f,K_102_e,K_103_f,K_103_e,K_102h_f,K_102h_e,K_103h_f,K_103h_e,K_102h_g,K_103h_g,-V.flat,-V.one,one_int,one_bool,one_str,one_nilp,one_rp,one_nilsl,one_ro,one_cl,one_nilf,one_nili,one_ifc,one_ptr,one_sl,one_clo,flat_d,flat_ptr,flat_sl,flat_clo,flat_agg,hjl]
      refine Wt_next [(1,.ptr 0 2 0 0),(3,.ptr 1 2 0 0),(5,.ptr 2 5 0 0),(18,.d (dBlockS F.blocks_)),(19,.d (.int .i64 F.blocks_.length)),(20,.d (.int .i64 i)),(33,.d (dInstS b.insts_)),(34,.d (.int .i64 b.insts_.length)),(35,.d (.int .i64 j))] [.row 2 [[.d (.int .i64 F.params_),.d (dBlockS F.blocks_)]],.dead,.row 5 [[.d (.int .i64 b.params_),.d (dInstS b.insts_),.d (.int .i64 b.end_),.d (.int .i64 b.value_),.d (dJumpS b.jumps_)]]] (n0:=3) rfl rfl ?_ ?_
      · refine W_run mixed ⟨[K_102,K_103],[K_102h,K_103h],[101,74,100,104],48,3,[0,1,2,3,5,7,18,19,20,21,33,34,35,36],[21,36]⟩ (fun _=>[]) (by kernel_rfl) ?_
        simp only [stripX,stripOps,pickOps]
        simp [K_102_f,K_102_e,K_103_f,K_103_e,K_102h_f,K_102h_e,K_103h_f,K_103h_e,K_102h_g,K_103h_g,-V.flat,-V.one,one_int,one_bool,one_str,one_nilp,one_rp,one_nilsl,one_ro,one_cl,one_nilf,one_nili,one_ifc,one_ptr,one_sl,one_clo,flat_d,flat_ptr,flat_sl,flat_clo,flat_agg,hjl]
      refine Wt_seq (Wt_block ?_)
      refine Wt_next [(1,.ptr 0 2 0 0),(3,.ptr 1 2 0 0),(5,.ptr 2 5 0 0),(18,.d (dBlockS F.blocks_)),(19,.d (.int .i64 F.blocks_.length)),(20,.d (.int .i64 i)),(33,.d (dInstS b.insts_)),(34,.d (.int .i64 b.insts_.length)),(35,.d (.int .i64 j)),(7,.ptr 3 3 0 0)] [.row 2 [[.d (.int .i64 F.params_),.d (dBlockS F.blocks_)]],.dead,.row 5 [[.d (.int .i64 b.params_),.d (dInstS b.insts_),.d (.int .i64 b.end_),.d (.int .i64 b.value_),.d (dJumpS b.jumps_)]],.row 3 [[.d (.int .i64 x.op_),.d (.int .i64 x.n_),.d (dIntS x.args_)]]] (n0:=3) rfl rfl ?_ ?_
      · refine W_run mixed ⟨[K_102,K_103],[K_102h,K_103h],[101,74,100,104],48,3,[0,1,2,3,5,7,18,19,20,21,33,34,35,36],[21,36]⟩ (fun _=>[]) (by kernel_rfl) ?_
        simp only [stripX,stripOps,pickOps]
        simp [K_102_f,K_102_e,K_103_f,K_103_e,K_102h_f,K_102h_e,K_103h_f,K_103h_e,K_102h_g,K_103h_g,-V.flat,-V.one,one_int,one_bool,one_str,one_nilp,one_rp,one_nilsl,one_ro,one_cl,one_nilf,one_nili,one_ifc,one_ptr,one_sl,one_clo,flat_d,flat_ptr,flat_sl,flat_clo,flat_agg,hjl,hx1,hx2]
      refine Wt_callE ⟨[K_102,K_103],[K_102h,K_103h],[101,74,100,104],48,4,[0,1,2,3,5,7,18,19,20,21,33,34,35,36,40],[21,36]⟩ rfl 2 3 40 [1,3,5,18,19,20,33,34,35] [(1,.ptr 0 2 0 0),(3,.ptr 1 2 0 0),(5,.ptr 2 5 0 0),(18,.d (dBlockS F.blocks_)),(19,.d (.int .i64 F.blocks_.length)),(20,.d (.int .i64 i)),(33,.d (dInstS b.insts_)),(34,.d (.int .i64 b.insts_.length)),(35,.d (.int .i64 j))] [.row 2 [[.d (.int .i64 F.params_),.d (dBlockS F.blocks_)]],.dead,.row 5 [[.d (.int .i64 b.params_),.d (dInstS b.insts_),.d (.int .i64 b.end_),.d (.int .i64 b.value_),.d (dJumpS b.jumps_)]]] rfl (write_T b0 T (instB x) (by omega)) rfl rfl (by kernel_rfl) (by kernel_rfl) (fun t h=>by cases h;exact of_decide_eq_true rfl) ?_ fun s' q=>?_
      · simp [K_102_f,K_102_e,K_103_f,K_103_e,K_102h_f,K_102h_e,K_103h_f,K_103h_e,K_102h_g,K_103h_g,-V.flat,-V.one,one_int,one_bool,one_str,one_nilp,one_rp,one_nilsl,one_ro,one_cl,one_nilf,one_nili,one_ifc,one_ptr,one_sl,one_clo,flat_d,flat_ptr,flat_sl,flat_clo,flat_agg,hLx]
      refine Wt_into q rfl (Wt_of (n0:=3) (Q0:=fun e s'=>e=.normal∧Into 0 s' [(1,.ptr 0 2 0 0),(3,.ptr 1 2 0 0),(5,.ptr 2 5 0 0),(18,.d (dBlockS F.blocks_)),(19,.d (.int .i64 F.blocks_.length)),(20,.d (.int .i64 i)),(33,.d (dInstS b.insts_)),(34,.d (.int .i64 b.insts_.length)),(35,.d (.int .i64 (j + 1:Nat)))] [.row 2 [[.d (.int .i64 F.params_),.d (dBlockS F.blocks_)]],.dead,.row 5 [[.d (.int .i64 b.params_),.d (dInstS b.insts_),.d (.int .i64 b.end_),.d (.int .i64 b.value_),.d (dJumpS b.jumps_)]]]) rfl ?_ ?_)
      · refine W_run mixed ⟨[K_102,K_103],[K_102h,K_103h],[101,74,100,104],48,3,[0,1,2,3,5,7,18,19,20,21,33,34,35,36],[21,36]⟩ (fun _=>[]) (by kernel_rfl) ?_
        simp only [stripX,stripOps,pickOps]
        simp [K_102_f,K_102_e,K_103_f,K_103_e,K_102h_f,K_102h_e,K_103h_f,K_103h_e,K_102h_g,K_103h_g,-V.flat,-V.one,one_int,one_bool,one_str,one_nilp,one_rp,one_nilsl,one_ro,one_cl,one_nilf,one_nili,one_ifc,one_ptr,one_sl,one_clo,flat_d,flat_ptr,flat_sl,flat_clo,flat_agg,wj]
      rintro e s' ⟨rfl,q⟩
      exact ⟨Into.dead q rfl,j + 1,hjl,by omega,q,by show some (T++instB x).data.toList=some (insT _ _).data.toList;rw [hsn2]⟩
    · have e:j=b.insts_.length:=by omega
      subst e
      have hT:=insT_len (S++headT b) b.insts_ hLb.ins
      rw [ByteArray.size_append] at hT
      have hE:=endT_len hLb
      show Wt _ _ _ _ _ _ _ _ _ (some (insT (S++headT b) (b.insts_.take b.insts_.length)).data.toList)
      rw [List.take_of_length_le (Nat.le_refl _)]
      have hfin:blkT S b=insT (S++headT b) b.insts_++endT b:=rfl
      generalize insT (S++headT b) b.insts_=T at hT hfin ⊢
      have hT2:T.size≤5000000:=by omega
      refine Wt_next [(1,.ptr 0 2 0 0),(3,.ptr 1 2 0 0),(5,.ptr 2 5 0 0),(18,.d (dBlockS F.blocks_)),(19,.d (.int .i64 F.blocks_.length)),(20,.d (.int .i64 i)),(33,.d (dInstS b.insts_)),(34,.d (.int .i64 b.insts_.length)),(35,.d (.int .i64 b.insts_.length)),(36,.d (.bool false))] [.row 2 [[.d (.int .i64 F.params_),.d (dBlockS F.blocks_)]],.dead,.row 5 [[.d (.int .i64 b.params_),.d (dInstS b.insts_),.d (.int .i64 b.end_),.d (.int .i64 b.value_),.d (dJumpS b.jumps_)]]] (n0:=3) rfl rfl ?_ ?_
      · refine W_run mixed ⟨[K_102,K_103],[K_102h,K_103h],[101,74,100,104],48,3,[0,1,2,3,5,7,18,19,20,21,33,34,35,36],[21,36]⟩ (fun _=>[]) (by kernel_rfl) ?_
        simp only [stripX,stripOps,pickOps]
        simp [K_102_f,K_102_e,K_103_f,K_103_e,K_102h_f,K_102h_e,K_103h_f,K_103h_e,K_102h_g,K_103h_g,-V.flat,-V.one,one_int,one_bool,one_str,one_nilp,one_rp,one_nilsl,one_ro,one_cl,one_nilf,one_nili,one_ifc,one_ptr,one_sl,one_clo,flat_d,flat_ptr,flat_sl,flat_clo,flat_agg]
      refine Wt_leave [(1,.ptr 0 2 0 0),(3,.ptr 1 2 0 0),(5,.ptr 2 5 0 0),(18,.d (dBlockS F.blocks_)),(19,.d (.int .i64 F.blocks_.length)),(20,.d (.int .i64 i))] [.row 2 [[.d (.int .i64 F.params_),.d (dBlockS F.blocks_)]],.dead,.row 5 [[.d (.int .i64 b.params_),.d (dInstS b.insts_),.d (.int .i64 b.end_),.d (.int .i64 b.value_),.d (dJumpS b.jumps_)]]] (n0:=3) (i:=2) rfl rfl ?_ fun s' q=>?_
      · refine W_run mixed ⟨[K_102,K_103],[K_102h,K_103h],[101,74,100,104],48,3,[0,1,2,3,5,7,18,19,20,21,33,34,35,36],[21,36]⟩ (fun _=>[]) (by kernel_rfl) ?_
        simp only [stripX,stripOps,pickOps]
        simp [K_102_f,K_102_e,K_103_f,K_103_e,K_102h_f,K_102h_e,K_103h_f,K_103h_e,K_102h_g,K_103h_g,-V.flat,-V.one,one_int,one_bool,one_str,one_nilp,one_rp,one_nilsl,one_ro,one_cl,one_nilf,one_nili,one_ifc,one_ptr,one_sl,one_clo,flat_d,flat_ptr,flat_sl,flat_clo,flat_agg]
      refine Wt_into q rfl ?_
      refine Wt_callE ⟨[K_102,K_103],[K_102h,K_103h],[101,74,100,104],48,3,[0,1,2,3,5,7,18,19,20,21,33,34,35,36,44],[21,36]⟩ rfl 2 3 44 [1,3,5,18,19,20] [(1,.ptr 0 2 0 0),(3,.ptr 1 2 0 0),(18,.d (dBlockS F.blocks_)),(19,.d (.int .i64 F.blocks_.length)),(20,.d (.int .i64 i))] [.row 2 [[.d (.int .i64 F.params_),.d (dBlockS F.blocks_)]],.dead] rfl (write_T b0 T (endT b) (by omega)) rfl rfl (by kernel_rfl) (by kernel_rfl) (fun t h=>by cases h;exact of_decide_eq_true rfl) ?_ fun s' q=>?_
      · simp [K_102_f,K_102_e,K_103_f,K_103_e,K_102h_f,K_102h_e,K_103h_f,K_103h_e,K_102h_g,K_103h_g,-V.flat,-V.one,one_int,one_bool,one_str,one_nilp,one_rp,one_nilsl,one_ro,one_cl,one_nilf,one_nili,one_ifc,one_ptr,one_sl,one_clo,flat_d,flat_ptr,flat_sl,flat_clo,flat_agg,hLb]
      refine Wt_into q rfl (Wt_of (n0:=2) (Q0:=fun e s'=>e=.normal∧Into 0 s' [(1,.ptr 0 2 0 0),(3,.ptr 1 2 0 0),(18,.d (dBlockS F.blocks_)),(19,.d (.int .i64 F.blocks_.length)),(20,.d (.int .i64 (i + 1:Nat)))] [.row 2 [[.d (.int .i64 F.params_),.d (dBlockS F.blocks_)]],.dead]) rfl ?_ ?_)
      · refine W_run mixed ⟨[K_102,K_103],[K_102h,K_103h],[101,74,100,104],48,2,[0,1,2,3,5,7,18,19,20,21,33,34,35,36],[21,36]⟩ (fun _=>[]) (by kernel_rfl) ?_
        simp only [stripX,stripOps,pickOps]
        simp [K_102_f,K_102_e,K_103_f,K_103_e,K_102h_f,K_102h_e,K_103h_f,K_103h_e,K_102h_g,K_103h_g,-V.flat,-V.one,one_int,one_bool,one_str,one_nilp,one_rp,one_nilsl,one_ro,one_cl,one_nilf,one_nili,one_ifc,one_ptr,one_sl,one_clo,flat_d,flat_ptr,flat_sl,flat_clo,flat_agg,wi]
      rintro e s' ⟨rfl,q⟩
      exact ⟨Into.dead q rfl,i + 1,hil,by omega,q,by show some (T++endT b).data.toList=some (List.foldl blkT (begT F) (F.blocks_.take (i + 1))).data.toList;rw [hsn,hfin]⟩
  · have e:i=F.blocks_.length:=by omega
    subst e
    show Wt _ _ _ _ _ _ _ _ _ (some ((F.blocks_.take F.blocks_.length).foldl blkT (begT F)).data.toList)
    rw [List.take_of_length_le (Nat.le_refl _)]
    refine Wt_next [(1,.ptr 0 2 0 0),(3,.ptr 1 2 0 0),(18,.d (dBlockS F.blocks_)),(19,.d (.int .i64 F.blocks_.length)),(20,.d (.int .i64 F.blocks_.length)),(21,.d (.bool false))] [.row 2 [[.d (.int .i64 F.params_),.d (dBlockS F.blocks_)]],.dead] (n0:=2) rfl rfl ?_ ?_
    · refine W_run mixed ⟨[K_102,K_103],[K_102h,K_103h],[101,74,100,104],48,2,[0,1,2,3,5,7,18,19,20,21,33,34,35,36],[21,36]⟩ (fun _=>[]) (by kernel_rfl) ?_
      simp only [stripX,stripOps,pickOps]
      simp [K_102_f,K_102_e,K_103_f,K_103_e,K_102h_f,K_102h_e,K_103h_f,K_103h_e,K_102h_g,K_103h_g,-V.flat,-V.one,one_int,one_bool,one_str,one_nilp,one_rp,one_nilsl,one_ro,one_cl,one_nilf,one_nili,one_ifc,one_ptr,one_sl,one_clo,flat_d,flat_ptr,flat_sl,flat_clo,flat_agg]
    refine Wt_leave [(1,.ptr 0 2 0 0),(3,.ptr 1 2 0 0)] [.row 2 [[.d (.int .i64 F.params_),.d (dBlockS F.blocks_)]],.dead] (n0:=2) (i:=0) rfl rfl ?_ fun s' q=>?_
    · refine W_run mixed ⟨[K_102,K_103],[K_102h,K_103h],[101,74,100,104],48,2,[0,1,2,3,5,7,18,19,20,21,33,34,35,36],[21,36]⟩ (fun _=>[]) (by kernel_rfl) ?_
      simp only [stripX,stripOps,pickOps]
      simp [K_102_f,K_102_e,K_103_f,K_103_e,K_102h_f,K_102h_e,K_103h_f,K_103h_e,K_102h_g,K_103h_g,-V.flat,-V.one,one_int,one_bool,one_str,one_nilp,one_rp,one_nilsl,one_ro,one_cl,one_nilf,one_nili,one_ifc,one_ptr,one_sl,one_clo,flat_d,flat_ptr,flat_sl,flat_clo,flat_agg]
    refine Wt_into q rfl ?_
    refine Wt_seq (Wt_text ⟨[K_102,K_103],[K_102h,K_103h],[101,74,100,104],48,2,[0,1,2,3,5,7,18,19,20,21,33,34,35,36,2],[21,36]⟩ rfl 3 (k':=none) (str:=funT F) (Q1:=fun _ s'=>s'.env 2=.d (.str (funT F))∧Into 0 s' [(2,.d (.str (funT F)))] [.row 2 [[.d (.int .i64 F.params_),.d (dBlockS F.blocks_)]],.dead]) rfl (by kernel_rfl) (by kernel_rfl) (of_decide_eq_true rfl) rfl (string_T b0 (funT F) hb1) ?_ fun s' q=>⟨Into.dead q.2 rfl,Wt_into q.2 rfl ?_⟩)
    · simp [K_102_f,K_102_e,K_103_f,K_103_e,K_102h_f,K_102h_e,K_103h_f,K_103h_e,K_102h_g,K_103h_g,-V.flat,-V.one,one_int,one_bool,one_str,one_nilp,one_rp,one_nilsl,one_ro,one_cl,one_nilf,one_nili,one_ifc,one_ptr,one_sl,one_clo,flat_d,flat_ptr,flat_sl,flat_clo,flat_agg]
    refine Wt_of (n0:=2) (Q0:=fun e s'=>e=.ret∧Into 0 s' [(2,.d (.str (funT F)))] [.row 2 [[.d (.int .i64 F.params_),.d (dBlockS F.blocks_)]],.dead]) rfl ?_ ?_
    · refine W_run mixed ⟨[K_102,K_103],[K_102h,K_103h],[101,74,100,104],48,2,[0,1,2,3,5,7,18,19,20,21,33,34,35,36],[21,36]⟩ (fun _=>[]) (by kernel_rfl) ?_
      simp only [stripX,stripOps,pickOps]
      simp [K_102_f,K_102_e,K_103_f,K_103_e,K_102h_f,K_102h_e,K_103h_f,K_103h_e,K_102h_g,K_103h_g,-V.flat,-V.one,one_int,one_bool,one_str,one_nilp,one_rp,one_nilsl,one_ro,one_cl,one_nilf,one_nili,one_ifc,one_ptr,one_sl,one_clo,flat_d,flat_ptr,flat_sl,flat_clo,flat_agg]
    rintro e s' ⟨rfl,q⟩
    exact ⟨Into.dead q rfl,.inr rfl,q.2.2.2.1.1⟩
end Go.Proofs.YtcgekblpbheikaaGreatDoor
