/- The lines of instructions and of ends, both programs: numberWords closed, jumpWords, instText, endText; l20List, l20Jump. No condition. -/
import Derived.Test.YtcgekblpbheikaaGreatDoorQS201
import Derived.Test.YtcgekblpbheikaaGreatDoorQE11
import Derived.Test.YtcgekblpbheikaaGreatDoorQS111
import Derived.Test.YtcgekblpbheikaaGreatDoorQS203
namespace Go.Proofs.YtcgekblpbheikaaGreatDoor
set_option maxRecDepth 100000
set_option linter.unusedSimpArgs false
set_option linter.unusedVariables false
theorem era_words (s:AS ByteArray):Tr.era s=s.l:=List.map_id' _
theorem numberWords_c (l:List Int) (hl:l.length≤1000) (hg:∀ x∈l,Enc.good x):PureP Tryz.prog 101 [.d (dIntS l)] (· = .d (dStrS (l.map numB))) :=
  PureP.of_own ((numberWords_own [] l hl hg).mono fun r H' ⟨s,e,_,hs,hn⟩=>by
    have:=Rd1.slice hn.own
    rw [era_words,hs] at this
    rw [e];exact this)
noncomputable def K_101:Ent Tryz.prog:=Ent.p1 (α:=List Int) 101 (fun l=>l.length≤1000∧∀ x∈l,Enc.good x) (fun l=>.d (dStrS (l.map numB))) (fun l hc=>numberWords_c l hc.1 hc.2)
theorem K_101_f:K_101.f=101:=rfl
theorem K_101_e (l:List Int):K_101.e [.d (dIntS l)]=some (l.length≤1000∧∀ x∈l,Enc.good x,.d (dStrS (l.map numB)),[]):=by unfold K_101;exact Ent.p1_eq (α:=List Int) l
noncomputable def K_101h:EntH Tryz.prog:=EntH.pk1 (α:=List Int) 101 (fun l=>l.length≤1000∧∀ x∈l,Enc.good x) (fun l=>.d (dStrS (l.map numB))) (fun l=>[]) (fun l hc=>PureP.ans (numberWords_c l hc.1 hc.2))
theorem K_101h_f:K_101h.f=101:=rfl
theorem K_101h_g:K_101h.gro=true:=rfl
theorem K_101h_e {x1:V} {H:Heap}:K_101h.e [x1] H=guardR ((decA (α:=List Int) H x1).1) (peekR ((decA (α:=List Int) H x1).2.length≤1000∧∀ x∈(decA (α:=List Int) H x1).2,Enc.good x) (.d (dStrS ((decA (α:=List Int) H x1).2.map numB))) ([]) H):=rfl
theorem nw_at {H:Heap} {id n:Nat} {l:List Int} (hr:H[id]? = some (.row 1 (rI l))) (hn:n=l.length) (hl:l.length≤1000) (hg:∀ x∈l,Enc.good x):CallsD Tryz.prog 101 [.sl id 1 0 n] H fun r H'=>r=.d (dStrS (l.map numB))∧∃ k,H'=H++List.replicate k .dead:=by
  subst hn
  have rd:Rd1 H (.sl id 1 0 l.length) (.d (dIntS l)):=by
    have:=Rd1.slice (own_row hr)
    rw [era_AS_ints] at this
    exact this
  refine CallsD.closeS (α:=ByteArray) (l:=l.map numB) ((CallsD.peekN (T:=fun r (s:AS ByteArray)=>r=s.v∧Tr.era s=l.map numB) ((numberWords_own (deads H.length) l hl hg).mono fun r H' ⟨s,q1,_,q2,q3⟩=>⟨s,⟨q1,(era_words s).trans q2⟩,q3⟩) (Rd1.list (vs:=[.sl id 1 0 l.length]) (vs':=[.d (dIntS l)]) ⟨rd,trivial⟩) ?_).mono fun r H' ⟨s,⟨q1,q2⟩,q3⟩=>⟨s,q1,q2,q3⟩)
  rintro r s hok ⟨rfl,_⟩
  exact (show okS s from hok).1.scl.1
def jmpW (j:Jump):List ByteArray:=(j.to_ :: j.args_).map numB
@[simp] theorem rBy_len (l:List ByteArray):(rBy l).length=l.length:=List.length_map ..
theorem uptoB (l:List ByteArray):(upto l.length fun i=>[V.d (D.str (l[i]?.getD default))])=rBy l:=by
  refine List.ext_getElem? fun i=>?_
  rw [upto_get]
  unfold rBy
  rw [List.getElem?_map]
  split
  · rename_i h
    rw [List.getElem?_eq_getElem h];rfl
  · rename_i h
    rw [List.getElem?_eq_none (by omega)];rfl
theorem jumpWords_c (j:Jump) (hl:j.args_.length≤900) (ht:Enc.good j.to_) (hg:∀ x∈j.args_,Enc.good x):PureP Tryz.prog 175 [vJump j] (· = .d (dStrS (jmpW j))):=by
  have upA:=upto_all j.args_
  refine PureP.of_own ?_
  refine calls_of Tryz.func175 en_175 rfl (of_decide_eq_true rfl) (W_run mixed ⟨[],[],[101],10,0,[0,1,2],[]⟩ (fun _=>[]) (by kernel_rfl) ?_)
  simp only [Tryz.f175,stripX,stripOps,pickOps]
  simp [-V.flat,-V.one,one_int,one_bool,one_str,one_nilp,one_rp,one_nilsl,one_ro,one_cl,one_nilf,one_nili,one_ifc,one_ptr,one_sl,one_clo,flat_d,flat_ptr,flat_sl,flat_clo,flat_agg,hl,ht,upA,retQ]
  refine ⟨by omega,(nw_at (l:=j.to_ :: j.args_) rfl (by simp;omega) (by simp;omega) fun x hx=>?_).mono ?_⟩
  · rcases List.mem_cons.1 hx with rfl | hx
    · exact ht
    · exact hg x hx
  rintro r H1 ⟨rfl,k,rfl⟩
  simp [K_101_f,K_101_e,K_101h_f,K_101h_e,K_101h_g,-V.flat,-V.one,one_int,one_bool,one_str,one_nilp,one_rp,one_nilsl,one_ro,one_cl,one_nilf,one_nili,one_ifc,one_ptr,one_sl,one_clo,flat_d,flat_ptr,flat_sl,flat_clo,flat_agg,retQ]
  exact ⟨_,_,Fin.same (Nat.zero_le _),Rd1.d⟩
noncomputable def K_175:Ent Tryz.prog:=Ent.p1 (α:=Jump) 175 (fun j=>j.args_.length≤900∧Enc.good j.to_∧∀ x∈j.args_,Enc.good x) (fun j=>.d (dStrS (jmpW j))) (fun j hc=>jumpWords_c j hc.1 hc.2.1 hc.2.2)
theorem K_175_f:K_175.f=175:=rfl
theorem K_175_e (j0:Int) (j1:List Int):K_175.e [.agg [.d (.int .i64 j0),.d (dIntS j1)]]=some ((Jump.mk j0 j1).args_.length≤900∧Enc.good (Jump.mk j0 j1).to_∧∀ x∈(Jump.mk j0 j1).args_,Enc.good x,.d (dStrS (jmpW (Jump.mk j0 j1))),[]):=by unfold K_175;exact Ent.p1_eq (α:=Jump) (Jump.mk j0 j1)
noncomputable def K_175h:EntH Tryz.prog:=EntH.pk1 (α:=Jump) 175 (fun j=>j.args_.length≤900∧Enc.good j.to_∧∀ x∈j.args_,Enc.good x) (fun j=>.d (dStrS (jmpW j))) (fun j=>[]) (fun j hc=>PureP.ans (jumpWords_c j hc.1 hc.2.1 hc.2.2))
theorem K_175h_f:K_175h.f=175:=rfl
theorem K_175h_g:K_175h.gro=true:=rfl
theorem K_175h_e {x1:V} {H:Heap}:K_175h.e [x1] H=guardR ((decA (α:=Jump) H x1).1) (peekR ((decA (α:=Jump) H x1).2.args_.length≤900∧Enc.good (decA (α:=Jump) H x1).2.to_∧∀ x∈(decA (α:=Jump) H x1).2.args_,Enc.good x) (.d (dStrS (jmpW (decA (α:=Jump) H x1).2))) ([]) H):=rfl
theorem PureP.at_ {P:Program} {f:FuncId} {vs vs':List V} {x:D} (h:PureP P f vs' (· = .d x)) {H:Heap} (hv:Reads1 H vs vs') (hr:(V.d x).scl=true):CallsD P f vs H fun r H'=>r=.d x∧H'=H :=
  (CallsD.peek (r:=.d x) (R:=[]) (h.mono fun r H' q=>⟨q.2,q.1⟩) hv hr fun p hp=>absurd hp List.not_mem_nil).mono fun r H' q=>⟨q.1,by rw [q.2,List.map_nil,List.append_nil]⟩
theorem text_at {H:Heap} {id n:Nat} {w:ByteArray} {ws:List ByteArray} (hr:H[id]? = some (.row 1 (rBy (w :: ws)))) (hn:n=ws.length + 1) (hl:ws.length≤1000) (hw:w.size≤1000) (hs:∀ x∈ws,x.size≤1000):CallsD Tryz.prog 74 [.sl id 1 0 n] H fun r H'=>r=.d (.str (lsB w ws++⟨#[10]⟩))∧H'=H:=by
  have e:=joinB_eq w ws
  have hsz:=lsB_size ws w 1000 hs
  have hmul:ws.length * (1000 + 1)≤1000 * 1001:=Nat.mul_le_mul hl (Nat.le_refl _)
  have h:=text_c (w :: ws) (by simp) (by simp;omega) (by rw [e];omega)
  rw [e] at h
  have rd:Rd1 H (.sl id 1 0 n) (.d (dStrS (w :: ws))):=by
    have:=Rd1.slice (own_words hr (n:=n) (by rw [hn];rfl)).1
    rw [era_words] at this
    exact this
  exact PureP.at_ h (Rd1.list (vs:=[.sl id 1 0 n]) (vs':=[.d (dStrS (w :: ws))]) ⟨rd,trivial⟩) rfl
def instB (x:Inst):ByteArray:=lsB (wordB x.op_) (if x.op_=1 then [numB x.n_] else x.args_.map numB)++⟨#[10]⟩
theorem numB_1000 {n:Int} (h:Enc.good n):(numB n).size≤1000:=by have:=numB_len h;omega
theorem good_80 {v:Int} (h:0≤v∧v < 80):Enc.good v:=⟨by omega,by omega⟩
theorem instText_c (x:Inst) (hx:LnI x):PureP Tryz.prog 102 [vInst x] (· = .d (.str (instB x))):=by
  have w1:IntKind.i64.wrap (x.op_ - 1)=x.op_ - 1:=by have:=hx.op;rw [wrap_id] <;> omega
  have hop:=hx.op
  have hng:=hx.n
  have hgt:=wordsL_get (op:=x.op_) (by omega) (by omega)
  have hwl:wordsL.length=13:=rfl
  have hgt2:wordsL[x.op_.toNat - 1]?.getD default=wordB x.op_:=by rw [← hgt,show x.op_.toNat - 1=(x.op_ - 1).toNat by omega]
  have hll:=hx.len
  have hag:∀ v∈x.args_,Enc.good v:=fun v hv=>good_80 (hx.args v hv)
  have upB:=uptoB (x.args_.map numB)
  rw [List.length_map] at upB
  simp only [List.getElem?_map] at upB
  have w0:IntKind.i64.wrap 0=0:=by decide
  have hg1:wordsL[(0:Int).toNat]?.getD default=wordB 1:=rfl
  refine PureP.of_own ?_
  by_cases h1:x.op_=1
  · refine calls_of Tryz.func102 en_102 rfl (of_decide_eq_true rfl) (W_run mixed ⟨[K_84,K_109,K_101],[K_109h,K_101h],[74],27,0,[0,1,2,3,13],[13]⟩ (fun | 1=>[0,1,2,3,4,5,6,7] | _=>[]) (by kernel_rfl) ?_)
    simp only [Tryz.f102,stripX,stripOps,pickOps]
    simp [K_84_f,K_84_e,K_109_f,K_109_e,K_101_f,K_101_e,K_109h_f,K_109h_e,K_101h_f,K_101h_e,K_109h_g,K_101h_g,-V.flat,-V.one,one_int,one_bool,one_str,one_nilp,one_rp,one_nilsl,one_ro,one_cl,one_nilf,one_nili,one_ifc,one_ptr,one_sl,one_clo,flat_d,flat_ptr,flat_sl,flat_clo,flat_agg,h1,w0,hg1,hwl,hng,retQ]
    refine (text_at (w:=wordB 1) (ws:=[numB x.n_]) rfl rfl (by simp) (by have:=wordB_len 1;omega) fun y hy=>?_).mono ?_
    · rw [List.mem_singleton.1 hy];exact numB_1000 hng
    rintro r H1 ⟨rfl,rfl⟩
    simp [K_84_f,K_84_e,K_109_f,K_109_e,K_74_f,K_74_e,K_101_f,K_101_e,K_109h_f,K_109h_e,K_74h_f,K_74h_e,K_101h_f,K_101h_e,K_109h_g,K_74h_g,K_101h_g,-V.flat,-V.one,one_int,one_bool,one_str,one_nilp,one_rp,one_nilsl,one_ro,one_cl,one_nilf,one_nili,one_ifc,one_ptr,one_sl,one_clo,flat_d,flat_ptr,flat_sl,flat_clo,flat_agg,retQ]
    refine ⟨_,_,Fin.same (Nat.zero_le _), ?_⟩
    unfold instB
    rw [if_pos h1,h1]
    exact Rd1.d
  · refine calls_of Tryz.func102 en_102 rfl (of_decide_eq_true rfl) (W_run mixed ⟨[K_84,K_109,K_101],[K_109h,K_101h],[74],27,0,[0,1,2,3,13],[13]⟩ (fun | 1=>[0,1,2,3,4,5,6,7] | _=>[]) (by kernel_rfl) ?_)
    simp only [Tryz.f102,stripX,stripOps,pickOps]
    simp [K_84_f,K_84_e,K_109_f,K_109_e,K_101_f,K_101_e,K_109h_f,K_109h_e,K_101h_f,K_101h_e,K_109h_g,K_101h_g,-V.flat,-V.one,one_int,one_bool,one_str,one_nilp,one_rp,one_nilsl,one_ro,one_cl,one_nilf,one_nili,one_ifc,one_ptr,one_sl,one_clo,flat_d,flat_ptr,flat_sl,flat_clo,flat_agg,h1,w1,hgt,hgt2,hwl,hll,upB,retQ]
    refine ⟨by omega,⟨by omega,hag⟩,by omega,(text_at (w:=wordB x.op_) (ws:=x.args_.map numB) rfl (by simp;omega) (by simp;omega) (by have:=wordB_len x.op_;omega) fun y hy=>?_).mono ?_⟩
    · obtain ⟨v,hv,rfl⟩:=List.mem_map.1 hy
      exact numB_1000 (hag v hv)
    rintro r H1 ⟨rfl,rfl⟩
    simp [K_84_f,K_84_e,K_109_f,K_109_e,K_74_f,K_74_e,K_101_f,K_101_e,K_109h_f,K_109h_e,K_74h_f,K_74h_e,K_101h_f,K_101h_e,K_109h_g,K_74h_g,K_101h_g,-V.flat,-V.one,one_int,one_bool,one_str,one_nilp,one_rp,one_nilsl,one_ro,one_cl,one_nilf,one_nili,one_ifc,one_ptr,one_sl,one_clo,flat_d,flat_ptr,flat_sl,flat_clo,flat_agg,retQ]
    refine ⟨_,_,Fin.same (Nat.zero_le _), ?_⟩
    unfold instB
    rw [if_neg h1]
    exact Rd1.d
noncomputable def K_102:Ent Tryz.prog:=Ent.p1 (α:=Inst) 102 (fun x=>LnI x) (fun x=>.d (.str (instB x))) (fun x hc=>instText_c x hc)
theorem K_102_f:K_102.f=102:=rfl
theorem K_102_e (x0:Int) (x1:Int) (x2:List Int):K_102.e [.agg [.d (.int .i64 x0),.d (.int .i64 x1),.d (dIntS x2)]]=some (LnI (Inst.mk x0 x1 x2),.d (.str (instB (Inst.mk x0 x1 x2))),[]):=by unfold K_102;exact Ent.p1_eq (α:=Inst) (Inst.mk x0 x1 x2)
noncomputable def K_102h:EntH Tryz.prog:=EntH.pk1 (α:=Inst) 102 (fun x=>LnI x) (fun x=>.d (.str (instB x))) (fun x=>[]) (fun x hc=>PureP.ans (instText_c x hc))
theorem K_102h_f:K_102h.f=102:=rfl
theorem K_102h_g:K_102h.gro=true:=rfl
theorem K_102h_e {x1:V} {H:Heap}:K_102h.e [x1] H=guardR ((decA (α:=Inst) H x1).1) (peekR (LnI (decA (α:=Inst) H x1).2) (.d (.str (instB (decA (α:=Inst) H x1).2))) ([]) H):=rfl
def endT (b:Block):ByteArray:=(if b.end_=1 then lsB ⟨#[114,101,116,117,114,110]⟩ [numB b.value_] else if b.end_=2 then lsB ⟨#[106,117,109,112]⟩ (jmpW (b.jumps_[0]?.getD default))
  else lsB ⟨#[98,114,97,110,99,104]⟩ (numB b.value_ :: (jmpW (b.jumps_[0]?.getD default)++⟨#[124]⟩ :: jmpW (b.jumps_[1]?.getD default))))++⟨#[10]⟩
theorem jmpW_1000 {j:Jump} (h:LnJ j):(jmpW j).length≤5∧∀ x∈jmpW j,x.size≤1000:=by
  unfold jmpW
  refine ⟨by have:=h.len;simp;omega,fun x hx=>?_⟩
  obtain ⟨v,hv,rfl⟩:=List.mem_map.1 hx
  rcases List.mem_cons.1 hv with rfl | hv
  · exact numB_1000 (good_80 (by have:=h.to;omega))
  · exact numB_1000 (good_80 (h.args v hv))
theorem endText_c (b : Block) (hb : LnB b) : PureP Tryz.prog 103 [vBlock b] (· = .d (.str (endT b))) := by
  refine PureP.of_own ?_
  have hjg:∀ j,LnJ j→j.args_.length≤900∧Enc.good j.to_∧∀ x∈j.args_,Enc.good x:=fun j h=>⟨by have:=h.len;omega,good_80 (by have:=h.to;omega),fun x hx=>good_80 (h.args x hx)⟩
  rcases hb.nd with ⟨he,hv⟩ | ⟨he,j,hj,lj⟩ | ⟨he,hv,j,k,hj,lj,lk⟩
  · have hgv:∀ x∈[b.value_],Enc.good x:=fun x hx=>by rw [List.mem_singleton.1 hx];exact good_80 hv
    refine calls_of Tryz.func103 en_103 rfl (of_decide_eq_true rfl) (W_runS mixed [8] ⟨[K_175],[K_175h],[101,74],48,0,[0,1,2,3,5,6,15],[6,15]⟩ (fun | 8=>[0,3,4,5,6,1,2,7,8,9,10] | _=>[]) (by kernel_rfl) ?_)
    simp only [Tryz.f103,stripS,skip_cons,skip_nil,Nat.reduceBEq,Bool.or_false,Bool.or_self,Bool.or_true,Bool.true_or,cond_true,cond_false,stripX,stripOps,pickOps]
    simp [K_175_f,K_175_e,K_175h_f,K_175h_e,K_175h_g,-V.flat,-V.one,one_int,one_bool,one_str,one_nilp,one_rp,one_nilsl,one_ro,one_cl,one_nilf,one_nili,one_ifc,one_ptr,one_sl,one_clo,flat_d,flat_ptr,flat_sl,flat_clo,flat_agg,he,retQ]
    refine (nw_at (l:=[b.value_]) rfl rfl (by simp) hgv).mono ?_
    rintro r H1 ⟨rfl,k,rfl⟩
    simp [K_101_f,K_101_e,K_74_f,K_74_e,K_175_f,K_175_e,K_101h_f,K_101h_e,K_74h_f,K_74h_e,K_175h_f,K_175h_e,K_101h_g,K_74h_g,K_175h_g,-V.flat,-V.one,one_int,one_bool,one_str,one_nilp,one_rp,one_nilsl,one_ro,one_cl,one_nilf,one_nili,one_ifc,one_ptr,one_sl,one_clo,flat_d,flat_ptr,flat_sl,flat_clo,flat_agg,retQ]
    refine (text_at (w:=⟨#[114,101,116,117,114,110]⟩) (ws:=[numB b.value_]) (by simp [rBy]) rfl (by simp) (by decide) fun y hy=>?_).mono ?_
    · rw [List.mem_singleton.1 hy];exact numB_1000 (good_80 hv)
    rintro r H1 ⟨rfl,rfl⟩
    simp [K_101_f,K_101_e,K_74_f,K_74_e,K_175_f,K_175_e,K_101h_f,K_101h_e,K_74h_f,K_74h_e,K_175h_f,K_175h_e,K_101h_g,K_74h_g,K_175h_g,-V.flat,-V.one,one_int,one_bool,one_str,one_nilp,one_rp,one_nilsl,one_ro,one_cl,one_nilf,one_nili,one_ifc,one_ptr,one_sl,one_clo,flat_d,flat_ptr,flat_sl,flat_clo,flat_agg,retQ]
    refine ⟨_,_,Fin.same (Nat.zero_le _), ?_⟩
    unfold endT
    rw [if_pos he]
    exact Rd1.d
  · have upA:=uptoB (jmpW j)
    have hjl:∀ h:0 < b.jumps_.length,b.jumps_[0]=j:=fun h=>by simp [hj]
    have hjl2:b.jumps_[0]?.getD default=j:=by rw [hj];rfl
    have hlen:b.jumps_.length=1:=by rw [hj];rfl
    refine calls_of Tryz.func103 en_103 rfl (of_decide_eq_true rfl) (W_runS mixed [8] ⟨[K_175],[K_175h],[101,74],48,0,[0,1,2,3,5,6,15],[6,15]⟩ (fun | 8=>[0,3,4,5,6,1,2,7,8,9,10] | _=>[]) (by kernel_rfl) ?_)
    simp only [Tryz.f103,stripS,skip_cons,skip_nil,Nat.reduceBEq,Bool.or_false,Bool.or_self,Bool.or_true,Bool.true_or,cond_true,cond_false,stripX,stripOps,pickOps]
    simp [K_175_f,K_175_e,K_175h_f,K_175h_e,K_175h_g,-V.flat,-V.one,one_int,one_bool,one_str,one_nilp,one_rp,one_nilsl,one_ro,one_cl,one_nilf,one_nili,one_ifc,one_ptr,one_sl,one_clo,flat_d,flat_ptr,flat_sl,flat_clo,flat_agg,he,hjl,hjl2,hlen,upA,retQ]
    obtain ⟨l5,l6⟩:=jmpW_1000 lj
    refine ⟨hjg j lj,by omega,(text_at (w:=⟨#[106,117,109,112]⟩) (ws:=jmpW j) rfl (by omega) (by omega) (by decide) l6).mono ?_⟩
    rintro r H1 ⟨rfl,rfl⟩
    simp [K_101_f,K_101_e,K_74_f,K_74_e,K_175_f,K_175_e,K_101h_f,K_101h_e,K_74h_f,K_74h_e,K_175h_f,K_175h_e,K_101h_g,K_74h_g,K_175h_g,-V.flat,-V.one,one_int,one_bool,one_str,one_nilp,one_rp,one_nilsl,one_ro,one_cl,one_nilf,one_nili,one_ifc,one_ptr,one_sl,one_clo,flat_d,flat_ptr,flat_sl,flat_clo,flat_agg,retQ]
    refine ⟨_,_,Fin.same (Nat.zero_le _), ?_⟩
    unfold endT
    rw [if_neg (by omega),if_pos he,hjl2]
    exact Rd1.d
  · have hjl:∀ h:0 < b.jumps_.length,b.jumps_[0]=j:=fun h=>by simp [hj]
    have hjl2:b.jumps_[0]?.getD default=j:=by rw [hj];rfl
    have hkl:∀ h:1 < b.jumps_.length,b.jumps_[1]=k:=fun h=>by simp [hj]
    have hkl2:b.jumps_[1]?.getD default=k:=by rw [hj];rfl
    have hlen:b.jumps_.length=2:=by rw [hj];rfl
    have upA:=uptoB (jmpW j)
    have upK:=uptoB (jmpW k)
    obtain ⟨l5,l6⟩:=jmpW_1000 lj
    obtain ⟨l7,l8⟩:=jmpW_1000 lk
    refine calls_of Tryz.func103 en_103 rfl (of_decide_eq_true rfl) (W_runS mixed [8] ⟨[K_175],[K_175h],[101,74],48,0,[0,1,2,3,5,6,15],[6,15]⟩ (fun | 8=>[0,3,4,5,6,1,2,7,8,9,10] | _=>[]) (by kernel_rfl) ?_)
    simp only [Tryz.f103,stripS,skip_cons,skip_nil,Nat.reduceBEq,Bool.or_false,Bool.or_self,Bool.or_true,Bool.true_or,cond_true,cond_false,stripX,stripOps,pickOps]
    simp [K_175_f,K_175_e,K_175h_f,K_175h_e,K_175h_g,-V.flat,-V.one,one_int,one_bool,one_str,one_nilp,one_rp,one_nilsl,one_ro,one_cl,one_nilf,one_nili,one_ifc,one_ptr,one_sl,one_clo,flat_d,flat_ptr,flat_sl,flat_clo,flat_agg,he,hjl,hjl2,hkl,hkl2,hlen,retQ]
    refine (nw_at (l:=[b.value_]) rfl rfl (by simp) fun x hx=>by rw [List.mem_singleton.1 hx];exact good_80 hv).mono ?_
    rintro r H1 ⟨rfl,q,rfl⟩
    simp [K_101_f,K_101_e,K_74_f,K_74_e,K_175_f,K_175_e,K_101h_f,K_101h_e,K_74h_f,K_74h_e,K_175h_f,K_175h_e,K_101h_g,K_74h_g,K_175h_g,-V.flat,-V.one,one_int,one_bool,one_str,one_nilp,one_rp,one_nilsl,one_ro,one_cl,one_nilf,one_nili,one_ifc,one_ptr,one_sl,one_clo,flat_d,flat_ptr,flat_sl,flat_clo,flat_agg,he,hjl,hjl2,hkl,hkl2,hlen,upA,upK,retQ]
    refine ⟨hjg j lj,by omega, ?_⟩
    have tk1:∀ a b:List V,List.take (2 + (jmpW j).length) (a :: b :: rBy (jmpW j))=a :: b :: rBy (jmpW j):=fun a b=>List.take_of_length_le (by simp;omega)
    have tk2:∀ a b c:List V,List.take (2 + (jmpW j).length + 1) (a :: b :: (rBy (jmpW j)++[c]))=a :: b :: (rBy (jmpW j)++[c]):=fun a b c=>List.take_of_length_le (by simp;omega)
    refine W_drawC mixed ⟨[K_175],[K_175h],[101,74],48,0,[0,1,2,3,5,6,15],[6,15]⟩ [0,3,4,5,6] [1,2,7,8,9] [10] (.alt 1 (.alt 2 (.alt 7 (.alt 8 (.alt 9 .leaf .nil) .nil) .nil) .nil) .nil) (fun | 1=>[4,6] | 2=>[4,6] | _=>[]) [0,1,2,3,5,6,15,38,39,40,41,42,43,44,45,46,47] (by kernel_rfl) (by kernel_rfl) ?_
    simp only [stripOps,pickOps]
    simp [K_175_f,K_175_e,K_175h_f,K_175h_e,K_175h_g,-V.flat,-V.one,one_int,one_bool,one_str,one_nilp,one_rp,one_nilsl,one_ro,one_cl,one_nilf,one_nili,one_ifc,one_ptr,one_sl,one_clo,flat_d,flat_ptr,flat_sl,flat_clo,flat_agg,-decA,decA_int,decA_bool,decA_str,he,hjl,hjl2,hkl,hkl2,hlen,upA,upK]
    refine denC_one ?_
    simp only [demC,stripOps,pickOps]
    simp [loadD,K_175_f,K_175_e,K_175h_f,K_175h_e,K_175h_g,-V.flat,-V.one,one_int,one_bool,one_str,one_nilp,one_rp,one_nilsl,one_ro,one_cl,one_nilf,one_nili,one_ifc,one_ptr,one_sl,one_clo,flat_d,flat_ptr,flat_sl,flat_clo,flat_agg,-decA,decA_int,decA_bool,decA_str,tk1,hkl,hkl2,hlen]
    refine denC_one ?_
    simp only [demC,stripOps,pickOps]
    simp [loadD,K_175_f,K_175_e,K_175h_f,K_175h_e,K_175h_g,-V.flat,-V.one,one_int,one_bool,one_str,one_nilp,one_rp,one_nilsl,one_ro,one_cl,one_nilf,one_nili,one_ifc,one_ptr,one_sl,one_clo,flat_d,flat_ptr,flat_sl,flat_clo,flat_agg,-decA,decA_int,decA_bool,decA_str,tk1,hkl,hkl2,hlen]
    refine ⟨⟨by omega,by omega⟩, ?_⟩
    refine denC_one ?_
    simp only [demC,stripOps,pickOps]
    simp [loadD,K_175_f,K_175_e,K_175h_f,K_175h_e,K_175h_g,-V.flat,-V.one,one_int,one_bool,one_str,one_nilp,one_rp,one_nilsl,one_ro,one_cl,one_nilf,one_nili,one_ifc,one_ptr,one_sl,one_clo,flat_d,flat_ptr,flat_sl,flat_clo,flat_agg,-decA,decA_int,decA_bool,decA_str,tk1,hkl,hkl2,hlen]
    refine ⟨hjg k lk, ?_⟩
    refine denC_one ?_
    simp only [demC,stripOps,pickOps]
    simp [loadD,K_175_f,K_175_e,K_175h_f,K_175h_e,K_175h_g,-V.flat,-V.one,one_int,one_bool,one_str,one_nilp,one_rp,one_nilsl,one_ro,one_cl,one_nilf,one_nili,one_ifc,one_ptr,one_sl,one_clo,flat_d,flat_ptr,flat_sl,flat_clo,flat_agg,-decA,decA_int,decA_bool,decA_str,tk1,tk2,upK,hkl,hkl2,hlen]
    refine ⟨⟨by omega,by omega⟩, ?_⟩
    refine denC_one ?_
    simp only [demC,stripOps,pickOps]
    simp [loadD,K_175_f,K_175_e,K_175h_f,K_175h_e,K_175h_g,-V.flat,-V.one,one_int,one_bool,one_str,one_nilp,one_rp,one_nilsl,one_ro,one_cl,one_nilf,one_nili,one_ifc,one_ptr,one_sl,one_clo,flat_d,flat_ptr,flat_sl,flat_clo,flat_agg,-decA,decA_int,decA_bool,decA_str,tk1,tk2,upK,hkl,hkl2,hlen]
    rw [aft_call]
    refine (text_at (w:=⟨#[98,114,97,110,99,104]⟩) (ws:=numB b.value_ :: (jmpW j++⟨#[124]⟩ :: jmpW k)) ?_ ?_ (by simp;omega) (by decide) fun y hy=>?_).mono ?_
    · show (List.replicate q Place.dead++_)[q + 4]? = _
      rw [List.getElem?_append_right (by simp)]
      simp [rBy]
    · simp;omega
    · rcases List.mem_cons.1 hy with rfl | hy
      · exact numB_1000 (good_80 hv)
      · rcases List.mem_append.1 hy with hy | hy
        · exact l6 y hy
        · rcases List.mem_cons.1 hy with rfl | hy
          · decide
          · exact l8 y hy
    rintro r H1 ⟨rfl,rfl⟩
    simp [loadD,K_175_f,K_175_e,K_175h_f,K_175h_e,K_175h_g,-V.flat,-V.one,one_int,one_bool,one_str,one_nilp,one_rp,one_nilsl,one_ro,one_cl,one_nilf,one_nili,one_ifc,one_ptr,one_sl,one_clo,flat_d,flat_ptr,flat_sl,flat_clo,flat_agg,-decA,decA_int,decA_bool,decA_str,hlen]
    refine denC_leaf ?_
    simp only [stripOps,pickOps]
    simp [K_175_f,K_175_e,K_175h_f,K_175h_e,K_175h_g,-V.flat,-V.one,one_int,one_bool,one_str,one_nilp,one_rp,one_nilsl,one_ro,one_cl,one_nilf,one_nili,one_ifc,one_ptr,one_sl,one_clo,flat_d,flat_ptr,flat_sl,flat_clo,flat_agg,-decA,decA_int,decA_bool,decA_str,hlen]
    simp [retQ]
    refine ⟨_,_,Fin.same (Nat.zero_le _), ?_⟩
    unfold endT
    rw [if_neg (by omega),if_neg (by omega),hjl2,hkl2]
    exact Rd1.d
noncomputable def K_103:Ent Tryz.prog:=Ent.p1 (α:=Block) 103 (fun b=>LnB b) (fun b=>.d (.str (endT b))) (fun b hc=>endText_c b hc)
theorem K_103_f:K_103.f=103:=rfl
theorem K_103_e (b0:Int) (b1:List Inst) (b2:Int) (b3:Int) (b4:List Jump):K_103.e [.agg [.d (.int .i64 b0),.d (dInstS b1),.d (.int .i64 b2),.d (.int .i64 b3),.d (dJumpS b4)]]=some (LnB (Block.mk b0 b1 b2 b3 b4),.d (.str (endT (Block.mk b0 b1 b2 b3 b4))),[]):=by unfold K_103;exact Ent.p1_eq (α:=Block) (Block.mk b0 b1 b2 b3 b4)
noncomputable def K_103h:EntH Tryz.prog:=EntH.pk1 (α:=Block) 103 (fun b=>LnB b) (fun b=>.d (.str (endT b))) (fun b=>[]) (fun b hc=>PureP.ans (endText_c b hc))
theorem K_103h_f:K_103h.f=103:=rfl
theorem K_103h_g:K_103h.gro=true:=rfl
theorem K_103h_e {x1:V} {H:Heap}:K_103h.e [x1] H=guardR ((decA (α:=Block) H x1).1) (peekR (LnB (decA (α:=Block) H x1).2) (.d (.str (endT (decA (α:=Block) H x1).2))) ([]) H):=rfl
end Go.Proofs.YtcgekblpbheikaaGreatDoor
