/- Contracts of the specification's sets of numbers, and its ways from block to block. No condition. -/
import Derived.Test.YthafdegfjadijaaGreatQS13
namespace Go.Proofs.YthafdegfjadijaaGreat
set_option maxRecDepth 100000
set_option linter.unusedSimpArgs false
set_option linter.unusedVariables false
def hasL (l:List Int) (n:Int):Bool:=decide (n∈l)
theorem l1Has_c (l:List Int) (n:Int) (h8:l.length≤1000):PureP Tryz.prog 53 [.d (dIntS l),.d (.int .i64 n)] (· = .d (.bool (hasL l n))):=by
  refine pure_of Tryz.func53 en_53 rfl rfl (W_run mixed ⟨[],[],[],17,0,[0,1,4,6,7,8,9,10,15],[10,15]⟩ (fun _=>[]) (by kernel_rfl) ?_)
  simp only [Tryz.f53,stripX,stripOps,pickOps]
  simp []
  refine W_loopA (fun i:Nat=>[(1,.d (.int .i64 n)),(7,.d (dIntS l)),(8,.d (.int .i64 l.length)),(9,.d (.int .i64 i))])
    (fun i=>[]) (fun i=>i≤l.length∧n ∉ l.take i) (fun i=>l.length - i) 0 ?_ ?_ ?_
  · simp
  · simp
  rintro i ⟨hi,hn⟩
  refine W_run mixed ⟨[],[],[],17,0,[0,1,4,6,7,8,9,10,15],[10,15]⟩ (fun _=>[]) (by kernel_rfl) ?_
  simp only [stripX,stripOps,pickOps]
  simp []
  refine ⟨fun h=>⟨h,fun e=>?_,fun e=>⟨i + 1,⟨by omega, ?_⟩,by omega,by rw [wrap_id] <;> omega⟩⟩,fun h=>?_⟩
  · have:n∈l:=by
      rw [← e,List.getElem?_eq_getElem h];exact List.getElem_mem h
    simp [hasL,this]
  · rw [List.getElem?_eq_getElem h,Option.getD_some] at e
    rw [List.take_succ_eq_append_getElem h,List.mem_append,List.mem_singleton]
    rintro (q | q)
    · exact hn q
    · exact e q.symm
  · rw [List.take_of_length_le h] at hn
    simp [hasL,hn]
noncomputable def K_53:Ent Tryz.prog:=Ent.p2 (α:=List Int) (β:=Int) 53 (fun l n=>l.length≤1000) (fun l n=>.d (.bool (hasL l n))) (fun l n hc=>l1Has_c l n hc)
theorem K_53_f:K_53.f=53:=rfl
theorem K_53_e (l:List Int) (n:Int):K_53.e [.d (dIntS l),.d (.int .i64 n)]=some (l.length≤1000,.d (.bool (hasL l n)),[]):=by unfold K_53;exact Ent.p2_eq (α:=List Int) (β:=Int) l n
noncomputable def K_53h:EntH Tryz.prog:=EntH.pk2 (α:=List Int) (β:=Int) 53 (fun l n=>l.length≤1000) (fun l n=>.d (.bool (hasL l n))) (fun l n=>[]) (fun l n hc=>PureP.ans (l1Has_c l n hc))
theorem K_53h_f:K_53h.f=53:=rfl
theorem K_53h_g:K_53h.gro=true:=rfl
theorem K_53h_e {x1 x2:V} {H:Heap}:K_53h.e [x1,x2] H=guardR ((decA (α:=List Int) H x1).1∧(decA (α:=Int) H x2).1) (peekR ((decA (α:=List Int) H x1).2.length≤1000) (.d (.bool (hasL (decA (α:=List Int) H x1).2 (decA (α:=Int) H x2).2))) ([]) H):=rfl
def putL:List Int→Int→List Int
  | [],n=>[n]
  | a :: l,n=>if a < n then a :: putL l n else if a=n then a :: l else n :: a :: l
theorem putL_cut:∀ (l:List Int) (n:Int) (k:Nat),k≤l.length→(∀ i,i < k→l[i]?.getD 0 < n)→(k < l.length→¬ l[k]?.getD 0 < n) →
    putL l n=if k < l.length∧l[k]?.getD 0=n then l else l.take k++n :: l.drop k
  | [],n,k,h,_,_=>by
    have:k=0:=by simpa using h
    subst this;simp [putL]
  | a :: l,n,0,_,_,h2=>by
    have h2:=h2 (by simp)
    simp only [List.getElem?_cons_zero,Option.getD_some] at h2
    simp [putL,h2]
  | a :: l,n,k + 1,h,h1,h2=>by
    have ha:a < n:=by simpa using h1 0 (by omega)
    have ih:=putL_cut l n k (by simpa using h) (fun i hi=>by simpa using h1 (i + 1) (by omega)) (fun hk=>by simpa using h2 (by simpa using hk))
    simp only [putL,if_pos ha,ih,List.length_cons,List.getElem?_cons_succ,Nat.add_lt_add_iff_right,List.take_succ_cons,List.drop_succ_cons,List.cons_append]
    split <;> rfl
theorem vle_row {n f:Nat} {row:List (List V)} {H:Heap} (l:List Int) (hr:row=rI l) (hn:n=l.length):VLe (.d (.ro 1 n fun i j=>closeD H f ((row[i]?.getD [])[j]?.getD (.d .undef)))) (.d (dIntS l)):=by
  subst hr hn
  refine ⟨rfl,rfl,fun k hk j hj=>?_⟩
  have:j=0:=by omega
  subst this
  dsimp only
  rw [List.getElem?_map,List.getElem?_eq_getElem hk]
  cases f <;> simp [closeD]
theorem upto_take (l:List Int) {i:Nat} (h:i≤l.length):(upto i fun i=>[V.d (D.int IntKind.i64 (l[i]?.getD 0))])=rI (l.take i):=by
  refine List.ext_getElem? fun k=>?_
  rw [upto_get,List.getElem?_map,List.getElem?_take]
  split
  · rw [List.getElem?_eq_getElem (by omega)];rfl
  · rfl
theorem upto_drop (l:List Int) (i:Nat):(upto (l.length - i) fun j=>[V.d (D.int IntKind.i64 (l[i + j]?.getD 0))])=rI (l.drop i):=by
  refine List.ext_getElem? fun k=>?_
  rw [upto_get,List.getElem?_map,List.getElem?_drop]
  split
  · rw [List.getElem?_eq_getElem (by omega)];rfl
  · rw [List.getElem?_eq_none (by omega)];rfl
theorem l1Put_c (l:List Int) (n:Int) (h8:l.length≤1000):PureP Tryz.prog 70 [.d (dIntS l),.d (.int .i64 n)] (· = .d (dIntS (putL l n))):=by
  refine PureP.le (pure_of Tryz.func70 en_70 rfl rfl (W_run mixed ⟨[],[],[],48,0,[0,1,4,5,6,18,32],[11,18,25,32]⟩ (fun _=>[]) (by kernel_rfl) ?_))
  simp only [Tryz.f70,stripX,stripOps,pickOps]
  simp []
  refine W_loopA (fun i:Nat=>[(0,.d (dIntS l)),(1,.d (.int .i64 n)),(5,.d (.int .i64 i))])
    (fun i=>[]) (fun i=>i≤l.length∧∀ j,j < i→l[j]?.getD 0 < n) (fun i=>l.length - i) 0 ?_ ?_ ?_
  · simp
  · simp
  rintro i ⟨hi,hn⟩
  have hcut:=putL_cut l n i hi hn
  have u1:=upto_take l hi
  have u2:=upto_drop l i
  refine W_run mixed ⟨[],[],[],48,0,[0,1,4,5,6,18,32],[11,18,25,32]⟩ (fun _=>[]) (by kernel_rfl) ?_
  simp only [stripX,stripOps,pickOps]
  simp [u1,u2,hi]
  have row:List.take (i + 1) (List.take i (List.take i (List.map (fun n=>[V.d (D.int IntKind.i64 n)]) l))++[[V.d (D.int IntKind.i64 n)]])++List.drop i (List.map (fun n=>[V.d (D.int IntKind.i64 n)]) l)=rI (l.take i++n :: l.drop i):=by
    rw [List.take_of_length_le (l:=_++_) (by simp;omega)]
    simp [List.map_take,List.map_drop,List.take_take]
  have last:(i < l.length→¬ l[i]?.getD 0 < n∧¬ l[i]?.getD 0=n)→putL l n=l.take i++n :: l.drop i:=fun q=>by
    rw [hcut fun h=>(q h).1,if_neg fun h=>(q h.1).2 h.2]
  have len:i + 1 + (l.length - i)=(l.take i++n :: l.drop i).length:=by simp;omega
  refine ⟨fun h=>⟨h,fun hlt=>⟨i + 1,⟨by omega,fun j hj=>?_⟩,by omega,by rw [wrap_id] <;> omega⟩,fun hge=>⟨fun _=>⟨h,fun he=>?_,fun hne=>⟨by omega,by omega,by omega, ?_⟩⟩,fun h'=>absurd h (by omega)⟩⟩,fun h=>⟨fun h'=>absurd h (by omega),fun _=>⟨by omega,by omega,by omega, ?_⟩⟩⟩
  · by_cases e:j=i
    · subst e;exact hlt
    · exact hn j (by omega)
  · rw [hcut fun _=>by omega,if_pos ⟨h,he⟩]
    exact DLe.refl _
  · rw [last fun _=>⟨by omega,hne⟩]
    exact vle_row _ row len
  · rw [last fun h'=>absurd h (by omega)]
    exact vle_row _ row len
noncomputable def K_70:Ent Tryz.prog:=Ent.p2 (α:=List Int) (β:=Int) 70 (fun l n=>l.length≤1000) (fun l n=>.d (dIntS (putL l n))) (fun l n hc=>l1Put_c l n hc)
theorem K_70_f:K_70.f=70:=rfl
theorem K_70_e (l:List Int) (n:Int):K_70.e [.d (dIntS l),.d (.int .i64 n)]=some (l.length≤1000,.d (dIntS (putL l n)),[]):=by unfold K_70;exact Ent.p2_eq (α:=List Int) (β:=Int) l n
noncomputable def K_70h:EntH Tryz.prog:=EntH.pk2 (α:=List Int) (β:=Int) 70 (fun l n=>l.length≤1000) (fun l n=>.d (dIntS (putL l n))) (fun l n=>[]) (fun l n hc=>PureP.ans (l1Put_c l n hc))
theorem K_70h_f:K_70h.f=70:=rfl
theorem K_70h_g:K_70h.gro=true:=rfl
theorem K_70h_e {x1 x2:V} {H:Heap}:K_70h.e [x1,x2] H=guardR ((decA (α:=List Int) H x1).1∧(decA (α:=Int) H x2).1) (peekR ((decA (α:=List Int) H x1).2.length≤1000) (.d (dIntS (putL (decA (α:=List Int) H x1).2 (decA (α:=Int) H x2).2))) ([]) H):=rfl
noncomputable def nextS (F:Func) (k:Int):List Int:=(tos (F.blocks_[k.toNat]?.getD default)).foldl putL []
theorem putL_len:∀ (l:List Int) (n:Int),(putL l n).length≤l.length + 1
  | [],n=>by simp [putL]
  | a :: l,n=>by
    simp only [putL]
    split
    · have:=putL_len l n;simp;omega
    · split <;> simp
theorem foldl_len:∀ (l l0:List Int),(l.foldl putL l0).length≤l0.length + l.length
  | [],l0=>by simp
  | a :: l,l0=>by
    have:=foldl_len l (putL l0 a)
    have:=putL_len l0 a
    simp only [List.foldl_cons,List.length_cons];omega
def nextP (js:List Jump) (i:Nat):List Int:=((js.map (·.to_)).take i).foldl putL []
theorem l13Next_c (F : Func) (k : Int) (hv : fewJumps F.blocks_) (h0 : 0 ≤ k) (h1 : k < F.blocks_.length) : PureP Tryz.prog 48 [vFunc F, .d (.int .i64 k)] (· = .d (dIntS (nextS F k))) := by
  have hj:(F.blocks_[k.toNat]?.getD default).jumps_.length≤2:=hv.2 _ (by rw [List.getElem?_eq_getElem (by omega)];exact List.getElem_mem _)
  refine pure_of Tryz.func48 en_48 rfl rfl (W_run mixed ⟨[K_70],[K_70h],[],25,0,[0,1,2,4,5,7,13,14,15,16],[16]⟩ (fun _=>[]) (by kernel_rfl) ?_)
  simp only [Tryz.f48,stripX,stripOps,pickOps]
  simp [K_70_f,K_70_e,K_70h_f,K_70h_e,K_70h_g]
  refine ⟨⟨h0,h1⟩, ?_⟩
  have ht:nextS F k=nextP (F.blocks_[k.toNat]?.getD default).jumps_ (F.blocks_[k.toNat]?.getD default).jumps_.length:=by
    simp [nextP,nextS,tos,List.take_of_length_le]
  rw [ht]
  generalize (F.blocks_[k.toNat]?.getD default).jumps_=js at hj
  refine W_loopF (fun i:Nat=>[(5,.d (dIntS (nextP js i))),(13,.d (dJumpS js)),(14,.d (.int .i64 js.length)),(15,.d (.int .i64 i))])
    (fun i=>[]) (fun i=>i≤js.length) (fun i=>js.length - i) 0 [] ?_ ?_ ?_
  · simp
    exact rfl
  · simp
  intro i hi
  have hl:(nextP js i).length≤1000:=by
    have:=foldl_len ((js.map (·.to_)).take i) []
    simp only [List.length_map,List.length_take,List.length_nil] at this
    unfold nextP;omega
  refine W_run mixed ⟨[K_70],[K_70h],[],25,0,[0,1,2,4,5,7,13,14,15,16],[16]⟩ (fun _=>[]) (by kernel_rfl) ?_
  simp only [stripX,stripOps,pickOps]
  simp [K_70_f,K_70_e,K_70h_f,K_70h_e,K_70h_g,hl]
  refine ⟨fun h=>⟨h,i + 1,by omega,by omega,[],by simp,by simp, ?_, ?_⟩,fun h=>?_⟩
  · have:nextP js (i + 1)=putL (nextP js i) (js[i]?.getD default).to_:=by
      have e:(js.map (·.to_)).take (i + 1)=(js.map (·.to_)).take i++[(js[i]?.getD default).to_]:=by
        rw [List.take_succ_eq_append_getElem (by simpa using h)]
        simp [h]
      unfold nextP
      rw [e,List.foldl_append];rfl
    rw [this];exact DLe.refl _
  · rw [wrap_id] <;> first | exact DLe.refl _ | omega
  · have:i=js.length:=by omega
    subst this
    exact ⟨rfl,rfl⟩
noncomputable def K_48:Ent Tryz.prog:=Ent.p2 (α:=Func) (β:=Int) 48 (fun F k=>fewJumps F.blocks_∧0≤k∧k < F.blocks_.length) (fun F k=>.d (dIntS (nextS F k))) (fun F k hc=>l13Next_c F k hc.1 hc.2.1 hc.2.2)
theorem K_48_f:K_48.f=48:=rfl
theorem K_48_e (F0:Int) (F1:List Block) (k:Int):K_48.e [.agg [.d (.int .i64 F0),.d (dBlockS F1)],.d (.int .i64 k)]=some (fewJumps (Func.mk F0 F1).blocks_∧0≤k∧k < (Func.mk F0 F1).blocks_.length,.d (dIntS (nextS (Func.mk F0 F1) k)),[]):=by unfold K_48;exact Ent.p2_eq (α:=Func) (β:=Int) (Func.mk F0 F1) k
noncomputable def K_48h:EntH Tryz.prog:=EntH.pk2 (α:=Func) (β:=Int) 48 (fun F k=>fewJumps F.blocks_∧0≤k∧k < F.blocks_.length) (fun F k=>.d (dIntS (nextS F k))) (fun F k=>[]) (fun F k hc=>PureP.ans (l13Next_c F k hc.1 hc.2.1 hc.2.2))
theorem K_48h_f:K_48h.f=48:=rfl
theorem K_48h_g:K_48h.gro=true:=rfl
theorem K_48h_e {x1 x2:V} {H:Heap}:K_48h.e [x1,x2] H=guardR ((decA (α:=Func) H x1).1∧(decA (α:=Int) H x2).1) (peekR (fewJumps (decA (α:=Func) H x1).2.blocks_∧0≤(decA (α:=Int) H x2).2∧(decA (α:=Int) H x2).2 < (decA (α:=Func) H x1).2.blocks_.length) (.d (dIntS (nextS (decA (α:=Func) H x1).2 (decA (α:=Int) H x2).2))) ([]) H):=rfl
theorem mem_putL {l : List Int} {n x : Int} : x ∈ putL l n ↔ x = n ∨ x ∈ l := by
  induction l with
  | nil=>simp [putL]
  | cons a l ih =>
    simp only [putL]
    split
    · rw [List.mem_cons,ih,List.mem_cons]
      constructor <;> rintro (h | h | h) <;> first | exact .inl (.inr h) | exact .inl (.inl h) | exact .inr h | exact .inl h | exact .inr (.inl h) | exact .inr (.inr h)
    · split
      · rename_i e
        subst e
        simp only [List.mem_cons]
        exact ⟨fun h=>.inr h,fun h=>h.elim (fun q=>.inl q) id⟩
      · simp
theorem mem_foldl {l l0:List Int} {x:Int}:x∈l.foldl putL l0 ↔ x∈l∨x∈l0:=by
  induction l generalizing l0 with
  | nil=>simp
  | cons a l ih =>
    rw [List.foldl_cons,ih,mem_putL,List.mem_cons]
    exact ⟨fun h=>h.elim (fun h=>.inl (.inr h)) fun h=>h.elim (fun h=>.inl (.inl h)) .inr,fun h=>h.elim (fun h=>h.elim (fun h=>.inr (.inl h)) .inl) fun h=>.inr (.inr h)⟩
theorem putL_sorted {l : List Int} {n : Int} (h : l.Pairwise (· < ·)) : (putL l n).Pairwise (· < ·) := by
  induction l with
  | nil=>simp [putL]
  | cons a l ih =>
    simp only [putL]
    have h':=List.pairwise_cons.1 h
    split
    · rename_i hlt
      refine List.pairwise_cons.2 ⟨fun x hx=>?_,ih h'.2⟩
      rcases mem_putL.1 hx with rfl | hx
      · exact hlt
      · exact h'.1 x hx
    · split
      · exact h
      · rename_i h1 h2
        refine List.pairwise_cons.2 ⟨fun x hx=>?_,h⟩
        rcases List.mem_cons.1 hx with rfl | hx
        · omega
        · have:=h'.1 x hx;omega
theorem sorted_ext : ∀ {l l' : List Int}, l.Pairwise (· < ·) → l'.Pairwise (· < ·) → (∀ x, x ∈ l ↔ x ∈ l') → l = l'
  | [],[],_,_,_=>rfl
  | [],a :: l',_,_,h=>absurd ((h a).2 List.mem_cons_self) List.not_mem_nil
  | a :: l,[],_,_,h=>absurd ((h a).1 List.mem_cons_self) List.not_mem_nil
  | a :: l, b :: l', h1, h2, h => by
    obtain ⟨p1,p2⟩:=List.pairwise_cons.1 h1
    obtain ⟨q1,q2⟩:=List.pairwise_cons.1 h2
    have e:a=b:=by
      rcases List.mem_cons.1 ((h a).1 List.mem_cons_self) with e | e
      · exact e
      · rcases List.mem_cons.1 ((h b).2 List.mem_cons_self) with e' | e'
        · exact e'.symm
        · have:=p1 b e';have:=q1 a e;omega
    subst e
    refine congrArg (a :: ·) (sorted_ext p2 q2 fun x=>⟨fun hx=>?_,fun hx=>?_⟩)
    · rcases List.mem_cons.1 ((h x).1 (List.mem_cons_of_mem _ hx)) with e | e
      · subst e;exact absurd (p1 x hx) (by omega)
      · exact e
    · rcases List.mem_cons.1 ((h x).2 (List.mem_cons_of_mem _ hx)) with e | e
      · subst e;exact absurd (q1 x hx) (by omega)
      · exact e
end Go.Proofs.YthafdegfjadijaaGreat
