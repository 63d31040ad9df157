/- Circles of forward ways: plain; the reference's small helpers. No condition. -/
import Derived.Test.YthafdegfjadijaaGreatQS158
namespace Go.Proofs.YthafdegfjadijaaGreat
set_option maxRecDepth 100000
set_option linter.unusedSimpArgs false
set_option linter.unusedVariables false
section
variable {nx:List (List Int)}
theorem Rch.pre {fr to x:Int} (hf:fr ≠ -1) (h1:to∈nx[fr.toNat]?.getD default) (h:Rch nx to (-1) x):Rch nx fr (-1) x:=by
  induction h with
  | base h=>exact .step (.base hf) h1 h
  | step _ hb hne ih=>exact .step ih hb hne
theorem forth_len:(forthL nx).length=nx.length:=by simp [forthL]
theorem forth_sub {a b:Int} (h:b∈(forthL nx)[a.toNat]?.getD default):b∈nx[a.toNat]?.getD default:=by
  by_cases ha:a.toNat < nx.length
  · have e:((a.toNat:Nat):Int).toNat=a.toNat:=by omega
    have h':b∈(forthL nx)[((a.toNat:Nat):Int).toNat]?.getD default:=by rw [e];exact h
    have:=(mem_forth (nx:=nx) (a:=((a.toNat:Nat):Int)) (by omega)).1 h'
    rw [e] at this
    exact this.1
  · rw [List.getElem?_eq_none (by rw [forth_len];omega)] at h
    exact absurd h List.not_mem_nil
theorem forth_ok (hn:okNext nx):okNext (forthL nx):=by
  refine ⟨by rw [forth_len];exact hn.1,fun l hl=>?_⟩
  obtain ⟨a,ha⟩:=List.getElem?_of_mem hl
  have hal:=(List.getElem?_eq_some_iff.1 ha).1
  rw [forth_len] at hal
  have h2:=okNext_get hn a
  unfold forthL at ha
  rw [List.getElem?_map,List.getElem?_range hal] at ha
  have hl2:=Option.some.inj ha
  refine ⟨?_,fun b hb=>?_⟩
  · rw [← hl2];exact Nat.le_trans (List.length_filter_le ..) h2.1
  · rw [forth_len]
    rw [← hl2] at hb
    exact h2.2 b (List.mem_filter.1 hb).1
theorem Rch.forth {fr x:Int} (h:Rch (forthL nx) fr (-1) x):Rch nx fr (-1) x:=by
  induction h with
  | base h=>exact .base h
  | step _ hb hne ih=>exact .step ih (forth_sub hb) hne
theorem Rch.trans {a b c:Int} (h:Rch nx a (-1) b) (g:Rch nx b (-1) c):Rch nx a (-1) c:=by
  induction g with
  | base=>exact h
  | step _ hb hne ih=>exact .step ih hb hne
def Cyc (nx:List (List Int)) (x:Int):Prop:=∃ t∈(forthL nx)[x.toNat]?.getD default,Rch (forthL nx) t (-1) x
def Red (nx:List (List Int)):Prop:=∀ k,Rch nx 0 (-1) k→¬ Cyc nx k
theorem Cyc.prev (hn:okNext nx) {k:Int} (hr:Rch nx 0 (-1) k) (hk:0≤k) (h:Cyc nx k):∃ m,k∈(forthL nx)[m.toNat]?.getD default∧Cyc nx m∧Rch nx 0 (-1) m:=by
  obtain ⟨t,h1,h2⟩:=h
  cases h2 with
  | base=>exact ⟨k,h1,⟨k,h1,.base (by omega)⟩,hr⟩
  | step h3 hb hne =>
    rename_i a
    refine ⟨a,hb,⟨k,hb,h3.pre (by omega) h1⟩, ?_⟩
    have ht:Rch nx 0 (-1) t:=.step hr (forth_sub h1) (by have:=(okNext_get hn _).2 t (forth_sub h1);omega)
    exact ht.trans h3.forth
open Classical in
theorem stays_cyc (hn : okNext nx) {left : List Int} (hr : ∀ x ∈ left, 0 ≤ x) (hs : ∀ x ∈ left, ∃ m ∈ left, x ∈ (forthL nx)[m.toNat]?.getD default) (hc : ∀ x ∈ left, ¬ Cyc nx x) : left = [] := by
  have key:∀ (n:Nat) (x:Int),x∈left→left.countP (fun y=>decide (Rch (forthL nx) y (-1) x))=n→False:=by
    intro n
    induction n using Nat.strongRecOn with
    | ind n ih =>
      intro x hx hnx
      obtain ⟨m,hm,hxm⟩:=hs x hx
      have hx0:=hr x hx
      refine ih _ ?_ m hm rfl
      rw [← hnx]
      have hno:¬ Rch (forthL nx) x (-1) m:=fun q=>hc m hm ⟨x,hxm,q⟩
      obtain ⟨a,b,e⟩:=List.append_of_mem hx
      have mono:∀ c:List Int,c.countP (fun y=>decide (Rch (forthL nx) y (-1) m))≤c.countP (fun y=>decide (Rch (forthL nx) y (-1) x)):=fun c=>by
        refine List.countP_mono_left fun y _ hy=>?_
        exact decide_eq_true (.step (of_decide_eq_true hy) hxm (by omega))
      rw [e,List.countP_append,List.countP_append,List.countP_cons,List.countP_cons]
      have e1:decide (Rch (forthL nx) x (-1) m)=false:=decide_eq_false hno
      have e2:decide (Rch (forthL nx) x (-1) x)=true:=decide_eq_true (.base (by omega))
      rw [e1,e2]
      have:=mono a
      have:=mono b
      simp
      omega
  exact List.eq_nil_iff_forall_not_mem.2 fun x hx=>key _ x hx rfl
structure Lf (nx:List (List Int)) (R left:List Int):Prop where
  sub:∀ x∈left,x∈R
  out:∀ x∈R,x ∉ left→¬ Cyc nx x
def Stay (nx:List (List Int)) (left:List Int) (k:Int):Prop:=∃ m∈left,k∈(forthL nx)[m.toNat]?.getD default
theorem Lf.drop (hn:okNext nx) {R left:List Int} (hR:∀ x,x∈R ↔ Rch nx 0 (-1) x) (q:Lf nx R left) {k:Int} (hk:k∈left) (hk0:0≤k) (hs:¬ Stay nx left k):Lf nx R (left.filter fun x=>decide (x ≠ k)):=by
  refine ⟨fun x hx=>q.sub x (List.mem_filter.1 hx).1,fun x hx hnx=>?_⟩
  by_cases e:x=k
  · subst e
    intro hc
    obtain ⟨m,h1,h2,h3⟩:=hc.prev hn ((hR x).1 hx) hk0
    by_cases hm:m∈left
    · exact hs ⟨m,hm,h1⟩
    · exact q.out m ((hR m).2 h3) hm h2
  · exact q.out x hx fun h=>hnx (List.mem_filter.2 ⟨h,by simpa using e⟩)
theorem Lf.done (hn:okNext nx) {R left:List Int} (hR:∀ x,x∈R ↔ Rch nx 0 (-1) x) (h0:∀ x∈R,0≤x) (q:Lf nx R left) (hs:∀ x∈left,Stay nx left x):left=[] ↔ Red nx:=by
  constructor
  · rintro rfl k hk
    exact q.out k ((hR k).2 hk) List.not_mem_nil
  · intro hr
    exact stays_cyc hn (fun x hx=>h0 x (q.sub x hx)) hs fun x hx=>hr x ((hR x).1 (q.sub x hx))
end
theorem l13Back_c (bk : List (List Int)) (m k : Int) (h8 : bk.length ≤ 1000 ∧ ∀ e ∈ bk, ∃ a b : Int, e = [a, b]) : PureP Tryz.prog 54 [.d (dIntSS bk), .d (.int .i64 m), .d (.int .i64 k)] (· = .d (.bool (decide ([m, k] ∈ bk)))) := by
  obtain ⟨h8,hb⟩:=h8
  refine pure_of Tryz.func54 en_54 rfl rfl (W_run mixed ⟨[],[],[],28,0,[0,1,2,6,8,9,10,11,12,26],[12,20,26]⟩ (fun _=>[]) (by kernel_rfl) ?_)
  simp only [Tryz.f54,stripX,stripOps,pickOps]
  simp []
  refine W_loopA (fun i:Nat=>[(1,.d (.int .i64 m)),(2,.d (.int .i64 k)),(9,.d (dIntSS bk)),(10,.d (.int .i64 bk.length)),(11,.d (.int .i64 i))])
    (fun i=>[]) (fun i=>i≤bk.length∧[m,k] ∉ bk.take i) (fun i=>bk.length - i) 0 ?_ ?_ ?_
  · simp
  · simp
  rintro i ⟨hi,hn⟩
  by_cases h:i < bk.length
  · obtain ⟨e,he⟩:∃ e,e=bk[i]?.getD []:=⟨_,rfl⟩
    have e0:=he.symm
    have e1:∀ h:i < bk.length,bk[i]=e:=fun h=>by rw [he,List.getElem?_eq_getElem h];rfl
    have hm:=List.getElem_mem h
    rw [e1 h] at hm
    have ht:=List.take_succ_eq_append_getElem h
    rw [e1 h] at ht
    obtain ⟨a,b,rfl⟩:=hb e hm
    have wi:IntKind.i64.wrap ((i:Int) + 1)=((i + 1:Nat):Int):=by rw [wrap_id] <;> omega
    by_cases ha:a=m
    · by_cases hk:b=k
      · subst ha hk
        refine W_run mixed ⟨[],[],[],28,0,[0,1,2,6,8,9,10,11,12,26],[12,20,26]⟩ (fun _=>[]) (by kernel_rfl) ?_
        simp only [stripX,stripOps,pickOps]
        simp [h,e0,e1,hm]
      · have hn2:[m,k] ∉ bk.take (i + 1):=fun q=>by
          rw [ht] at q
          rcases List.mem_append.1 q with q | q
          · exact hn q
          · have:=List.mem_singleton.1 q
            simp at this
            exact hk this.2.symm
        refine W_run mixed ⟨[],[],[],28,0,[0,1,2,6,8,9,10,11,12,26],[12,20,26]⟩ (fun _=>[]) (by kernel_rfl) ?_
        simp only [stripX,stripOps,pickOps]
        simp [h,e0,e1,ha,hk,wi]
        exact ⟨i + 1,⟨by omega,hn2⟩,by omega,rfl⟩
    · have hn2:[m,k] ∉ bk.take (i + 1):=fun q=>by
        rw [ht] at q
        rcases List.mem_append.1 q with q | q
        · exact hn q
        · have:=List.mem_singleton.1 q
          simp at this
          exact ha this.1.symm
      refine W_run mixed ⟨[],[],[],28,0,[0,1,2,6,8,9,10,11,12,26],[12,20,26]⟩ (fun _=>[]) (by kernel_rfl) ?_
      simp only [stripX,stripOps,pickOps]
      simp [h,e0,e1,ha,wi]
      exact ⟨i + 1,⟨by omega,hn2⟩,by omega,rfl⟩
  · rw [List.take_of_length_le (by omega)] at hn
    refine W_run mixed ⟨[],[],[],28,0,[0,1,2,6,8,9,10,11,12,26],[12,20,26]⟩ (fun _=>[]) (by kernel_rfl) ?_
    simp only [stripX,stripOps,pickOps]
    simp [h,hn]
noncomputable def K_54:Ent Tryz.prog:=Ent.p3 (α:=List (List Int)) (β:=Int) (γ:=Int) 54 (fun bk m k=>bk.length≤1000∧∀ e∈bk,∃ a b:Int,e=[a,b]) (fun bk m k=>.d (.bool (decide ([m,k]∈bk)))) (fun bk m k hc=>l13Back_c bk m k hc)
theorem K_54_f:K_54.f=54:=rfl
theorem K_54_e (bk:List (List Int)) (m:Int) (k:Int):K_54.e [.d (dIntSS bk),.d (.int .i64 m),.d (.int .i64 k)]=some (bk.length≤1000∧∀ e∈bk,∃ a b:Int,e=[a,b],.d (.bool (decide ([m,k]∈bk))),[]):=by unfold K_54;exact Ent.p3_eq (α:=List (List Int)) (β:=Int) (γ:=Int) bk m k
noncomputable def K_54h:EntH Tryz.prog:=EntH.pk3 (α:=List (List Int)) (β:=Int) (γ:=Int) 54 (fun bk m k=>bk.length≤1000∧∀ e∈bk,∃ a b:Int,e=[a,b]) (fun bk m k=>.d (.bool (decide ([m,k]∈bk)))) (fun bk m k=>[]) (fun bk m k hc=>PureP.ans (l13Back_c bk m k hc))
theorem K_54h_f:K_54h.f=54:=rfl
theorem K_54h_g:K_54h.gro=true:=rfl
theorem K_54h_e {x1 x2 x3:V} {H:Heap}:K_54h.e [x1,x2,x3] H=guardR ((decA (α:=List (List Int)) H x1).1∧(decA (α:=Int) H x2).1∧(decA (α:=Int) H x3).1) (peekR ((decA (α:=List (List Int)) H x1).2.length≤1000∧∀ e∈(decA (α:=List (List Int)) H x1).2,∃ a b:Int,e=[a,b]) (.d (.bool (decide ([(decA (α:=Int) H x2).2,(decA (α:=Int) H x3).2]∈(decA (α:=List (List Int)) H x1).2)))) ([]) H):=rfl
def drL (n:Int) (l:List Int):List Int:=l.filter fun x=>decide (x ≠ n)
theorem drop_own (l : List Int) (n : Int) (h8 : l.length ≤ 1000) : CallsD Tryz.prog 55 [.d (dIntS l), .d (.int .i64 n)] [] fun r H' => Gr 0 (drL n l) r H' := by
  refine calls_of Tryz.func55 en_55 rfl (of_decide_eq_true rfl) (W_run mixed ⟨[],[],[],23,0,[0,1,4,5,7,8,9,10,11,16],[11,16]⟩ (fun _=>[]) (by kernel_rfl) ?_)
  simp only [Tryz.f55,stripX,stripOps,pickOps]
  simp [-V.flat,-V.one,one_int,one_bool,one_str,one_nilp,one_rp,one_nilsl,one_ro,one_cl,one_nilf,one_nili,one_ifc,one_ptr,one_sl,one_clo,flat_d,flat_ptr,flat_sl,flat_clo,flat_agg,retQ]
  refine W_loopH (α:=Nat × V × Heap) (fun a=>[(1,.d (.int .i64 n)),(5,a.2.1),(8,.d (dIntS l)),(9,.d (.int .i64 l.length)),(10,.d (.int .i64 a.1))]) (fun a=>a.2.2)
    (fun a=>a.1≤l.length∧Gr 0 (drL n (l.take a.1)) a.2.1 a.2.2) (fun a=>l.length - a.1) (0,.d .nilsl,[]) ?_ ⟨Nat.zero_le _,.inl ⟨by simp [drL],rfl⟩⟩ ?_
  · simp
  rintro ⟨i,v,G⟩ ⟨hi,hr⟩
  dsimp only at hi hr
  have hml:(drL n (l.take i)).length≤1000:=Nat.le_trans (List.length_filter_le ..) (by rw [List.length_take];omega)
  by_cases h:i < l.length
  · obtain ⟨x,hx⟩:∃ x,x=l[i]?.getD 0:=⟨_,rfl⟩
    have x0:=hx.symm
    have x1:∀ h:i < l.length,l[i]=x:=fun h=>by rw [hx,List.getElem?_eq_getElem h];rfl
    have ht:drL n (l.take (i + 1))=drL n (l.take i)++(if x=n then [] else [x]):=by
      unfold drL
      rw [List.take_succ_eq_append_getElem h,x1 h,List.filter_append]
      congr 1
      by_cases c:x=n
      · rw [if_pos c,List.filter_cons_of_neg (by simpa using c)];rfl
      · rw [if_neg c,List.filter_cons_of_pos (by simpa using c)];rfl
    have wi:IntKind.i64.wrap ((i:Int) + 1)=((i + 1:Nat):Int):=by rw [wrap_id] <;> omega
    obtain ⟨m,hm⟩:∃ m,m=drL n (l.take i):=⟨_,rfl⟩
    rw [← hm] at ht hr hml
    by_cases hx':x=n
    · rw [if_pos hx',List.append_nil] at ht
      refine W_run mixed ⟨[],[],[],23,0,[0,1,4,5,7,8,9,10,11,16],[11,16]⟩ (fun _=>[]) (by kernel_rfl) ?_
      simp only [stripX,stripOps,pickOps]
      simp [-V.flat,-V.one,one_int,one_bool,one_str,one_nilp,one_rp,one_nilsl,one_ro,one_cl,one_nilf,one_nili,one_ifc,one_ptr,one_sl,one_clo,flat_d,flat_ptr,flat_sl,flat_clo,flat_agg,h,x0,x1,hx',wi]
      exact ⟨i + 1,_,_,⟨by omega,by rw [ht];exact hr⟩,by omega,rfl,rfl,rfl⟩
    · rw [if_neg hx'] at ht
      rcases hr with ⟨rfl,rfl⟩ | ⟨id,rfl,hpos,hid,hr⟩
      · refine W_run mixed ⟨[],[],[],23,0,[0,1,4,5,7,8,9,10,11,16],[11,16]⟩ (fun _=>[]) (by kernel_rfl) ?_
        simp only [stripX,stripOps,pickOps]
        simp [-V.flat,-V.one,one_int,one_bool,one_str,one_nilp,one_rp,one_nilsl,one_ro,one_cl,one_nilf,one_nili,one_ifc,one_ptr,one_sl,one_clo,flat_d,flat_ptr,flat_sl,flat_clo,flat_agg,h,x0,x1,hx',wi]
        exact ⟨i + 1,_,_,⟨by omega,by rw [ht];exact Gr.new (Nat.zero_le _) (by simp) (by simp) (by simp [rI])⟩,by omega,rfl,rfl,rfl⟩
      · have hidl:=(List.getElem?_eq_some_iff.1 hr).1
        have hr':∀ R:Heap,(G++R)[id]? = some (.row 1 (rI m)):=fun R=>(List.getElem?_append_left hidl).trans hr
        have hset:∀ (R:Heap) p,(G++R).set id p=G.set id p++R:=fun R p=>List.set_append_left _ _ hidl
        refine W_run mixed ⟨[],[],[],23,0,[0,1,4,5,7,8,9,10,11,16],[11,16]⟩ (fun _=>[]) (by kernel_rfl) ?_
        simp only [stripX,stripOps,pickOps]
        simp [-V.flat,-V.one,one_int,one_bool,one_str,one_nilp,one_rp,one_nilsl,one_ro,one_cl,one_nilf,one_nili,one_ifc,one_ptr,one_sl,one_clo,flat_d,flat_ptr,flat_sl,flat_clo,flat_agg,h,x0,x1,hx',hr',hset,wi]
        exact ⟨⟨by omega,by omega⟩,i + 1,_,_,⟨by omega,by rw [ht];exact Gr.new2 (Nat.zero_le _) (by simp) (by simp) (by simp [rI])⟩,by omega,rfl,rfl,rfl⟩
  · have he:drL n (l.take i)=drL n l:=by rw [List.take_of_length_le (by omega)]
    rw [he] at hr
    refine W_run mixed ⟨[],[],[],23,0,[0,1,4,5,7,8,9,10,11,16],[11,16]⟩ (fun _=>[]) (by kernel_rfl) ?_
    simp only [stripX,stripOps,pickOps]
    simp [-V.flat,-V.one,one_int,one_bool,one_str,one_nilp,one_rp,one_nilsl,one_ro,one_cl,one_nilf,one_nili,one_ifc,one_ptr,one_sl,one_clo,flat_d,flat_ptr,flat_sl,flat_clo,flat_agg,h,retQ]
    exact ⟨_,_,Fin.same (Nat.zero_le _),hr⟩
theorem drop_c (l:List Int) (n:Int) (h8:l.length≤1000):PureP Tryz.prog 55 [.d (dIntS l),.d (.int .i64 n)] (· = .d (nzD (drL n l))):=by
  refine PureP.of_own ((drop_own l n h8).mono ?_)
  intro r H' h
  rcases h with ⟨e,rfl⟩ | ⟨id,rfl,hp,_,hr⟩
  · rw [e];exact Rd1.d
  · rw [nzD,if_neg fun e=>by rw [e] at hp;exact absurd hp (by decide)]
    have:=Rd1.slice (own_row hr)
    rwa [show Tr.era (⟨.sl id 1 0 (drL n l).length,drL n l⟩:AS Int)=drL n l from era_ints _] at this
noncomputable def K_55:Ent Tryz.prog:=Ent.p2 (α:=List Int) (β:=Int) 55 (fun l n=>l.length≤1000) (fun l n=>.d (nzD (drL n l))) (fun l n hc=>drop_c l n hc)
theorem K_55_f:K_55.f=55:=rfl
theorem K_55_e (l:List Int) (n:Int):K_55.e [.d (dIntS l),.d (.int .i64 n)]=some (l.length≤1000,.d (nzD (drL n l)),[]):=by unfold K_55;exact Ent.p2_eq (α:=List Int) (β:=Int) l n
noncomputable def K_55h:EntH Tryz.prog:=EntH.pk2 (α:=List Int) (β:=Int) 55 (fun l n=>l.length≤1000) (fun l n=>.d (nzD (drL n l))) (fun l n=>[]) (fun l n hc=>PureP.ans (drop_c l n hc))
theorem K_55h_f:K_55h.f=55:=rfl
theorem K_55h_g:K_55h.gro=true:=rfl
theorem K_55h_e {x1 x2:V} {H:Heap}:K_55h.e [x1,x2] H=guardR ((decA (α:=List Int) H x1).1∧(decA (α:=Int) H x2).1) (peekR ((decA (α:=List Int) H x1).2.length≤1000) (.d (nzD (drL (decA (α:=Int) H x2).2 (decA (α:=List Int) H x1).2))) ([]) H):=rfl
end Go.Proofs.YthafdegfjadijaaGreat
