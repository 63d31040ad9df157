/- Contracts of the specification's check of a function. No condition. -/
import Derived.Test.YtnomiclfiijniaaQS17
section
namespace Go.Proofs.Ytnomiclfiijniaa
set_option maxRecDepth 100000
set_option linter.unusedSimpArgs false
set_option linter.unusedVariables false
theorem indexOwn (l : List Int) (fn : Nat) (caps : List V) (H : Heap) (p : Int → Bool) (hl : l.length ≤ 1000) (hb : placesBelow H.length H) (hc : belowL H.length caps = true)
    (h:∀ x∈l,CallsD Try.prog fn (.d (.int .i64 x) :: caps) H fun r H'=>r=.d (.bool (p x))∧H'=H) :
    CallsD Try.prog 120 [.d (dIntS l),.clo fn caps] H fun r H'=>(∃ k,r=.d (.int .i64 k)∧(0≤k ↔ l.any p=true))∧H'=H:=by
  refine calls_of Try.func120 en_120 rfl (of_decide_eq_true rfl) (W_run mixed ⟨[],[],[],19,H.length,[0,1,4,5,7,8,9,16],[9,16]⟩ (fun _=>[]) (by kernel_rfl) ?_)
  simp only [Try.f120,stripX,stripOps,pickOps]
  simp []
  refine W_loopA (fun i:Nat=>[(0,.d (dIntS l)),(1,.clo fn caps),(7,.d (.int .i64 l.length)),(8,.d (.int .i64 i))]) (fun _=>H) (fun i=>i≤l.length∧(l.take i).any p=false) (fun i=>l.length - i) 0 ?_ ?_ ?_
  · simp [hb,hc]
  · simp
  rintro i ⟨hi,hp⟩
  refine W_run mixed ⟨[],[],[],19,H.length,[0,1,4,5,7,8,9,16],[9,16]⟩ (fun _=>[]) (by kernel_rfl) ?_
  simp only [stripX,stripOps,pickOps]
  simp [retQ]
  refine ⟨fun hil=>⟨hil, ?_⟩,fun hil=>?_⟩
  · have hx:l[i]?.getD 0∈l:=by rw [List.getElem?_eq_getElem hil];exact List.getElem_mem hil
    refine (h _ hx).mono ?_
    rintro r H' ⟨rfl,rfl⟩
    cases hpx:p (l[i]?.getD 0) with
    | true =>
      simp [retQ]
      exact ⟨_,Fin.drop (by simp) hb rfl (Nat.le_refl _),_,rfl,⟨fun _=>⟨_,hx,hpx⟩,fun _=>by omega⟩⟩
    | false =>
      simp [retQ]
      refine ⟨i + 1,⟨by omega,fun x hx=>?_⟩,by omega,hb,hc,by rw [wrap_id] <;> omega⟩
      rw [List.take_succ_eq_append_getElem hil] at hx
      rcases List.mem_append.1 hx with q | q
      · cases e:p x with
        | false=>rfl
        | true=>rw [List.any_eq_true.2 ⟨x,q,e⟩] at hp;cases hp
      · have e:x=l[i]?.getD 0:=by rw [List.getElem?_eq_getElem hil];simpa using q
        rw [e];exact hpx
  · refine ⟨_,Fin.drop (by simp) hb rfl (Nat.le_refl _),_,rfl,⟨fun h=>absurd h (by decide),fun ⟨x,hx,q⟩=>?_⟩⟩
    rw [List.take_of_length_le hil,List.any_eq_true.2 ⟨x,hx,q⟩] at hp
    cases hp
theorem containsOwn (l:List Int) (fn:Nat) (caps:List V) (H:Heap) (p:Int→Bool) (hl:l.length≤1000) (hb:placesBelow H.length H) (hc:belowL H.length caps=true)
    (h:∀ x∈l,CallsD Try.prog fn (.d (.int .i64 x) :: caps) H fun r H'=>r=.d (.bool (p x))∧H'=H) :
    CallsD Try.prog 89 [.d (dIntS l),.clo fn caps] H fun r H'=>r=.d (.bool (l.any p))∧H'=H:=by
  refine calls_of Try.func89 en_89 rfl (of_decide_eq_true rfl) (W_run mixed ⟨[],[],[120],9,H.length,[0,1,4],[]⟩ (fun _=>[]) (by kernel_rfl) ?_)
  simp only [Try.f89,stripX,stripOps,pickOps]
  simp []
  refine (indexOwn l fn caps H p hl hb hc h).mono ?_
  rintro r H' ⟨⟨k,rfl,hk⟩,rfl⟩
  simp [retQ]
  have e:decide (0≤k)=l.any p:=by rw [Bool.eq_iff_iff,decide_eq_true_eq];exact hk
  rw [e]
  exact Fin.drop (by simp) hb rfl (Nat.le_refl _)
def usedL (b:Block):List Int:=(if b.end_=2 then [] else [b.value_])++b.jumps_.flatMap (·.args_)
section
variable {α:Type} {b:Block} {fn:Nat} {caps:List V} {L:Nat} {Hs:α→Heap} {f:α→Int→α}
theorem used_loop (s1 : α) (hj : b.jumps_.length ≤ 1000) (ha : ∀ j ∈ b.jumps_, j.args_.length ≤ 1000) (hL : ∀ s, (Hs s).length = L) (hb : ∀ s, placesBelow L (Hs s)) (hc : belowL L caps = true)
    (h:∀ s x n g,x∈usedL b→1≤n→g 0=D.int .i64 x→CallsD Try.prog fn (.d (.rp n g) :: caps) (Hs s) fun r H'=>r=.tup []∧H'=Hs (f s x))
    {c:Code} (hcd:(loopsIn (Try.f73.body.getD .skip))[0]? = some c) {Q:Exit→St→Prop} {s:St}
    (hs:Into L s [(0,.d (.rp 5 (dBlock b))),(1,.clo fn caps),(20,.d (.int .i64 b.jumps_.length)),(21,.d (.int .i64 0))] (Hs s1))
    (hq:∀ l',Q (.exit 0) ⟨mk l',Hs ((b.jumps_.flatMap (·.args_)).foldl f s1)⟩):W Try.prog 50 L c Q s:=by
  cases hcd
  have tk:∀ s,List.take L (Hs s)=Hs s:=fun s=>List.take_of_length_le (by rw [hL];exact Nat.le_refl _)
  refine W_loopA (α:=α × Nat) (fun a=>[(0,.d (.rp 5 (dBlock b))),(1,.clo fn caps),(20,.d (.int .i64 b.jumps_.length)),(21,.d (.int .i64 a.2))]) (fun a=>Hs a.1)
    (fun a=>a.2≤b.jumps_.length∧((b.jumps_.drop a.2).flatMap (·.args_)).foldl f a.1=(b.jumps_.flatMap (·.args_)).foldl f s1) (fun a=>b.jumps_.length - a.2) (s1,0) hs ?_ ?_
  · simp
  rintro ⟨s,i⟩ ⟨hi,hT⟩
  dsimp only at hi hT
  refine W_run mixed ⟨[],[],[],50,L,[0,1,4,5,10,20,21,22,32,33,34],[10,22,34]⟩ (fun _=>[]) (by kernel_rfl) ?_
  simp only [stripX,stripOps,pickOps]
  simp []
  refine ⟨fun hil=>⟨hil, ?_⟩,fun hil=>?_⟩
  · have hmem:b.jumps_[i]?.getD default∈b.jumps_:=by rw [List.getElem?_eq_getElem hil];exact List.getElem_mem hil
    have hal:=ha _ hmem
    have hin:∀ x∈(b.jumps_[i]?.getD default).args_,x∈usedL b:=fun x hx=>List.mem_append_right _ (List.mem_flatMap.2 ⟨_,hmem,hx⟩)
    rw [drop_cons hil,List.flatMap_cons,List.foldl_append] at hT
    have hjn:(i:Int) < b.jumps_.length:=by omega
    generalize hargs:(b.jumps_[i]?.getD default).args_=av at hal hin hT
    refine W_loopA (α:=α × Nat) (fun a=>[(0,.d (.rp 5 (dBlock b))),(1,.clo fn caps),(4,.d (.int .i64 i)),(20,.d (.int .i64 b.jumps_.length)),(21,.d (.int .i64 i)),(32,.d (.int .i64 av.length)),(33,.d (.int .i64 a.2))]) (fun a=>Hs a.1)
      (fun a=>a.2≤av.length∧(av.drop a.2).foldl f a.1=av.foldl f s) (fun a=>av.length - a.2) (s,0) ?_ ?_ ?_
    · simp [hL,hb,hc,tk]
    · simp
    rintro ⟨s',j⟩ ⟨hj',hT'⟩
    dsimp only at hj' hT'
    refine W_run mixed ⟨[],[],[],50,L,[0,1,4,5,10,20,21,22,32,33,34],[10,22,34]⟩ (fun _=>[]) (by kernel_rfl) ?_
    simp only [stripX,stripOps,pickOps]
    simp [hL,hb,hc,tk,hargs]
    refine ⟨fun hja=>⟨hil,hja, ?_⟩,fun hja=>?_⟩
    · have hx:av[j]?.getD 0∈av:=by rw [List.getElem?_eq_getElem hja];exact List.getElem_mem hja
      have hdr:av.drop j=av[j]?.getD 0 :: av.drop (j + 1):=by
        rw [List.drop_eq_getElem_cons hja,List.getElem?_eq_getElem hja];rfl
      rw [hdr,List.foldl_cons] at hT'
      refine (h s' (av[j]?.getD 0) _ _ (hin _ hx) (Nat.le_refl _) rfl).mono ?_
      rintro r H' ⟨rfl,rfl⟩
      simp [hL,hb,hc,tk]
      exact ⟨_,j + 1,⟨by omega,hT'⟩,by omega,rfl,by rw [wrap_id] <;> omega⟩
    · rw [List.drop_eq_nil_of_le hja] at hT'
      have e:s'=av.foldl f s:=hT'
      exact ⟨s',i + 1,⟨by omega,by rw [e];exact hT⟩,by omega,rfl,by rw [wrap_id] <;> omega⟩
  · rw [List.drop_eq_nil_of_le hil] at hT
    have:Hs s=Hs ((b.jumps_.flatMap (·.args_)).foldl f s1):=by rw [← hT];rfl
    rw [this]
    exact hq _
theorem usedOwn (s0:α) (hj:b.jumps_.length≤1000) (ha:∀ j∈b.jumps_,j.args_.length≤1000) (hL:∀ s,(Hs s).length=L) (hb:∀ s,placesBelow L (Hs s)) (hc:belowL L caps=true)
    (h:∀ s x n g,x∈usedL b→1≤n→g 0=D.int .i64 x→CallsD Try.prog fn (.d (.rp n g) :: caps) (Hs s) fun r H'=>r=.tup []∧H'=Hs (f s x)) :
    CallsD Try.prog 73 [.d (.rp 5 (dBlock b)),.clo fn caps] (Hs s0) fun r H'=>r=.tup []∧H'=Hs ((usedL b).foldl f s0):=by
  have tk:∀ s,List.take L (Hs s)=Hs s:=fun s=>List.take_of_length_le (by rw [hL];exact Nat.le_refl _)
  have fin:∀ T,Fin L (Hs T) (.tup []) (Hs T) (.tup []):=fun T=>Fin.drop (by simp) (by rw [hL];exact hb T) rfl (by rw [hL];exact Nat.le_refl _)
  by_cases e:b.end_=2
  · refine calls_of Try.func73 en_73 rfl (of_decide_eq_true rfl) (W_run mixed ⟨[],[],[],50,(Hs s0).length,[0,1,4,5,10,20,21,22,32,33,34],[10,22,34]⟩ (fun _=>[]) (by kernel_rfl) ?_)
    simp only [Try.f73,stripX,stripOps,pickOps]
    simp [e]
    rw [hL s0]
    refine used_loop s0 hj ha hL hb hc h rfl ?_ fun l'=>?_
    · simp [hL,hb,hc,tk]
    · simp [retQ]
      have eu:(usedL b).foldl f s0=(b.jumps_.flatMap (·.args_)).foldl f s0:=by simp [usedL,e]
      rw [eu];exact fin _
  · refine calls_of Try.func73 en_73 rfl (of_decide_eq_true rfl) (W_run mixed ⟨[],[],[],50,(Hs s0).length,[0,1,4,5,10,20,21,22,32,33,34],[10,22,34]⟩ (fun _=>[]) (by kernel_rfl) ?_)
    simp only [Try.f73,stripX,stripOps,pickOps]
    simp [e]
    refine (h s0 b.value_ _ _ (by simp [usedL,e]) (by decide) rfl).mono ?_
    rintro r H' ⟨rfl,rfl⟩
    rw [hL s0]
    simp []
    refine used_loop (f s0 b.value_) hj ha hL hb hc h rfl ?_ fun l'=>?_
    · simp [hL,hb,hc,tk]
    · simp [retQ]
      have eu:(usedL b).foldl f s0=(b.jumps_.flatMap (·.args_)).foldl f (f s0 b.value_):=by simp [usedL,e]
      rw [eu];exact fin _
end
end Go.Proofs.Ytnomiclfiijniaa
end

section
namespace Go.Proofs.Ytnomiclfiijniaa
set_option maxRecDepth 100000
set_option linter.unusedSimpArgs false
set_option linter.unusedVariables false
theorem upto_all (l:List Int):(upto l.length fun i=>[V.d (D.int IntKind.i64 (l[i]?.getD 0))])=rI l:=by
  have:=upto_take l (Nat.le_refl _)
  rwa [List.take_length] at this
def smallEnd (b:Block):Prop:=b.jumps_.length≤2∧∀ j∈b.jumps_,j.args_.length≤100
def endP (b:Block) (i:Nat):List Int:=(if b.end_=2 then [] else [b.value_])++(b.jumps_.take i).flatMap (·.args_)
theorem endP_succ {b:Block} {i:Nat} (h:i < b.jumps_.length):endP b (i + 1)=endP b i++(b.jumps_[i]?.getD default).args_:=by
  unfold endP
  rw [List.take_succ_eq_append_getElem h,List.flatMap_append,List.append_assoc,List.getElem?_eq_getElem h]
  simp
theorem endP_len {b:Block} (h:smallEnd b):∀ i,i≤b.jumps_.length→(endP b i).length≤1 + 100 * i
  | 0,_=>by unfold endP;split <;> simp
  | i + 1,hi=>by
    have:=endP_len h i (by omega)
    have q:=h.2 (b.jumps_[i]?.getD default) (by rw [List.getElem?_eq_getElem (by omega)];exact List.getElem_mem _)
    rw [endP_succ (by omega),List.length_append]
    omega
theorem l14End_loop (b : Block) (h : smallEnd b) {c : Code} (hcd : (loopsIn (Try.f103.body.getD .skip))[0]? = some c) {Q : Exit → St → Prop} {s : St} (σ : List Nat)
    (hs:IntoS 0 σ s [(3,accV 0 (endP b 0)),(15,.d (dJumpS b.jumps_)),(16,.d (.int .i64 b.jumps_.length)),(17,.d (.int .i64 0))] (accH (endP b 0)))
    (hq:∀ l',mk l' 3=accV 0 (usedL b)→Q (.exit 0) ⟨mk l',accH (usedL b)⟩):W Try.prog 27 0 c Q s:=by
  cases hcd
  refine W_loopS (α:=Nat × List Int) (fun a=>[(3,accV 0 a.2),(15,.d (dJumpS b.jumps_)),(16,.d (.int .i64 b.jumps_.length)),(17,.d (.int .i64 a.1))])
    (fun a=>accH a.2) (fun a=>a.1≤b.jumps_.length∧a.2=endP b a.1) (fun a=>b.jumps_.length - a.1) (0,endP b 0) σ hs ?_ ?_
  · simp
  rintro ⟨i,acc⟩ ⟨hi,ha⟩
  dsimp only at hi ha
  have hl:=endP_len h i hi
  rw [← ha] at hl
  have hj2:=h.1
  have wi:i < b.jumps_.length→IntKind.i64.wrap ((i:Int) + 1)=((i + 1:Nat):Int):=fun h=>by rw [wrap_id] <;> omega
  have step:i < b.jumps_.length→endP b (i + 1)=acc++(b.jumps_[i]?.getD default).args_:=fun q=>by rw [endP_succ q,← ha]
  have fin:b.jumps_.length≤i→usedL b=acc:=fun q=>by
    rw [ha];unfold endP usedL;rw [List.take_of_length_le q]
  have has:i < b.jumps_.length→(b.jumps_[i]?.getD default).args_.length≤100:=fun q=>h.2 _ (by rw [List.getElem?_eq_getElem q];exact List.getElem_mem _)
  have hu:=upto_all (b.jumps_[i]?.getD default).args_
  generalize hargs:(b.jumps_[i]?.getD default).args_=av at step has hu
  cases acc with
  | nil =>
    refine W_run mixed ⟨[],[],[],27,0,[0,1,2,3,5,8,15,16,17,18],[8,18]⟩ (fun _=>[]) (by kernel_rfl) ?_
    simp only [stripX,stripOps,pickOps]
    simp [hargs,hu]
    refine ⟨fun q=>⟨q,by have:=has q;omega,fun e=>?_,fun e=>?_⟩,fun q=>?_⟩
    · exact ⟨i + 1,[],⟨by omega,by rw [step q,e];rfl⟩,by omega,[],by simp,by simp,by simp,wi q⟩
    · obtain ⟨x,xs,rfl⟩:∃ x xs,av=x :: xs:=by
        cases av with
        | nil=>exact absurd rfl e
        | cons x xs=>exact ⟨x,xs,rfl⟩
      exact ⟨i + 1,x :: xs,⟨by omega,by rw [step q];rfl⟩,by omega,[1],by simp,by simp,by simp,wi q⟩
    · have e:=fin q
      have:=hq [(0,.d .undef),(1,.d .undef),(2,.d .undef),(3,.d .nilsl),(5,.d .undef),(8,.d .undef),(15,.d (dJumpS b.jumps_)),(16,.d (.int .i64 b.jumps_.length)),(17,.d (.int .i64 i)),(18,.d (.bool false))] (by rw [e];simp)
      rw [e] at this
      exact this
  | cons a acc =>
    simp only [List.length_cons] at hl
    refine W_run mixed ⟨[],[],[],27,0,[0,1,2,3,5,8,15,16,17,18],[8,18]⟩ (fun _=>[]) (by kernel_rfl) ?_
    simp only [stripX,stripOps,pickOps]
    simp [hargs,hu]
    refine ⟨fun q=>⟨q,by have:=has q;omega, ?_⟩,fun q=>?_⟩
    · exact ⟨i + 1,a :: (acc++av),⟨by omega,by rw [step q];rfl⟩,by omega,[2],by simp,by simp,by simp;omega,wi q⟩
    · have e:=fin q
      have:=hq [(0,.d .undef),(1,.d .undef),(2,.d .undef),(3,.sl 0 1 0 (acc.length + 1)),(5,.d .undef),(8,.d .undef),(15,.d (dJumpS b.jumps_)),(16,.d (.int .i64 b.jumps_.length)),(17,.d (.int .i64 i)),(18,.d (.bool false))] (by rw [e];simp)
      rw [e] at this
      exact this
theorem vle_acc0 (l:List Int):VLe (closeV (accH l) (accV 0 l)) (.d (dIntS l)):=by
  cases l with
  | nil=>exact rfl
  | cons a l =>
    show VLe (.d (closeD [.row 1 (rI (a :: l))] (3 + 1) (.sl 0 1 0 (l.length + 1)))) _
    simp only [closeD,List.getElem?_cons_zero]
    rw [if_pos (by simp)]
    simp only [Nat.zero_add]
    exact vle_row (a :: l) rfl rfl
theorem l14End_c (b:Block) (h:smallEnd b):PureP Try.prog 103 [vBlock b] (· = .d (dIntS (usedL b))):=by
  by_cases e:b.end_=2
  · have e0:endP b 0=[]:=by simp [endP,e]
    refine PureP.le (pure_of Try.func103 en_103 rfl rfl (W_run mixed ⟨[],[],[],27,0,[0,1,2,3,5,8,15,16,17,18],[8,18]⟩ (fun _=>[]) (by kernel_rfl) ?_))
    simp only [Try.f103,stripX,stripOps,pickOps]
    simp [e]
    refine l14End_loop b h rfl [] ?_ fun l' hl'=>?_
    · simp [e0]
    · simp [hl']
      exact vle_acc0 _
  · have e0:endP b 0=[b.value_]:=by simp [endP,e]
    refine PureP.le (pure_of Try.func103 en_103 rfl rfl (W_run mixed ⟨[],[],[],27,0,[0,1,2,3,5,8,15,16,17,18],[8,18]⟩ (fun _=>[]) (by kernel_rfl) ?_))
    simp only [Try.f103,stripX,stripOps,pickOps]
    simp [e]
    refine l14End_loop b h rfl [2] ?_ fun l' hl'=>?_
    · simp [e0]
    · simp [hl']
      exact vle_acc0 _
noncomputable def K_103:Ent Try.prog:=Ent.p1 (α:=Block) 103 (fun b=>smallEnd b) (fun b=>.d (dIntS (usedL b))) (fun b hc=>l14End_c b hc)
theorem K_103_f:K_103.f=103:=rfl
theorem K_103_e (b0:Int) (b1:List Inst) (b2:Int) (b3:Int) (b4:List Jump):K_103.e [.agg [.d (.int .i64 b0),.d (dInstS b1),.d (.int .i64 b2),.d (.int .i64 b3),.d (dJumpS b4)]]=some (smallEnd (Block.mk b0 b1 b2 b3 b4),.d (dIntS (usedL (Block.mk b0 b1 b2 b3 b4))),[]):=by unfold K_103;exact Ent.p1_eq (α:=Block) (Block.mk b0 b1 b2 b3 b4)
noncomputable def K_103h:EntH Try.prog:=EntH.pk1 (α:=Block) 103 (fun b=>smallEnd b) (fun b=>.d (dIntS (usedL b))) (fun b=>[]) (fun b hc=>PureP.ans (l14End_c b hc))
theorem K_103h_f:K_103h.f=103:=rfl
theorem K_103h_g:K_103h.gro=true:=rfl
theorem K_103h_e {x1:V} {H:Heap}:K_103h.e [x1] H=guardR ((decA (α:=Block) H x1).1) (peekR (smallEnd (decA (α:=Block) H x1).2) (.d (dIntS (usedL (decA (α:=Block) H x1).2))) ([]) H):=rfl
def faultI (th:Int→Int→Int→Bool) (fs:Int→Int) (k:Int):List Inst→Nat→Option (Int × Int × Int × Int)
  | [],_=>none
  | x :: xs,i=>if x.args_.all (fun n=>th n k i)=true then faultI th fs k xs (i + 1) else some (1,IntKind.i64.wrap (fs k + i),k,i)
def faultE (th:Int→Int→Int→Bool) (k a:Int):List Int→Option (Int × Int × Int × Int)
  | []=>none
  | v :: vs=>if th v k a=true then faultE th k a vs else some (2,v,k,a)
def faultB (th:Int→Int→Int→Bool) (fs:Int→Int) (k:Int) (b:Block):Option (Int × Int × Int × Int) :=
  match faultI th fs k b.insts_ 0 with
  | some p=>some p
  | none=>faultE th k b.insts_.length (usedL b)
def faultR (th:Int→Int→Int→Bool) (fs:Int→Int) (bs:List Block):List Int→Int × Int × Int × Int
  | []=>(0,0,0,0)
  | k :: ks=>match faultB th fs k (bs[k.toNat]?.getD default) with
    | some p=>p
    | none=>faultR th fs bs ks
def fsS (F:Func) (k:Int):Int:=IntKind.i64.wrap (cntB (F.blocks_.take k.toNat) F.params_ + (F.blocks_[k.toNat]?.getD default).params_)
noncomputable def checkS (F:Func):Int × Int × Int × Int:=faultR (thereS F (allS F)) (fsS F) F.blocks_ (allR F)
theorem l14Check_c (F : Func) (hF : Enc.good F) (hf : okFlow F) (hs : ∀ b ∈ F.blocks_, smallEnd b) : PureP Try.prog 67 [vFunc F] (· = .tup [.d (.int .i64 (checkS F).1), .d (.int .i64 (checkS F).2.1)]) := by
  have hf':=hf
  obtain ⟨hv,hn,hp⟩:=hf
  obtain ⟨a1,a2⟩:=allS_ok hf'
  have hR:fromL F 0 (-1)=allR F:=rfl
  have hr8:(allR F).length≤8:=fromL_len hn _ _
  have hrm:∀ x∈allR F,0≤x∧x < F.blocks_.length:=fun x hx=>by
    obtain ⟨q0,q1,_⟩:=listB_rchB.1 hx
    exact ⟨q0,by simpa [nextL] using q1⟩
  have hgb:=hF.2
  refine pure_of Try.func67 en_67 rfl rfl (W_run mixed ⟨[K_81,K_79,K_80,K_48,K_103],[K_81h,K_79h,K_80h,K_48h,K_103h],[],79,0,[0,1,2,3,4,6,7,8,9,11,13,17,18,19,20,29,30,31,32,37,38,39,40,49,61,62,63,64,75],[20,32,40,49,64,75]⟩ (fun | 13=>[1,3,6,0,2,8,4,5,7,9] | _=>[]) (by kernel_rfl) ?_)
  simp only [Try.f67,stripX,stripOps,pickOps]
  simp [K_81_f,K_81_e,K_79_f,K_79_e,K_80_f,K_80_e,K_48_f,K_48_e,K_103_f,K_103_e,K_81h_f,K_81h_e,K_79h_f,K_79h_e,K_80h_f,K_80h_e,K_48h_f,K_48h_e,K_103h_f,K_103h_e,K_81h_g,K_79h_g,K_80h_g,K_48h_g,K_103h_g,hF,hv,hn,hp]
  rw [hR]
  refine ⟨hf', ?_⟩
  refine W_loopA (fun i:Nat=>[(1,.ptr 0 2 0 0),(4,.d (dIntSS (allS F))),(17,.d (dIntS (allR F))),(18,.d (.int .i64 (allR F).length)),(19,.d (.int .i64 i))])
    (fun _=>[.row 2 [[.d (.int .i64 F.params_),.d (dBlockS F.blocks_)]]]) (fun i=>i≤(allR F).length∧faultR (thereS F (allS F)) (fsS F) F.blocks_ ((allR F).drop i)=checkS F) (fun i=>(allR F).length - i) 0 ?_ ?_ ?_
  · simp
  · exact ⟨Nat.zero_le _,rfl⟩
  rintro i ⟨hi,hT⟩
  refine W_run mixed ⟨[K_81,K_79,K_80,K_48,K_103],[K_81h,K_79h,K_80h,K_48h,K_103h],[],79,0,[0,1,2,3,4,6,7,8,9,11,13,17,18,19,20,29,30,31,32,37,38,39,40,49,61,62,63,64,75],[20,32,40,49,64,75]⟩ (fun | 13=>[1,3,6,0,2,8,4,5,7,9] | _=>[]) (by kernel_rfl) ?_
  simp only [stripX,stripOps,pickOps]
  simp [K_81_f,K_81_e,K_79_f,K_79_e,K_80_f,K_80_e,K_48_f,K_48_e,K_103_f,K_103_e,K_81h_f,K_81h_e,K_79h_f,K_79h_e,K_80h_f,K_80h_e,K_48h_f,K_48h_e,K_103h_f,K_103h_e,K_81h_g,K_79h_g,K_80h_g,K_48h_g,K_103h_g,hF,hv,hn,hp]
  refine ⟨fun hil=>⟨hil, ?_⟩,fun hil=>?_⟩
  · have hk:(allR F)[i]?.getD 0∈allR F:=by rw [List.getElem?_eq_getElem hil];exact List.getElem_mem hil
    have hdr:(allR F).drop i=(allR F)[i]?.getD 0 :: (allR F).drop (i + 1):=by
      rw [List.drop_eq_getElem_cons hil,List.getElem?_eq_getElem hil];rfl
    rw [hdr] at hT
    obtain ⟨k0,k1⟩:=hrm _ hk
    generalize (allR F)[i]?.getD 0=k at k0 k1 hk hT
    have hbm:F.blocks_[k.toNat]?.getD default∈F.blocks_:=by rw [List.getElem?_eq_getElem (by omega)];exact List.getElem_mem _
    have hsm:=hs _ hbm
    have hfs:fsS F k=IntKind.i64.wrap (cntB (F.blocks_.take k.toNat) F.params_ + (F.blocks_[k.toNat]?.getD default).params_):=rfl
    simp only [faultR] at hT
    refine ⟨⟨k0,k1⟩, ?_⟩
    have hIl:=good_len (good_get hgb k.toNat).2.1
    generalize hb:F.blocks_[k.toNat]?.getD default=b at hT hsm hfs hIl
    refine W_loopA (fun j:Nat=>[(1,.ptr 0 2 0 0),(4,.d (dIntSS (allS F))),(17,.d (dIntS (allR F))),(18,.d (.int .i64 (allR F).length)),(19,.d (.int .i64 i)),(6,.d (.int .i64 k)),(7,.ptr 1 5 0 0),(29,.d (dInstS b.insts_)),(30,.d (.int .i64 b.insts_.length)),(31,.d (.int .i64 j))])
      (fun _=>[.row 2 [[.d (.int .i64 F.params_),.d (dBlockS F.blocks_)]],.row 5 [[.d (.int .i64 b.params_),.d (dInstS b.insts_),.d (.int .i64 b.end_),.d (.int .i64 b.value_),.d (dJumpS b.jumps_)]]])
      (fun j=>j≤b.insts_.length∧faultI (thereS F (allS F)) (fsS F) k (b.insts_.drop j) j=faultI (thereS F (allS F)) (fsS F) k b.insts_ 0) (fun j=>b.insts_.length - j) 0 ?_ ?_ ?_
    · simp
    · simp
    rintro j ⟨hj,hTj⟩
    refine W_run mixed ⟨[K_81,K_79,K_80,K_48,K_103],[K_81h,K_79h,K_80h,K_48h,K_103h],[],79,0,[0,1,2,3,4,6,7,8,9,11,13,17,18,19,20,29,30,31,32,37,38,39,40,49,61,62,63,64,75],[20,32,40,49,64,75]⟩ (fun | 13=>[1,3,6,0,2,8,4,5,7,9] | _=>[]) (by kernel_rfl) ?_
    simp only [stripX,stripOps,pickOps]
    simp [K_81_f,K_81_e,K_79_f,K_79_e,K_80_f,K_80_e,K_48_f,K_48_e,K_103_f,K_103_e,K_81h_f,K_81h_e,K_79h_f,K_79h_e,K_80h_f,K_80h_e,K_48h_f,K_48h_e,K_103h_f,K_103h_e,K_81h_g,K_79h_g,K_80h_g,K_48h_g,K_103h_g,hF,hv,hn,hp]
    have wj:j < b.insts_.length→IntKind.i64.wrap ((j:Int) + 1)=((j + 1:Nat):Int):=fun q=>by rw [wrap_id] <;> omega
    have wi:IntKind.i64.wrap ((i:Int) + 1)=((i + 1:Nat):Int):=by rw [wrap_id] <;> omega
    have hit:∀ p,faultB (thereS F (allS F)) (fsS F) k b=some p→checkS F=p:=fun p q=>by rw [q] at hT;exact hT.symm
    have miss:faultB (thereS F (allS F)) (fsS F) k b=none→faultR (thereS F (allS F)) (fsS F) F.blocks_ ((allR F).drop (i + 1))=checkS F:=fun q=>by rw [q] at hT;exact hT
    refine ⟨fun hjl=>⟨hjl, ?_⟩,fun hjl=>⟨hsm, ?_⟩⟩
    · rw [drop_cons hjl] at hTj
      simp only [faultI] at hTj
      have hal:=good_len (good_get (good_get hgb k.toNat).2.1 j).2.2
      rw [hb] at hal
      generalize (b.insts_[j]?.getD default).args_=av at hTj hal
      refine W_loopA (fun m:Nat=>[(1,.ptr 0 2 0 0),(4,.d (dIntSS (allS F))),(17,.d (dIntS (allR F))),(18,.d (.int .i64 (allR F).length)),(19,.d (.int .i64 i)),(6,.d (.int .i64 k)),(7,.ptr 1 5 0 0),(29,.d (dInstS b.insts_)),(30,.d (.int .i64 b.insts_.length)),(31,.d (.int .i64 j)),(8,.d (.int .i64 j)),(37,.d (dIntS av)),(38,.d (.int .i64 av.length)),(39,.d (.int .i64 m))])
        (fun _=>[.row 2 [[.d (.int .i64 F.params_),.d (dBlockS F.blocks_)]],.row 5 [[.d (.int .i64 b.params_),.d (dInstS b.insts_),.d (.int .i64 b.end_),.d (.int .i64 b.value_),.d (dJumpS b.jumps_)]]])
        (fun m=>m≤av.length∧(av.take m).all (fun n=>thereS F (allS F) n k j)=true) (fun m=>av.length - m) 0 ?_ ?_ ?_
      · simp
      · simp
      rintro m ⟨hm,hall⟩
      have kt:k.toNat≤F.blocks_.length:=by omega
      refine W_run mixed ⟨[K_81,K_79,K_80,K_48,K_103],[K_81h,K_79h,K_80h,K_48h,K_103h],[],79,0,[0,1,2,3,4,6,7,8,9,11,13,17,18,19,20,29,30,31,32,37,38,39,40,49,61,62,63,64,75],[20,32,40,49,64,75]⟩ (fun | 13=>[1,3,6,0,2,8,4,5,7,9] | _=>[]) (by kernel_rfl) ?_
      simp only [stripX,stripOps,pickOps]
      simp [K_81_f,K_81_e,K_79_f,K_79_e,K_80_f,K_80_e,K_48_f,K_48_e,K_103_f,K_103_e,K_81h_f,K_81h_e,K_79h_f,K_79h_e,K_80h_f,K_80h_e,K_48h_f,K_48h_e,K_103h_f,K_103h_e,K_81h_g,K_79h_g,K_80h_g,K_48h_g,K_103h_g,hF,hv,hn,hp,k0,kt,a1]
      refine ⟨fun q=>⟨q,⟨k1,a2⟩,fun e=>?_,fun e=>⟨m + 1,⟨by omega,fun x hx=>?_⟩,by omega,by rw [wrap_id] <;> omega⟩⟩,fun q=>?_⟩
      · have hno:¬ av.all (fun n=>thereS F (allS F) n k j)=true:=fun h=>by
          have:=List.all_eq_true.1 h (av[m]?.getD 0) (by rw [List.getElem?_eq_getElem q];exact List.getElem_mem q)
          rw [e] at this;cases this
        rw [if_neg hno] at hTj
        have:=hit (1,IntKind.i64.wrap (fsS F k + j),k,j) (by unfold faultB;rw [← hTj])
        rw [this,hfs]
        exact ⟨rfl,rfl⟩
      · rw [List.take_succ_eq_append_getElem q] at hx
        rcases List.mem_append.1 hx with z | z
        · exact List.all_eq_true.1 hall x z
        · have ex:x=av[m]?.getD 0:=by rw [List.getElem?_eq_getElem q];simpa using z
          rw [ex];exact e
      · rw [List.take_of_length_le q] at hall
        rw [if_pos hall] at hTj
        exact ⟨j + 1,⟨by omega,hTj⟩,by omega,wj hjl⟩
    · have hTE:faultI (thereS F (allS F)) (fsS F) k b.insts_ 0=none:=by rw [← hTj,List.drop_eq_nil_of_le hjl];rfl
      have hfb:faultB (thereS F (allS F)) (fsS F) k b=faultE (thereS F (allS F)) k b.insts_.length (usedL b):=by unfold faultB;rw [hTE]
      have hul:(usedL b).length≤1000:=by
        have:=endP_len hsm b.jumps_.length (Nat.le_refl _)
        have e:endP b b.jumps_.length=usedL b:=by unfold endP usedL;rw [List.take_length]
        rw [e] at this
        have:=hsm.1
        omega
      rw [hfb] at hit miss
      generalize usedL b=ul at hit miss hul
      refine W_loopA (fun m:Nat=>[(1,.ptr 0 2 0 0),(4,.d (dIntSS (allS F))),(17,.d (dIntS (allR F))),(18,.d (.int .i64 (allR F).length)),(19,.d (.int .i64 i)),(6,.d (.int .i64 k)),(7,.ptr 1 5 0 0),(61,.d (dIntS ul)),(62,.d (.int .i64 ul.length)),(63,.d (.int .i64 m))])
        (fun _=>[.row 2 [[.d (.int .i64 F.params_),.d (dBlockS F.blocks_)]],.row 5 [[.d (.int .i64 b.params_),.d (dInstS b.insts_),.d (.int .i64 b.end_),.d (.int .i64 b.value_),.d (dJumpS b.jumps_)]]])
        (fun m=>m≤ul.length∧faultE (thereS F (allS F)) k b.insts_.length (ul.drop m)=faultE (thereS F (allS F)) k b.insts_.length ul) (fun m=>ul.length - m) 0 ?_ ?_ ?_
      · simp
      · simp
      rintro m ⟨hm,hE⟩
      refine W_run mixed ⟨[K_81,K_79,K_80,K_48,K_103],[K_81h,K_79h,K_80h,K_48h,K_103h],[],79,0,[0,1,2,3,4,6,7,8,9,11,13,17,18,19,20,29,30,31,32,37,38,39,40,49,61,62,63,64,75],[20,32,40,49,64,75]⟩ (fun | 13=>[1,3,6,0,2,8,4,5,7,9] | _=>[]) (by kernel_rfl) ?_
      simp only [stripX,stripOps,pickOps]
      simp [K_81_f,K_81_e,K_79_f,K_79_e,K_80_f,K_80_e,K_48_f,K_48_e,K_103_f,K_103_e,K_81h_f,K_81h_e,K_79h_f,K_79h_e,K_80h_f,K_80h_e,K_48h_f,K_48h_e,K_103h_f,K_103h_e,K_81h_g,K_79h_g,K_80h_g,K_48h_g,K_103h_g,hF,hv,hn,hp,k0,a1]
      refine ⟨fun q=>?_,fun q=>?_⟩
      · have hdm:ul.drop m=ul[m]?.getD 0 :: ul.drop (m + 1):=by rw [List.drop_eq_getElem_cons q,List.getElem?_eq_getElem q];rfl
        rw [hdm] at hE
        simp only [faultE] at hE
        refine ⟨q,⟨k1,a2⟩,fun e=>?_,fun e=>⟨m + 1,⟨by omega, ?_⟩,by omega,by rw [wrap_id] <;> omega⟩⟩
        · rw [if_neg (by rw [e];decide)] at hE
          rw [hit _ hE.symm]
          exact ⟨rfl,rfl⟩
        · rw [if_pos e] at hE;exact hE
      · rw [List.drop_eq_nil_of_le q] at hE
        exact ⟨i + 1,⟨by omega,miss hE.symm⟩,by omega,wi⟩
  · rw [List.drop_eq_nil_of_le hil] at hT
    rw [← hT];exact ⟨rfl,rfl⟩
noncomputable def K_67:Ent Try.prog:=Ent.p1 (α:=Func) 67 (fun F=>Enc.good F∧okFlow F∧∀ b∈F.blocks_,smallEnd b) (fun F=>.tup [.d (.int .i64 (checkS F).1),.d (.int .i64 (checkS F).2.1)]) (fun F hc=>l14Check_c F hc.1 hc.2.1 hc.2.2)
theorem K_67_f:K_67.f=67:=rfl
theorem K_67_e (F0:Int) (F1:List Block):K_67.e [.agg [.d (.int .i64 F0),.d (dBlockS F1)]]=some (Enc.good (Func.mk F0 F1)∧okFlow (Func.mk F0 F1)∧∀ b∈(Func.mk F0 F1).blocks_,smallEnd b,.tup [.d (.int .i64 (checkS (Func.mk F0 F1)).1),.d (.int .i64 (checkS (Func.mk F0 F1)).2.1)],[]):=by unfold K_67;exact Ent.p1_eq (α:=Func) (Func.mk F0 F1)
noncomputable def K_67h:EntH Try.prog:=EntH.pk1 (α:=Func) 67 (fun F=>Enc.good F∧okFlow F∧∀ b∈F.blocks_,smallEnd b) (fun F=>.tup [.d (.int .i64 (checkS F).1),.d (.int .i64 (checkS F).2.1)]) (fun F=>[]) (fun F hc=>PureP.ans (l14Check_c F hc.1 hc.2.1 hc.2.2))
theorem K_67h_f:K_67h.f=67:=rfl
theorem K_67h_g:K_67h.gro=true:=rfl
theorem K_67h_e {x1:V} {H:Heap}:K_67h.e [x1] H=guardR ((decA (α:=Func) H x1).1) (peekR (Enc.good (decA (α:=Func) H x1).2∧okFlow (decA (α:=Func) H x1).2∧∀ b∈(decA (α:=Func) H x1).2.blocks_,smallEnd b) (.tup [.d (.int .i64 (checkS (decA (α:=Func) H x1).2).1),.d (.int .i64 (checkS (decA (α:=Func) H x1).2).2.1)]) ([]) H):=rfl
noncomputable def checkR (F:Func):V:=if goodF F=true then .tup [.d (.int .i64 (checkS F).1),.d (.int .i64 (checkS F).2.1),.d (.bool true)] else .tup [.d (.int .i64 0),.d (.int .i64 0),.d (.bool false)]
theorem good_end {F : Func} (h : goodF F = true) : ∀ b ∈ F.blocks_, smallEnd b := by
  obtain ⟨_,hl,hh,_,_,_,hb⟩:=goodF_spec h
  intro b hbm
  refine ⟨(good_flow h).1.2 b hbm,fun j hj=>?_⟩
  have h1:=List.all_eq_true.1 hb b hbm
  simp only [bodyOk,Bool.and_eq_true] at h1
  have h2:=h1.2
  have js:jumpsOk F.blocks_ (many F) b.jumps_=true→j.args_.length≤100:=fun q=>by
    have q2:=List.all_eq_true.1 q j hj
    simp only [jumpOk,Bool.and_eq_true,decide_eq_true_eq] at q2
    have hto:=inR_index (by omega) q2.1
    have hp:=headOk_sz (List.all_eq_true.1 hh (F.blocks_[j.to_.toNat]?.getD default) (by rw [List.getElem?_eq_getElem (by omega)];exact List.getElem_mem _))
    omega
  unfold endsOk at h2
  split at h2
  · simp only [Bool.and_eq_true] at h2
    exact js h2.2.2
  · split at h2
    · simp only [Bool.and_eq_true] at h2
      exact js h2.2.2
    · split at h2
      · simp only [Bool.and_eq_true] at h2
        exact js h2.2.2
      · cases h2
theorem checkS_c (F:Func) (hF:Enc.good F):PureP Try.prog 29 [vFunc F] (· = checkR F):=by
  cases hg:goodF F with
  | false =>
    refine pure_of Try.func29 en_29 rfl rfl (W_run mixed ⟨[K_23,K_67],[K_23h,K_67h],[],17,0,[0,1,2,3,4,5,6,9],[9]⟩ (fun _=>[]) (by kernel_rfl) ?_)
    simp only [Try.f29,stripX,stripOps,pickOps]
    simp [K_23_f,K_23_e,K_67_f,K_67_e,K_23h_f,K_23h_e,K_67h_f,K_67h_e,K_23h_g,K_67h_g,hF,hg]
    simp [checkR,hg]
  | true =>
    have hf:=good_flow hg
    have he:=good_end hg
    refine pure_of Try.func29 en_29 rfl rfl (W_run mixed ⟨[K_23,K_67],[K_23h,K_67h],[],17,0,[0,1,2,3,4,5,6,9],[9]⟩ (fun _=>[]) (by kernel_rfl) ?_)
    simp only [Try.f29,stripX,stripOps,pickOps]
    simp [K_23_f,K_23_e,K_67_f,K_67_e,K_23h_f,K_23h_e,K_67h_f,K_67h_e,K_23h_g,K_67h_g,hF,hg,hf,he]
    exact ⟨he,by simp [checkR,hg]⟩
noncomputable def K_29:Ent Try.prog:=Ent.p1 (α:=Func) 29 (fun F=>Enc.good F) (fun F=>checkR F) (fun F hc=>checkS_c F hc)
theorem K_29_f:K_29.f=29:=rfl
theorem K_29_e (F0:Int) (F1:List Block):K_29.e [.agg [.d (.int .i64 F0),.d (dBlockS F1)]]=some (Enc.good (Func.mk F0 F1),checkR (Func.mk F0 F1),[]):=by unfold K_29;exact Ent.p1_eq (α:=Func) (Func.mk F0 F1)
noncomputable def K_29h:EntH Try.prog:=EntH.pk1 (α:=Func) 29 (fun F=>Enc.good F) (fun F=>checkR F) (fun F=>[]) (fun F hc=>PureP.ans (checkS_c F hc))
theorem K_29h_f:K_29h.f=29:=rfl
theorem K_29h_g:K_29h.gro=true:=rfl
theorem K_29h_e {x1:V} {H:Heap}:K_29h.e [x1] H=guardR ((decA (α:=Func) H x1).1) (peekR (Enc.good (decA (α:=Func) H x1).2) (checkR (decA (α:=Func) H x1).2) ([]) H):=rfl
end Go.Proofs.Ytnomiclfiijniaa
end
