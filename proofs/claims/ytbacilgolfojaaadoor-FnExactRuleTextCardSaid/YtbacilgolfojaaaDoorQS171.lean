/- Numbers as text: the reference's l1Long and NumText. No condition. -/
import Derived.Shelf.Strconv.Itoa4
import Derived.Shelf.Lay
import Derived.Ground.NamesProg
import Derived.Test.YtbacilgolfojaaaDoorQCpy
import Derived.Test.YtbacilgolfojaaaDoorQE9
section
namespace Go.Proofs.YtbacilgolfojaaaDoor
set_option linter.unusedVariables false
set_option linter.unusedSimpArgs false
set_option maxRecDepth 100000
end Go.Proofs.YtbacilgolfojaaaDoor
end

section
namespace Go.Proofs.YtbacilgolfojaaaDoor
set_option maxRecDepth 100000
set_option linter.unusedSimpArgs false
set_option linter.unusedVariables false
def inR (n lo hi:Int):Bool:=decide (lo≤n∧n≤hi)
theorem inR_t {n lo hi:Int}:inR n lo hi=true ↔ lo≤n∧n≤hi:=by simp [inR]
theorem inR_f {n lo hi:Int}:inR n lo hi=false ↔ ¬ (lo≤n∧n≤hi):=by simp [inR]
theorem l1In_c (n lo hi:Int):PureP Tryd.prog 23 [.d (.int .i64 n),.d (.int .i64 lo),.d (.int .i64 hi)] (· = .d (.bool (inR n lo hi))):=by
  refine pure_of Tryd.func23 en_23 rfl rfl (W_run mixed ⟨[],[],[],15,0,[0,1,2,6],[10]⟩ (fun _=>[]) (by kernel_rfl) ?_)
  simp only [Tryd.f23,stripX,stripOps,pickOps]
  simp []
  refine ⟨fun h=>?_,fun h=>?_⟩ <;> simp [inR] <;> omega
theorem within_c (n lo hi:Int):PureP Tryd.prog 35 [.d (.int .i64 n),.d (.int .i64 lo),.d (.int .i64 hi)] (· = .d (.bool (inR n lo hi))):=by
  refine pure_of Tryd.func35 en_35 rfl rfl (W_run mixed ⟨[],[],[],15,0,[0,1,2,6],[10]⟩ (fun _=>[]) (by kernel_rfl) ?_)
  simp only [Tryd.f35,stripX,stripOps,pickOps]
  simp []
  refine ⟨fun h=>?_,fun h=>?_⟩ <;> simp [inR] <;> omega
noncomputable def K_23:Ent Tryd.prog:=Ent.p3 (α:=Int) (β:=Int) (γ:=Int) 23 (fun a b c=>True) (fun a b c=>.d (.bool (inR a b c))) (fun a b c hc=>l1In_c a b c)
theorem K_23_f:K_23.f=23:=rfl
theorem K_23_e (a:Int) (b:Int) (c:Int):K_23.e [.d (.int .i64 a),.d (.int .i64 b),.d (.int .i64 c)]=some (True,.d (.bool (inR a b c)),[]):=by unfold K_23;exact Ent.p3_eq (α:=Int) (β:=Int) (γ:=Int) a b c
noncomputable def K_23h:EntH Tryd.prog:=EntH.pk3 (α:=Int) (β:=Int) (γ:=Int) 23 (fun a b c=>True) (fun a b c=>.d (.bool (inR a b c))) (fun a b c=>[]) (fun a b c hc=>PureP.ans (l1In_c a b c))
theorem K_23h_f:K_23h.f=23:=rfl
theorem K_23h_g:K_23h.gro=true:=rfl
theorem K_23h_e {x1 x2 x3:V} {H:Heap}:K_23h.e [x1,x2,x3] H=guardR ((decA (α:=Int) H x1).1∧(decA (α:=Int) H x2).1∧(decA (α:=Int) H x3).1) (peekR (True) (.d (.bool (inR (decA (α:=Int) H x1).2 (decA (α:=Int) H x2).2 (decA (α:=Int) H x3).2))) ([]) H):=rfl
noncomputable def K_35:Ent Tryd.prog:=Ent.p3 (α:=Int) (β:=Int) (γ:=Int) 35 (fun a b c=>True) (fun a b c=>.d (.bool (inR a b c))) (fun a b c hc=>within_c a b c)
theorem K_35_f:K_35.f=35:=rfl
theorem K_35_e (a:Int) (b:Int) (c:Int):K_35.e [.d (.int .i64 a),.d (.int .i64 b),.d (.int .i64 c)]=some (True,.d (.bool (inR a b c)),[]):=by unfold K_35;exact Ent.p3_eq (α:=Int) (β:=Int) (γ:=Int) a b c
noncomputable def K_35h:EntH Tryd.prog:=EntH.pk3 (α:=Int) (β:=Int) (γ:=Int) 35 (fun a b c=>True) (fun a b c=>.d (.bool (inR a b c))) (fun a b c=>[]) (fun a b c hc=>PureP.ans (within_c a b c))
theorem K_35h_f:K_35h.f=35:=rfl
theorem K_35h_g:K_35h.gro=true:=rfl
theorem K_35h_e {x1 x2 x3:V} {H:Heap}:K_35h.e [x1,x2,x3] H=guardR ((decA (α:=Int) H x1).1∧(decA (α:=Int) H x2).1∧(decA (α:=Int) H x3).1) (peekR (True) (.d (.bool (inR (decA (α:=Int) H x1).2 (decA (α:=Int) H x2).2 (decA (α:=Int) H x3).2))) ([]) H):=rfl
def arity1 (op:Int):Int:=if op=1∨op=2 then 0 else if op=3 then 1 else if op=11 then 3 else if inR op 4 10 then 2 else -1
theorem l1Arity_c (op:Int):PureP Tryd.prog 24 [.d (.int .i64 op)] (· = .d (.int .i64 (arity1 op))):=by
  refine pure_of Tryd.func24 en_24 rfl rfl (W_run mixed ⟨[K_23],[K_23h],[],19,0,[0,2,3,10,13,16],[3,6,10,13,16]⟩ (fun _=>[]) (by kernel_rfl) ?_)
  simp only [Tryd.f24,stripX,stripOps,pickOps]
  simp [K_23_f,K_23_e,K_23h_f,K_23h_e,K_23h_g]
  repeat' first | apply And.intro | intro _
  all_goals simp [arity1, *]
noncomputable def K_24:Ent Tryd.prog:=Ent.p1 (α:=Int) 24 (fun a=>True) (fun a=>.d (.int .i64 (arity1 a))) (fun a hc=>l1Arity_c a)
theorem K_24_f:K_24.f=24:=rfl
theorem K_24_e (a:Int):K_24.e [.d (.int .i64 a)]=some (True,.d (.int .i64 (arity1 a)),[]):=by unfold K_24;exact Ent.p1_eq (α:=Int) a
noncomputable def K_24h:EntH Tryd.prog:=EntH.pk1 (α:=Int) 24 (fun a=>True) (fun a=>.d (.int .i64 (arity1 a))) (fun a=>[]) (fun a hc=>PureP.ans (l1Arity_c a))
theorem K_24h_f:K_24h.f=24:=rfl
theorem K_24h_g:K_24h.gro=true:=rfl
theorem K_24h_e {x1:V} {H:Heap}:K_24h.e [x1] H=guardR ((decA (α:=Int) H x1).1) (peekR (True) (.d (.int .i64 (arity1 (decA (α:=Int) H x1).2))) ([]) H):=rfl
end Go.Proofs.YtbacilgolfojaaaDoor
end

section
namespace Go.Proofs
open Go.Shelf
shelf_lay LaysM.n173 Nm 173 at Tryd as Tryd.lays173
end Go.Proofs
namespace Go.Proofs.YtbacilgolfojaaaDoor
set_option maxRecDepth 100000
set_option linter.unusedSimpArgs false
set_option linter.unusedVariables false
def numB (n:Int):ByteArray:=⟨(Lib.itoa n).toArray⟩
theorem Lo.tab10 {X : Nat → Prop} {w : World} {φ : List (Nat × Nat)} {H : Heap} (h : Lo X w φ H) : Lib.TabIs Tryd.prog w "internal/strconv.uint64pow10" .u64 Lib.pow10Tab := by
  obtain ⟨_,t,fr,h⟩:=h.tab 0 _ rfl
  unfold Lib.TabIs World.var?
  rw [show Tryd.prog.globalNamed "internal/strconv.uint64pow10" = some 0 by kernel_rfl]
  simp only [Option.bind_some,h]
theorem formatInt_c (n:Int) (hn:Enc.good n):PureP Tryd.prog 39 [.d (.int .i64 n),.d (.int .i64 10)] (· = .d (.str (numB n))):=by
  refine ⟨by kernel_rfl,fun X w φ args hX hs hv=>?_⟩
  have hφ:φ=[]:=List.length_eq_zero_iff.1 hs.len
  subst hφ
  have ha:args=#[.int .i64 n,.int .i64 10]:=by
    apply Array.ext'
    obtain ⟨v,vs,e1,h1,v2,vs2,e2,h2,h3⟩:=hv
    have h1:v=.int .i64 n:=h1
    have h2:v2=.int .i64 10:=h2
    have h3:vs2=[]:=h3
    rw [e1,e2,h1,h2,h3]
  subst ha
  refine (Any.strconv_FormatInt_10 Tryd.lays173 n hn.1 hn.2 w hX.tab10).mono ?_
  rintro e w' ⟨rfl,k,os,rfl⟩
  have hh:∀ g,g < w.heap.size→(Go.Sort.grow (w.drewN k) os).heap[g]? = w.heap[g]?:=fun g hg=>by
    show (w.heap++os)[g]? = _
    rw [Array.getElem?_append_left hg]
  refine ⟨_,.d (.str (numB n)),[],[],rfl,⟨rfl,rfl⟩,HS.nil _ _,by simp [VS,DS,numB],⟨rfl,rfl,rfl, ?_,fun g hg _=>hh g hg,fun g cs t fr hg=>?_⟩,fun id hid=>absurd hid (by simp),Nat.le_refl _, ?_⟩
  · show w.heap.size≤(w.heap++os).size
    simp
  · exact ⟨cs,fr,by rw [hh g (Array.getElem?_eq_some_iff.1 hg).1];exact hg,rfl⟩
  · rintro g hg ⟨id,e,es,o,h1,_⟩
    simp at h1
noncomputable def K_39:Ent Tryd.prog:=Ent.p2 (α:=Int) (β:=Int) 39 (fun n b=>Enc.good n∧b=10) (fun n b=>.d (.str (numB n))) (fun n b hc=>hc.2 ▸ formatInt_c n hc.1)
theorem K_39_f:K_39.f=39:=rfl
theorem K_39_e (n:Int) (b:Int):K_39.e [.d (.int .i64 n),.d (.int .i64 b)]=some (Enc.good n∧b=10,.d (.str (numB n)),[]):=by unfold K_39;exact Ent.p2_eq (α:=Int) (β:=Int) n b
noncomputable def K_39h:EntH Tryd.prog:=EntH.pk2 (α:=Int) (β:=Int) 39 (fun n b=>Enc.good n∧b=10) (fun n b=>.d (.str (numB n))) (fun n b=>[]) (fun n b hc=>PureP.ans (hc.2 ▸ formatInt_c n hc.1))
theorem K_39h_f:K_39h.f=39:=rfl
theorem K_39h_g:K_39h.gro=true:=rfl
theorem K_39h_e {x1 x2:V} {H:Heap}:K_39h.e [x1,x2] H=guardR ((decA (α:=Int) H x1).1∧(decA (α:=Int) H x2).1) (peekR (Enc.good (decA (α:=Int) H x1).2∧(decA (α:=Int) H x2).2=10) (.d (.str (numB (decA (α:=Int) H x1).2))) ([]) H):=rfl
theorem numTextI_c (n:Int) (hn:Enc.good n):PureP Tryd.prog 29 [.d (.int .i64 n)] (· = .d (.str (numB n))):=by
  refine pure_of Tryd.func29 en_29 rfl rfl (W_run mixed ⟨[K_39],[K_39h],[],5,0,[0,2],[]⟩ (fun _=>[]) (by kernel_rfl) ?_)
  simp only [Tryd.f29,stripX,stripOps,pickOps]
  simp [K_39_f,K_39_e,K_39h_f,K_39h_e,K_39h_g,hn]
noncomputable def K_29:Ent Tryd.prog:=Ent.p1 (α:=Int) 29 (fun n=>Enc.good n) (fun n=>.d (.str (numB n))) (fun n hc=>numTextI_c n hc)
theorem K_29_f:K_29.f=29:=rfl
theorem K_29_e (n:Int):K_29.e [.d (.int .i64 n)]=some (Enc.good n,.d (.str (numB n)),[]):=by unfold K_29;exact Ent.p1_eq (α:=Int) n
noncomputable def K_29h:EntH Tryd.prog:=EntH.pk1 (α:=Int) 29 (fun n=>Enc.good n) (fun n=>.d (.str (numB n))) (fun n=>[]) (fun n hc=>PureP.ans (numTextI_c n hc))
theorem K_29h_f:K_29h.f=29:=rfl
theorem K_29h_g:K_29h.gro=true:=rfl
theorem K_29h_e {x1:V} {H:Heap}:K_29h.e [x1] H=guardR ((decA (α:=Int) H x1).1) (peekR (Enc.good (decA (α:=Int) H x1).2) (.d (.str (numB (decA (α:=Int) H x1).2))) ([]) H):=rfl
end Go.Proofs.YtbacilgolfojaaaDoor
end

section
namespace Go.Proofs.YtbacilgolfojaaaDoor
set_option maxRecDepth 100000
set_option linter.unusedSimpArgs false
set_option linter.unusedVariables false
def decB (n:Nat):ByteArray:=⟨(Lib.decDigits n).toArray⟩
theorem decB_small {n:Nat} (h:n < 10):decB n=⟨#[UInt8.ofNat (48 + n)]⟩:=by
  unfold decB
  rw [Lib.decDigits,dif_pos h]
theorem bytes_app (l r:List UInt8):(⟨l.toArray⟩:ByteArray)++⟨r.toArray⟩=⟨(l++r).toArray⟩:=by
  apply ByteArray.ext
  rw [ByteArray.data_append]
  simp
theorem decB_big {n:Nat} (h:¬ n < 10):decB n=decB (n / 10)++⟨#[UInt8.ofNat (48 + n % 10)]⟩:=by
  show (⟨(Lib.decDigits n).toArray⟩:ByteArray)=⟨(Lib.decDigits (n / 10)).toArray⟩++⟨[UInt8.ofNat (48 + n % 10)].toArray⟩
  rw [bytes_app]
  conv=>lhs;rw [Lib.decDigits,dif_neg h]
theorem decB_len:∀ (k n:Nat),n < 10 ^ (k + 1)→(decB n).size≤k + 1
  | 0,n,h=>by rw [decB_small (by simpa using h)];exact Nat.le_refl 1
  | k + 1, n, h => by
    by_cases h10:n < 10
    · rw [decB_small h10];show 1≤_;omega
    · rw [decB_big h10,ByteArray.size_append]
      have:=decB_len k (n / 10) (by rw [Nat.div_lt_iff_lt_mul (by decide)];rw [Nat.pow_succ] at h;exact h)
      show _ + 1≤_
      omega
theorem wrap_u64 {n:Int} (h1:0≤n) (h2:n < 18446744073709551616):IntKind.u64.wrap n=n:=by
  rw [IntKind.wrap_u64];omega
theorem l1Long_c : ∀ (n : Nat), n < 18446744073709551616 → PureP Tryd.prog 33 [.d (.int .u64 (n : Int))] (· = .d (.str (decB n))) := by
  intro n
  induction n using Nat.strongRecOn with
  | ind n ih =>
    intro hn
    by_cases h10:n < 10
    · have c0:((n:Int) < 10)=True:=eq_true (by omega)
      refine pure_of Tryd.func33 en_33 rfl rfl (W_runS mixed [3] ⟨[],[],[33],20,0,[0,2,4],[4]⟩ (fun | 3=>[0,1,3,4,5,6,2,7,8,9,10] | _=>[]) (by kernel_rfl) ?_)
      simp only [Tryd.f33,stripS,skip_cons,skip_nil,Nat.reduceBEq,Bool.or_false,Bool.or_self,Bool.or_true,Bool.true_or,cond_true,cond_false,stripX,stripOps,pickOps]
      simp [c0]
      rw [wrap_u64 (by omega) (by omega),show IntKind.u8.wrap (48 + (n:Int))=48 + n by rw [IntKind.wrap_u8'];omega,decB_small h10]
      refine ⟨⟨by omega,by omega⟩, ?_⟩
      congr 3
    · have c0:((n:Int) < 10)=False:=eq_false (by omega)
      obtain ⟨KR,KR_f,KR_e⟩:∃ K:Ent Tryd.prog,K.f=33∧∀ a:Int,K.e [.d (.int .u64 a)]=some (0≤a∧a < n,.d (.str (decB a.toNat)),[]) :=
        ⟨Ent.p1 (α:=KInt .u64) 33 (fun a=>0≤a.v∧a.v < n) (fun a=>.d (.str (decB a.v.toNat))) (fun a h=>by
          have:=ih a.v.toNat (by omega) (by omega)
          rw [show ((a.v.toNat:Nat):Int)=a.v by omega] at this
          exact this),rfl,fun a=>by exact Ent.p1_eq (α:=KInt .u64) ⟨a⟩⟩
      refine pure_of Tryd.func33 en_33 rfl rfl (W_run mixed ⟨[KR],[],[2000053],20,0,[0,2,4],[4]⟩ (fun | 3=>[0,1,3,4,5,6,2,7,8,9,10] | _=>[]) (by kernel_rfl) ?_)
      simp only [Tryd.f33,stripX,stripOps,pickOps]
      simp [KR_f,KR_e,c0]
      have e1:(n:Int).tmod 10=((n % 10:Nat):Int):=by rw [Int.tmod_eq_emod_of_nonneg (by omega)];omega
      have e2:IntKind.u8.wrap (IntKind.u64.wrap (48 + (n:Int).tmod 10))=((48 + n % 10:Nat):Int):=by
        rw [e1,wrap_u64 (by omega) (by omega),IntKind.wrap_u8'];omega
      have e3:IntKind.u64.wrap ((n:Int) / 10)=((n / 10:Nat):Int):=by rw [wrap_u64 (by omega) (by omega)];omega
      rw [e2,e3]
      simp only [Int.toNat_natCast]
      rw [← decB_big h10]
      have hl:=decB_len 19 (n / 10) (by omega)
      refine ⟨⟨by omega,by omega⟩,⟨by omega,by omega⟩, ?_,rfl⟩
      show _ + 1≤_
      omega
theorem l1Long_k (n:Int) (h:0≤n∧n < 18446744073709551616):PureP Tryd.prog 33 [.d (.int .u64 n)] (· = .d (.str (decB n.toNat))):=by
  have:=l1Long_c n.toNat (by omega)
  rw [show ((n.toNat:Nat):Int)=n by omega] at this
  exact this
noncomputable def K_33:Ent Tryd.prog:=Ent.p1 (α:=KInt .u64) 33 (fun n=>0≤n.v∧n.v < 18446744073709551616) (fun n=>.d (.str (decB n.v.toNat))) (fun n hc=>l1Long_k n.v hc)
theorem K_33_f:K_33.f=33:=rfl
theorem K_33_e (n:Int):K_33.e [.d (.int .u64 n)]=some (0≤n∧n < 18446744073709551616,.d (.str (decB n.toNat)),[]):=by unfold K_33;exact Ent.p1_eq (α:=KInt .u64) (KInt.mk n)
noncomputable def K_33h:EntH Tryd.prog:=EntH.pk1 (α:=KInt .u64) 33 (fun n=>0≤n.v∧n.v < 18446744073709551616) (fun n=>.d (.str (decB n.v.toNat))) (fun n=>[]) (fun n hc=>PureP.ans (l1Long_k n.v hc))
theorem K_33h_f:K_33h.f=33:=rfl
theorem K_33h_g:K_33h.gro=true:=rfl
theorem K_33h_e {x1:V} {H:Heap}:K_33h.e [x1] H=guardR ((decA (α:=KInt .u64) H x1).1) (peekR (0≤(decA (α:=KInt .u64) H x1).2.v∧(decA (α:=KInt .u64) H x1).2.v < 18446744073709551616) (.d (.str (decB (decA (α:=KInt .u64) H x1).2.v.toNat))) ([]) H):=rfl
theorem numB_neg {n:Int} (h:n < 0):numB n=⟨#[45]⟩++decB n.natAbs:=by
  show (⟨(Lib.itoa n).toArray⟩:ByteArray)=⟨[45].toArray⟩++⟨(Lib.decDigits n.natAbs).toArray⟩
  rw [bytes_app]
  unfold Lib.itoa
  rw [if_pos h]
  rfl
theorem numB_pos {n:Int} (h:0≤n):numB n=decB n.toNat:=by
  unfold numB decB Lib.itoa
  rw [if_neg (by omega)]
theorem numB_len {n:Int} (h:Enc.good n):(numB n).size≤21:=by
  have h1:-9223372036854775808≤n:=h.1
  have h2:n≤9223372036854775807:=h.2
  by_cases hn:n < 0
  · rw [numB_neg hn,ByteArray.size_append]
    have:=decB_len 19 n.natAbs (by omega)
    show 1 + _≤_
    omega
  · rw [numB_pos (by omega)]
    have:=decB_len 19 n.toNat (by omega)
    omega
theorem numTextS_c (n:Int) (hn:Enc.good n):PureP Tryd.prog 25 [.d (.int .i64 n)] (· = .d (.str (numB n))):=by
  have h1:-9223372036854775808≤n:=hn.1
  have h2:n≤9223372036854775807:=hn.2
  by_cases h0:0≤n
  · have e1:IntKind.u64.wrap n=n:=wrap_u64 h0 (by omega)
    refine pure_of Tryd.func25 en_25 rfl rfl (W_run mixed ⟨[K_33],[K_33h],[],15,0,[0,2,4],[4]⟩ (fun _=>[]) (by kernel_rfl) ?_)
    simp only [Tryd.f25,stripX,stripOps,pickOps]
    simp [K_33_f,K_33_e,K_33h_f,K_33h_e,K_33h_g,h0,e1]
    exact ⟨by omega,(numB_pos h0).symm⟩
  · refine pure_of Tryd.func25 en_25 rfl rfl (W_run mixed ⟨[K_33],[K_33h],[],15,0,[0,2,4],[4]⟩ (fun _=>[]) (by kernel_rfl) ?_)
    simp only [Tryd.f25,stripX,stripOps,pickOps]
    simp [K_33_f,K_33_e,K_33h_f,K_33h_e,K_33h_g,h0]
    have e1:IntKind.u64.wrap (IntKind.u64.wrap (IntKind.i64.wrap (-IntKind.i64.wrap (n + 1))) + 1)=(n.natAbs:Int):=by
      rw [wrap_id (n:=n + 1) (by omega) (by omega),wrap_id (by omega) (by omega),wrap_u64 (n:=-(n + 1)) (by omega) (by omega),wrap_u64 (by omega) (by omega)]
      omega
    rw [e1,Int.toNat_natCast,← numB_neg (by omega)]
    have:=numB_len hn
    rw [numB_neg (by omega),ByteArray.size_append] at this
    exact ⟨⟨by omega,by omega⟩,by omega,rfl⟩
noncomputable def K_25:Ent Tryd.prog:=Ent.p1 (α:=Int) 25 (fun n=>Enc.good n) (fun n=>.d (.str (numB n))) (fun n hc=>numTextS_c n hc)
theorem K_25_f:K_25.f=25:=rfl
theorem K_25_e (n:Int):K_25.e [.d (.int .i64 n)]=some (Enc.good n,.d (.str (numB n)),[]):=by unfold K_25;exact Ent.p1_eq (α:=Int) n
noncomputable def K_25h:EntH Tryd.prog:=EntH.pk1 (α:=Int) 25 (fun n=>Enc.good n) (fun n=>.d (.str (numB n))) (fun n=>[]) (fun n hc=>PureP.ans (numTextS_c n hc))
theorem K_25h_f:K_25h.f=25:=rfl
theorem K_25h_g:K_25h.gro=true:=rfl
theorem K_25h_e {x1:V} {H:Heap}:K_25h.e [x1] H=guardR ((decA (α:=Int) H x1).1) (peekR (Enc.good (decA (α:=Int) H x1).2) (.d (.str (numB (decA (α:=Int) H x1).2))) ([]) H):=rfl
end Go.Proofs.YtbacilgolfojaaaDoor
end
