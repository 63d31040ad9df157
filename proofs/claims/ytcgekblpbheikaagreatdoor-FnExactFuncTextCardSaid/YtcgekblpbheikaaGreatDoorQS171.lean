/- Numbers as text: the reference's l1Long and NumText. No condition. -/
import Derived.Test.YtcgekblpbheikaaGreatDoorQS170
namespace Go.Proofs.YtcgekblpbheikaaGreatDoor
set_option maxRecDepth 100000
set_option linter.unusedSimpArgs false
set_option linter.unusedVariables false
def decB (n:Nat):ByteArray:=⟨(Lib.decDigits n).toArray⟩
theorem decB_small {n:Nat} (h:n < 10):decB n=⟨#[UInt8.ofNat (48 + n)]⟩:=by
  unfold decB
  rw [Lib.decDigits,dif_pos h]
theorem bytes_app (l r:List UInt8):(⟨l.toArray⟩:ByteArray)++⟨r.toArray⟩=⟨(l++r).toArray⟩:=by
  apply ByteArray.ext
  rw [ByteArray.data_append]
  simp
theorem decB_big {n:Nat} (h:¬ n < 10):decB n=decB (n / 10)++⟨#[UInt8.ofNat (48 + n % 10)]⟩:=by
  show (⟨(Lib.decDigits n).toArray⟩:ByteArray)=⟨(Lib.decDigits (n / 10)).toArray⟩++⟨[UInt8.ofNat (48 + n % 10)].toArray⟩
  rw [bytes_app]
  conv=>lhs;rw [Lib.decDigits,dif_neg h]
theorem decB_len:∀ (k n:Nat),n < 10 ^ (k + 1)→(decB n).size≤k + 1
  | 0,n,h=>by rw [decB_small (by simpa using h)];exact Nat.le_refl 1
  | k + 1, n, h => by
    by_cases h10:n < 10
    · rw [decB_small h10];show 1≤_;omega
    · rw [decB_big h10,ByteArray.size_append]
      have:=decB_len k (n / 10) (by rw [Nat.div_lt_iff_lt_mul (by decide)];rw [Nat.pow_succ] at h;exact h)
      show _ + 1≤_
      omega
theorem wrap_u64 {n:Int} (h1:0≤n) (h2:n < 18446744073709551616):IntKind.u64.wrap n=n:=by
  rw [IntKind.wrap_u64];omega
theorem l1Long_c : ∀ (n : Nat), n < 18446744073709551616 → PureP Tryz.prog 146 [.d (.int .u64 (n : Int))] (· = .d (.str (decB n))) := by
  intro n
  induction n using Nat.strongRecOn with
  | ind n ih =>
    intro hn
    by_cases h10:n < 10
    · have c0:((n:Int) < 10)=True:=eq_true (by omega)
      refine pure_of Tryz.func146 en_146 rfl rfl (W_runS mixed [3] ⟨[],[],[146],20,0,[0,2,4],[4]⟩ (fun | 3=>[0,1,3,4,5,6,2,7,8,9,10] | _=>[]) (by kernel_rfl) ?_)
      simp only [Tryz.f146,stripS,skip_cons,skip_nil,Nat.reduceBEq,Bool.or_false,Bool.or_self,Bool.or_true,Bool.true_or,cond_true,cond_false,stripX,stripOps,pickOps]
      simp [c0]
      rw [wrap_u64 (by omega) (by omega),show IntKind.u8.wrap (48 + (n:Int))=48 + n by rw [IntKind.wrap_u8'];omega,decB_small h10]
      refine ⟨⟨by omega,by omega⟩, ?_⟩
      congr 3
    · have c0:((n:Int) < 10)=False:=eq_false (by omega)
      obtain ⟨KR,KR_f,KR_e⟩:∃ K:Ent Tryz.prog,K.f=146∧∀ a:Int,K.e [.d (.int .u64 a)]=some (0≤a∧a < n,.d (.str (decB a.toNat)),[]) :=
        ⟨Ent.p1 (α:=KInt .u64) 146 (fun a=>0≤a.v∧a.v < n) (fun a=>.d (.str (decB a.v.toNat))) (fun a h=>by
          have:=ih a.v.toNat (by omega) (by omega)
          rw [show ((a.v.toNat:Nat):Int)=a.v by omega] at this
          exact this),rfl,fun a=>by exact Ent.p1_eq (α:=KInt .u64) ⟨a⟩⟩
      refine pure_of Tryz.func146 en_146 rfl rfl (W_run mixed ⟨[KR],[],[2000034],20,0,[0,2,4],[4]⟩ (fun | 3=>[0,1,3,4,5,6,2,7,8,9,10] | _=>[]) (by kernel_rfl) ?_)
      simp only [Tryz.f146,stripX,stripOps,pickOps]
      simp [KR_f,KR_e,c0]
      have e1:(n:Int).tmod 10=((n % 10:Nat):Int):=by rw [Int.tmod_eq_emod_of_nonneg (by omega)];omega
      have e2:IntKind.u8.wrap (IntKind.u64.wrap (48 + (n:Int).tmod 10))=((48 + n % 10:Nat):Int):=by
        rw [e1,wrap_u64 (by omega) (by omega),IntKind.wrap_u8'];omega
      have e3:IntKind.u64.wrap ((n:Int) / 10)=((n / 10:Nat):Int):=by rw [wrap_u64 (by omega) (by omega)];omega
      rw [e2,e3]
      simp only [Int.toNat_natCast]
      rw [← decB_big h10]
      have hl:=decB_len 19 (n / 10) (by omega)
      refine ⟨⟨by omega,by omega⟩,⟨by omega,by omega⟩, ?_,rfl⟩
      show _ + 1≤_
      omega
theorem l1Long_k (n:Int) (h:0≤n∧n < 18446744073709551616):PureP Tryz.prog 146 [.d (.int .u64 n)] (· = .d (.str (decB n.toNat))):=by
  have:=l1Long_c n.toNat (by omega)
  rw [show ((n.toNat:Nat):Int)=n by omega] at this
  exact this
noncomputable def K_146:Ent Tryz.prog:=Ent.p1 (α:=KInt .u64) 146 (fun n=>0≤n.v∧n.v < 18446744073709551616) (fun n=>.d (.str (decB n.v.toNat))) (fun n hc=>l1Long_k n.v hc)
theorem K_146_f:K_146.f=146:=rfl
theorem K_146_e (n:Int):K_146.e [.d (.int .u64 n)]=some (0≤n∧n < 18446744073709551616,.d (.str (decB n.toNat)),[]):=by unfold K_146;exact Ent.p1_eq (α:=KInt .u64) (KInt.mk n)
noncomputable def K_146h:EntH Tryz.prog:=EntH.pk1 (α:=KInt .u64) 146 (fun n=>0≤n.v∧n.v < 18446744073709551616) (fun n=>.d (.str (decB n.v.toNat))) (fun n=>[]) (fun n hc=>PureP.ans (l1Long_k n.v hc))
theorem K_146h_f:K_146h.f=146:=rfl
theorem K_146h_g:K_146h.gro=true:=rfl
theorem K_146h_e {x1:V} {H:Heap}:K_146h.e [x1] H=guardR ((decA (α:=KInt .u64) H x1).1) (peekR (0≤(decA (α:=KInt .u64) H x1).2.v∧(decA (α:=KInt .u64) H x1).2.v < 18446744073709551616) (.d (.str (decB (decA (α:=KInt .u64) H x1).2.v.toNat))) ([]) H):=rfl
theorem numB_neg {n:Int} (h:n < 0):numB n=⟨#[45]⟩++decB n.natAbs:=by
  show (⟨(Lib.itoa n).toArray⟩:ByteArray)=⟨[45].toArray⟩++⟨(Lib.decDigits n.natAbs).toArray⟩
  rw [bytes_app]
  unfold Lib.itoa
  rw [if_pos h]
  rfl
theorem numB_pos {n:Int} (h:0≤n):numB n=decB n.toNat:=by
  unfold numB decB Lib.itoa
  rw [if_neg (by omega)]
theorem numB_len {n:Int} (h:Enc.good n):(numB n).size≤21:=by
  have h1:-9223372036854775808≤n:=h.1
  have h2:n≤9223372036854775807:=h.2
  by_cases hn:n < 0
  · rw [numB_neg hn,ByteArray.size_append]
    have:=decB_len 19 n.natAbs (by omega)
    show 1 + _≤_
    omega
  · rw [numB_pos (by omega)]
    have:=decB_len 19 n.toNat (by omega)
    omega
theorem numTextS_c (n:Int) (hn:Enc.good n):PureP Tryz.prog 71 [.d (.int .i64 n)] (· = .d (.str (numB n))):=by
  have h1:-9223372036854775808≤n:=hn.1
  have h2:n≤9223372036854775807:=hn.2
  by_cases h0:0≤n
  · have e1:IntKind.u64.wrap n=n:=wrap_u64 h0 (by omega)
    refine pure_of Tryz.func71 en_71 rfl rfl (W_run mixed ⟨[K_146],[K_146h],[],15,0,[0,2,4],[4]⟩ (fun _=>[]) (by kernel_rfl) ?_)
    simp only [Tryz.f71,stripX,stripOps,pickOps]
    simp [K_146_f,K_146_e,K_146h_f,K_146h_e,K_146h_g,h0,e1]
    exact ⟨by omega,(numB_pos h0).symm⟩
  · refine pure_of Tryz.func71 en_71 rfl rfl (W_run mixed ⟨[K_146],[K_146h],[],15,0,[0,2,4],[4]⟩ (fun _=>[]) (by kernel_rfl) ?_)
    simp only [Tryz.f71,stripX,stripOps,pickOps]
    simp [K_146_f,K_146_e,K_146h_f,K_146h_e,K_146h_g,h0]
    have e1:IntKind.u64.wrap (IntKind.u64.wrap (IntKind.i64.wrap (-IntKind.i64.wrap (n + 1))) + 1)=(n.natAbs:Int):=by
      rw [wrap_id (n:=n + 1) (by omega) (by omega),wrap_id (by omega) (by omega),wrap_u64 (n:=-(n + 1)) (by omega) (by omega),wrap_u64 (by omega) (by omega)]
      omega
    rw [e1,Int.toNat_natCast,← numB_neg (by omega)]
    have:=numB_len hn
    rw [numB_neg (by omega),ByteArray.size_append] at this
    exact ⟨⟨by omega,by omega⟩,by omega,rfl⟩
noncomputable def K_71:Ent Tryz.prog:=Ent.p1 (α:=Int) 71 (fun n=>Enc.good n) (fun n=>.d (.str (numB n))) (fun n hc=>numTextS_c n hc)
theorem K_71_f:K_71.f=71:=rfl
theorem K_71_e (n:Int):K_71.e [.d (.int .i64 n)]=some (Enc.good n,.d (.str (numB n)),[]):=by unfold K_71;exact Ent.p1_eq (α:=Int) n
noncomputable def K_71h:EntH Tryz.prog:=EntH.pk1 (α:=Int) 71 (fun n=>Enc.good n) (fun n=>.d (.str (numB n))) (fun n=>[]) (fun n hc=>PureP.ans (numTextS_c n hc))
theorem K_71h_f:K_71h.f=71:=rfl
theorem K_71h_g:K_71h.gro=true:=rfl
theorem K_71h_e {x1:V} {H:Heap}:K_71h.e [x1] H=guardR ((decA (α:=Int) H x1).1) (peekR (Enc.good (decA (α:=Int) H x1).2) (.d (.str (numB (decA (α:=Int) H x1).2))) ([]) H):=rfl
end Go.Proofs.YtcgekblpbheikaaGreatDoor
