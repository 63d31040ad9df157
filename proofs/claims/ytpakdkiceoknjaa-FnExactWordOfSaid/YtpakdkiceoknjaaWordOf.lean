/- WordOf: what both programs answer, and the law. No condition. -/
import Derived.Test.YtpakdkiceoknjaaTy
import Derived.Test.YtpakdkiceoknjaaB5
import Derived.Test.YtpakdkiceoknjaaB6
import Derived.Test.YtpakdkiceoknjaaRows
namespace Go.Proofs.Ytpakdkiceoknjaa
set_option maxRecDepth 100000
set_option linter.unusedSimpArgs false
def inR (n lo hi : Int) : Bool := decide (lo ≤ n ∧ n ≤ hi)
theorem within_c (n lo hi : Int) : PureP Try.prog 41 [.d (.int .i64 n), .d (.int .i64 lo), .d (.int .i64 hi)] (· = .d (.bool (inR n lo hi))) := by
  refine pure_of Try.func41 en_41 rfl rfl (W_walk (Good.none _) [0,1,2,6] rfl ?_)
  simp only [Try.f41, strip, stripOps]
  by_cases h1 : lo ≤ n <;> simp +contextual [h1, inR]
def specWord (n : Int) : ByteArray :=
  if n = 1 then ⟨#[110, 117, 109]⟩ else if n = 3 then ⟨#[110, 101, 103]⟩ else if n = 4 then ⟨#[97, 100, 100]⟩ else if n = 5 then ⟨#[115, 117, 98]⟩ else if n = 6 then ⟨#[109, 117, 108]⟩
  else if n = 7 then ⟨#[115, 104, 108]⟩ else if n = 8 then ⟨#[100, 105, 118]⟩ else if n = 9 then ⟨#[101, 113]⟩ else if n = 10 then ⟨#[108, 101, 115, 115]⟩ else if n = 11 then ⟨#[105, 102]⟩
  else if n = 12 then ⟨#[108, 111, 97, 100]⟩ else if n = 13 then ⟨#[115, 116, 111, 114, 101]⟩ else ⟨#[]⟩
theorem specWord_c (n : Int) : PureP Try.prog 40 [.d (.int .i64 n)] (· = .d (.str (specWord n))) := by
  refine pure_of Try.func40 en_40 rfl rfl (W_walk (Good.none _) [0, 2, 3, 4, 6, 8, 10, 12, 14, 16, 18, 20, 22, 24, 26] rfl ?_)
  simp only [Try.f40, strip, stripOps]
  simp
  repeat' first | apply And.intro | intro _
  all_goals simp [specWord, *]
def implWords : List ByteArray := [⟨#[110, 117, 109]⟩, ⟨#[]⟩, ⟨#[110, 101, 103]⟩, ⟨#[97, 100, 100]⟩, ⟨#[115, 117, 98]⟩, ⟨#[109, 117, 108]⟩, ⟨#[115, 104, 108]⟩, ⟨#[100, 105, 118]⟩, ⟨#[101, 113]⟩, ⟨#[108, 101, 115, 115]⟩, ⟨#[105, 102]⟩, ⟨#[108, 111, 97, 100]⟩, ⟨#[115, 116, 111, 114, 101]⟩]
theorem opWords_c : PureP Try.prog 42 [] (· = .d (.ro 1 13 fun i _ => .str (implWords[i]?.getD default))) := by
  refine PureP.ro (pure_of Try.func42 en_42 rfl rfl (W_walk (Good.none _) [0] rfl ?_))
  simp only [Try.f42, strip, stripOps]
  simp
  intro i hi
  rcases (by omega : i = 0 ∨ i = 1 ∨ i = 2 ∨ i = 3 ∨ i = 4 ∨ i = 5 ∨ i = 6 ∨ i = 7 ∨ i = 8 ∨ i = 9 ∨ i = 10 ∨ i = 11 ∨ i = 12) with rfl | rfl | rfl | rfl | rfl | rfl | rfl | rfl | rfl | rfl | rfl | rfl | rfl <;> rfl
def Γ0 : Table := fun g vs => match g, vs with
  | 40, [.d (.int .i64 n)] => some (.d (.str (specWord n)))
  | 41, [.d (.int .i64 n), .d (.int .i64 lo), .d (.int .i64 hi)] => some (.d (.bool (inR n lo hi)))
  | 42, [] => some (.d (.ro 1 13 fun i _ => .str (implWords[i]?.getD default)))
  | _, _ => none
theorem g40 (n : Int) : Γ0 40 [.d (.int .i64 n)] = some (.d (.str (specWord n))) := rfl
theorem g41 (n lo hi : Int) : Γ0 41 [.d (.int .i64 n), .d (.int .i64 lo), .d (.int .i64 hi)] = some (.d (.bool (inR n lo hi))) := rfl
theorem g42 : Γ0 42 [] = some (.d (.ro 1 13 fun i _ => .str (implWords[i]?.getD default))) := rfl
theorem good0 : Good Try.prog Γ0 := by
  intro g vs r H h
  unfold Γ0 at h
  split at h
  · cases h; exact (specWord_c _).good rfl H
  · cases h; exact (within_c _ _ _).good rfl H
  · cases h; exact opWords_c.good rfl H
  · cases h
def wordOk (n : Int) : Bool := decide (specWord n ≠ ⟨#[]⟩)
theorem f13_c (n : Int) : PureP Try.prog 13 [.d (.int .i64 n)] (· = .tup [.d (.str (specWord n)), .d (.bool (wordOk n))]) := by
  refine pure_of Try.func13 en_13 rfl rfl (W_walk good0 [0,2,3] rfl ?_)
  simp only [Try.f13, strip, stripOps]
  simp [g40, wordOk]
theorem words_same (n : Int) (h : 1 ≤ n) (h' : n ≤ 13) : implWords[n.toNat - 1]?.getD default = specWord n ∧ (n ≠ 2 → specWord n ≠ ⟨#[]⟩) := by
  rcases (by omega : n = 1 ∨ n = 2 ∨ n = 3 ∨ n = 4 ∨ n = 5 ∨ n = 6 ∨ n = 7 ∨ n = 8 ∨ n = 9 ∨ n = 10 ∨ n = 11 ∨ n = 12 ∨ n = 13) with rfl | rfl | rfl | rfl | rfl | rfl | rfl | rfl | rfl | rfl | rfl | rfl | rfl <;> simp [implWords, specWord]
theorem no_word (n : Int) (h : ¬ (1 ≤ n ∧ n ≤ 13) ∨ n = 2) : specWord n = ⟨#[]⟩ := by
  have h1 : n ≠ 1 := by omega
  have h3 : n ≠ 3 := by omega
  have h4 : n ≠ 4 := by omega
  have h5 : n ≠ 5 := by omega
  have h6 : n ≠ 6 := by omega
  have h7 : n ≠ 7 := by omega
  have h8 : n ≠ 8 := by omega
  have h9 : n ≠ 9 := by omega
  have h10 : n ≠ 10 := by omega
  have h11 : n ≠ 11 := by omega
  have h12 : n ≠ 12 := by omega
  have h13 : n ≠ 13 := by omega
  simp [specWord, *]
theorem f14_c (n : Int) : PureP Try.prog 14 [.d (.int .i64 n)] (· = .tup [.d (.str (specWord n)), .d (.bool (wordOk n))]) := by
  refine pure_of Try.func14 en_14 rfl rfl (W_walk good0 [0,2,3,10] rfl ?_)
  simp only [Try.f14, strip, stripOps]
  by_cases h : 1 ≤ n ∧ n ≤ 13
  · have e : inR n 1 13 = true := by simp [inR, h]
    have hw : IntKind.i64.wrap (n - 1) = n - 1 := wrap_id (by omega) (by omega)
    by_cases h2 : n = 2
    · have := no_word n (.inr h2)
      simp [g41, g42, e, h2, wordOk]
      simp [← h2, this]
    · have := words_same n h.1 h.2
      simp [g41, g42, e, hw, h2, wordOk, this]
      omega
  · have e : inR n 1 13 = false := by simp [inR, h]
    have := no_word n (.inl h)
    simp [g41, g42, e, wordOk, this]
def Γ1 : Table := fun g vs => match g, vs with
  | 13, [.d (.int .i64 n)] => some (.tup [.d (.str (specWord n)), .d (.bool (wordOk n))])
  | 14, [.d (.int .i64 n)] => some (.tup [.d (.str (specWord n)), .d (.bool (wordOk n))])
  | _, _ => none
theorem g13 (n : Int) : Γ1 13 [.d (.int .i64 n)] = some (.tup [.d (.str (specWord n)), .d (.bool (wordOk n))]) := rfl
theorem g14 (n : Int) : Γ1 14 [.d (.int .i64 n)] = some (.tup [.d (.str (specWord n)), .d (.bool (wordOk n))]) := rfl
theorem good1 : Good Try.prog Γ1 := by
  intro g vs r H h
  unfold Γ1 at h
  split at h
  · cases h; exact (f13_c _).good rfl H
  · cases h; exact (f14_c _).good rfl H
  · cases h
theorem law3 (n : Int) : PureP Try.prog 3 [.d (.int .i64 n)] (· = .d (.bool true)) := by
  refine pure_of Try.func3 en_3 rfl rfl (W_walk good1 [0, 2, 3, 4, 5, 6, 24] rfl ?_)
  simp only [Try.f3, strip, stripOps]
  simp [g13, g14]

namespace fnExactWordOf
open Go.ChangeShapes Go.WideShapes Go.RowKit
theorem own : ownKnob Try.prog.godebug = none := by kernel_rfl
theorem lifted (os : Os) (started : os.Started) (H : Type) (enc : TypeId × Value → H) :
    ReturnsInHanded {} Try.checked os 3 .any (Rows.fnExactWordOfSpec.pre6 enc Try.prog Try.f3 Rows.fnExactWordOfRow.domain false) (Rows.fnExactWordOfSpec.post enc Try.prog Try.f3 false true false false) := by
  refine returnsInHanded_of_change (C := Try.checked) own started (by kernel_rfl) Try.func3
    (ChangeSpec.witness6 (enc := enc) (C := Try.checked) false ⟨#[], #[.int .i64 0], []⟩ 8 (by kernel_rfl) (by kernel_rfl) (by kernel_rfl) (by kernel_rfl)) ?_
  intro W base args ds gs before hval hW hcnd _
  have hW' := hW
  obtain ⟨p, q, hA, hV, _, _, _⟩ := hW
  rw [Try.params3] at hA hval
  obtain ⟨v0, vs0, d0, ds0, p0, q0, hargs, rfl, rfl, h0, r0⟩ := trodAll_cons hA
  obtain ⟨rfl, rfl, rfl⟩ := trodAll_nil r0
  obtain rfl : args = #[v0] := by cases args; simp_all
  obtain ⟨a0, w0, hv0⟩ := arg_of (reads_int (P := Try.prog) (t := 3) (by kernel_rfl) (by kernel_rfl)) (hval 0 3 v0 rfl rfl) h0
  obtain ⟨rfl, rfl⟩ := trodVars_none hV
  exact row_end (by kernel_rfl) (by kernel_rfl) (by kernel_rfl) Try.underlying4 hW' rfl rfl rfl rfl (vs := [argV a0]) (by exact ⟨v0, [], rfl, hv0, rfl⟩) (law3 a0)
theorem over : Rows.fnExactWordOfRow.holds Try.pinned (OpenSpec.ofChange Rows.fnExactWordOfSpec) :=
  OpenClaim.holds_of_wide 3 Try.f3 rfl rfl rfl rfl rfl rfl rfl ⟨rfl, rfl, rfl, rfl, rfl⟩ rfl rfl rfl rfl rfl (by kernel_rfl) Try.func3 (by kernel_rfl)
    (of_decide_eq_true (by kernel_rfl)) (by unfold Func.isWrapper; first | (rw [if_pos (by decide +kernel)]; kernel_rfl) | (rw [if_neg (by decide +kernel)]; exact ⟨rfl, rfl⟩))
    (fun os started H enc _ => lifted os started H enc)
end fnExactWordOf
/-- The row. -/
theorem fnExactWordOf_holds : Rows.FnExactWordOfSaid := fnExactWordOf.over
end Go.Proofs.Ytpakdkiceoknjaa
