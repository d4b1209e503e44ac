/-
  Var of spec and impl: a number's bytes.
-/
import Derived.Test.YtimnogjgokljbaaEvWord
import Derived.Test.YtimnogjgokljbaaEvList
namespace Go.Proofs.Ytimnogjgokljbaa
set_option maxRecDepth 100000
set_option linter.unusedVariables false
set_option linter.unusedSimpArgs false
open Go Go.RowKit
set_option maxHeartbeats 4000000

/-- the bytes of a number, seven bits each -/
def varF : Nat → Nat → List Nat
  | 0, n => [n]
  | k + 1, n => if n < 128 then [n] else (n % 128 + 128) :: varF k (n / 128)
def varL (n : Nat) : List Nat := varF 6 n
theorem varF_lo (k : Nat) {n : Nat} (h : n < 128) : varF k n = [n] := by
  cases k with
  | zero => rfl
  | succ k => simp [varF, h]
theorem varF_hi (k : Nat) {n : Nat} (h : ¬ n < 128) : varF (k + 1) n = (n % 128 + 128) :: varF k (n / 128) := by simp [varF, h]
theorem varF_len : ∀ k n, (varF k n).length ≤ k + 1
  | 0, n => by simp [varF]
  | k + 1, n => by
    unfold varF
    split
    · simp
    · have := varF_len k (n / 128)
      simp; omega
def bsS (l : List Nat) : ByteArray := ⟨(l.map UInt8.ofNat).toArray⟩
def cU8 (n : Nat) : List Value := [.int .u8 (n : Int)]
theorem bytes_rows (l : List Nat) : bytesE (rowsF cU8 l) = some (l.map UInt8.ofNat) := by
  induction l with
  | nil => rfl
  | cons x l ih =>
    unfold bytesE rowsF at *
    simp only [cU8] at ih
    simp only [List.map_cons, List.mapM_cons, cU8, List.map_nil, Option.bind_eq_bind, Option.bind_some, Int.toNat_natCast, Option.pure_def]
    simp only [List.map_cons, List.map_nil] at ih
    rw [ih]
    rfl
def varS (n : Int) : ByteArray := if 0 ≤ n ∧ n ≤ 562949953421311 then bsS (varL n.toNat) else ByteArray.empty
theorem bsS_size (l : List Nat) : (bsS l).size = l.length := by simp [bsS, ByteArray.size]
theorem varS_size (n : Int) : (varS n).size ≤ 7 := by
  unfold varS
  split
  · rw [bsS_size]; exact varF_len 6 _
  · simp
theorem varF_pos (k n : Nat) : 0 < (varF k n).length := by
  cases k with
  | zero => simp [varF]
  | succ k => unfold varF; split <;> simp
theorem varS_pos {n : Int} (h1 : 0 ≤ n) (h2 : n ≤ 562949953421311) : 0 < (varS n).size := by
  unfold varS
  rw [if_pos ⟨h1, h2⟩, bsS_size]
  exact varF_pos _ _
theorem ba_empty : (⟨#[]⟩ : ByteArray) = ByteArray.empty := rfl
theorem cU8_app (l : List Nat) (x : Nat) : rowsF cU8 l ++ [[.sc (.int .u8 (x : Int))]] = rowsF cU8 (l ++ [x]) := by rw [← rowsF_app]; rfl
theorem wrap_u8n {n : Nat} (h : n < 256) : IntKind.u8.wrap (n : Int) = (n : Int) := by
  have : IntKind.u8.wrap (n : Int) = (n : Int) % 256 := by simp [IntKind.wrap, IntKind.bits, IntKind.signed]
  rw [this]; omega
/-- how far a number's bytes are written: (written, left to write, at most so many more) -/
def VarI (n : Nat) (x : List Nat × Nat × Nat) : Prop := x.1 ++ varF x.2.1 x.2.2 = varL n ∧ x.2.2 < 128 ^ (x.2.1 + 1) ∧ x.2.2 ≤ 562949953421311
theorem VarI.lt {n : Nat} {x : List Nat × Nat × Nat} (h : VarI n x) (hk : ¬ x.2.2 < 128) : ∃ k, x.2.1 = k + 1 := by
  obtain ⟨l, k, m⟩ := x
  cases k with
  | zero => exact absurd h.2.1 (by simpa using hk)
  | succ k => exact ⟨k, rfl⟩
theorem VarI.len {n : Nat} {x : List Nat × Nat × Nat} (h : VarI n x) : x.1.length ≤ 7 := by
  have h1 := congrArg List.length h.1
  have h2 : (varL n).length ≤ 7 := varF_len 6 n
  rw [List.length_append] at h1
  omega
theorem VarI.next {n k m : Nat} {l : List Nat} (h : VarI n (l, k + 1, m)) (hk : ¬ m < 128) : VarI n (l ++ [m % 128 + 128], k, m / 128) := by
  obtain ⟨h1, h2, h3⟩ := h
  dsimp only at h1 h2 h3
  refine ⟨?_, ?_, by dsimp only; omega⟩
  · dsimp only
    rw [varF_hi _ hk] at h1
    rw [List.append_assoc]
    exact h1
  · dsimp only
    rw [Nat.pow_succ] at h2
    omega
theorem VarI.last {n k m : Nat} {l : List Nat} (h : VarI n (l, k, m)) (hk : m < 128) : l ++ [m] = varL n := by
  have := h.1
  dsimp only at this
  rw [varF_lo _ hk] at this
  exact this
theorem varS_of {n : Nat} (h : n ≤ 562949953421311) : varS n = bsS (varL n) := by
  unfold varS
  rw [if_pos ⟨by omega, by omega⟩, Int.toNat_natCast]
noncomputable def mVar := mdl (fun _ : Int => True) (fun n => [aI n]) (fun n => rS (varS n))
theorem mVar_eq (n : Int) : mVar [aI n] = some (rS (varS n)) := mdl_eq (by intro a b h; simpa using h) n trivial
theorem varS_no {n : Int} (h : ¬ (0 ≤ n ∧ n ≤ 562949953421311)) : varS n = ByteArray.empty := if_neg h


end Go.Proofs.Ytimnogjgokljbaa
