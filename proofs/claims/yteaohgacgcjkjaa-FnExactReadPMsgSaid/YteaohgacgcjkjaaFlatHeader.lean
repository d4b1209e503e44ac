/-
  Header: its size, copy, equality, mark and held functions, by contracts.
-/
import Derived.Test.YteaohgacgcjkjaaStr
namespace Go.Proofs.Yteaohgacgcjkjaa
set_option maxRecDepth 100000
set_option linter.unusedVariables false
set_option linter.unusedSimpArgs false
open Go.RowKit

abbrev THeader := Int × Int × ByteArray × ByteArray × ByteArray × ByteArray
def cHeader (x : THeader) : List Value := [.int .i64 x.1, .int .i64 x.2.1, .string x.2.2.1, .string x.2.2.2.1, .string x.2.2.2.2.1, .string x.2.2.2.2.2]
def zHeader : List Value := [.int .i64 0, .int .i64 0, .string ByteArray.empty, .string ByteArray.empty, .string ByteArray.empty, .string ByteArray.empty]
def totHeader (x : THeader) : Nat := x.2.2.1.size + x.2.2.2.1.size + x.2.2.2.2.1.size + x.2.2.2.2.2.size
def okHeader (x : THeader) : Prop := x.2.2.1.size ≤ maxLen ∧ x.2.2.2.1.size ≤ maxLen ∧ x.2.2.2.2.1.size ≤ maxLen ∧ x.2.2.2.2.2.size ≤ maxLen




set_option maxHeartbeats 1000000 in
theorem eqHeader_any (x y : THeader) (w : World) :
    Calls Try.prog 60 #[.agg #[.int .i64 x.1, .int .i64 x.2.1, .string x.2.2.1, .string x.2.2.2.1, .string x.2.2.2.2.1, .string x.2.2.2.2.2], .agg #[.int .i64 y.1, .int .i64 y.2.1, .string y.2.2.1, .string y.2.2.2.1, .string y.2.2.2.2.1, .string y.2.2.2.2.2]] w (SaysB (decide (x = y)) w) := by
  go_enter Try.func60, Try.ntmps60
  go_wp2
  all_goals go_ret
  · have h : (x.1 != y.1) = true := by assumption
    exact ⟨ret_bool (Eq.symm (decide_eq_false fun e => by subst e; simp at h)), by go_grown⟩
  · have h : (x.2.1 != y.2.1) = true := by assumption
    exact ⟨ret_bool (Eq.symm (decide_eq_false fun e => by subst e; simp at h)), by go_grown⟩
  · have h : (!x.2.2.1.toList == y.2.2.1.toList) = true := by assumption
    exact ⟨ret_bool (Eq.symm (decide_eq_false fun e => by subst e; simp at h)), by go_grown⟩
  · have h : (!x.2.2.2.1.toList == y.2.2.2.1.toList) = true := by assumption
    exact ⟨ret_bool (Eq.symm (decide_eq_false fun e => by subst e; simp at h)), by go_grown⟩
  · have h : (!x.2.2.2.2.1.toList == y.2.2.2.2.1.toList) = true := by assumption
    exact ⟨ret_bool (Eq.symm (decide_eq_false fun e => by subst e; simp at h)), by go_grown⟩
  · have h : (!x.2.2.2.2.2.toList == y.2.2.2.2.2.toList) = true := by assumption
    exact ⟨ret_bool (Eq.symm (decide_eq_false fun e => by subst e; simp at h)), by go_grown⟩
  · have h0 : (x.1 != y.1) = false := by assumption
    have h1 : (x.2.1 != y.2.1) = false := by assumption
    have h2 : (!x.2.2.1.toList == y.2.2.1.toList) = false := by assumption
    have h3 : (!x.2.2.2.1.toList == y.2.2.2.1.toList) = false := by assumption
    have h4 : (!x.2.2.2.2.1.toList == y.2.2.2.2.1.toList) = false := by assumption
    have h5 : (!x.2.2.2.2.2.toList == y.2.2.2.2.2.toList) = false := by assumption
    have e0 : x.1 = y.1 := by simpa using h0
    have e1 : x.2.1 = y.2.1 := by simpa using h1
    have e2 : x.2.2.1 = y.2.2.1 := ba_inj (by simpa using h2)
    have e3 : x.2.2.2.1 = y.2.2.2.1 := ba_inj (by simpa using h3)
    have e4 : x.2.2.2.2.1 = y.2.2.2.2.1 := ba_inj (by simpa using h4)
    have e5 : x.2.2.2.2.2 = y.2.2.2.2.2 := ba_inj (by simpa using h5)
    exact ⟨ret_bool (Eq.symm (decide_eq_true (Prod.ext e0 (Prod.ext e1 (Prod.ext e2 (Prod.ext e3 (Prod.ext e4 e5))))))), by go_grown⟩



end Go.Proofs.Yteaohgacgcjkjaa
