/-
  Req: its size, copy, equality, mark and held functions, by contracts.
-/
import Derived.Test.YteaohgacgcjkjaaStr
namespace Go.Proofs.Yteaohgacgcjkjaa
set_option maxRecDepth 100000
set_option linter.unusedVariables false
set_option linter.unusedSimpArgs false
open Go.RowKit

abbrev TReq := Int × Int × Int
def cReq (x : TReq) : List Value := [.int .i64 x.1, .int .i64 x.2.1, .int .i64 x.2.2]
def zReq : List Value := [.int .i64 0, .int .i64 0, .int .i64 0]
def okReq (_ : TReq) : Prop := True



set_option maxHeartbeats 1000000 in
theorem eqReq_any (x y : TReq) (w : World) :
    Calls Try.prog 59 #[.agg #[.int .i64 x.1, .int .i64 x.2.1, .int .i64 x.2.2], .agg #[.int .i64 y.1, .int .i64 y.2.1, .int .i64 y.2.2]] w (SaysB (decide (x = y)) w) := by
  go_enter Try.func59, Try.ntmps59
  go_wp2
  all_goals go_ret
  · have h : (x.1 != y.1) = true := by assumption
    exact ⟨ret_bool (Eq.symm (decide_eq_false fun e => by subst e; simp at h)), by go_grown⟩
  · have h : (x.2.1 != y.2.1) = true := by assumption
    exact ⟨ret_bool (Eq.symm (decide_eq_false fun e => by subst e; simp at h)), by go_grown⟩
  · have h : (x.2.2 != y.2.2) = true := by assumption
    exact ⟨ret_bool (Eq.symm (decide_eq_false fun e => by subst e; simp at h)), by go_grown⟩
  · have h0 : (x.1 != y.1) = false := by assumption
    have h1 : (x.2.1 != y.2.1) = false := by assumption
    have h2 : (x.2.2 != y.2.2) = false := by assumption
    have e0 : x.1 = y.1 := by simpa using h0
    have e1 : x.2.1 = y.2.1 := by simpa using h1
    have e2 : x.2.2 = y.2.2 := by simpa using h2
    exact ⟨ret_bool (Eq.symm (decide_eq_true (Prod.ext e0 (Prod.ext e1 e2)))), by go_grown⟩



end Go.Proofs.Yteaohgacgcjkjaa
