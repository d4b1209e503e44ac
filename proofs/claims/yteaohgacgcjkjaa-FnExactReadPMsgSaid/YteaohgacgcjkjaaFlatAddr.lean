/-
  Addr: its size, copy, equality, mark and held functions, by contracts.
-/
import Derived.Test.YteaohgacgcjkjaaStr
namespace Go.Proofs.Yteaohgacgcjkjaa
set_option maxRecDepth 100000
set_option linter.unusedVariables false
set_option linter.unusedSimpArgs false
open Go.RowKit

abbrev TAddr := Int × Int
def cAddr (x : TAddr) : List Value := [.int .i64 x.1, .int .i64 x.2]
def zAddr : List Value := [.int .i64 0, .int .i64 0]
def okAddr (_ : TAddr) : Prop := True



set_option maxHeartbeats 1000000 in
theorem eqAddr_any (x y : TAddr) (w : World) :
    Calls Try.prog 85 #[.agg #[.int .i64 x.1, .int .i64 x.2], .agg #[.int .i64 y.1, .int .i64 y.2]] w (SaysB (decide (x = y)) w) := by
  go_enter Try.func85, Try.ntmps85
  go_wp2
  all_goals go_ret
  · have h : (x.1 != y.1) = true := by assumption
    exact ⟨ret_bool (Eq.symm (decide_eq_false fun e => by subst e; simp at h)), by go_grown⟩
  · have h : (x.2 != y.2) = true := by assumption
    exact ⟨ret_bool (Eq.symm (decide_eq_false fun e => by subst e; simp at h)), by go_grown⟩
  · have h0 : (x.1 != y.1) = false := by assumption
    have h1 : (x.2 != y.2) = false := by assumption
    have e0 : x.1 = y.1 := by simpa using h0
    have e1 : x.2 = y.2 := by simpa using h1
    exact ⟨ret_bool (Eq.symm (decide_eq_true (Prod.ext e0 e1))), by go_grown⟩


set_option maxHeartbeats 1000000 in
theorem eqAddrS_any (v1 v2 : Value) (xs ys : List TAddr) (w : World) (h1 : RdS w w.heap.size 2 cAddr v1 xs) (h2 : RdS w w.heap.size 2 cAddr v2 ys) (hn : xs.length ≤ 8796093022207) (hn2 : ys.length ≤ 8796093022207) :
    Calls Try.prog 61 #[v1, v2] w (SaysB (decide (xs = ys)) w) := by
  obtain ⟨A1, c1, rfl, hlc1, hcm1, hcell1⟩ := h1
  obtain ⟨A2, c2, rfl, hlc2, hcm2, hcell2⟩ := h2
  by_cases hl : xs.length = ys.length
  case neg =>
    have hne : decide (xs = ys) = false := by
      simp only [decide_eq_false_iff_not]
      intro e; exact hl (by rw [e])
    rw [hne]
    go_enter Try.func61, Try.ntmps61
    go_wp2
    go_ret
    exact ⟨rfl, Below.refl _ _⟩
  have hl1 : xs.length ≤ ys.length := by omega
  have hl2 : ys.length ≤ xs.length := by omega
  have hb0 : ((xs.length : Int) != ys.length) = false := by simp [hl]
  clear hl
  go_enter Try.func61, Try.ntmps61
  go_wp2
  go_loopw [5] (fun i wr => ∃ k : Nat, k ≤ xs.length ∧ i = .int .i64 k ∧ Below w.heap.size w wr ∧ xs.take k = ys.take k) (fun i _ => xs.length - (intOf i).toNat)
  case atStart => exact ⟨0, Nat.zero_le _, rfl, Below.refl _ _, by simp⟩
  case round =>
    obtain ⟨k, hk, rfl, hb, heq⟩ := hrel
    have HE := Lib.hid heq
    clear heq
    by_cases hlt : k < xs.length
    · obtain ⟨b1, o1, rfl, hbA, hcA⟩ := hcell1 (by intro e; simp [e] at hlt)
      obtain ⟨b2, o2, rfl, hbB, hcB⟩ := hcell2 (by intro e; simp [e] at hl1; simp [hl1] at hlt)
      have hlt2 : k < ys.length := by omega
      have hx0 := (hb.cell (p := ⟨b1, o1 + k * 2 + 0, none⟩) hbA).trans (hcA k _ (List.getElem?_eq_getElem hlt) 0 _ rfl)
      have hy0 := (hb.cell (p := ⟨b2, o2 + k * 2 + 0, none⟩) hbB).trans (hcB k _ (List.getElem?_eq_getElem hlt2) 0 _ rfl)
      have hx1 := (hb.cell (p := ⟨b1, o1 + k * 2 + 1, none⟩) hbA).trans (hcA k _ (List.getElem?_eq_getElem hlt) 1 _ rfl)
      have hy1 := (hb.cell (p := ⟨b2, o2 + k * 2 + 1, none⟩) hbB).trans (hcB k _ (List.getElem?_eq_getElem hlt2) 1 _ rfl)
      simp only [Nat.add_zero] at hx0 hy0
      clear hcA hcB hcell1 hcell2
      go_wp2
      go_still_tail 8, (by kernel_rfl)
      change wpList _ _ _ _ _ wr.drew
      go_wp2_with fail
      refine (eqAddr_any xs[k] ys[k] _).mono ?_
      rintro e w1 ⟨rfl, hb1⟩
      have hb2 := hb.drew.trans (hb1.mono hb.size)
      clear hx0 hy0 hx1 hy1 hb hb1
      by_cases hxy : xs[k] = ys[k]
      · have hd : decide (xs[k] = ys[k]) = true := decide_eq_true hxy
        have HX := Lib.hid hxy
        clear hxy
        rw [hd]
        clear hd
        go_wp2_with fail
        go_roundw
        case rel => exact ⟨k + 1, by omega, by go_num, hb2, by rw [List.take_succ_eq_append_getElem hlt, List.take_succ_eq_append_getElem hlt2, HE.out, HX.out]⟩
        case measure => simp [intOf]; omega
      · have hd : decide (xs[k] = ys[k]) = false := decide_eq_false hxy
        have hne : decide (xs = ys) = false := by
          simp only [decide_eq_false_iff_not]
          intro e; subst e; exact hxy rfl
        have HN := Lib.hid hne
        clear hne hxy
        rw [hd]
        clear hd
        go_wp2_with fail
        go_ret
        exact ⟨ret_bool HN.out.symm, hb2⟩
    · have hall : decide (xs = ys) = true := by
        simp only [decide_eq_true_eq]
        have := HE.out
        rwa [List.take_of_length_le (by omega), List.take_of_length_le (by omega)] at this
      have HN := Lib.hid hall
      clear hall
      go_wp2
      go_ret
      exact ⟨ret_bool HN.out.symm, hb⟩

end Go.Proofs.Yteaohgacgcjkjaa
