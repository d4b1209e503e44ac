/-
  Slices of bool: their size, copy and equality functions, by contracts.
-/
import Derived.Test.YtilgmdgipeimaaaDoorBase
import Derived.Test.YtilgmdgipeimaaaDoorRows
namespace Go.Proofs.YtilgmdgipeimaaaDoor
set_option maxRecDepth 100000
set_option linter.unusedVariables false
set_option linter.unusedSimpArgs false
open Go.RowKit

set_option maxHeartbeats 400000 in
theorem szBoolS_any (v : Value) (l : List Bool) (left : Int) (w : World) (h : RdS w w.heap.size 1 cBool v l) (hok : ∀ x ∈ l, okBool x)
    (h0 : 0 ≤ left) (h1 : left ≤ 1048576) (hn : l.length ≤ 9223372036854775807) :
    Calls Tryd.prog 80 #[v, .int .i64 left] w (SzB l.length left w) := by
  obtain ⟨A, c, rfl, hlc, hcm, -⟩ := h
  by_cases hneg : left - l.length < 0
  · go_enter Tryd.func80, Tryd.ntmps80
    go_wp2
    go_ret
    exact ⟨_, rfl, Below.refl _ _, by omega, by omega, by omega⟩
  · go_enter Tryd.func80, Tryd.ntmps80
    go_wp2
    go_ret
    exact ⟨_, rfl, Below.refl _ _, by omega, by omega, by omega⟩

theorem info_Bool : (Tryd.prog.info? 4).map (fun i => (i.zero, i.size, i.bytes)) = some (some (.bool false), 1, 1) := by kernel_rfl

set_option maxHeartbeats 400000 in
theorem toBoolS_any (v : Value) (l : List Bool) (w : World) (h : RdS w w.heap.size 1 cBool v l) (hn : l.length ≤ 8796093022207) :
    Calls Tryd.prog 82 #[v] w (NewS w 1 cBool l) := by
  obtain ⟨A, c, rfl, hlc, hcm, hcell⟩ := h
  have hmk := fun W : World => run_mk (P := Tryd.prog) 52 4 _ [.bool false] 1 1 Tryd.underlying52 info_Bool rfl rfl .i64 .i64 l.length (by omega) (by omega) W
  go_enter Tryd.func82, Tryd.ntmps82
  go_wp2
  go_loopw [4] (fun i wr => ∃ k : Nat, k ≤ l.length ∧ i = .int .i64 k ∧ Row wr w.heap.size 4 (rowOf cBool [.bool false] l k) ∧ Below w.heap.size w wr) (fun i _ => l.length - (intOf i).toNat)
  case atStart =>
    refine ⟨0, Nat.zero_le _, rfl, ?_, (Below.refl _ _).alloc (Nat.le_refl _) _⟩
    rw [rowOf_zero]
    exact Row.new _ _ _
  case round =>
    obtain ⟨k, hk, rfl, hrow, hb⟩ := hrel
    by_cases hlt : k < l.length
    · obtain ⟨b, off, rfl, hbb, hc⟩ := hcell (by intro e; simp [e] at hlt)
      have hx := hc k _ (List.getElem?_eq_getElem hlt) 0 _ rfl
      have hx' := (hb.cell (p := ⟨b, off + k * 1 + 0, none⟩) hbb).trans hx
      obtain ⟨u, hu⟩ := rowOf_old (f := cBool) (zs := [.bool false]) (s := 1) (fun _ => rfl) rfl l k 0 hlt (by omega)
      have ho := (hrow.cell (k * 1 + 0)).trans hu
      have hf := hrow.frozen (k * 1 + 0)
      have hnew := hrow.set (k * 1 + 0) (.bool l[k])
      have hset := rowOf_next (f := cBool) (zs := [.bool false]) (s := 1) (fun _ => rfl) rfl l k hlt
      have hnew' : Row (wr.setCell ⟨w.heap.size, k * 1 + 0, none⟩ (.bool l[k])) w.heap.size 4 (rowOf cBool [.bool false] l (k + 1)) := hset ▸ hnew
      simp only [Nat.mul_one, Nat.add_zero] at hx' ho hf hnew'
      have HN := Lib.hid hnew'
      clear hnew' hnew hset hu hc hcell hx hmk
      go_wp2
      go_roundw
      case rel => exact ⟨k + 1, by omega, by go_num, HN.out, hb.setCell (Nat.le_refl _) _⟩
      case measure => simp [intOf]; omega
    · go_wp2
      go_ret
      have e : k = l.length := by omega
      subst e
      rw [rowOf_all] at hrow
      exact ⟨_, rfl, OwnS.of_row hrow (Nat.le_refl _) (fun _ => rfl) (by simp only [maxLen]; omega), hb⟩

set_option maxHeartbeats 400000 in
theorem eqBoolS_raw (v1 v2 : Value) (xs ys : List Bool) (B : Nat) (w : World) (h1 : RdS w B 1 cBool v1 xs) (h2 : RdS w B 1 cBool v2 ys) (hn : xs.length ≤ 8796093022207) (hn2 : ys.length ≤ 8796093022207) :
    Calls Tryd.prog 86 #[v1, v2] w (Quiet (.bool (decide (xs = ys))) w) := by
  obtain ⟨A1, c1, rfl, hlc1, hcm1, hcell1⟩ := h1
  obtain ⟨A2, c2, rfl, hlc2, hcm2, hcell2⟩ := h2
  by_cases hl : xs.length = ys.length
  case neg =>
    have hne : decide (xs = ys) = false := by
      simp only [decide_eq_false_iff_not]
      intro e; exact hl (by rw [e])
    rw [hne]
    go_enter Tryd.func86, Tryd.ntmps86
    go_wp2
    go_ret
    exact ⟨rfl, 0, rfl⟩
  have hl1 : xs.length ≤ ys.length := by omega
  have hl2 : ys.length ≤ xs.length := by omega
  have hb0 : ((xs.length : Int) != ys.length) = false := by simp [hl]
  clear hl
  go_enter Tryd.func86, Tryd.ntmps86
  go_wp2
  go_loopw [5] (fun i wr => ∃ k : Nat, k ≤ xs.length ∧ i = .int .i64 k ∧ QW w wr ∧ xs.take k = ys.take k) (fun i _ => xs.length - (intOf i).toNat)
  case atStart => exact ⟨0, Nat.zero_le _, rfl, QW.refl _, by simp⟩
  case round =>
    obtain ⟨k, hk, rfl, hq, heq⟩ := hrel
    have HE := Lib.hid heq
    clear heq
    by_cases hlt : k < xs.length
    · obtain ⟨b1, o1, rfl, -, hcA⟩ := hcell1 (by intro e; simp [e] at hlt)
      obtain ⟨b2, o2, rfl, -, hcB⟩ := hcell2 (by intro e; simp [e] at hl1; simp [hl1] at hlt)
      have hlt2 : k < ys.length := by omega
      have hx := (hq.cell ⟨b1, o1 + k * 1 + 0, none⟩).trans <| hcA k _ (List.getElem?_eq_getElem hlt) 0 _ rfl
      have hy := (hq.cell ⟨b2, o2 + k * 1 + 0, none⟩).trans <| hcB k _ (List.getElem?_eq_getElem hlt2) 0 _ rfl
      simp only [Nat.mul_one, Nat.add_zero] at hx hy
      clear hcA hcB hcell1 hcell2
      by_cases hxy : xs[k] = ys[k]
      · have hq1 : (xs[k] == ys[k]) = true := by simp [hxy]
        have HX := Lib.hid hxy
        clear hxy
        go_wp2
        go_quiet (fail)
        go_wp2
        go_roundw
        case rel => exact ⟨k + 1, by omega, by go_num, hq.drewN _, by rw [List.take_succ_eq_append_getElem hlt, List.take_succ_eq_append_getElem hlt2, HE.out, HX.out]⟩
        case measure => simp [intOf]; omega
      · have hq1 : (xs[k] == ys[k]) = false := by simpa using hxy
        have hne : decide (xs = ys) = false := by
          simp only [decide_eq_false_iff_not]
          intro e; subst e; exact hxy rfl
        have HN := Lib.hid hne
        clear hne hxy
        go_wp2
        go_quiet (fail)
        go_wp2
        go_ret
        exact ⟨ret_bool HN.out.symm, hq.drewN _⟩
    · have hall : decide (xs = ys) = true := by
        simp only [decide_eq_true_eq]
        have := HE.out
        rwa [List.take_of_length_le (by omega), List.take_of_length_le (by omega)] at this
      have HN := Lib.hid hall
      clear hall
      go_wp2
      go_ret
      exact ⟨ret_bool HN.out.symm, hq⟩
theorem eqBoolS_any (v1 v2 : Value) (xs ys : List Bool) (w : World) (h1 : RdS w w.heap.size 1 cBool v1 xs) (h2 : RdS w w.heap.size 1 cBool v2 ys) (hn : xs.length ≤ 8796093022207) (hn2 : ys.length ≤ 8796093022207) :
    Calls Tryd.prog 86 #[v1, v2] w (SaysB (decide (xs = ys)) w) :=
  (eqBoolS_raw v1 v2 xs ys _ w h1 h2 hn hn2).mono fun _ _ hh => hh.says

end Go.Proofs.YtilgmdgipeimaaaDoor
