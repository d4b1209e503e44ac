/-
  Slices of int: their size, copy and equality functions, by contracts.
-/
import Derived.Test.YtfnjkoimejkhlaaBase
import Derived.Test.YtfnjkoimejkhlaaRows
namespace Go.Proofs.Ytfnjkoimejkhlaa
set_option maxRecDepth 100000
set_option linter.unusedVariables false
set_option linter.unusedSimpArgs false
open Go.RowKit


theorem info_Int : (Try.prog.info? 3).map (fun i => (i.zero, i.size, i.bytes)) = some (some (.int .i64 0), 1, 8) := by kernel_rfl

set_option maxHeartbeats 400000 in
theorem toIntS_any (v : Value) (l : List Int) (w : World) (h : RdS w w.heap.size 1 cInt v l) (hn : l.length ≤ 8796093022207) :
    Calls Try.prog 28 #[v] w (NewS w 1 cInt l) := by
  obtain ⟨A, c, rfl, hlc, hcm, hcell⟩ := h
  have hmk := fun W : World => run_mk (P := Try.prog) 37 3 _ [.int .i64 0] 1 8 Try.underlying37 info_Int rfl rfl .i64 .i64 l.length (by omega) (by omega) W
  go_enter Try.func28, Try.ntmps28
  go_wp2
  go_loopw [4] (fun i wr => ∃ k : Nat, k ≤ l.length ∧ i = .int .i64 k ∧ Row wr w.heap.size 3 (rowOf cInt [.int .i64 0] l k) ∧ Below w.heap.size w wr) (fun i _ => l.length - (intOf i).toNat)
  case atStart =>
    refine ⟨0, Nat.zero_le _, rfl, ?_, (Below.refl _ _).alloc (Nat.le_refl _) _⟩
    rw [rowOf_zero]
    exact Row.new _ _ _
  case round =>
    obtain ⟨k, hk, rfl, hrow, hb⟩ := hrel
    by_cases hlt : k < l.length
    · obtain ⟨b, off, rfl, hbb, hc⟩ := hcell (by intro e; simp [e] at hlt)
      have hx := hc k _ (List.getElem?_eq_getElem hlt) 0 _ rfl
      have hx' := (hb.cell (p := ⟨b, off + k * 1 + 0, none⟩) hbb).trans hx
      obtain ⟨u, hu⟩ := rowOf_old (f := cInt) (zs := [.int .i64 0]) (s := 1) (fun _ => rfl) rfl l k 0 hlt (by omega)
      have ho := (hrow.cell (k * 1 + 0)).trans hu
      have hf := hrow.frozen (k * 1 + 0)
      have hnew := hrow.set (k * 1 + 0) (.int .i64 l[k])
      have hset := rowOf_next (f := cInt) (zs := [.int .i64 0]) (s := 1) (fun _ => rfl) rfl l k hlt
      have hnew' : Row (wr.setCell ⟨w.heap.size, k * 1 + 0, none⟩ (.int .i64 l[k])) w.heap.size 3 (rowOf cInt [.int .i64 0] l (k + 1)) := hset ▸ hnew
      simp only [Nat.mul_one, Nat.add_zero] at hx' ho hf hnew'
      have HN := Lib.hid hnew'
      clear hnew' hnew hset hu hc hcell hx hmk
      go_wp2
      go_roundw
      case rel => exact ⟨k + 1, by omega, by go_num, HN.out, hb.setCell (Nat.le_refl _) _⟩
      case measure => simp [intOf]; omega
    · go_wp2
      go_ret
      have e : k = l.length := by omega
      subst e
      rw [rowOf_all] at hrow
      exact ⟨_, rfl, OwnS.of_row hrow (Nat.le_refl _) (fun _ => rfl) (by simp only [maxLen]; omega), hb⟩

set_option maxHeartbeats 400000 in
theorem eqIntS_raw (v1 v2 : Value) (xs ys : List Int) (B : Nat) (w : World) (h1 : RdS w B 1 cInt v1 xs) (h2 : RdS w B 1 cInt v2 ys) (hn : xs.length ≤ 8796093022207) (hn2 : ys.length ≤ 8796093022207) :
    Calls Try.prog 31 #[v1, v2] w (Quiet (.bool (decide (xs = ys))) w) := by
  obtain ⟨A1, c1, rfl, hlc1, hcm1, hcell1⟩ := h1
  obtain ⟨A2, c2, rfl, hlc2, hcm2, hcell2⟩ := h2
  by_cases hl : xs.length = ys.length
  case neg =>
    have hne : decide (xs = ys) = false := by
      simp only [decide_eq_false_iff_not]
      intro e; exact hl (by rw [e])
    rw [hne]
    go_enter Try.func31, Try.ntmps31
    go_wp2
    go_ret
    exact ⟨rfl, 0, rfl⟩
  have hl1 : xs.length ≤ ys.length := by omega
  have hl2 : ys.length ≤ xs.length := by omega
  have hb0 : ((xs.length : Int) != ys.length) = false := by simp [hl]
  clear hl
  go_enter Try.func31, Try.ntmps31
  go_wp2
  go_loopw [5] (fun i wr => ∃ k : Nat, k ≤ xs.length ∧ i = .int .i64 k ∧ QW w wr ∧ xs.take k = ys.take k) (fun i _ => xs.length - (intOf i).toNat)
  case atStart => exact ⟨0, Nat.zero_le _, rfl, QW.refl _, by simp⟩
  case round =>
    obtain ⟨k, hk, rfl, hq, heq⟩ := hrel
    have HE := Lib.hid heq
    clear heq
    by_cases hlt : k < xs.length
    · obtain ⟨b1, o1, rfl, -, hcA⟩ := hcell1 (by intro e; simp [e] at hlt)
      obtain ⟨b2, o2, rfl, -, hcB⟩ := hcell2 (by intro e; simp [e] at hl1; simp [hl1] at hlt)
      have hlt2 : k < ys.length := by omega
      have hx := (hq.cell ⟨b1, o1 + k * 1 + 0, none⟩).trans <| hcA k _ (List.getElem?_eq_getElem hlt) 0 _ rfl
      have hy := (hq.cell ⟨b2, o2 + k * 1 + 0, none⟩).trans <| hcB k _ (List.getElem?_eq_getElem hlt2) 0 _ rfl
      simp only [Nat.mul_one, Nat.add_zero] at hx hy
      clear hcA hcB hcell1 hcell2
      by_cases hxy : xs[k] = ys[k]
      · have hq1 : (xs[k] != ys[k]) = false := by simp [hxy]
        have HX := Lib.hid hxy
        clear hxy
        go_wp2
        go_quiet (fail)
        go_wp2
        go_roundw
        case rel => exact ⟨k + 1, by omega, by go_num, hq.drewN _, by rw [List.take_succ_eq_append_getElem hlt, List.take_succ_eq_append_getElem hlt2, HE.out, HX.out]⟩
        case measure => simp [intOf]; omega
      · have hq1 : (xs[k] != ys[k]) = true := by simpa using hxy
        have hne : decide (xs = ys) = false := by
          simp only [decide_eq_false_iff_not]
          intro e; subst e; exact hxy rfl
        have HN := Lib.hid hne
        clear hne hxy
        go_wp2
        go_quiet (fail)
        go_wp2
        go_ret
        exact ⟨ret_bool HN.out.symm, hq.drewN _⟩
    · have hall : decide (xs = ys) = true := by
        simp only [decide_eq_true_eq]
        have := HE.out
        rwa [List.take_of_length_le (by omega), List.take_of_length_le (by omega)] at this
      have HN := Lib.hid hall
      clear hall
      go_wp2
      go_ret
      exact ⟨ret_bool HN.out.symm, hq⟩
theorem eqIntS_any (v1 v2 : Value) (xs ys : List Int) (w : World) (h1 : RdS w w.heap.size 1 cInt v1 xs) (h2 : RdS w w.heap.size 1 cInt v2 ys) (hn : xs.length ≤ 8796093022207) (hn2 : ys.length ≤ 8796093022207) :
    Calls Try.prog 31 #[v1, v2] w (SaysB (decide (xs = ys)) w) :=
  (eqIntS_raw v1 v2 xs ys _ w h1 h2 hn hn2).mono fun _ _ hh => hh.says

end Go.Proofs.Ytfnjkoimejkhlaa
