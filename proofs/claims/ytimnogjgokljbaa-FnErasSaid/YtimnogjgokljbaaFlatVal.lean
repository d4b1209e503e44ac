/-
  Val: its size, copy, equality, mark and held functions, by contracts.
-/
import Derived.Test.YtimnogjgokljbaaStr
namespace Go.Proofs.Ytimnogjgokljbaa
set_option maxRecDepth 100000
set_option linter.unusedVariables false
set_option linter.unusedSimpArgs false
open Go.RowKit

abbrev TVal := Int × Int
def cVal (x : TVal) : List Value := [.int .i64 x.1, .int .i64 x.2]
def zVal : List Value := [.int .i64 0, .int .i64 0]
def okVal (_ : TVal) : Prop := True

set_option maxHeartbeats 400000 in
theorem szValS_any (v : Value) (l : List TVal) (left : Int) (w : World) (h : RdS w w.heap.size 2 cVal v l) (hok : ∀ x ∈ l, okVal x)
    (h0 : 0 ≤ left) (h1 : left ≤ 1048576) (hn : l.length ≤ 9223372036854775807) :
    Calls Try.prog 16 #[v, .int .i64 left] w (SzB l.length left w) := by
  obtain ⟨A, c, rfl, hlc, hcm, -⟩ := h
  by_cases hneg : left - l.length < 0
  · go_enter Try.func16, Try.ntmps16
    go_wp2
    go_ret
    exact ⟨_, rfl, Below.refl _ _, by omega, by omega, by omega⟩
  · go_enter Try.func16, Try.ntmps16
    go_wp2
    go_ret
    exact ⟨_, rfl, Below.refl _ _, by omega, by omega, by omega⟩

set_option maxHeartbeats 1000000 in
theorem toVal_any (x : TVal) (w : World) :
    Calls Try.prog 38 #[.agg #[.int .i64 x.1, .int .i64 x.2]] w fun e w' => e = .returned (.agg #[.int .i64 x.1, .int .i64 x.2]) ∧ Below w.heap.size w w' := by
  go_enter Try.func38, Try.ntmps38
  go_wp2
  go_returns
  exact ⟨rfl, by go_grown⟩

set_option maxHeartbeats 1000000 in
theorem eqVal_any (x y : TVal) (w : World) :
    Calls Try.prog 34 #[.agg #[.int .i64 x.1, .int .i64 x.2], .agg #[.int .i64 y.1, .int .i64 y.2]] w (SaysB (decide (x = y)) w) := by
  go_enter Try.func34, Try.ntmps34
  go_wp2
  all_goals go_ret
  · have h : (x.1 != y.1) = true := by assumption
    exact ⟨ret_bool (Eq.symm (decide_eq_false fun e => by subst e; simp at h)), by go_grown⟩
  · have h : (x.2 != y.2) = true := by assumption
    exact ⟨ret_bool (Eq.symm (decide_eq_false fun e => by subst e; simp at h)), by go_grown⟩
  · have h0 : (x.1 != y.1) = false := by assumption
    have h1 : (x.2 != y.2) = false := by assumption
    have e0 : x.1 = y.1 := by simpa using h0
    have e1 : x.2 = y.2 := by simpa using h1
    exact ⟨ret_bool (Eq.symm (decide_eq_true (Prod.ext e0 e1))), by go_grown⟩

theorem info_Val : (Try.prog.info? 57).map (fun i => (i.zero, i.size, i.bytes)) = some (some (.agg #[.int .i64 0, .int .i64 0]), 2, 16) := by kernel_rfl

set_option maxHeartbeats 1000000 in
theorem toValS_any (v : Value) (l : List TVal) (w : World) (h : RdS w w.heap.size 2 cVal v l) (hn : l.length ≤ 1099511627776) :
    Calls Try.prog 18 #[v] w (NewS w 2 cVal l) := by
  obtain ⟨A, c, rfl, hlc, hcm, hcell⟩ := h
  have hmk := fun W : World => run_mk (P := Try.prog) 24 57 _ zVal 2 16 Try.underlying24 info_Val rfl rfl .i64 .i64 l.length (by omega) (by omega) W
  go_enter Try.func18, Try.ntmps18
  go_wp2
  go_loopw [4] (fun i wr => ∃ k : Nat, k ≤ l.length ∧ i = .int .i64 k ∧ Row wr w.heap.size 57 (rowOf cVal zVal l k) ∧ Below w.heap.size w wr) (fun i _ => l.length - (intOf i).toNat)
  case atStart =>
    refine ⟨0, Nat.zero_le _, rfl, ?_, (Below.refl _ _).alloc (Nat.le_refl _) _⟩
    rw [rowOf_zero]
    exact Row.new _ _ _
  case round =>
    obtain ⟨k, hk, rfl, hrow, hb⟩ := hrel
    clear hmk
    by_cases hlt : k < l.length
    · obtain ⟨b, off, rfl, hbb, hc⟩ := hcell (by intro e; simp [e] at hlt)
      have hx0 := (hb.cell (p := ⟨b, off + k * 2 + 0, none⟩) hbb).trans (hc k _ (List.getElem?_eq_getElem hlt) 0 _ rfl)
      have hx1 := (hb.cell (p := ⟨b, off + k * 2 + 1, none⟩) hbb).trans (hc k _ (List.getElem?_eq_getElem hlt) 1 _ rfl)
      simp only [Nat.add_zero] at hx0
      clear hc hcell
      go_wp2_with fail
      refine (toVal_any l[k] _).mono ?_
      rintro e w1 ⟨rfl, hb1⟩
      have hb2 := hb.trans (hb1.mono hb.size)
      have hrow1 := hrow.below hb1 hrow.lt
      obtain ⟨u0, hu0⟩ := rowOf_old (f := cVal) (zs := zVal) (s := 2) (fun _ => rfl) rfl l k 0 hlt (by omega)
      have ho0 := (hrow1.cell (k * 2 + 0)).trans hu0
      have hf0 := hrow1.frozen (k * 2)
      obtain ⟨u1, hu1⟩ := rowOf_old (f := cVal) (zs := zVal) (s := 2) (fun _ => rfl) rfl l k 1 hlt (by omega)
      have ho1 := (hrow1.cell (k * 2 + 1)).trans hu1
      have hf1 := hrow1.frozen (k * 2 + 1)
      simp only [Nat.add_zero] at ho0
      clear hu0 hx0 hu1 hx1 hb1 hrow hb
      go_wp2_with fail
      have hset := rowOf_next (f := cVal) (zs := zVal) (s := 2) (fun _ => rfl) rfl l k hlt
      go_roundw
      case rel => exact ⟨k + 1, by omega, by go_num, hset ▸ ((hrow1.set _ _).set _ _), ((hb2.setCell (Nat.le_refl _) _).setCell (Nat.le_refl _) _)⟩
      case measure => simp [intOf]; omega
    · go_wp2
      go_ret
      have e : k = l.length := by omega
      subst e
      rw [rowOf_all] at hrow
      exact ⟨_, rfl, OwnS.of_row hrow (Nat.le_refl _) (fun _ => rfl) (by simp only [maxLen]; omega), hb⟩

set_option maxHeartbeats 1000000 in
theorem eqValS_any (v1 v2 : Value) (xs ys : List TVal) (w : World) (h1 : RdS w w.heap.size 2 cVal v1 xs) (h2 : RdS w w.heap.size 2 cVal v2 ys) (hn : xs.length ≤ 8796093022207) (hn2 : ys.length ≤ 8796093022207) :
    Calls Try.prog 11 #[v1, v2] w (SaysB (decide (xs = ys)) w) := by
  obtain ⟨A1, c1, rfl, hlc1, hcm1, hcell1⟩ := h1
  obtain ⟨A2, c2, rfl, hlc2, hcm2, hcell2⟩ := h2
  by_cases hl : xs.length = ys.length
  case neg =>
    have hne : decide (xs = ys) = false := by
      simp only [decide_eq_false_iff_not]
      intro e; exact hl (by rw [e])
    rw [hne]
    go_enter Try.func11, Try.ntmps11
    go_wp2
    go_ret
    exact ⟨rfl, Below.refl _ _⟩
  have hl1 : xs.length ≤ ys.length := by omega
  have hl2 : ys.length ≤ xs.length := by omega
  have hb0 : ((xs.length : Int) != ys.length) = false := by simp [hl]
  clear hl
  go_enter Try.func11, Try.ntmps11
  go_wp2
  go_loopw [5] (fun i wr => ∃ k : Nat, k ≤ xs.length ∧ i = .int .i64 k ∧ Below w.heap.size w wr ∧ xs.take k = ys.take k) (fun i _ => xs.length - (intOf i).toNat)
  case atStart => exact ⟨0, Nat.zero_le _, rfl, Below.refl _ _, by simp⟩
  case round =>
    obtain ⟨k, hk, rfl, hb, heq⟩ := hrel
    have HE := Lib.hid heq
    clear heq
    by_cases hlt : k < xs.length
    · obtain ⟨b1, o1, rfl, hbA, hcA⟩ := hcell1 (by intro e; simp [e] at hlt)
      obtain ⟨b2, o2, rfl, hbB, hcB⟩ := hcell2 (by intro e; simp [e] at hl1; simp [hl1] at hlt)
      have hlt2 : k < ys.length := by omega
      have hx0 := (hb.cell (p := ⟨b1, o1 + k * 2 + 0, none⟩) hbA).trans (hcA k _ (List.getElem?_eq_getElem hlt) 0 _ rfl)
      have hy0 := (hb.cell (p := ⟨b2, o2 + k * 2 + 0, none⟩) hbB).trans (hcB k _ (List.getElem?_eq_getElem hlt2) 0 _ rfl)
      have hx1 := (hb.cell (p := ⟨b1, o1 + k * 2 + 1, none⟩) hbA).trans (hcA k _ (List.getElem?_eq_getElem hlt) 1 _ rfl)
      have hy1 := (hb.cell (p := ⟨b2, o2 + k * 2 + 1, none⟩) hbB).trans (hcB k _ (List.getElem?_eq_getElem hlt2) 1 _ rfl)
      simp only [Nat.add_zero] at hx0 hy0
      clear hcA hcB hcell1 hcell2
      go_wp2
      go_still_tail 8, (by kernel_rfl)
      change wpList _ _ _ _ _ wr.drew
      go_wp2_with fail
      refine (eqVal_any xs[k] ys[k] _).mono ?_
      rintro e w1 ⟨rfl, hb1⟩
      have hb2 := hb.drew.trans (hb1.mono hb.size)
      clear hx0 hy0 hx1 hy1 hb hb1
      by_cases hxy : xs[k] = ys[k]
      · have hd : decide (xs[k] = ys[k]) = true := decide_eq_true hxy
        have HX := Lib.hid hxy
        clear hxy
        rw [hd]
        clear hd
        go_wp2_with fail
        go_roundw
        case rel => exact ⟨k + 1, by omega, by go_num, hb2, by rw [List.take_succ_eq_append_getElem hlt, List.take_succ_eq_append_getElem hlt2, HE.out, HX.out]⟩
        case measure => simp [intOf]; omega
      · have hd : decide (xs[k] = ys[k]) = false := decide_eq_false hxy
        have hne : decide (xs = ys) = false := by
          simp only [decide_eq_false_iff_not]
          intro e; subst e; exact hxy rfl
        have HN := Lib.hid hne
        clear hne hxy
        rw [hd]
        clear hd
        go_wp2_with fail
        go_ret
        exact ⟨ret_bool HN.out.symm, hb2⟩
    · have hall : decide (xs = ys) = true := by
        simp only [decide_eq_true_eq]
        have := HE.out
        rwa [List.take_of_length_le (by omega), List.take_of_length_le (by omega)] at this
      have HN := Lib.hid hall
      clear hall
      go_wp2
      go_ret
      exact ⟨ret_bool HN.out.symm, hb⟩

end Go.Proofs.Ytimnogjgokljbaa
