/-
  CSig: its size, copy, equality, mark and held functions, by contracts.
-/
import Derived.Test.YtimnogjgokljbaaGreatDoorG7
namespace Go.Proofs.YtimnogjgokljbaaGreatDoor
set_option maxRecDepth 100000
set_option linter.unusedVariables false
set_option linter.unusedSimpArgs false
open Go.RowKit

abbrev TCSig := Int × ByteArray
def cCSig (x : TCSig) : List Value := [.int .i64 x.1, .string x.2]
def zCSig : List Value := [.int .i64 0, .string ByteArray.empty]
def totCSig (x : TCSig) : Nat := x.2.size
def okCSig (x : TCSig) : Prop := x.2.size ≤ maxLen

set_option maxHeartbeats 1000000 in
theorem szCSig_any (x : TCSig) (left : Int) (w : World) (hok : okCSig x) (h0 : 0 ≤ left) (h1 : left ≤ 1048576) :
    Calls Tryz.prog 113 #[.agg #[.int .i64 x.1, .string x.2], .int .i64 left] w (SzB (totCSig x) left w) := by
  unfold okCSig maxLen at hok
  have s1 := hok
  go_enter Tryz.func113, Tryz.ntmps113
  go_wp2
  all_goals go_ret
  all_goals exact ⟨_, rfl, by go_grown, by omega, by omega, by unfold totCSig; omega⟩

set_option maxHeartbeats 1000000 in
theorem szCSigS_any (v : Value) (l : List TCSig) (left : Int) (w : World) (h : RdS w w.heap.size 2 cCSig v l) (hok : ∀ x ∈ l, okCSig x)
    (h0 : 0 ≤ left) (h1 : left ≤ 1048576) (hn : l.length ≤ 9223372036854775807) :
    Calls Tryz.prog 82 #[v, .int .i64 left] w (SzB (l.length + (l.map totCSig).sum) left w) := by
  obtain ⟨A, c, rfl, hlc, hcm, hcell⟩ := h
  go_enter Tryz.func82, Tryz.ntmps82
  by_cases hneg : left - l.length < 0
  · go_wp2
    go_ret
    exact ⟨_, rfl, Below.refl _ _, by omega, by omega, by omega⟩
  · go_wp2
    go_loopw [1, 5] (fun q i wr => ∃ k : Nat, ∃ r : Int, k ≤ l.length ∧ i = .int .i64 k ∧ q = .int .i64 r ∧ 0 ≤ r ∧ r ≤ left - l.length ∧ (((l.take k).map totCSig).sum : Int) ≤ left - l.length - r ∧ Below w.heap.size w wr) (fun _ i _ => l.length - (intOf i).toNat)
    case atStart => exact ⟨0, _, Nat.zero_le _, rfl, rfl, by omega, by omega, by simp, Below.refl _ _⟩
    case round =>
      obtain ⟨k, r, hk, rfl, rfl, hr0, hr1, hr2, hb⟩ := hrel
      by_cases hlt : k < l.length
      · obtain ⟨b, off, rfl, hbb, hc⟩ := hcell (by intro e; simp [e] at hlt)
        have hx0 := (hb.cell (p := ⟨b, off + k * 2 + 0, none⟩) hbb).trans (hc k _ (List.getElem?_eq_getElem hlt) 0 _ rfl)
        have hx1 := (hb.cell (p := ⟨b, off + k * 2 + 1, none⟩) hbb).trans (hc k _ (List.getElem?_eq_getElem hlt) 1 _ rfl)
        simp only [Nat.add_zero] at hx0
        have htk := sum_take_succ totCSig l k hlt
        have HT := Lib.hid htk
        have hokx := hok _ (List.getElem_mem hlt)
        clear htk hc hcell
        go_wp2_with fail
        refine (szCSig_any l[k] _ _ hokx (by omega) (by omega)).mono ?_
        rintro e w1 ⟨r1, rfl, hb1, hr3, hr4, hr5⟩
        have hb2 := hb.trans (hb1.mono hb.size)
        by_cases hn2 : r1 < 0
        · go_wp2_with fail
          go_ret
          exact ⟨_, rfl, hb2, by omega, by omega, by omega⟩
        · go_wp2_with fail
          go_roundw
          case rel => exact ⟨k + 1, _, by omega, by go_num, rfl, by omega, by omega, by rw [HT.out]; omega, hb2⟩
          case measure => simp [intOf]; omega
      · go_wp2
        go_ret
        have e : k = l.length := by omega
        subst e
        refine ⟨_, rfl, hb, by omega, by omega, fun _ => ?_⟩
        rw [List.take_length] at hr2
        omega

set_option maxHeartbeats 1000000 in
theorem toCSig_any (x : TCSig) (w : World) :
    Calls Tryz.prog 115 #[.agg #[.int .i64 x.1, .string x.2]] w fun e w' => e = .returned (.agg #[.int .i64 x.1, .string x.2]) ∧ Below w.heap.size w w' := by
  go_enter Tryz.func115, Tryz.ntmps115
  go_wp2
  go_returns
  exact ⟨rfl, by go_grown⟩

set_option maxHeartbeats 1000000 in
theorem eqCSig_any (x y : TCSig) (w : World) :
    Calls Tryz.prog 128 #[.agg #[.int .i64 x.1, .string x.2], .agg #[.int .i64 y.1, .string y.2]] w (SaysB (decide (x = y)) w) := by
  go_enter Tryz.func128, Tryz.ntmps128
  go_wp2
  all_goals go_ret
  · have h : (x.1 != y.1) = true := by assumption
    exact ⟨ret_bool (Eq.symm (decide_eq_false fun e => by subst e; simp at h)), by go_grown⟩
  · have h : (!x.2.toList == y.2.toList) = true := by assumption
    exact ⟨ret_bool (Eq.symm (decide_eq_false fun e => by subst e; simp at h)), by go_grown⟩
  · have h0 : (x.1 != y.1) = false := by assumption
    have h1 : (!x.2.toList == y.2.toList) = false := by assumption
    have e0 : x.1 = y.1 := by simpa using h0
    have e1 : x.2 = y.2 := ba_inj (by simpa using h1)
    exact ⟨ret_bool (Eq.symm (decide_eq_true (Prod.ext e0 e1))), by go_grown⟩

theorem info_CSig : (Tryz.prog.info? 124).map (fun i => (i.zero, i.size, i.bytes)) = some (some (.agg #[.int .i64 0, .string ByteArray.empty]), 2, 24) := by kernel_rfl

set_option maxHeartbeats 1000000 in
theorem toCSigS_any (v : Value) (l : List TCSig) (w : World) (h : RdS w w.heap.size 2 cCSig v l) (hn : l.length ≤ 1099511627776) :
    Calls Tryz.prog 86 #[v] w (NewS w 2 cCSig l) := by
  obtain ⟨A, c, rfl, hlc, hcm, hcell⟩ := h
  have hmk := fun W : World => run_mk (P := Tryz.prog) 45 124 _ zCSig 2 24 Tryz.underlying45 info_CSig rfl rfl .i64 .i64 l.length (by omega) (by omega) W
  go_enter Tryz.func86, Tryz.ntmps86
  go_wp2
  go_loopw [4] (fun i wr => ∃ k : Nat, k ≤ l.length ∧ i = .int .i64 k ∧ Row wr w.heap.size 124 (rowOf cCSig zCSig l k) ∧ Below w.heap.size w wr) (fun i _ => l.length - (intOf i).toNat)
  case atStart =>
    refine ⟨0, Nat.zero_le _, rfl, ?_, (Below.refl _ _).alloc (Nat.le_refl _) _⟩
    rw [rowOf_zero]
    exact Row.new _ _ _
  case round =>
    obtain ⟨k, hk, rfl, hrow, hb⟩ := hrel
    clear hmk
    by_cases hlt : k < l.length
    · obtain ⟨b, off, rfl, hbb, hc⟩ := hcell (by intro e; simp [e] at hlt)
      have hx0 := (hb.cell (p := ⟨b, off + k * 2 + 0, none⟩) hbb).trans (hc k _ (List.getElem?_eq_getElem hlt) 0 _ rfl)
      have hx1 := (hb.cell (p := ⟨b, off + k * 2 + 1, none⟩) hbb).trans (hc k _ (List.getElem?_eq_getElem hlt) 1 _ rfl)
      simp only [Nat.add_zero] at hx0
      clear hc hcell
      go_wp2_with fail
      refine (toCSig_any l[k] _).mono ?_
      rintro e w1 ⟨rfl, hb1⟩
      have hb2 := hb.trans (hb1.mono hb.size)
      have hrow1 := hrow.below hb1 hrow.lt
      obtain ⟨u0, hu0⟩ := rowOf_old (f := cCSig) (zs := zCSig) (s := 2) (fun _ => rfl) rfl l k 0 hlt (by omega)
      have ho0 := (hrow1.cell (k * 2 + 0)).trans hu0
      have hf0 := hrow1.frozen (k * 2)
      obtain ⟨u1, hu1⟩ := rowOf_old (f := cCSig) (zs := zCSig) (s := 2) (fun _ => rfl) rfl l k 1 hlt (by omega)
      have ho1 := (hrow1.cell (k * 2 + 1)).trans hu1
      have hf1 := hrow1.frozen (k * 2 + 1)
      simp only [Nat.add_zero] at ho0
      clear hu0 hx0 hu1 hx1 hb1 hrow hb
      go_wp2_with fail
      have hset := rowOf_next (f := cCSig) (zs := zCSig) (s := 2) (fun _ => rfl) rfl l k hlt
      go_roundw
      case rel => exact ⟨k + 1, by omega, by go_num, hset ▸ ((hrow1.set _ _).set _ _), ((hb2.setCell (Nat.le_refl _) _).setCell (Nat.le_refl _) _)⟩
      case measure => simp [intOf]; omega
    · go_wp2
      go_ret
      have e : k = l.length := by omega
      subst e
      rw [rowOf_all] at hrow
      exact ⟨_, rfl, OwnS.of_row hrow (Nat.le_refl _) (fun _ => rfl) (by simp only [maxLen]; omega), hb⟩

set_option maxHeartbeats 1000000 in
theorem eqCSigS_any (v1 v2 : Value) (xs ys : List TCSig) (w : World) (h1 : RdS w w.heap.size 2 cCSig v1 xs) (h2 : RdS w w.heap.size 2 cCSig v2 ys) (hn : xs.length ≤ 8796093022207) (hn2 : ys.length ≤ 8796093022207) :
    Calls Tryz.prog 95 #[v1, v2] w (SaysB (decide (xs = ys)) w) := by
  obtain ⟨A1, c1, rfl, hlc1, hcm1, hcell1⟩ := h1
  obtain ⟨A2, c2, rfl, hlc2, hcm2, hcell2⟩ := h2
  by_cases hl : xs.length = ys.length
  case neg =>
    have hne : decide (xs = ys) = false := by
      simp only [decide_eq_false_iff_not]
      intro e; exact hl (by rw [e])
    rw [hne]
    go_enter Tryz.func95, Tryz.ntmps95
    go_wp2
    go_ret
    exact ⟨rfl, Below.refl _ _⟩
  have hl1 : xs.length ≤ ys.length := by omega
  have hl2 : ys.length ≤ xs.length := by omega
  have hb0 : ((xs.length : Int) != ys.length) = false := by simp [hl]
  clear hl
  go_enter Tryz.func95, Tryz.ntmps95
  go_wp2
  go_loopw [5] (fun i wr => ∃ k : Nat, k ≤ xs.length ∧ i = .int .i64 k ∧ Below w.heap.size w wr ∧ xs.take k = ys.take k) (fun i _ => xs.length - (intOf i).toNat)
  case atStart => exact ⟨0, Nat.zero_le _, rfl, Below.refl _ _, by simp⟩
  case round =>
    obtain ⟨k, hk, rfl, hb, heq⟩ := hrel
    have HE := Lib.hid heq
    clear heq
    by_cases hlt : k < xs.length
    · obtain ⟨b1, o1, rfl, hbA, hcA⟩ := hcell1 (by intro e; simp [e] at hlt)
      obtain ⟨b2, o2, rfl, hbB, hcB⟩ := hcell2 (by intro e; simp [e] at hl1; simp [hl1] at hlt)
      have hlt2 : k < ys.length := by omega
      have hx0 := (hb.cell (p := ⟨b1, o1 + k * 2 + 0, none⟩) hbA).trans (hcA k _ (List.getElem?_eq_getElem hlt) 0 _ rfl)
      have hy0 := (hb.cell (p := ⟨b2, o2 + k * 2 + 0, none⟩) hbB).trans (hcB k _ (List.getElem?_eq_getElem hlt2) 0 _ rfl)
      have hx1 := (hb.cell (p := ⟨b1, o1 + k * 2 + 1, none⟩) hbA).trans (hcA k _ (List.getElem?_eq_getElem hlt) 1 _ rfl)
      have hy1 := (hb.cell (p := ⟨b2, o2 + k * 2 + 1, none⟩) hbB).trans (hcB k _ (List.getElem?_eq_getElem hlt2) 1 _ rfl)
      simp only [Nat.add_zero] at hx0 hy0
      clear hcA hcB hcell1 hcell2
      go_wp2
      go_still_tail 8, (by kernel_rfl)
      change wpList _ _ _ _ _ wr.drew
      go_wp2_with fail
      refine (eqCSig_any xs[k] ys[k] _).mono ?_
      rintro e w1 ⟨rfl, hb1⟩
      have hb2 := hb.drew.trans (hb1.mono hb.size)
      clear hx0 hy0 hx1 hy1 hb hb1
      by_cases hxy : xs[k] = ys[k]
      · have hd : decide (xs[k] = ys[k]) = true := decide_eq_true hxy
        have HX := Lib.hid hxy
        clear hxy
        rw [hd]
        clear hd
        go_wp2_with fail
        go_roundw
        case rel => exact ⟨k + 1, by omega, by go_num, hb2, by rw [List.take_succ_eq_append_getElem hlt, List.take_succ_eq_append_getElem hlt2, HE.out, HX.out]⟩
        case measure => simp [intOf]; omega
      · have hd : decide (xs[k] = ys[k]) = false := decide_eq_false hxy
        have hne : decide (xs = ys) = false := by
          simp only [decide_eq_false_iff_not]
          intro e; subst e; exact hxy rfl
        have HN := Lib.hid hne
        clear hne hxy
        rw [hd]
        clear hd
        go_wp2_with fail
        go_ret
        exact ⟨ret_bool HN.out.symm, hb2⟩
    · have hall : decide (xs = ys) = true := by
        simp only [decide_eq_true_eq]
        have := HE.out
        rwa [List.take_of_length_le (by omega), List.take_of_length_le (by omega)] at this
      have HN := Lib.hid hall
      clear hall
      go_wp2
      go_ret
      exact ⟨ret_bool HN.out.symm, hb⟩

end Go.Proofs.YtimnogjgokljbaaGreatDoor
