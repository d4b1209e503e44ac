/-
  String slices: szStringS, toStringS, eqStringS, by contracts.
-/
import Derived.Test.YtlogbmdfjnldlaaBase
import Derived.Test.YtlogbmdfjnldlaaRows
import Derived.Outline
import Derived.Handy
namespace Go.Proofs.Ytlogbmdfjnldlaa
set_option maxRecDepth 100000
set_option linter.unusedVariables false
set_option linter.unusedSimpArgs false
open Go.RowKit

def strsTot (ss : List ByteArray) : Nat := ss.length + (ss.map ByteArray.size).sum
theorem strsTot_ge (ss : List ByteArray) : ss.length ≤ strsTot ss := by unfold strsTot; omega

set_option maxHeartbeats 400000 in
theorem szStringS_raw (v : Value) (ss : List ByteArray) (left : Int) (B : Nat) (w : World) (h : RdS w B 1 cStr v ss) (hs : ∀ s ∈ ss, s.size ≤ maxLen)
    (h0 : 0 ≤ left) (h1 : left ≤ 1048576) (hn : ss.length ≤ 9223372036854775807) :
    Calls Try.prog 60 #[v, .int .i64 left] w (SzPost (strsTot ss) left w) := by
  obtain ⟨A, c, rfl, hlc, hcm, hcell⟩ := h
  go_enter Try.func60, Try.ntmps60
  by_cases hneg : left - ss.length < 0
  · go_wp2
    go_ret
    exact ⟨_, rfl, rfl, by omega, by omega, by omega⟩
  · go_wp2
    go_loop [1, 5] (fun l i => ∃ k : Nat, ∃ r : Int, k ≤ ss.length ∧ i = .int .i64 k ∧ l = .int .i64 r ∧ 0 ≤ r ∧ r ≤ left - ss.length ∧ (((ss.take k).map ByteArray.size).sum : Int) ≤ left - ss.length - r) (fun _ i => ss.length - (intOf i).toNat)
    case atStart => exact ⟨0, _, Nat.zero_le _, rfl, rfl, by omega, by omega, by simp⟩
    case round =>
      obtain ⟨k, r, hk, rfl, rfl, hr0, hr1, hr2⟩ := hrel
      by_cases hlt : k < ss.length
      · obtain ⟨b, off, rfl, hb, hc⟩ := hcell (by intro e; simp [e] at hlt)
        have hx := hc k _ (List.getElem?_eq_getElem hlt) 0 _ rfl
        have hsz : ss[k].size ≤ 9223372036854775807 := hs _ (List.getElem_mem hlt)
        have htk := sum_take_succ ByteArray.size ss k hlt
        have HT := Lib.hid htk
        clear htk hc hcell
        simp only [Nat.mul_one, Nat.add_zero] at hx
        by_cases hn2 : r - ss[k].size < 0
        · go_wp2
          go_ret
          exact ⟨_, rfl, rfl, by omega, by omega, by omega⟩
        · go_wp2
          go_round
          case rel => exact ⟨k + 1, _, by omega, by go_num, rfl, by omega, by omega, by rw [HT.out]; omega⟩
          case measure => simp [intOf]; omega
      · go_wp2
        go_ret
        have e : k = ss.length := by omega
        subst e
        refine ⟨_, rfl, rfl, by omega, by omega, fun _ => ?_⟩
        rw [List.take_length] at hr2
        unfold strsTot
        omega

def okString (s : ByteArray) : Prop := s.size ≤ maxLen
theorem szStringS_any (v : Value) (l : List ByteArray) (left : Int) (w : World) (h : RdS w w.heap.size 1 cStr v l) (hok : ∀ s ∈ l, okString s)
    (h0 : 0 ≤ left) (h1 : left ≤ 1048576) (hn : l.length ≤ 9223372036854775807) :
    Calls Try.prog 60 #[v, .int .i64 left] w (SzB (strsTot l) left w) :=
  (szStringS_raw v l left _ w h hok h0 h1 hn).mono fun _ _ hh => hh.szB

theorem info_str : (Try.prog.info? 9).map (fun i => (i.zero, i.size, i.bytes)) = some (some (.string ByteArray.empty), 1, 16) := by kernel_rfl

set_option maxHeartbeats 400000 in
theorem toStringS_any (v : Value) (ss : List ByteArray) (w : World) (h : RdS w w.heap.size 1 cStr v ss) (hn : ss.length ≤ 8796093022207) :
    Calls Try.prog 62 #[v] w (NewS w 1 cStr ss) := by
  obtain ⟨A, c, rfl, hlc, hcm, hcell⟩ := h
  have hmk := fun W : World => run_mk (P := Try.prog) 83 9 _ [.string ByteArray.empty] 1 16 Try.underlying83 info_str rfl rfl .i64 .i64 ss.length (by omega) (by omega) W
  go_enter Try.func62, Try.ntmps62
  go_wp2
  go_loopw [4] (fun i wr => ∃ k : Nat, k ≤ ss.length ∧ i = .int .i64 k ∧ Row wr w.heap.size 9 (rowOf cStr [.string ByteArray.empty] ss k) ∧ Below w.heap.size w wr) (fun i _ => ss.length - (intOf i).toNat)
  case atStart =>
    refine ⟨0, Nat.zero_le _, rfl, ?_, (Below.refl _ _).alloc (Nat.le_refl _) _⟩
    rw [rowOf_zero]
    exact Row.new _ _ _
  case round =>
    obtain ⟨k, hk, rfl, hrow, hb⟩ := hrel
    by_cases hlt : k < ss.length
    · obtain ⟨b, off, rfl, hbb, hc⟩ := hcell (by intro e; simp [e] at hlt)
      have hx := hc k _ (List.getElem?_eq_getElem hlt) 0 _ rfl
      have hx' := (hb.cell (p := ⟨b, off + k * 1 + 0, none⟩) hbb).trans hx
      obtain ⟨u, hu⟩ := rowOf_old (f := cStr) (zs := [.string ByteArray.empty]) (s := 1) (fun _ => rfl) rfl ss k 0 hlt (by omega)
      have ho := (hrow.cell (k * 1 + 0)).trans hu
      have hf := hrow.frozen (k * 1 + 0)
      have hnew := hrow.set (k * 1 + 0) (.string ss[k])
      have hset := rowOf_next (f := cStr) (zs := [.string ByteArray.empty]) (s := 1) (fun _ => rfl) rfl ss k hlt
      have hnew' : Row (wr.setCell ⟨w.heap.size, k * 1 + 0, none⟩ (.string ss[k])) w.heap.size 9 (rowOf cStr [.string ByteArray.empty] ss (k + 1)) := hset ▸ hnew
      simp only [Nat.mul_one, Nat.add_zero] at hx' ho hf hnew'
      have HN := Lib.hid hnew'
      clear hnew' hnew hset hu hc hcell hx hmk
      go_wp2
      go_roundw
      case rel => exact ⟨k + 1, by omega, by go_num, HN.out, hb.setCell (Nat.le_refl _) _⟩
      case measure => simp [intOf]; omega
    · go_wp2
      go_ret
      have e : k = ss.length := by omega
      subst e
      rw [rowOf_all] at hrow
      exact ⟨_, rfl, OwnS.of_row hrow (Nat.le_refl _) (fun _ => rfl) (by omega), hb⟩

set_option maxHeartbeats 400000 in
theorem eqStringS_raw (v1 v2 : Value) (xs ys : List ByteArray) (B : Nat) (w : World) (h1 : RdS w B 1 cStr v1 xs) (h2 : RdS w B 1 cStr v2 ys) (hn : xs.length ≤ 8796093022207) (hn2 : ys.length ≤ 8796093022207) :
    Calls Try.prog 64 #[v1, v2] w (Quiet (.bool (decide (xs = ys))) w) := by
  obtain ⟨A1, c1, rfl, hlc1, hcm1, hcell1⟩ := h1
  obtain ⟨A2, c2, rfl, hlc2, hcm2, hcell2⟩ := h2
  by_cases hl : xs.length = ys.length
  case neg =>
    have hne : decide (xs = ys) = false := by
      simp only [decide_eq_false_iff_not]
      intro e; exact hl (by rw [e])
    rw [hne]
    go_enter Try.func64, Try.ntmps64
    go_wp2
    go_ret
    exact ⟨rfl, 0, rfl⟩
  have HL := Lib.hid hl
  have hl1 : xs.length ≤ ys.length := by omega
  have hl2 : ys.length ≤ xs.length := by omega
  have hb0 : ((xs.length : Int) != ys.length) = false := by simp [hl]
  clear hl
  go_enter Try.func64, Try.ntmps64
  go_wp2
  go_loopw [5] (fun i wr => ∃ k m : Nat, k ≤ xs.length ∧ i = .int .i64 k ∧ wr = w.drewN m ∧ xs.take k = ys.take k) (fun i _ => xs.length - (intOf i).toNat)
  case atStart => exact ⟨0, 0, Nat.zero_le _, rfl, rfl, by simp⟩
  case round =>
    obtain ⟨k, m, hk, rfl, rfl, heq⟩ := hrel
    have HE := Lib.hid heq
    clear heq
    by_cases hlt : k < xs.length
    · obtain ⟨b1, o1, rfl, _, hcA⟩ := hcell1 (by intro e; simp [e] at hlt)
      obtain ⟨b2, o2, rfl, _, hcB⟩ := hcell2 (by intro e; simp [e] at hl1; simp [hl1] at hlt)
      have hlt2 : k < ys.length := by omega
      have hx := hcA k _ (List.getElem?_eq_getElem hlt) 0 _ rfl
      have hy := hcB k _ (List.getElem?_eq_getElem hlt2) 0 _ rfl
      simp only [Nat.mul_one, Nat.add_zero] at hx hy
      clear hcA hcB hcell1 hcell2
      by_cases hxy : xs[k] = ys[k]
      · have hq : (xs[k].toList == ys[k].toList) = true := by rw [ba_beq, hxy]; simp
        have HX := Lib.hid hxy
        clear hxy
        go_wp2
        go_quiet (fail)
        go_wp2
        go_roundw
        case rel => exact ⟨k + 1, _, by omega, by go_num, rfl, by rw [List.take_succ_eq_append_getElem hlt, List.take_succ_eq_append_getElem hlt2, HE.out, HX.out]⟩
        case measure => simp [intOf]; omega
      · have hq : (xs[k].toList == ys[k].toList) = false := by rw [ba_beq]; simpa using hxy
        have hne : decide (xs = ys) = false := by
          simp only [decide_eq_false_iff_not]
          intro e; subst e; exact hxy rfl
        have HN := Lib.hid hne
        clear hne hxy
        go_wp2
        go_quiet (fail)
        go_wp2
        go_ret
        exact ⟨ret_bool HN.out.symm, _, World.drewN_drewN _ _ _⟩
    · have hall : decide (xs = ys) = true := by
        simp only [decide_eq_true_eq]
        have := HE.out
        rwa [List.take_of_length_le (by omega), List.take_of_length_le (by omega)] at this
      have HN := Lib.hid hall
      clear hall
      go_wp2
      go_ret
      exact ⟨ret_bool HN.out.symm, _, rfl⟩

theorem eqStringS_any (v1 v2 : Value) (xs ys : List ByteArray) (w : World) (h1 : RdS w w.heap.size 1 cStr v1 xs) (h2 : RdS w w.heap.size 1 cStr v2 ys) (hn : xs.length ≤ 8796093022207) (hn2 : ys.length ≤ 8796093022207) :
    Calls Try.prog 64 #[v1, v2] w (SaysB (decide (xs = ys)) w) :=
  (eqStringS_raw v1 v2 xs ys _ w h1 h2 hn hn2).mono fun _ _ hh => hh.says

end Go.Proofs.Ytlogbmdfjnldlaa
