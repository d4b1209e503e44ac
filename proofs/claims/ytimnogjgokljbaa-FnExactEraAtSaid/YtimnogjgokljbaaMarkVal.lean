/-
  Marking and holding slices of Val, by contracts.
-/
import Derived.Test.YtimnogjgokljbaaMark
import Derived.Test.YtimnogjgokljbaaFlatVal
namespace Go.Proofs.Ytimnogjgokljbaa
set_option maxRecDepth 100000
set_option linter.unusedVariables false
set_option linter.unusedSimpArgs false
open Go.RowKit

def mkVal (k : Nat) : TVal := ((k : Int), (k : Int) + 1)
theorem cVal_len (x : TVal) : (cVal x).length = 2 := rfl
set_option maxHeartbeats 2000000 in
theorem markValS_any (v : Value) (l : List TVal) (k B0 : Nat) (w : World) (h : OwnS w B0 2 cVal v l) (h0 : 0 < k) (hn : k + 2 * l.length ≤ 1099511627776) :
    Calls Try.prog 14 #[v, .int .i64 (k : Int)] w (Marks B0 2 cVal v (marked mkVal 2 k l.length) (k + 2 * l.length) w) := by
  by_cases hne : l = []
  · subst hne
    obtain ⟨A, c, rfl, h1, h2, h3⟩ := h
    go_enter Try.func14, Try.ntmps14
    go_wp2_with fail
    refine wp_loop_rounds 1 ?_
    rw [rounds_succ]
    go_wp2_with fail
    go_ret
    exact ⟨rfl, ⟨A, c, rfl, h1, h2, fun e => absurd rfl e⟩, fun _ => rfl, World.grownBy.refl _ _⟩
  obtain ⟨b, off, c, rfl, hlc, hcm, hat⟩ := h.at_ hne
  clear h
  go_enter Try.func14, Try.ntmps14
  go_wp2_with fail
  go_loopw [1, 5] (fun q i wr => ∃ j m : Nat, j ≤ l.length ∧ m = k + 2 * j ∧ i = .int .i64 j ∧ q = .int .i64 m ∧ OwnAt wr B0 2 cVal b off (marks mkVal 2 k j l) ∧ w.grownBy wr (some b)) (fun _ i _ => l.length - (intOf i).toNat)
  case atStart => exact ⟨0, k, Nat.zero_le _, rfl, rfl, rfl, by rw [marks_zero]; exact hat, World.grownBy.refl _ _⟩
  case round =>
    obtain ⟨j, m, hj, hm, rfl, rfl, ho, hg⟩ := hrel
    have hm1 : 0 < m := by omega
    have hm2 : m + 2 * (l.length - j) ≤ 1099511627776 := by omega
    have HM := Lib.hid hm
    clear hm
    by_cases hlt : j < l.length
    · have hml : j < (marks mkVal 2 k j l).length := by rw [length_marks hj]; exact hlt
      obtain ⟨x, hx⟩ : ∃ x, (marks mkVal 2 k j l)[j]? = some x := ⟨_, List.getElem?_eq_getElem hml⟩
      obtain ⟨u0, hx0⟩ := ho.old cVal_len (i := j) (by simpa using hml) (j := 0) (by omega)
      have hf0 := ho.2.2.1 (off + j * 2 + 0)
      simp only [Nat.add_zero] at hx0 hf0
      obtain ⟨u1, hx1⟩ := ho.old cVal_len (i := j) (by simpa using hml) (j := 1) (by omega)
      have hf1 := ho.2.2.1 (off + j * 2 + 1)
      have oc0 := ho.field (i := j) (j := 0) (u := .int .i64 ((m : Int))) (y := (((m : Int), x.2) : TVal)) cVal_len (by simpa using hml) (by omega) (by rw [(List.getElem?_eq_some_iff.1 hx).2]; rfl)
      have hy0 := List.getElem?_set_self (l := (marks mkVal 2 k j l)) (i := j) (a := (((m : Int), x.2) : TVal)) (by simpa using hml)
      have gc0 := only_setCell hg (p := ⟨b, off + j * 2 + 0, none⟩) rfl (.int .i64 ((m : Int)))
      simp only [Nat.add_zero] at oc0 gc0
      have oc1 := oc0.field (i := j) (j := 1) (u := .int .i64 ((m : Int) + 1)) (y := (((m : Int), (m : Int) + 1) : TVal)) cVal_len (by simpa using hml) (by omega) (by rw [(List.getElem?_eq_some_iff.1 hy0).2]; rfl)
      have hy1 := List.getElem?_set_self (l := ((marks mkVal 2 k j l).set j (((m : Int), x.2) : TVal))) (i := j) (a := (((m : Int), (m : Int) + 1) : TVal)) (by simpa using hml)
      have gc1 := only_setCell gc0 (p := ⟨b, off + j * 2 + 1, none⟩) rfl (.int .i64 ((m : Int) + 1))
      try simp only [List.set_set] at oc1
      rw [marks_next hlt _ (by rw [← HM.out]; rfl)] at oc1
      have HO' := Lib.hid oc1
      have HG' := Lib.hid gc1
      clear hy1 oc1 gc1 hy0 oc0 gc0 ho hg hx hml hat
      go_wp2_with fail
      go_roundw
      case rel => exact ⟨j + 1, m + 2, by omega, by rw [HM.out]; omega, by go_num, by go_num, HO'.out, HG'.out⟩
      case measure => simp [intOf]; omega
    · go_wp2_with fail
      go_ret
      have e : j = l.length := by omega
      subst e
      rw [marks_all] at ho
      have hl : (marked mkVal 2 k l.length).length = l.length := length_marked
      refine ⟨ret_int (by rw [HM.out]), ?_, fun e => absurd (List.length_eq_zero_iff.1 (by rw [e] at hl; simpa using hl.symm)) hne, hg⟩
      have := ho.slice (c := c) (by rw [hl]; exact hlc) hcm
      rwa [hl] at this
theorem markValS_at (v : Value) (l : List TVal) (k : Nat) (q : Int) (k' : Nat) (w : World) (lo hi : Nat) (h : OwnI w lo hi 2 cVal v l) (hk : k' = k + 2 * l.length) (h0 : 0 < k ∧ q = k) (hn : k' ≤ 1099511627776) :
    Calls Try.prog 14 #[v, .int .i64 q] w fun e w' => e = .returned (.int .i64 (k' : Int)) ∧ OwnI w' lo hi 2 cVal v (marked mkVal 2 k l.length) ∧ Only lo hi w w' := by
  obtain ⟨h0, rfl⟩ := h0
  subst hk
  exact (markValS_any v l k lo w h.1 h0 hn).mono fun _ _ hh => hh.own h rfl length_marked

set_option maxHeartbeats 2000000 in
theorem heldValS_any (v : Value) (n : Nat) (k : Nat) (w : World) (h : RdS w w.heap.size 2 cVal v (marked mkVal 2 k n)) (h0 : 0 < k) (hn : k + 2 * n ≤ 1099511627776) :
    Calls Try.prog 15 #[v, .int .i64 (k : Int)] w (Held (k + 2 * n) w) := by
  obtain ⟨A, c, rfl, hlc, hcm, hcell⟩ := h
  have hml : (marked mkVal 2 k n).length = n := length_marked
  rw [hml] at hlc ⊢
  go_enter Try.func15, Try.ntmps15
  go_wp2_with fail
  go_loopw [1, 5] (fun q i wr => ∃ j m : Nat, j ≤ n ∧ m = k + 2 * j ∧ i = .int .i64 j ∧ q = .int .i64 m ∧ Below w.heap.size w wr) (fun _ i _ => n - (intOf i).toNat)
  case atStart => exact ⟨0, k, Nat.zero_le _, rfl, rfl, rfl, Below.refl _ _⟩
  case round =>
    obtain ⟨j, m, hj, hm, rfl, rfl, hb⟩ := hrel
    have hm1 : 0 < m := by omega
    have hm2 : m + 2 * (n - j) ≤ 1099511627776 := by omega
    by_cases hlt : j < n
    · obtain ⟨b, off, rfl, hbb, hc⟩ := hcell (by intro e; rw [e] at hml; simp at hml; omega)
      have gx0 := (hb.cell (p := ⟨b, off + j * 2 + 0, none⟩) hbb).trans (hc j _ (marked_get hlt) 0 _ rfl)
      rw [← hm] at gx0
      have hx0 : wr.cell? ⟨b, off + j * 2 + 0, none⟩ = some (.int .i64 ((m : Int))) := gx0
      clear gx0
      simp only [Nat.add_zero] at hx0
      have gx1 := (hb.cell (p := ⟨b, off + j * 2 + 1, none⟩) hbb).trans (hc j _ (marked_get hlt) 1 _ rfl)
      rw [← hm] at gx1
      have hx1 : wr.cell? ⟨b, off + j * 2 + 1, none⟩ = some (.int .i64 ((m : Int) + 1)) := gx1
      clear gx1
      have HM := Lib.hid hm
      have hbw : b < wr.heap.size := Nat.lt_of_lt_of_le hbb hb.size
      clear hm hc hcell hml
      go_wp2_with fail
      go_roundw
      case rel => exact ⟨j + 1, m + 2, by omega, by rw [HM.out]; omega, by go_num, by go_num, hb⟩
      case measure => simp [intOf]; omega
    · go_wp2_with fail
      go_ret
      have e : j = n := by omega
      subst e
      exact ⟨ret_int (by rw [hm]), hb⟩
theorem heldValS_at (v : Value) (n k : Nat) (q : Int) (k' : Nat) (w : World) (h : RdS w w.heap.size 2 cVal v (marked mkVal 2 k n)) (hk : k' = k + 2 * n) (h0 : 0 < k ∧ q = k) (hn : k' ≤ 1099511627776) :
    Calls Try.prog 15 #[v, .int .i64 q] w (Held k' w) := by
  obtain ⟨h0, rfl⟩ := h0
  subst hk
  exact heldValS_any v n k w h h0 hn

end Go.Proofs.Ytimnogjgokljbaa
