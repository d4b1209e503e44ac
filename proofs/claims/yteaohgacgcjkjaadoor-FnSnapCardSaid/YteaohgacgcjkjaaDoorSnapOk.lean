/-
  SnapOk of spec and impl, by one contract.
-/
import Derived.Test.YteaohgacgcjkjaaDoorStr
import Derived.Test.YteaohgacgcjkjaaDoorOneBool
import Derived.Test.YteaohgacgcjkjaaDoorWithin
namespace Go.Proofs.YteaohgacgcjkjaaDoor
set_option maxRecDepth 100000
set_option linter.unusedVariables false
set_option linter.unusedSimpArgs false
open Go.RowKit

def emp : ByteArray := ByteArray.empty
/-- is the snapshot valid? -/
def snapOk (r : ByteArray) (c : Int) (h : List ByteArray) (g : List Bool) : Prop :=
  r.size = 32 ∧ (1 ≤ c ∧ c ≤ 40) ∧ (h.length : Int) = c ∧ (g.length : Int) = c ∧ ∀ k, k < g.length → g.getD k true = false → h.getD k emp = emp
instance (r : ByteArray) (c : Int) (h : List ByteArray) (g : List Bool) : Decidable (snapOk r c h g) := by unfold snapOk; infer_instance

theorem emp_toList : emp.toList = [] := by rw [ByteArray.toList_eq]; rfl
theorem emp_iff (s : ByteArray) : s = emp ↔ s.toList.isEmpty = true := by
  constructor
  · rintro rfl; rw [emp_toList]; rfl
  · intro h
    apply ba_inj
    rw [List.isEmpty_iff.1 h, emp_toList]

set_option maxHeartbeats 2000000 in
theorem snapOk_spec (r : ByteArray) (c : Int) (vh vg : Value) (hv : List ByteArray) (gv : List Bool) (w : World) (h1 : RdS w w.heap.size 1 cStr vh hv) (h2 : RdS w w.heap.size 1 cBool vg gv)
    (hr : r.size ≤ 1048576) (hn1 : hv.length ≤ 1048576) (hn2 : gv.length ≤ 1048576) :
    Calls Tryd.prog 25 #[.agg #[.string r, .int .i64 c, vh, vg]] w (SaysB (decide (snapOk r c hv gv)) w) := by
  obtain ⟨A1, c1, rfl, hlc1, hcm1, hcell1⟩ := h1
  obtain ⟨A2, c2, rfl, hlc2, hcm2, hcell2⟩ := h2
  by_cases b1 : r.size = 32
  case neg =>
    rw [show decide (snapOk r c hv gv) = false from decide_eq_false fun e => b1 e.1]
    have d1 : ((r.size : Int) != 32) = true := bne_iff_ne.2 (by omega)
    clear b1
    go_enter Tryd.func25, Tryd.ntmps25
    go_wp2_with fail
    go_ret
    exact ⟨rfl, by go_grown⟩
  have d1 : ((r.size : Int) != 32) = false := by simp; omega
  by_cases b2 : 1 ≤ c ∧ c ≤ 40
  case neg =>
    rw [show decide (snapOk r c hv gv) = false from decide_eq_false fun e => b2 e.2.1]
    clear b1
    go_enter Tryd.func25, Tryd.ntmps25
    go_wp2_with fail
    refine (l1In_no _ _ _ _ (by omega)).mono ?_
    rintro e w' ⟨rfl, rfl⟩
    go_wp2_with fail
    go_ret
    exact ⟨rfl, by go_grown⟩
  by_cases b3 : (hv.length : Int) = c
  case neg =>
    rw [show decide (snapOk r c hv gv) = false from decide_eq_false fun e => b3 e.2.2.1]
    have d3 : ((hv.length : Int) != c) = true := bne_iff_ne.2 b3
    clear b1 b3
    go_enter Tryd.func25, Tryd.ntmps25
    go_wp2_with fail
    refine (l1In_yes _ _ _ _ (by omega) (by omega)).mono ?_
    rintro e w' ⟨rfl, rfl⟩
    go_wp2_with fail
    go_ret
    exact ⟨rfl, by go_grown⟩
  have d3 : ((hv.length : Int) != c) = false := by simp [b3]
  by_cases b4 : (gv.length : Int) = c
  case neg =>
    rw [show decide (snapOk r c hv gv) = false from decide_eq_false fun e => b4 e.2.2.2.1]
    have d4 : ((gv.length : Int) != c) = true := bne_iff_ne.2 b4
    clear b1 b3 b4
    go_enter Tryd.func25, Tryd.ntmps25
    go_wp2_with fail
    refine (l1In_yes _ _ _ _ (by omega) (by omega)).mono ?_
    rintro e w' ⟨rfl, rfl⟩
    go_wp2_with fail
    go_ret
    exact ⟨rfl, by go_grown⟩
  have d4 : ((gv.length : Int) != c) = false := by simp [b4]
  obtain ⟨b2a, b2b⟩ := b2
  have HB := Lib.hid (And.intro b1 (And.intro b3 b4))
  have l1 : (hv.length : Int) ≤ c := by omega
  have l2 : c ≤ (hv.length : Int) := by omega
  have l3 : (gv.length : Int) ≤ c := by omega
  have l4 : c ≤ (gv.length : Int) := by omega
  clear b1 b3 b4
  go_enter Tryd.func25, Tryd.ntmps25
  go_wp2_with fail
  refine (l1In_yes _ _ _ _ (by omega) (by omega)).mono ?_
  rintro e w' ⟨rfl, hw⟩
  subst w'
  go_wp2_with fail
  go_loop [3] (fun i => ∃ k : Nat, k ≤ gv.length ∧ i = .int .i64 k ∧ ∀ j, j < k → gv.getD j true = false → hv.getD j emp = emp) (fun i => gv.length - (intOf i).toNat)
  case atStart => exact ⟨0, Nat.zero_le _, rfl, by omega⟩
  case round =>
    obtain ⟨k, hk, rfl, hall⟩ := hrel
    have HA := Lib.hid hall
    clear hall
    by_cases hlt : k < gv.length
    · have hlt1 : k < hv.length := by omega
      obtain ⟨p1, o1, rfl, hp1, hc1⟩ := hcell1 (by intro e; simp [e] at hlt1)
      obtain ⟨p2, o2, rfl, hp2, hc2⟩ := hcell2 (by intro e; simp [e] at hlt)
      have hx := hc1 k _ (List.getElem?_eq_getElem hlt1) 0 _ rfl
      have hy := hc2 k _ (List.getElem?_eq_getElem hlt) 0 _ rfl
      simp only [Nat.mul_one, Nat.add_zero] at hx hy
      have g1 := Lib.hid (show hv.getD k emp = hv[k] by simp [List.getD, hlt1])
      have g2 := Lib.hid (show gv.getD k true = gv[k] by simp [List.getD, hlt])
      have dk : decide ((k : Int) < c) = true := decide_eq_true (by omega)
      clear hc1 hc2 hcell1 hcell2
      by_cases q1 : gv[k] = true
      · have HQ := Lib.hid q1
        go_wp2_with fail
        go_round
        case rel =>
          refine ⟨k + 1, by omega, by go_num, fun j hj hg => ?_⟩
          rcases Nat.lt_or_ge j k with h | h
          · exact HA.out j h hg
          · obtain rfl : j = k := by omega
            rw [g2.out, HQ.out] at hg; cases hg
        case measure => simp [intOf]; omega
      · have q1' : gv[k] = false := by simpa using q1
        have HQ := Lib.hid q1'
        clear q1
        by_cases q2 : hv[k].toList.isEmpty = true
        · have q3 : hv[k].toList = [] := List.isEmpty_iff.1 q2
          have HE := Lib.hid ((emp_iff _).2 q2)
          go_wp2_with fail
          go_round
          case rel =>
            refine ⟨k + 1, by omega, by go_num, fun j hj hg => ?_⟩
            rcases Nat.lt_or_ge j k with h | h
            · exact HA.out j h hg
            · obtain rfl : j = k := by omega
              rw [g1.out, HE.out]
          case measure => simp [intOf]; omega
        · have q2' : hv[k].toList.isEmpty = false := by simpa using q2
          have HN := Lib.hid (show decide (snapOk r c hv gv) = false from decide_eq_false fun e => by
            have := e.2.2.2.2 k hlt (by rw [g2.out, HQ.out])
            rw [g1.out] at this
            exact q2 ((emp_iff _).1 this))
          clear q2
          go_wp2_with fail
          go_ret
          exact ⟨ret_bool HN.out.symm, by go_grown⟩
    · have HN := Lib.hid (show decide (snapOk r c hv gv) = true from decide_eq_true ⟨HB.out.1, ⟨b2a, b2b⟩, HB.out.2.1, HB.out.2.2, fun j hj => HA.out j (by omega)⟩)
      have dk : decide ((k : Int) < c) = false := decide_eq_false (by omega)
      go_wp2_with fail
      go_ret
      exact ⟨ret_bool HN.out.symm, by go_grown⟩

set_option maxHeartbeats 2000000 in
theorem snapOk_impl (r : ByteArray) (c : Int) (vh vg : Value) (hv : List ByteArray) (gv : List Bool) (w : World) (h1 : RdS w w.heap.size 1 cStr vh hv) (h2 : RdS w w.heap.size 1 cBool vg gv)
    (hr : r.size ≤ 1048576) (hn1 : hv.length ≤ 1048576) (hn2 : gv.length ≤ 1048576) :
    Calls Tryd.prog 45 #[.agg #[.string r, .int .i64 c, vh, vg]] w (SaysB (decide (snapOk r c hv gv)) w) := by
  obtain ⟨A1, c1, rfl, hlc1, hcm1, hcell1⟩ := h1
  obtain ⟨A2, c2, rfl, hlc2, hcm2, hcell2⟩ := h2
  by_cases b1 : r.size = 32
  case neg =>
    rw [show decide (snapOk r c hv gv) = false from decide_eq_false fun e => b1 e.1]
    have d1 : ((r.size : Int) != 32) = true := bne_iff_ne.2 (by omega)
    clear b1
    go_enter Tryd.func45, Tryd.ntmps45
    go_wp2_with fail
    go_ret
    exact ⟨rfl, by go_grown⟩
  have d1 : ((r.size : Int) != 32) = false := by simp; omega
  by_cases b2 : 1 ≤ c ∧ c ≤ 40
  case neg =>
    rw [show decide (snapOk r c hv gv) = false from decide_eq_false fun e => b2 e.2.1]
    clear b1
    go_enter Tryd.func45, Tryd.ntmps45
    go_wp2_with fail
    refine (within_no _ _ _ _ (by omega)).mono ?_
    rintro e w' ⟨rfl, rfl⟩
    go_wp2_with fail
    go_ret
    exact ⟨rfl, by go_grown⟩
  by_cases b3 : (hv.length : Int) = c
  case neg =>
    rw [show decide (snapOk r c hv gv) = false from decide_eq_false fun e => b3 e.2.2.1]
    have d3 : ((hv.length : Int) != c) = true := bne_iff_ne.2 b3
    clear b1 b3
    go_enter Tryd.func45, Tryd.ntmps45
    go_wp2_with fail
    refine (within_yes _ _ _ _ (by omega) (by omega)).mono ?_
    rintro e w' ⟨rfl, rfl⟩
    go_wp2_with fail
    go_ret
    exact ⟨rfl, by go_grown⟩
  have d3 : ((hv.length : Int) != c) = false := by simp [b3]
  by_cases b4 : (gv.length : Int) = c
  case neg =>
    rw [show decide (snapOk r c hv gv) = false from decide_eq_false fun e => b4 e.2.2.2.1]
    have d4 : ((gv.length : Int) != c) = true := bne_iff_ne.2 b4
    clear b1 b3 b4
    go_enter Tryd.func45, Tryd.ntmps45
    go_wp2_with fail
    refine (within_yes _ _ _ _ (by omega) (by omega)).mono ?_
    rintro e w' ⟨rfl, rfl⟩
    go_wp2_with fail
    go_ret
    exact ⟨rfl, by go_grown⟩
  have d4 : ((gv.length : Int) != c) = false := by simp [b4]
  obtain ⟨b2a, b2b⟩ := b2
  have HB := Lib.hid (And.intro b1 (And.intro b3 b4))
  have l1 : (hv.length : Int) ≤ c := by omega
  have l2 : c ≤ (hv.length : Int) := by omega
  have l3 : (gv.length : Int) ≤ c := by omega
  have l4 : c ≤ (gv.length : Int) := by omega
  clear b1 b3 b4
  go_enter Tryd.func45, Tryd.ntmps45
  go_wp2_with fail
  refine (within_yes _ _ _ _ (by omega) (by omega)).mono ?_
  rintro e w' ⟨rfl, hw⟩
  subst w'
  go_wp2_with fail
  go_loop [34] (fun i => ∃ k : Nat, k ≤ gv.length ∧ i = .int .i64 k ∧ ∀ j, j < k → gv.getD j true = false → hv.getD j emp = emp) (fun i => gv.length - (intOf i).toNat)
  case atStart => exact ⟨0, Nat.zero_le _, rfl, by omega⟩
  case round =>
    obtain ⟨k, hk, rfl, hall⟩ := hrel
    have HA := Lib.hid hall
    clear hall
    by_cases hlt : k < gv.length
    · have hlt1 : k < hv.length := by omega
      obtain ⟨p1, o1, rfl, hp1, hc1⟩ := hcell1 (by intro e; simp [e] at hlt1)
      obtain ⟨p2, o2, rfl, hp2, hc2⟩ := hcell2 (by intro e; simp [e] at hlt)
      have hx := hc1 k _ (List.getElem?_eq_getElem hlt1) 0 _ rfl
      have hy := hc2 k _ (List.getElem?_eq_getElem hlt) 0 _ rfl
      simp only [Nat.mul_one, Nat.add_zero] at hx hy
      have g1 := Lib.hid (show hv.getD k emp = hv[k] by simp [List.getD, hlt1])
      have g2 := Lib.hid (show gv.getD k true = gv[k] by simp [List.getD, hlt])
      have dk : decide ((k : Int) < c) = true := decide_eq_true (by omega)
      clear hc1 hc2 hcell1 hcell2
      by_cases q1 : gv[k] = true
      · have HQ := Lib.hid q1
        go_wp2_with fail
        go_round
        case rel =>
          refine ⟨k + 1, by omega, by go_num, fun j hj hg => ?_⟩
          rcases Nat.lt_or_ge j k with h | h
          · exact HA.out j h hg
          · obtain rfl : j = k := by omega
            rw [g2.out, HQ.out] at hg; cases hg
        case measure => simp [intOf]; omega
      · have q1' : gv[k] = false := by simpa using q1
        have HQ := Lib.hid q1'
        clear q1
        by_cases q2 : hv[k].toList.isEmpty = true
        · have q3 : hv[k].toList = [] := List.isEmpty_iff.1 q2
          have HE := Lib.hid ((emp_iff _).2 q2)
          go_wp2_with fail
          go_round
          case rel =>
            refine ⟨k + 1, by omega, by go_num, fun j hj hg => ?_⟩
            rcases Nat.lt_or_ge j k with h | h
            · exact HA.out j h hg
            · obtain rfl : j = k := by omega
              rw [g1.out, HE.out]
          case measure => simp [intOf]; omega
        · have q2' : hv[k].toList.isEmpty = false := by simpa using q2
          have HN := Lib.hid (show decide (snapOk r c hv gv) = false from decide_eq_false fun e => by
            have := e.2.2.2.2 k hlt (by rw [g2.out, HQ.out])
            rw [g1.out] at this
            exact q2 ((emp_iff _).1 this))
          clear q2
          go_wp2_with fail
          go_ret
          exact ⟨ret_bool HN.out.symm, by go_grown⟩
    · have HN := Lib.hid (show decide (snapOk r c hv gv) = true from decide_eq_true ⟨HB.out.1, ⟨b2a, b2b⟩, HB.out.2.1, HB.out.2.2, fun j hj => HA.out j (by omega)⟩)
      have dk : decide ((k : Int) < c) = false := decide_eq_false (by omega)
      go_wp2_with fail
      go_ret
      exact ⟨ret_bool HN.out.symm, by go_grown⟩

end Go.Proofs.YteaohgacgcjkjaaDoor
