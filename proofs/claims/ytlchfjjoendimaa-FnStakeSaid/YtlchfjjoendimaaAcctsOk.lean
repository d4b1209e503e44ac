/-
  within / l1In, and AcctsOk of spec and impl, by one contract.
-/
import Derived.Test.YtlchfjjoendimaaFlatAcct
import Derived.Test.YtlchfjjoendimaaWithin
import Derived.IntWalk
namespace Go.Proofs.Ytlchfjjoendimaa
set_option maxRecDepth 100000
set_option linter.unusedVariables false
set_option linter.unusedSimpArgs false
open Go.RowKit

/-- element k of the accounts is in range, and above the one before it -/
def acctAt (l : List TAcct) (k : Nat) : Prop :=
  1 ≤ (l.getD k (0, 0)).1 ∧ (l.getD k (0, 0)).1 ≤ 99 ∧ 0 ≤ (l.getD k (0, 0)).2 ∧ (l.getD k (0, 0)).2 ≤ 1000000 ∧ (0 < k → (l.getD (k - 1) (0, 0)).1 < (l.getD k (0, 0)).1)
instance (l : List TAcct) (k : Nat) : Decidable (acctAt l k) := by unfold acctAt; infer_instance

def acctsOk (l : List TAcct) : Prop := l.length ≤ 7 ∧ ∀ k, k < l.length → acctAt l k
instance (l : List TAcct) : Decidable (acctsOk l) := by unfold acctsOk; infer_instance

set_option maxHeartbeats 1000000 in
theorem acctsOk_spec (v : Value) (l : List TAcct) (B : Nat) (w : World) (h : RdS w B 2 cAcct v l) (hn : l.length ≤ 8796093022207) :
    Calls Try.prog 44 #[v] w (Quiet (.bool (decide (acctsOk l))) w) := by
  obtain ⟨A, c, rfl, hlc, hcm, hcell⟩ := h
  by_cases hlen : 7 < l.length
  · have hne : decide (acctsOk l) = false := decide_eq_false fun e => by have := e.1; omega
    rw [hne]
    go_enter Try.func44, Try.ntmps44
    go_wp2
    go_ret
    exact ⟨rfl, 0, rfl⟩
  have hlen0 : decide (7 < (l.length : Int)) = false := decide_eq_false (by omega)
  go_enter Try.func44, Try.ntmps44
  go_wp2
  go_loopw [3] (fun i wr => ∃ k : Nat, k ≤ l.length ∧ i = .int .i64 k ∧ QW w wr ∧ ∀ j, j < k → acctAt l j) (fun i _ => l.length - (intOf i).toNat)
  case atStart => exact ⟨0, Nat.zero_le _, rfl, QW.refl _, by omega⟩
  case round =>
    obtain ⟨k, hk, rfl, hq, hall⟩ := hrel
    have HA := Lib.hid hall
    clear hall
    by_cases hlt : k < l.length
    · obtain ⟨b, off, rfl, -, hc⟩ := hcell (by intro e; simp [e] at hlt)
      have hx0 := (hq.cell ⟨b, off + k * 2 + 0, none⟩).trans <| hc k _ (List.getElem?_eq_getElem hlt) 0 _ rfl
      have hx1 := (hq.cell ⟨b, off + k * 2 + 1, none⟩).trans <| hc k _ (List.getElem?_eq_getElem hlt) 1 _ rfl
      simp only [Nat.add_zero] at hx0
      have hg : l.getD k (0, 0) = l[k] := by simp [List.getD, hlt]
      have bad : ¬ acctAt l k → decide (acctsOk l) = false := fun h => decide_eq_false fun e => h (e.2 k hlt)
      unfold acctAt at bad
      rw [hg] at bad
      have HB := Lib.hid bad
      clear bad
      by_cases p1 : 1 ≤ l[k].1 ∧ l[k].1 ≤ 99
      · obtain ⟨p1a, p1b⟩ := p1
        by_cases p2 : 0 ≤ l[k].2 ∧ l[k].2 ≤ 1000000
        · obtain ⟨p2a, p2b⟩ := p2
          by_cases k0 : 0 < k
          · have hlt' : k - 1 < l.length := by omega
            have hg' : l.getD (k - 1) (0, 0) = l[k - 1] := by simp [List.getD, hlt']
            have hz0 := (hq.cell ⟨b, off + (k - 1) * 2 + 0, none⟩).trans <| hc (k - 1) _ (List.getElem?_eq_getElem hlt') 0 _ rfl
            simp only [Nat.add_zero] at hz0
            have HG := Lib.hid hg
            have HG' := Lib.hid hg'
            clear hg hg' hc hcell
            by_cases p3 : l[k - 1].1 < l[k].1
            · have hd : decide (l[k].1 ≤ l[k - 1].1) = false := decide_eq_false (by omega)
              have e1 : IntKind.i64.wrap ((k : Int) - 1) = (k : Int) - 1 := IntWalk.i64_in _ (by omega)
              have e2 : (0 : Int) ≤ (k : Int) - 1 := by omega
              have e3 : ((k : Int) - 1).toNat = k - 1 := by omega
              go_wp2
              go_quiet ((go_at_call 89; first | exact Calls.quiet_of_same (l1In_yes _ _ _ _ (by omega) (by omega)) | exact Calls.quiet_of_same (l1In_no _ _ _ _ (by omega))))
              clear e1 e2 e3
              go_wp2
              go_roundw
              case rel =>
                refine ⟨k + 1, by omega, by go_num, hq.drewN _, fun j hj => ?_⟩
                rcases Nat.lt_or_ge j k with h | h
                · exact HA.out j h
                · obtain rfl : j = k := by omega
                  unfold acctAt
                  rw [HG.out, HG'.out]
                  exact ⟨p1a, p1b, p2a, p2b, fun _ => p3⟩
              case measure => simp [intOf]; omega
            · have hne := HB.out (by rw [HG'.out]; intro e; exact p3 (e.2.2.2.2 k0))
              have HN := Lib.hid hne
              clear hne
              have p3' : l[k].1 ≤ l[k - 1].1 := by omega
              have hd : decide (l[k].1 ≤ l[k - 1].1) = true := decide_eq_true p3'
              have e1 : IntKind.i64.wrap ((k : Int) - 1) = (k : Int) - 1 := IntWalk.i64_in _ (by omega)
              have e2 : (0 : Int) ≤ (k : Int) - 1 := by omega
              have e3 : ((k : Int) - 1).toNat = k - 1 := by omega
              clear p3
              go_wp2
              go_quiet ((go_at_call 89; first | exact Calls.quiet_of_same (l1In_yes _ _ _ _ (by omega) (by omega)) | exact Calls.quiet_of_same (l1In_no _ _ _ _ (by omega))))
              clear e1 e2 e3
              go_wp2
              go_ret
              exact ⟨ret_bool HN.out.symm, hq.drewN _⟩
          · have HG := Lib.hid hg
            clear hg hc hcell
            have hd : decide ((0 : Int) < (k : Int)) = false := decide_eq_false (by omega)
            go_wp2
            go_quiet ((go_at_call 89; first | exact Calls.quiet_of_same (l1In_yes _ _ _ _ (by omega) (by omega)) | exact Calls.quiet_of_same (l1In_no _ _ _ _ (by omega))))
            go_wp2
            go_roundw
            case rel =>
              refine ⟨k + 1, by omega, by go_num, hq.drewN _, fun j hj => ?_⟩
              rcases Nat.lt_or_ge j k with h | h
              · exact HA.out j h
              · obtain rfl : j = k := by omega
                unfold acctAt
                rw [HG.out]
                exact ⟨p1a, p1b, p2a, p2b, fun h => absurd h k0⟩
            case measure => simp [intOf]; omega
        · have HN := Lib.hid (HB.out (by intro e; omega))
          clear hg hc hcell
          have p2' : l[k].2 < 0 ∨ 1000000 < l[k].2 := by omega
          clear p2
          go_wp2
          go_quiet ((go_at_call 89; first | exact Calls.quiet_of_same (l1In_yes _ _ _ _ (by omega) (by omega)) | exact Calls.quiet_of_same (l1In_no _ _ _ _ (by omega))))
          go_wp2
          go_ret
          exact ⟨ret_bool HN.out.symm, hq.drewN _⟩
      · have HN := Lib.hid (HB.out (by intro e; omega))
        clear hg hc hcell
        have p1' : l[k].1 < 1 ∨ 99 < l[k].1 := by omega
        clear p1
        go_wp2
        go_quiet ((go_at_call 89; first | exact Calls.quiet_of_same (l1In_yes _ _ _ _ (by omega) (by omega)) | exact Calls.quiet_of_same (l1In_no _ _ _ _ (by omega))))
        go_wp2
        go_ret
        exact ⟨ret_bool HN.out.symm, hq.drewN _⟩
    · have hok : decide (acctsOk l) = true := decide_eq_true ⟨by omega, fun j hj => HA.out j (by omega)⟩
      have HN := Lib.hid hok
      clear hok
      go_wp2
      go_ret
      exact ⟨ret_bool HN.out.symm, hq⟩

set_option maxHeartbeats 1000000 in
theorem acctsOk_impl (v : Value) (l : List TAcct) (w : World) (h : RdS w w.heap.size 2 cAcct v l) (hn : l.length ≤ 8796093022207) :
    Calls Try.prog 104 #[v] w (SaysB (decide (acctsOk l)) w) := by
  obtain ⟨A, c, rfl, hlc, hcm, hcell⟩ := h
  go_enter Try.func104, Try.ntmps104
  go_wp2
  go_loopw [7] (fun i wr => ∃ k : Nat, k ≤ l.length ∧ i = .int .i64 k ∧ Below w.heap.size w wr ∧ ∀ j, j < k → acctAt l j) (fun i _ => l.length - (intOf i).toNat)
  case atStart => exact ⟨0, Nat.zero_le _, rfl, Below.refl _ _, by omega⟩
  case round =>
    obtain ⟨k, hk, rfl, hb, hall⟩ := hrel
    have HA := Lib.hid hall
    clear hall
    by_cases hlt : k < l.length
    · obtain ⟨b, off, rfl, hbb, hc⟩ := hcell (by intro e; simp [e] at hlt)
      have hbw : b < wr.heap.size := Nat.lt_of_lt_of_le hbb hb.size
      have hx0 := (hb.cell (p := ⟨b, off + k * 2 + 0, none⟩) hbb).trans <| hc k _ (List.getElem?_eq_getElem hlt) 0 _ rfl
      have hx1 := (hb.cell (p := ⟨b, off + k * 2 + 1, none⟩) hbb).trans <| hc k _ (List.getElem?_eq_getElem hlt) 1 _ rfl
      simp only [Nat.add_zero] at hx0
      have hg : l.getD k (0, 0) = l[k] := by simp [List.getD, hlt]
      have bad : ¬ acctAt l k → decide (acctsOk l) = false := fun h => decide_eq_false fun e => h (e.2 k hlt)
      unfold acctAt at bad
      rw [hg] at bad
      have HB := Lib.hid bad
      clear bad
      have hsz := hb.size
      by_cases p1 : 1 ≤ l[k].1 ∧ l[k].1 ≤ 99
      · obtain ⟨p1a, p1b⟩ := p1
        by_cases p2 : 0 ≤ l[k].2 ∧ l[k].2 ≤ 1000000
        · obtain ⟨p2a, p2b⟩ := p2
          by_cases k0 : 0 < k
          · have hlt' : k - 1 < l.length := by omega
            have hg' : l.getD (k - 1) (0, 0) = l[k - 1] := by simp [List.getD, hlt']
            have hz0 := (hb.cell (p := ⟨b, off + (k - 1) * 2 + 0, none⟩) hbb).trans <| hc (k - 1) _ (List.getElem?_eq_getElem hlt') 0 _ rfl
            simp only [Nat.add_zero] at hz0
            have HG := Lib.hid hg
            have HG' := Lib.hid hg'
            clear hg hg' hc hcell
            by_cases p3 : l[k - 1].1 < l[k].1
            · have hd : decide (l[k].1 ≤ l[k - 1].1) = false := decide_eq_false (by omega)
              have e1 : IntKind.i64.wrap ((k : Int) - 1) = (k : Int) - 1 := IntWalk.i64_in _ (by omega)
              have e2 : (0 : Int) ≤ (k : Int) - 1 := by omega
              have e3 : ((k : Int) - 1).toNat = k - 1 := by omega
              go_wp2
              go_quiet ((go_at_call 100; first | exact Calls.quiet_of_same (within_yes _ _ _ _ (by omega) (by omega)) | exact Calls.quiet_of_same (within_no _ _ _ _ (by omega))))
              clear e1 e2 e3
              go_wp2
              go_roundw
              case rel =>
                refine ⟨k + 1, by omega, by go_num, below_drewN (hb.alloc hb.size _) _, fun j hj => ?_⟩
                rcases Nat.lt_or_ge j k with h | h
                · exact HA.out j h
                · obtain rfl : j = k := by omega
                  unfold acctAt
                  rw [HG.out, HG'.out]
                  exact ⟨p1a, p1b, p2a, p2b, fun _ => p3⟩
              case measure => simp [intOf]; omega
            · have hne := HB.out (by rw [HG'.out]; intro e; exact p3 (e.2.2.2.2 k0))
              have HN := Lib.hid hne
              clear hne
              have p3' : l[k].1 ≤ l[k - 1].1 := by omega
              have hd : decide (l[k].1 ≤ l[k - 1].1) = true := decide_eq_true p3'
              have e1 : IntKind.i64.wrap ((k : Int) - 1) = (k : Int) - 1 := IntWalk.i64_in _ (by omega)
              have e2 : (0 : Int) ≤ (k : Int) - 1 := by omega
              have e3 : ((k : Int) - 1).toNat = k - 1 := by omega
              clear p3
              go_wp2
              go_quiet ((go_at_call 100; first | exact Calls.quiet_of_same (within_yes _ _ _ _ (by omega) (by omega)) | exact Calls.quiet_of_same (within_no _ _ _ _ (by omega))))
              clear e1 e2 e3
              go_wp2
              go_ret
              exact ⟨ret_bool HN.out.symm, below_drewN (hb.alloc hb.size _) _⟩
          · have HG := Lib.hid hg
            clear hg hc hcell
            have hd : decide ((0 : Int) < (k : Int)) = false := decide_eq_false (by omega)
            go_wp2
            go_quiet ((go_at_call 100; first | exact Calls.quiet_of_same (within_yes _ _ _ _ (by omega) (by omega)) | exact Calls.quiet_of_same (within_no _ _ _ _ (by omega))))
            go_wp2
            go_roundw
            case rel =>
              refine ⟨k + 1, by omega, by go_num, below_drewN (hb.alloc hb.size _) _, fun j hj => ?_⟩
              rcases Nat.lt_or_ge j k with h | h
              · exact HA.out j h
              · obtain rfl : j = k := by omega
                unfold acctAt
                rw [HG.out]
                exact ⟨p1a, p1b, p2a, p2b, fun h => absurd h k0⟩
            case measure => simp [intOf]; omega
        · have HN := Lib.hid (HB.out (by intro e; omega))
          clear hg hc hcell
          have p2' : l[k].2 < 0 ∨ 1000000 < l[k].2 := by omega
          clear p2
          go_wp2
          go_quiet ((go_at_call 100; first | exact Calls.quiet_of_same (within_yes _ _ _ _ (by omega) (by omega)) | exact Calls.quiet_of_same (within_no _ _ _ _ (by omega))))
          go_wp2
          go_ret
          exact ⟨ret_bool HN.out.symm, below_drewN (hb.alloc hb.size _) _⟩
      · have HN := Lib.hid (HB.out (by intro e; omega))
        clear hg hc hcell
        have p1' : l[k].1 < 1 ∨ 99 < l[k].1 := by omega
        clear p1
        go_wp2
        go_quiet ((go_at_call 100; first | exact Calls.quiet_of_same (within_yes _ _ _ _ (by omega) (by omega)) | exact Calls.quiet_of_same (within_no _ _ _ _ (by omega))))
        go_wp2
        go_ret
        exact ⟨ret_bool HN.out.symm, below_drewN (hb.alloc hb.size _) _⟩
    · have hok : decide (acctsOk l) = decide ((l.length : Int) ≤ 7) := by
        by_cases h7 : l.length ≤ 7
        · rw [decide_eq_true ⟨h7, fun j hj => HA.out j (by omega)⟩, decide_eq_true (by omega)]
        · rw [decide_eq_false (fun e => h7 e.1), decide_eq_false (by omega)]
      have HN := Lib.hid hok
      clear hok
      go_wp2
      go_ret
      exact ⟨ret_bool HN.out.symm, hb⟩

end Go.Proofs.Ytlchfjjoendimaa
