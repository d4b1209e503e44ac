/-
  Put together: PWithin PValsOk PEvThird PFlatHeader.
-/
import Derived.Test.YtfgkfcfplodaoaaGreatDoorG0
import Derived.Test.YtfgkfcfplodaoaaGreatDoorRows
import Derived.Test.YtfgkfcfplodaoaaGreatDoorG9
import Derived.IntWalk
section
/-!
  within and l1In, by contracts.
-/
namespace Go.Proofs.YtfgkfcfplodaoaaGreatDoor
set_option maxRecDepth 100000
set_option linter.unusedVariables false
set_option linter.unusedSimpArgs false
open Go.RowKit

theorem within_yes (x lo hi : Int) (w : World) (h1 : lo ≤ x) (h2 : x ≤ hi) : Calls Tryz.prog 139 #[.int .i64 x, .int .i64 lo, .int .i64 hi] w fun e w' => e = .returned (.bool true) ∧ w' = w := by
  go_enter Tryz.func139, Tryz.ntmps139
  go_wp2
  go_ret
  exact ⟨rfl, rfl⟩
theorem within_lo (x lo hi : Int) (w : World) (h1 : x < lo) : Calls Tryz.prog 139 #[.int .i64 x, .int .i64 lo, .int .i64 hi] w fun e w' => e = .returned (.bool false) ∧ w' = w := by
  have hd : decide (lo ≤ x) = false := by simp; omega
  go_enter Tryz.func139, Tryz.ntmps139
  go_wp2
  go_ret
  exact ⟨rfl, rfl⟩
theorem within_hi (x lo hi : Int) (w : World) (h1 : lo ≤ x) (h2 : hi < x) : Calls Tryz.prog 139 #[.int .i64 x, .int .i64 lo, .int .i64 hi] w fun e w' => e = .returned (.bool false) ∧ w' = w := by
  have hd : decide (x ≤ hi) = false := by simp; omega
  go_enter Tryz.func139, Tryz.ntmps139
  go_wp2
  go_ret
  exact ⟨rfl, rfl⟩
theorem within_no (x lo hi : Int) (w : World) (h : x < lo ∨ hi < x) : Calls Tryz.prog 139 #[.int .i64 x, .int .i64 lo, .int .i64 hi] w fun e w' => e = .returned (.bool false) ∧ w' = w := by
  by_cases h1 : x < lo
  · exact within_lo x lo hi w h1
  · exact within_hi x lo hi w (by omega) (by omega)
theorem l1In_yes (x lo hi : Int) (w : World) (h1 : lo ≤ x) (h2 : x ≤ hi) : Calls Tryz.prog 39 #[.int .i64 x, .int .i64 lo, .int .i64 hi] w fun e w' => e = .returned (.bool true) ∧ w' = w := by
  go_enter Tryz.func39, Tryz.ntmps39
  go_wp2
  go_ret
  exact ⟨rfl, rfl⟩
theorem l1In_lo (x lo hi : Int) (w : World) (h1 : x < lo) : Calls Tryz.prog 39 #[.int .i64 x, .int .i64 lo, .int .i64 hi] w fun e w' => e = .returned (.bool false) ∧ w' = w := by
  have hd : decide (lo ≤ x) = false := by simp; omega
  go_enter Tryz.func39, Tryz.ntmps39
  go_wp2
  go_ret
  exact ⟨rfl, rfl⟩
theorem l1In_hi (x lo hi : Int) (w : World) (h1 : lo ≤ x) (h2 : hi < x) : Calls Tryz.prog 39 #[.int .i64 x, .int .i64 lo, .int .i64 hi] w fun e w' => e = .returned (.bool false) ∧ w' = w := by
  have hd : decide (x ≤ hi) = false := by simp; omega
  go_enter Tryz.func39, Tryz.ntmps39
  go_wp2
  go_ret
  exact ⟨rfl, rfl⟩
theorem l1In_no (x lo hi : Int) (w : World) (h : x < lo ∨ hi < x) : Calls Tryz.prog 39 #[.int .i64 x, .int .i64 lo, .int .i64 hi] w fun e w' => e = .returned (.bool false) ∧ w' = w := by
  by_cases h1 : x < lo
  · exact l1In_lo x lo hi w h1
  · exact l1In_hi x lo hi w (by omega) (by omega)


end Go.Proofs.YtfgkfcfplodaoaaGreatDoor

end
section
/-!
  ValsOk of spec and impl, by one contract.
-/
namespace Go.Proofs.YtfgkfcfplodaoaaGreatDoor
set_option maxRecDepth 100000
set_option linter.unusedVariables false
set_option linter.unusedSimpArgs false
open Go.RowKit

/-- element k of the validators is in range, and above the one before it -/
def valAt (l : List TVal) (k : Nat) : Prop :=
  1 ≤ (l.getD k (0, 0)).1 ∧ (l.getD k (0, 0)).1 ≤ 99 ∧ 1 ≤ (l.getD k (0, 0)).2 ∧ (l.getD k (0, 0)).2 ≤ 1000 ∧ (0 < k → (l.getD (k - 1) (0, 0)).1 < (l.getD k (0, 0)).1)
instance (l : List TVal) (k : Nat) : Decidable (valAt l k) := by unfold valAt; infer_instance
def valsOk (l : List TVal) : Prop := (1 ≤ l.length ∧ l.length ≤ 7) ∧ ∀ k, k < l.length → valAt l k
instance (l : List TVal) : Decidable (valsOk l) := by unfold valsOk; infer_instance

set_option maxHeartbeats 4000000 in
theorem valsOk_spec (v : Value) (l : List TVal) (w : World) (h : RdS w w.heap.size 2 cVal v l) (hn : l.length ≤ 8796093022207) :
    Calls Tryz.prog 75 #[v] w (Quiet (.bool (decide (valsOk l))) w) := by
  obtain ⟨A, c, rfl, hlc, hcm, hcell⟩ := h
  by_cases hlen : l.length < 1 ∨ 7 < l.length
  · have hne : decide (valsOk l) = false := decide_eq_false fun e => by have := e.1; omega
    rw [hne]
    go_enter Tryz.func75, Tryz.ntmps75
    go_wp2_with fail
    refine (l1In_no _ _ _ _ (by omega)).mono ?_
    rintro e w' ⟨rfl, rfl⟩
    go_wp2_with fail
    go_ret
    exact ⟨rfl, QW.refl _⟩
  have hlen1 : 1 ≤ l.length := by omega
  have hlen2 : l.length ≤ 7 := by omega
  clear hlen
  go_enter Tryz.func75, Tryz.ntmps75
  go_wp2_with fail
  refine (l1In_yes _ _ _ _ (by omega) (by omega)).mono ?_
  rintro e w' ⟨rfl, hw⟩
  subst w'
  go_wp2_with fail
  go_loopw [3] (fun i wr => ∃ k : Nat, k ≤ l.length ∧ i = .int .i64 k ∧ QW w wr ∧ ∀ j, j < k → valAt l j) (fun i _ => l.length - (intOf i).toNat)
  case atStart => exact ⟨0, Nat.zero_le _, rfl, QW.refl _, by omega⟩
  case round =>
    obtain ⟨k, hk, rfl, hb, hall⟩ := hrel
    have HA := Lib.hid hall
    clear hall
    by_cases hlt : k < l.length
    · obtain ⟨b, off, rfl, hbb, hc⟩ := hcell (by intro e; simp [e] at hlt)
      have hx0 := (QW.cell hb ⟨b, off + k * 2 + 0, none⟩).trans <| hc k _ (List.getElem?_eq_getElem hlt) 0 _ rfl
      have hx1 := (QW.cell hb ⟨b, off + k * 2 + 1, none⟩).trans <| hc k _ (List.getElem?_eq_getElem hlt) 1 _ rfl
      simp only [Nat.add_zero] at hx0
      have hg : l.getD k (0, 0) = l[k] := by simp [List.getD, hlt]
      have bad : ¬ valAt l k → decide (valsOk l) = false := fun h => decide_eq_false fun e => h (e.2 k hlt)
      unfold valAt at bad
      rw [hg] at bad
      have HB := Lib.hid bad
      clear bad
      by_cases p0 : 1 ≤ l[k].1 ∧ l[k].1 ≤ 99
      · obtain ⟨p0a, p0b⟩ := p0
        by_cases p1 : 1 ≤ l[k].2 ∧ l[k].2 ≤ 1000
        · obtain ⟨p1a, p1b⟩ := p1
          by_cases k0 : 0 < k
          · have hlt' : k - 1 < l.length := by omega
            have hg' : l.getD (k - 1) (0, 0) = l[k - 1] := by simp [List.getD, hlt']
            have hz0 := (QW.cell hb ⟨b, off + (k - 1) * 2 + 0, none⟩).trans <| hc (k - 1) _ (List.getElem?_eq_getElem hlt') 0 _ rfl
            have hz1 := (QW.cell hb ⟨b, off + (k - 1) * 2 + 1, none⟩).trans <| hc (k - 1) _ (List.getElem?_eq_getElem hlt') 1 _ rfl
            simp only [Nat.add_zero] at hz0
            have HG := Lib.hid hg
            have HG' := Lib.hid hg'
            clear hg hg' hc hcell
            have e1 : IntKind.i64.wrap ((k : Int) - 1) = (k : Int) - 1 := IntWalk.i64_in _ (by omega)
            have e2 : (0 : Int) ≤ (k : Int) - 1 := by omega
            have e3 : ((k : Int) - 1).toNat = k - 1 := by omega
            by_cases c1 : l[k - 1].1 < l[k].1
            · have d1 : decide (l[k].1 ≤ l[k - 1].1) = false := decide_eq_false (by omega)
              go_wp2
              go_quiet ((go_at_call 39; first | exact Calls.quiet_of_same (l1In_yes _ _ _ _ (by omega) (by omega)) | exact Calls.quiet_of_same (l1In_no _ _ _ _ (by omega))))
              go_wp2
              go_roundw
              case rel =>
                refine ⟨k + 1, by omega, by go_num, QW.drewN hb _, fun j hj => ?_⟩
                rcases Nat.lt_or_ge j k with h | h
                · exact HA.out j h
                · obtain rfl : j = k := by omega
                  unfold valAt
                  rw [HG.out, HG'.out]
                  exact ⟨p0a, p0b, p1a, p1b, fun _ => c1⟩
              case measure => simp [intOf]; omega
            · have d1 : decide (l[k].1 ≤ l[k - 1].1) = true := decide_eq_true (by omega)
              have HN := Lib.hid (HB.out (by rw [HG'.out]; intro e; have e := e.2.2.2.2 k0; exact c1 e))
              go_wp2
              go_quiet ((go_at_call 39; first | exact Calls.quiet_of_same (l1In_yes _ _ _ _ (by omega) (by omega)) | exact Calls.quiet_of_same (l1In_no _ _ _ _ (by omega))))
              go_wp2
              go_ret
              exact ⟨ret_bool HN.out.symm, QW.drewN hb _⟩
          · have HG := Lib.hid hg
            clear hg hc hcell
            have hd : decide ((0 : Int) < (k : Int)) = false := decide_eq_false (by omega)
            go_wp2
            go_quiet ((go_at_call 39; first | exact Calls.quiet_of_same (l1In_yes _ _ _ _ (by omega) (by omega)) | exact Calls.quiet_of_same (l1In_no _ _ _ _ (by omega))))
            go_wp2
            go_roundw
            case rel =>
              refine ⟨k + 1, by omega, by go_num, QW.drewN hb _, fun j hj => ?_⟩
              rcases Nat.lt_or_ge j k with h | h
              · exact HA.out j h
              · obtain rfl : j = k := by omega
                unfold valAt
                rw [HG.out]
                exact ⟨p0a, p0b, p1a, p1b, fun h => absurd h k0⟩
            case measure => simp [intOf]; omega
        · have HN := Lib.hid (HB.out (by intro e; exact p1 ⟨e.2.2.1, e.2.2.2.1⟩))
          clear hg hc hcell
          have p1' : l[k].2 < 1 ∨ 1000 < l[k].2 := by omega
          clear p1
          go_wp2
          go_quiet ((go_at_call 39; first | exact Calls.quiet_of_same (l1In_yes _ _ _ _ (by omega) (by omega)) | exact Calls.quiet_of_same (l1In_no _ _ _ _ (by omega))))
          go_wp2
          go_ret
          exact ⟨ret_bool HN.out.symm, QW.drewN hb _⟩
      · have HN := Lib.hid (HB.out (by intro e; exact p0 ⟨e.1, e.2.1⟩))
        clear hg hc hcell
        have p0' : l[k].1 < 1 ∨ 99 < l[k].1 := by omega
        clear p0
        go_wp2
        go_quiet ((go_at_call 39; first | exact Calls.quiet_of_same (l1In_yes _ _ _ _ (by omega) (by omega)) | exact Calls.quiet_of_same (l1In_no _ _ _ _ (by omega))))
        go_wp2
        go_ret
        exact ⟨ret_bool HN.out.symm, QW.drewN hb _⟩
    · have hok : decide (valsOk l) = true := decide_eq_true ⟨⟨by omega, by omega⟩, fun j hj => HA.out j (by omega)⟩
      have HN := Lib.hid hok
      clear hok
      go_wp2
      go_ret
      exact ⟨ret_bool HN.out.symm, hb⟩


set_option maxHeartbeats 4000000 in
theorem valsOk_impl (v : Value) (l : List TVal) (w : World) (h : RdS w w.heap.size 2 cVal v l) (hn : l.length ≤ 8796093022207) :
    Calls Tryz.prog 168 #[v] w (SaysB (decide (valsOk l)) w) := by
  obtain ⟨A, c, rfl, hlc, hcm, hcell⟩ := h
  go_enter Tryz.func168, Tryz.ntmps168
  go_wp2
  go_loopw [7] (fun i wr => ∃ k : Nat, k ≤ l.length ∧ i = .int .i64 k ∧ Keeps w wr ∧ ∀ j, j < k → valAt l j) (fun i _ => l.length - (intOf i).toNat)
  case atStart => exact ⟨0, Nat.zero_le _, rfl, Keeps.refl _, by omega⟩
  case round =>
    obtain ⟨k, hk, rfl, hb, hall⟩ := hrel
    have HA := Lib.hid hall
    clear hall
    by_cases hlt : k < l.length
    · obtain ⟨b, off, rfl, hbb, hc⟩ := hcell (by intro e; simp [e] at hlt)
      have hbw : b < wr.heap.size := Nat.lt_of_lt_of_le hbb (Below.size hb)
      have hx0 := (Below.cell hb (p := ⟨b, off + k * 2 + 0, none⟩) hbb).trans <| hc k _ (List.getElem?_eq_getElem hlt) 0 _ rfl
      have hx1 := (Below.cell hb (p := ⟨b, off + k * 2 + 1, none⟩) hbb).trans <| hc k _ (List.getElem?_eq_getElem hlt) 1 _ rfl
      simp only [Nat.add_zero] at hx0
      have hg : l.getD k (0, 0) = l[k] := by simp [List.getD, hlt]
      have bad : ¬ valAt l k → decide (valsOk l) = false := fun h => decide_eq_false fun e => h (e.2 k hlt)
      unfold valAt at bad
      rw [hg] at bad
      have HB := Lib.hid bad
      clear bad
      by_cases p0 : 1 ≤ l[k].1 ∧ l[k].1 ≤ 99
      · obtain ⟨p0a, p0b⟩ := p0
        by_cases p1 : 1 ≤ l[k].2 ∧ l[k].2 ≤ 1000
        · obtain ⟨p1a, p1b⟩ := p1
          by_cases k0 : 0 < k
          · have hlt' : k - 1 < l.length := by omega
            have hg' : l.getD (k - 1) (0, 0) = l[k - 1] := by simp [List.getD, hlt']
            have hz0 := (Below.cell hb (p := ⟨b, off + (k - 1) * 2 + 0, none⟩) hbb).trans <| hc (k - 1) _ (List.getElem?_eq_getElem hlt') 0 _ rfl
            have hz1 := (Below.cell hb (p := ⟨b, off + (k - 1) * 2 + 1, none⟩) hbb).trans <| hc (k - 1) _ (List.getElem?_eq_getElem hlt') 1 _ rfl
            simp only [Nat.add_zero] at hz0
            have HG := Lib.hid hg
            have HG' := Lib.hid hg'
            clear hg hg' hc hcell
            have e1 : IntKind.i64.wrap ((k : Int) - 1) = (k : Int) - 1 := IntWalk.i64_in _ (by omega)
            have e2 : (0 : Int) ≤ (k : Int) - 1 := by omega
            have e3 : ((k : Int) - 1).toNat = k - 1 := by omega
            by_cases c1 : l[k - 1].1 < l[k].1
            · have d1 : decide (l[k].1 ≤ l[k - 1].1) = false := decide_eq_false (by omega)
              go_wp2
              go_quiet ((go_at_call 139; first | exact Calls.quiet_of_same (within_yes _ _ _ _ (by omega) (by omega)) | exact Calls.quiet_of_same (within_no _ _ _ _ (by omega))))
              go_wp2
              go_roundw
              case rel =>
                refine ⟨k + 1, by omega, by go_num, hb.tr (below_drewN (Below.alloc (Below.refl _ _) (Nat.le_refl _) _) _), fun j hj => ?_⟩
                rcases Nat.lt_or_ge j k with h | h
                · exact HA.out j h
                · obtain rfl : j = k := by omega
                  unfold valAt
                  rw [HG.out, HG'.out]
                  exact ⟨p0a, p0b, p1a, p1b, fun _ => c1⟩
              case measure => simp [intOf]; omega
            · have d1 : decide (l[k].1 ≤ l[k - 1].1) = true := decide_eq_true (by omega)
              have HN := Lib.hid (HB.out (by rw [HG'.out]; intro e; have e := e.2.2.2.2 k0; exact c1 e))
              go_wp2
              go_quiet ((go_at_call 139; first | exact Calls.quiet_of_same (within_yes _ _ _ _ (by omega) (by omega)) | exact Calls.quiet_of_same (within_no _ _ _ _ (by omega))))
              go_wp2
              go_ret
              exact ⟨ret_bool HN.out.symm, hb.tr (below_drewN (Below.alloc (Below.refl _ _) (Nat.le_refl _) _) _)⟩
          · have HG := Lib.hid hg
            clear hg hc hcell
            have hd : decide ((0 : Int) < (k : Int)) = false := decide_eq_false (by omega)
            go_wp2
            go_quiet ((go_at_call 139; first | exact Calls.quiet_of_same (within_yes _ _ _ _ (by omega) (by omega)) | exact Calls.quiet_of_same (within_no _ _ _ _ (by omega))))
            go_wp2
            go_roundw
            case rel =>
              refine ⟨k + 1, by omega, by go_num, hb.tr (below_drewN (Below.alloc (Below.refl _ _) (Nat.le_refl _) _) _), fun j hj => ?_⟩
              rcases Nat.lt_or_ge j k with h | h
              · exact HA.out j h
              · obtain rfl : j = k := by omega
                unfold valAt
                rw [HG.out]
                exact ⟨p0a, p0b, p1a, p1b, fun h => absurd h k0⟩
            case measure => simp [intOf]; omega
        · have HN := Lib.hid (HB.out (by intro e; exact p1 ⟨e.2.2.1, e.2.2.2.1⟩))
          clear hg hc hcell
          have p1' : l[k].2 < 1 ∨ 1000 < l[k].2 := by omega
          clear p1
          go_wp2
          go_quiet ((go_at_call 139; first | exact Calls.quiet_of_same (within_yes _ _ _ _ (by omega) (by omega)) | exact Calls.quiet_of_same (within_no _ _ _ _ (by omega))))
          go_wp2
          go_ret
          exact ⟨ret_bool HN.out.symm, hb.tr (below_drewN (Below.alloc (Below.refl _ _) (Nat.le_refl _) _) _)⟩
      · have HN := Lib.hid (HB.out (by intro e; exact p0 ⟨e.1, e.2.1⟩))
        clear hg hc hcell
        have p0' : l[k].1 < 1 ∨ 99 < l[k].1 := by omega
        clear p0
        go_wp2
        go_quiet ((go_at_call 139; first | exact Calls.quiet_of_same (within_yes _ _ _ _ (by omega) (by omega)) | exact Calls.quiet_of_same (within_no _ _ _ _ (by omega))))
        go_wp2
        go_ret
        exact ⟨ret_bool HN.out.symm, hb.tr (below_drewN (Below.alloc (Below.refl _ _) (Nat.le_refl _) _) _)⟩
    · by_cases h7 : 1 ≤ l.length ∧ l.length ≤ 7
      · have HN := Lib.hid (show decide (valsOk l) = true from decide_eq_true ⟨h7, fun j hj => HA.out j (by omega)⟩)
        go_wp2_with fail
        refine (within_yes _ _ _ _ (by omega) (by omega)).mono ?_
        rintro e w' ⟨rfl, hw⟩
        subst w'
        go_wp2_with fail
        go_ret
        exact ⟨ret_bool HN.out.symm, hb⟩
      · have HN := Lib.hid (show decide (valsOk l) = false from decide_eq_false (fun e => h7 e.1))
        go_wp2_with fail
        refine (within_no _ _ _ _ (by omega)).mono ?_
        rintro e w' ⟨rfl, hw⟩
        subst w'
        go_wp2_with fail
        go_ret
        exact ⟨ret_bool HN.out.symm, hb⟩

end Go.Proofs.YtfgkfcfplodaoaaGreatDoor

end
section
/-!
  PowerOf and Third of spec and impl.
-/
namespace Go.Proofs.YtfgkfcfplodaoaaGreatDoor
set_option maxRecDepth 100000
set_option linter.unusedVariables false
set_option linter.unusedSimpArgs false
open Go Go.RowKit
set_option maxHeartbeats 4000000

noncomputable def mVals := mdl (fun l : List TVal => l.length ≤ 8796093022207) (fun l => [aL cVal l]) (fun l => rB (decide (valsOk l)))
theorem mVals_eq (l : List TVal) (h : l.length ≤ 8796093022207) : mVals [aL cVal l] = some (rB (decide (valsOk l))) := mdl_eq (by intro a b h; simpa using h) l h
theorem valsS_s : Sound Tryz.prog 75 mVals := Sound.listB (s := 2) (fun _ => rfl) fun v l w hl h => (valsOk_spec v l w h hl).mono fun e w' h => h.says
theorem valsI_s : Sound Tryz.prog 168 mVals := Sound.listB (s := 2) (fun _ => rfl) fun v l w hl h => valsOk_impl v l w h hl
theorem vals_at {l : List TVal} (h : valsOk l) {k : Nat} (hk : k < l.length) : 1 ≤ l[k].1 ∧ l[k].1 ≤ 99 ∧ 1 ≤ l[k].2 ∧ l[k].2 ≤ 1000 := by
  have := h.2 k hk
  unfold valAt at this
  simp only [List.getD_eq_getElem?_getD, List.getElem?_eq_getElem hk, Option.getD_some] at this
  exact ⟨this.1, this.2.1, this.2.2.1, this.2.2.2.1⟩

def powC (p : Int → Bool) (v : TVal) : Int := if p v.1 then v.2 else 0
def powSum (p : Int → Bool) (l : List TVal) : Int := (l.map (powC p)).sum
theorem pow_in {p : Int → Bool} {l : List TVal} (h : valsOk l) (k : Nat) (hk : k ≤ l.length) : 0 ≤ sumK (powC p) l k ∧ sumK (powC p) l k ≤ 1000 * k :=
  sumK_in (m := 1000) (fun k hk => by
    obtain ⟨_, _, h3, h4⟩ := vals_at h hk
    unfold powC
    split <;> omega) k hk
theorem powSum_in (p : Int → Bool) {l : List TVal} (h : valsOk l) : 0 ≤ powSum p l ∧ powSum p l ≤ 7000 := by
  have := pow_in (p := p) h l.length (Nat.le_refl _)
  have h7 := h.1.2
  rw [sumK_all _ (Nat.le_refl _)] at this
  unfold powSum
  omega
def powerOf (l : List TVal) : Int := if valsOk l then powSum (fun _ => true) l else 0
def thirdB (l : List TVal) (ids : List Int) : Bool := decide (valsOk l) && decide (powerOf l < 3 * powSum (fun x => decide (x ∈ ids)) l)
theorem powerOf_in (l : List TVal) : 0 ≤ powerOf l ∧ powerOf l ≤ 7000 := by
  unfold powerOf
  split
  · rename_i h; exact powSum_in _ h
  · omega
noncomputable def mPower := mdl (fun l : List TVal => l.length ≤ 8796093022207) (fun l => [aL cVal l]) (fun l => rI (powerOf l))
theorem mPower_eq (l : List TVal) (h : l.length ≤ 8796093022207) : mPower [aL cVal l] = some (rI (powerOf l)) := mdl_eq (by intro a b h; simpa using h) l h

theorem powerS_s : Sound Tryz.prog 77 mPower := by
  refine Sound.mdl Tryz.func77 rfl Tryz.ntmps77 ?_
  rintro l w hl
  refine ⟨by simp, ?_⟩
  replace hl : l.length ≤ 8796093022207 := hl
  have hΓ : GSound Tryz.prog (look [(75, mVals)]) := env_cons (has_of Tryz.func75 rfl rfl) valsS_s env_nil
  have c1 := mVals_eq l hl
  simp only [initS, argPV, List.map_cons, List.map_nil, toPL, Nat.zero_add]
  by_cases hv : valsOk l
  · have hz := sumK_zero (powC fun _ => true) l
    refine zR ?_
    refine W.loopA (fun k => k ≤ l.length) (fun k : Nat => [.slot 4 (vI k), .slot 3 (vI (sumK (powC fun _ => true) l k)), .slot 0 (vL cVal l)]) (fun k => l.length - k) 0 (Nat.zero_le _) (h := ?_)
    rintro k hk
    obtain ⟨s0, s1⟩ := pow_in (p := fun _ => true) hv k hk
    by_cases hlt : k < l.length
    · have hrow := row_at cVal l hlt
      simp only [cVal, List.map_cons, List.map_nil] at hrow
      obtain ⟨b1, b2, b3, b4⟩ := vals_at hv hlt
      have h7 := hv.1.2
      have hs : sumK (powC fun _ => true) l (k + 1) = sumK (powC fun _ => true) l k + l[k].2 := by rw [sumK_succ _ hlt]; simp [powC]
      refine zR ?_
      exact At.roundA (k + 1) (by omega) (by omega)
    · refine zR ?_
      refine At.retA (by rw [Tryz.results77]) (he := ?_)
      rw [sumK_all _ (by omega)]
      simp [powerOf, hv, powSum]
  · refine zR ?_
    refine W.loopA (fun _ => True) (fun _ : Nat => [.slot 4 (vI 0), .slot 3 (vI 0), .slot 0 (vL cVal l)]) (fun _ => 0) 0 trivial (h := ?_)
    rintro k -
    by_cases hlt : 0 < l.length
    · refine zR ?_
      refine At.retA (by rw [Tryz.results77]) (he := ?_)
      simp [powerOf, hv]
    · refine zR ?_
      refine At.retA (by rw [Tryz.results77]) (he := ?_)
      simp [powerOf, hv]

noncomputable def mPow (f : FuncId) (boxes : List (List Leaf)) (p : Int → Bool) := mdl (fun l : List TVal => valsOk l) (fun l => [aL cVal l, .clo f boxes]) (fun l => rI (powSum p l))
theorem mPow_eq (f : FuncId) (boxes : List (List Leaf)) (p : Int → Bool) (l : List TVal) (h : valsOk l) : mPow f boxes p [aL cVal l, .clo f boxes] = some (rI (powSum p l)) := mdl_eq (by intro a b h; simpa using h) l h
theorem pow_s {f : FuncId} {boxes : List (List Leaf)} {p : Int → Bool} {mf : List Arg → Option Res} (hf : Has Tryz.prog f) (hs : Sound Tryz.prog f mf) (hm : ∀ id, mf ([aI id] ++ boxes.map fun c => .row c 0) = some (rB (p id))) : Sound Tryz.prog 169 (mPow f boxes p) := by
  refine Sound.mdl Tryz.func169 rfl Tryz.ntmps169 ?_
  rintro l w hv
  refine ⟨by simp, ?_⟩
  replace hv : valsOk l := hv
  have hΓ : GSound Tryz.prog (look [(f, mf)]) := env_cons hf hs env_nil
  clear hs hf
  have h7 := hv.1.2
  simp only [initS, argPV, List.map_cons, List.map_nil, toPL, Nat.zero_add]
  have hz := sumK_zero (powC p) l
  refine zR ?_
  refine W.loopA (fun k => k ≤ l.length) (fun k : Nat => [.slot 10 (vI k), .slot 9 (vI l.length), .slot 8 (vL cVal l), .slot 5 (vI (sumK (powC p) l k)), .slot 0 (vL cVal l), .slot 1 (one (.clo f boxes))]) (fun k => l.length - k) 0 (Nat.zero_le _) (h := ?_)
  rintro k hk
  obtain ⟨s0, s1⟩ := pow_in (p := p) hv k hk
  by_cases hlt : k < l.length
  · have hrow := row_at cVal l hlt
    simp only [cVal, List.map_cons, List.map_nil] at hrow
    obtain ⟨b1, b2, b3, b4⟩ := vals_at hv hlt
    have hm := hm l[k].1
    simp only [List.cons_append, List.nil_append] at hm
    cases hp : p l[k].1 with
    | true =>
      have hs : sumK (powC p) l (k + 1) = sumK (powC p) l k + l[k].2 := by rw [sumK_succ _ hlt]; simp [powC, hp]
      refine zR ?_
      exact At.roundA (k + 1) (by omega) (by omega)
    | false =>
      have hs : sumK (powC p) l (k + 1) = sumK (powC p) l k := by rw [sumK_succ _ hlt]; simp [powC, hp]
      refine zR ?_
      exact At.roundA (k + 1) (by omega) (by omega)
  · refine zR ?_
    refine At.retA (by rw [Tryz.results169]) (he := ?_)
    rw [sumK_all _ (by omega)]
    rfl

noncomputable def mTrue := mdl (fun _ : Int => True) (fun x => [aI x]) (fun _ => rB true)
theorem mTrue_eq (x : Int) : mTrue [aI x] = some (rB true) := mdl_eq (by intro a b h; simpa using h) x trivial
theorem true_s : Sound Tryz.prog 217 mTrue := by
  refine Sound.mdl Tryz.func217 rfl Tryz.ntmps217 ?_
  rintro x w -
  refine ⟨by simp, ?_⟩
  have hΓ : GSound Tryz.prog (look []) := env_nil
  simp only [initS, argPV, List.map_cons, List.map_nil, toPL, Nat.zero_add]
  refine zR ?_
  refine At.retA (by rw [Tryz.results217]) (he := rfl)
theorem powerI_s : Sound Tryz.prog 172 mPower := by
  refine Sound.mdl Tryz.func172 rfl Tryz.ntmps172 ?_
  rintro l w hl
  refine ⟨by simp, ?_⟩
  replace hl : l.length ≤ 8796093022207 := hl
  have hΓ : GSound Tryz.prog (look [(168, mVals), (169, mPow 217 [] fun _ => true)]) := env_cons (has_of Tryz.func168 rfl rfl) valsI_s (env_cons (has_of Tryz.func169 rfl rfl) (pow_s (has_of Tryz.func217 rfl rfl) true_s mTrue_eq) env_nil)
  have c1 := mVals_eq l hl
  simp only [initS, argPV, List.map_cons, List.map_nil, toPL, Nat.zero_add]
  by_cases hv : valsOk l
  · have c2 := mPow_eq 217 [] (fun _ => true) l hv
    refine zR ?_
    refine At.retA (by rw [Tryz.results172]) (he := ?_)
    simp [powerOf, hv]
  · refine zR ?_
    refine At.retA (by rw [Tryz.results172]) (he := ?_)
    simp [powerOf, hv]

noncomputable def mIn2 := mdl (fun x : List Int × Int => x.1.length ≤ 8796093022207) (fun x => [aI x.2, .row [.sl (rowsF cInt x.1)] 0]) (fun x => rB (decide (x.2 ∈ x.1)))
theorem mIn2_eq (ids : List Int) (h : ids.length ≤ 8796093022207) (x : Int) : mIn2 [aI x, .row [.sl (rowsF cInt ids)] 0] = some (rB (decide (x ∈ ids))) := mdl_eq (by rintro ⟨a, b⟩ ⟨d, e⟩ h; simpa [and_comm] using h) (ids, x) h
theorem third1_s : Sound Tryz.prog 170 mIn2 := by
  refine Sound.mdl Tryz.func170 rfl Tryz.ntmps170 ?_
  rintro ⟨ids, x⟩ w hi
  refine ⟨by simp, ?_⟩
  replace hi : ids.length ≤ 8796093022207 := hi
  have hΓ : GSound Tryz.prog (look [(171, mCont)]) := env_cons (has_of Tryz.func171 rfl rfl) cont_s env_nil
  have c1 := mCont_eq ids x hi
  simp only [initS, argPV, List.map_cons, List.map_nil, toPL, Nat.zero_add]
  refine zR ?_
  refine At.retA (by rw [Tryz.results170]) (he := rfl)
abbrev okThird (x : List TVal × List Int) : Prop := x.1.length ≤ 8796093022207 ∧ x.2.length ≤ 8796093022207
noncomputable def mThird := mdl okThird (fun x => [aL cVal x.1, aL cInt x.2]) (fun x => rB (thirdB x.1 x.2))
theorem mThird_eq (l : List TVal) (ids : List Int) (h1 : l.length ≤ 8796093022207) (h2 : ids.length ≤ 8796093022207) : mThird [aL cVal l, aL cInt ids] = some (rB (thirdB l ids)) := mdl_eq (by rintro ⟨a, b⟩ ⟨d, e⟩ h; simpa using h) (l, ids) ⟨h1, h2⟩
theorem thirdI_s : Sound Tryz.prog 127 mThird := by
  refine Sound.mdl Tryz.func127 rfl Tryz.ntmps127 ?_
  rintro ⟨l, ids⟩ w ⟨hl, hi⟩
  refine ⟨by simp, ?_⟩
  replace hl : l.length ≤ 8796093022207 := hl
  replace hi : ids.length ≤ 8796093022207 := hi
  have hΓ : GSound Tryz.prog (look [(168, mVals), (172, mPower), (169, mPow 170 [[.sl (rowsF cInt ids)]] fun x => decide (x ∈ ids))]) := env_cons (has_of Tryz.func168 rfl rfl) valsI_s (env_cons (has_of Tryz.func172 rfl rfl) powerI_s (env_cons (has_of Tryz.func169 rfl rfl) (pow_s (has_of Tryz.func170 rfl rfl) third1_s (mIn2_eq ids hi)) env_nil))
  have c1 := mVals_eq l hl
  have c3 := mPower_eq l hl
  obtain ⟨p1, p2⟩ := powerOf_in l
  simp only [initS, argPV, List.map_cons, List.map_nil, toPL, Nat.zero_add]
  by_cases hv : valsOk l
  · have c2 := mPow_eq 170 [[.sl (rowsF cInt ids)]] (fun x => decide (x ∈ ids)) l hv
    obtain ⟨q1, q2⟩ := powSum_in (fun x => decide (x ∈ ids)) hv
    refine zR ?_
    refine At.retA (by rw [Tryz.results127]) (he := ?_)
    simp [thirdB, hv]
  · refine zR ?_
    refine At.retA (by rw [Tryz.results127]) (he := ?_)
    simp [thirdB, hv]
theorem thirdS_s : Sound Tryz.prog 24 mThird := by
  refine Sound.mdl Tryz.func24 rfl Tryz.ntmps24 ?_
  rintro ⟨l, ids⟩ w ⟨hl, hi⟩
  refine ⟨by simp, ?_⟩
  replace hl : l.length ≤ 8796093022207 := hl
  replace hi : ids.length ≤ 8796093022207 := hi
  have hΓ : GSound Tryz.prog (look [(75, mVals), (77, mPower), (76, mHas)]) := env_cons (has_of Tryz.func75 rfl rfl) valsS_s (env_cons (has_of Tryz.func77 rfl rfl) powerS_s (env_cons (has_of Tryz.func76 rfl rfl) has_s env_nil))
  have c1 := mVals_eq l hl
  have c2 := fun x => mHas_eq ids x hi
  have c3 := mPower_eq l hl
  obtain ⟨p1, p2⟩ := powerOf_in l
  simp only [initS, argPV, List.map_cons, List.map_nil, toPL, Nat.zero_add]
  by_cases hv : valsOk l
  · have hz := sumK_zero (powC fun x => decide (x ∈ ids)) l
    refine zR ?_
    refine W.loopA (fun k => k ≤ l.length) (fun k : Nat => [.slot 6 (vI k), .slot 5 (vI (sumK (powC fun x => decide (x ∈ ids)) l k)), .slot 0 (vL cVal l), .slot 1 (vL cInt ids)]) (fun k => l.length - k) 0 (Nat.zero_le _) (h := ?_)
    rintro k hk
    obtain ⟨s0, s1⟩ := pow_in (p := fun x => decide (x ∈ ids)) hv k hk
    have h7 := hv.1.2
    by_cases hlt : k < l.length
    · have hrow := row_at cVal l hlt
      simp only [cVal, List.map_cons, List.map_nil] at hrow
      obtain ⟨b1, b2, b3, b4⟩ := vals_at hv hlt
      by_cases hm : l[k].1 ∈ ids
      · have hs : sumK (powC fun x => decide (x ∈ ids)) l (k + 1) = sumK (powC fun x => decide (x ∈ ids)) l k + l[k].2 := by rw [sumK_succ _ hlt]; simp [powC, hm]
        refine zR ?_
        exact At.roundA (k + 1) (by omega) (by omega)
      · have hs : sumK (powC fun x => decide (x ∈ ids)) l (k + 1) = sumK (powC fun x => decide (x ∈ ids)) l k := by rw [sumK_succ _ hlt]; simp [powC, hm]
        refine zR ?_
        exact At.roundA (k + 1) (by omega) (by omega)
    · refine zR ?_
      refine At.retA (by rw [Tryz.results24]) (he := ?_)
      rw [sumK_all _ (by omega)]
      simp only [thirdB, hv, decide_true, Bool.true_and, powSum]
      first | rfl | congr
  · refine zR ?_
    refine W.loopA (fun _ => True) (fun _ : Nat => [.slot 6 (vI 0), .slot 5 (vI 0), .slot 0 (vL cVal l), .slot 1 (vL cInt ids)]) (fun _ => 0) 0 trivial (h := ?_)
    rintro k -
    by_cases hlt : 0 < l.length
    · refine zR ?_
      refine At.retA (by rw [Tryz.results24]) (he := ?_)
      simp [thirdB, hv]
    · refine zR ?_
      refine At.retA (by rw [Tryz.results24]) (he := ?_)
      simp [thirdB, hv]


end Go.Proofs.YtfgkfcfplodaoaaGreatDoor

end
section
/-!
  Header: its size, copy, equality, mark and held functions, by contracts.
-/
namespace Go.Proofs.YtfgkfcfplodaoaaGreatDoor
set_option maxRecDepth 100000
set_option linter.unusedVariables false
set_option linter.unusedSimpArgs false
open Go.RowKit

abbrev THeader := Int × Int × ByteArray × ByteArray × ByteArray × ByteArray
end Go.Proofs.YtfgkfcfplodaoaaGreatDoor

end
