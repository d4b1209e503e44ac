/-
  PoolOk of spec and impl, by one contract.
-/
import Derived.Test.YtlchfjjoendimaaFlatTx
import Derived.Test.YtlchfjjoendimaaWithin
import Derived.IntWalk
namespace Go.Proofs.Ytlchfjjoendimaa
set_option maxRecDepth 100000
set_option linter.unusedVariables false
set_option linter.unusedSimpArgs false
open Go.RowKit

/-- Tx's order -/
def lexTx (a b : TTx) : Prop := a.1 < b.1 ∨ (a.1 = b.1 ∧ a.2.1 < b.2.1)
instance (a b : TTx) : Decidable (lexTx a b) := by unfold lexTx; infer_instance
/-- element k of the pool is in range, and above the one before it -/
def txAt (l : List TTx) (k : Nat) : Prop :=
  1 ≤ (l.getD k (0, 0, 0)).1 ∧ (l.getD k (0, 0, 0)).1 ≤ 9 ∧ 1 ≤ (l.getD k (0, 0, 0)).2.1 ∧ (l.getD k (0, 0, 0)).2.1 ≤ 1000 ∧ 0 ≤ (l.getD k (0, 0, 0)).2.2 ∧ (l.getD k (0, 0, 0)).2.2 ≤ 1000 ∧ (0 < k → lexTx (l.getD (k - 1) (0, 0, 0)) (l.getD k (0, 0, 0)))
instance (l : List TTx) (k : Nat) : Decidable (txAt l k) := by unfold txAt; infer_instance
def poolOk (l : List TTx) : Prop := l.length ≤ 14 ∧ ∀ k, k < l.length → txAt l k
instance (l : List TTx) : Decidable (poolOk l) := by unfold poolOk; infer_instance
def cmpTx (a b : TTx) : Int := if a.1 < b.1 then -1 else if b.1 < a.1 then 1 else if a.2.1 < b.2.1 then -1 else if b.2.1 < a.2.1 then 1 else 0
theorem cmpTx_lt (a b : TTx) : cmpTx a b < 0 ↔ lexTx a b := by
  unfold cmpTx lexTx
  split
  · omega
  · split
    · omega
    · split
      · omega
      · split <;> omega
theorem cmpTx_bd (a b : TTx) : -1 ≤ cmpTx a b ∧ cmpTx a b ≤ 1 := by
  unfold cmpTx
  split
  · omega
  · split
    · omega
    · split
      · omega
      · split <;> omega

set_option maxHeartbeats 4000000 in
theorem poolOk_spec (v : Value) (l : List TTx) (w : World) (h : RdS w w.heap.size 3 cTx v l) (hn : l.length ≤ 8796093022207) :
    Calls Try.prog 29 #[v] w (SaysB (decide (poolOk l)) w) := by
  obtain ⟨A, c, rfl, hlc, hcm, hcell⟩ := h
  by_cases hlen : 14 < l.length
  · have hne : decide (poolOk l) = false := decide_eq_false fun e => by have := e.1; omega
    rw [hne]
    go_enter Try.func29, Try.ntmps29
    go_wp2
    go_ret
    exact ⟨rfl, Keeps.refl _⟩
  have hlen0 : decide (14 < (l.length : Int)) = false := decide_eq_false (by omega)
  go_enter Try.func29, Try.ntmps29
  go_wp2
  go_loopw [3] (fun i wr => ∃ k : Nat, k ≤ l.length ∧ i = .int .i64 k ∧ Keeps w wr ∧ ∀ j, j < k → txAt l j) (fun i _ => l.length - (intOf i).toNat)
  case atStart => exact ⟨0, Nat.zero_le _, rfl, Keeps.refl _, by omega⟩
  case round =>
    obtain ⟨k, hk, rfl, hb, hall⟩ := hrel
    have HA := Lib.hid hall
    clear hall
    by_cases hlt : k < l.length
    · obtain ⟨b, off, rfl, hbb, hc⟩ := hcell (by intro e; simp [e] at hlt)
      have hbw : b < wr.heap.size := Nat.lt_of_lt_of_le hbb (Below.size hb)
      have hx0 := (Below.cell hb (p := ⟨b, off + k * 3 + 0, none⟩) hbb).trans <| hc k _ (List.getElem?_eq_getElem hlt) 0 _ rfl
      have hx1 := (Below.cell hb (p := ⟨b, off + k * 3 + 1, none⟩) hbb).trans <| hc k _ (List.getElem?_eq_getElem hlt) 1 _ rfl
      have hx2 := (Below.cell hb (p := ⟨b, off + k * 3 + 2, none⟩) hbb).trans <| hc k _ (List.getElem?_eq_getElem hlt) 2 _ rfl
      simp only [Nat.add_zero] at hx0
      have hg : l.getD k (0, 0, 0) = l[k] := by simp [List.getD, hlt]
      have bad : ¬ txAt l k → decide (poolOk l) = false := fun h => decide_eq_false fun e => h (e.2 k hlt)
      unfold txAt at bad
      rw [hg] at bad
      have HB := Lib.hid bad
      clear bad
      by_cases p0 : 1 ≤ l[k].1 ∧ l[k].1 ≤ 9
      · obtain ⟨p0a, p0b⟩ := p0
        by_cases p1 : 1 ≤ l[k].2.1 ∧ l[k].2.1 ≤ 1000
        · obtain ⟨p1a, p1b⟩ := p1
          by_cases p2 : 0 ≤ l[k].2.2 ∧ l[k].2.2 ≤ 1000
          · obtain ⟨p2a, p2b⟩ := p2
            by_cases k0 : 0 < k
            · have hlt' : k - 1 < l.length := by omega
              have hg' : l.getD (k - 1) (0, 0, 0) = l[k - 1] := by simp [List.getD, hlt']
              have hz0 := (Below.cell hb (p := ⟨b, off + (k - 1) * 3 + 0, none⟩) hbb).trans <| hc (k - 1) _ (List.getElem?_eq_getElem hlt') 0 _ rfl
              have hz1 := (Below.cell hb (p := ⟨b, off + (k - 1) * 3 + 1, none⟩) hbb).trans <| hc (k - 1) _ (List.getElem?_eq_getElem hlt') 1 _ rfl
              have hz2 := (Below.cell hb (p := ⟨b, off + (k - 1) * 3 + 2, none⟩) hbb).trans <| hc (k - 1) _ (List.getElem?_eq_getElem hlt') 2 _ rfl
              simp only [Nat.add_zero] at hz0
              have HG := Lib.hid hg
              have HG' := Lib.hid hg'
              clear hg hg' hc hcell
              have e1 : IntKind.i64.wrap ((k : Int) - 1) = (k : Int) - 1 := IntWalk.i64_in _ (by omega)
              have e2 : (0 : Int) ≤ (k : Int) - 1 := by omega
              have e3 : ((k : Int) - 1).toNat = k - 1 := by omega
              by_cases c1 : l[k].1 < l[k - 1].1
              · have d1 : decide (l[k].1 < l[k - 1].1) = true := decide_eq_true c1
                have HN := Lib.hid (HB.out (by rw [HG'.out]; intro e; have e := e.2.2.2.2.2.2 k0; unfold lexTx at e; omega))
                go_wp2
                go_quiet ((go_at_call 89; first | exact Calls.quiet_of_same (l1In_yes _ _ _ _ (by omega) (by omega)) | exact Calls.quiet_of_same (l1In_no _ _ _ _ (by omega))))
                go_wp2
                go_ret
                exact ⟨ret_bool HN.out.symm, hb.tr (below_drewN (Below.alloc (Below.refl _ _) (Nat.le_refl _) _) _)⟩
              · have d1 : decide (l[k].1 < l[k - 1].1) = false := decide_eq_false c1
                by_cases c2 : l[k - 1].1 = l[k].1
                · have C2 := Lib.hid c2
                  have d2 : (l[k - 1].1 == l[k].1) = true := beq_iff_eq.2 c2
                  clear c2
                  by_cases c3 : l[k].2.1 ≤ l[k - 1].2.1
                  · have d3 : decide (l[k].2.1 ≤ l[k - 1].2.1) = true := decide_eq_true c3
                    have HN := Lib.hid (HB.out (by rw [HG'.out]; intro e; have e := e.2.2.2.2.2.2 k0; unfold lexTx at e; have := C2.out; omega))
                    go_wp2
                    go_quiet ((go_at_call 89; first | exact Calls.quiet_of_same (l1In_yes _ _ _ _ (by omega) (by omega)) | exact Calls.quiet_of_same (l1In_no _ _ _ _ (by omega))))
                    go_wp2
                    go_ret
                    exact ⟨ret_bool HN.out.symm, hb.tr (below_drewN (Below.alloc (Below.refl _ _) (Nat.le_refl _) _) _)⟩
                  · have d3 : decide (l[k].2.1 ≤ l[k - 1].2.1) = false := decide_eq_false c3
                    go_wp2
                    go_quiet ((go_at_call 89; first | exact Calls.quiet_of_same (l1In_yes _ _ _ _ (by omega) (by omega)) | exact Calls.quiet_of_same (l1In_no _ _ _ _ (by omega))))
                    go_wp2
                    go_roundw
                    case rel =>
                      refine ⟨k + 1, by omega, by go_num, hb.tr (below_drewN (Below.alloc (Below.refl _ _) (Nat.le_refl _) _) _), fun j hj => ?_⟩
                      rcases Nat.lt_or_ge j k with h | h
                      · exact HA.out j h
                      · obtain rfl : j = k := by omega
                        unfold txAt
                        rw [HG.out, HG'.out]
                        exact ⟨p0a, p0b, p1a, p1b, p2a, p2b, fun _ => .inr ⟨C2.out, by omega⟩⟩
                    case measure => simp [intOf]; omega
                · have d2 : (l[k - 1].1 == l[k].1) = false := beq_eq_false_iff_ne.2 c2
                  go_wp2
                  go_quiet ((go_at_call 89; first | exact Calls.quiet_of_same (l1In_yes _ _ _ _ (by omega) (by omega)) | exact Calls.quiet_of_same (l1In_no _ _ _ _ (by omega))))
                  go_wp2
                  go_roundw
                  case rel =>
                    refine ⟨k + 1, by omega, by go_num, hb.tr (below_drewN (Below.alloc (Below.refl _ _) (Nat.le_refl _) _) _), fun j hj => ?_⟩
                    rcases Nat.lt_or_ge j k with h | h
                    · exact HA.out j h
                    · obtain rfl : j = k := by omega
                      unfold txAt
                      rw [HG.out, HG'.out]
                      exact ⟨p0a, p0b, p1a, p1b, p2a, p2b, fun _ => .inl (by omega)⟩
                  case measure => simp [intOf]; omega
            · have HG := Lib.hid hg
              clear hg hc hcell
              have hd : decide ((0 : Int) < (k : Int)) = false := decide_eq_false (by omega)
              go_wp2
              go_quiet ((go_at_call 89; first | exact Calls.quiet_of_same (l1In_yes _ _ _ _ (by omega) (by omega)) | exact Calls.quiet_of_same (l1In_no _ _ _ _ (by omega))))
              go_wp2
              go_roundw
              case rel =>
                refine ⟨k + 1, by omega, by go_num, hb.tr (below_drewN (Below.alloc (Below.refl _ _) (Nat.le_refl _) _) _), fun j hj => ?_⟩
                rcases Nat.lt_or_ge j k with h | h
                · exact HA.out j h
                · obtain rfl : j = k := by omega
                  unfold txAt
                  rw [HG.out]
                  exact ⟨p0a, p0b, p1a, p1b, p2a, p2b, fun h => absurd h k0⟩
              case measure => simp [intOf]; omega
          · have HN := Lib.hid (HB.out (by intro e; exact p2 ⟨e.2.2.2.2.1, e.2.2.2.2.2.1⟩))
            clear hg hc hcell
            have p2' : l[k].2.2 < 0 ∨ 1000 < l[k].2.2 := by omega
            clear p2
            go_wp2
            go_quiet ((go_at_call 89; first | exact Calls.quiet_of_same (l1In_yes _ _ _ _ (by omega) (by omega)) | exact Calls.quiet_of_same (l1In_no _ _ _ _ (by omega))))
            go_wp2
            go_ret
            exact ⟨ret_bool HN.out.symm, hb.tr (below_drewN (Below.alloc (Below.refl _ _) (Nat.le_refl _) _) _)⟩
        · have HN := Lib.hid (HB.out (by intro e; exact p1 ⟨e.2.2.1, e.2.2.2.1⟩))
          clear hg hc hcell
          have p1' : l[k].2.1 < 1 ∨ 1000 < l[k].2.1 := by omega
          clear p1
          go_wp2
          go_quiet ((go_at_call 89; first | exact Calls.quiet_of_same (l1In_yes _ _ _ _ (by omega) (by omega)) | exact Calls.quiet_of_same (l1In_no _ _ _ _ (by omega))))
          go_wp2
          go_ret
          exact ⟨ret_bool HN.out.symm, hb.tr (below_drewN (Below.alloc (Below.refl _ _) (Nat.le_refl _) _) _)⟩
      · have HN := Lib.hid (HB.out (by intro e; exact p0 ⟨e.1, e.2.1⟩))
        clear hg hc hcell
        have p0' : l[k].1 < 1 ∨ 9 < l[k].1 := by omega
        clear p0
        go_wp2
        go_quiet ((go_at_call 89; first | exact Calls.quiet_of_same (l1In_yes _ _ _ _ (by omega) (by omega)) | exact Calls.quiet_of_same (l1In_no _ _ _ _ (by omega))))
        go_wp2
        go_ret
        exact ⟨ret_bool HN.out.symm, hb.tr (below_drewN (Below.alloc (Below.refl _ _) (Nat.le_refl _) _) _)⟩
    · have hok : decide (poolOk l) = true := decide_eq_true ⟨by omega, fun j hj => HA.out j (by omega)⟩
      have HN := Lib.hid hok
      clear hok
      go_wp2
      go_ret
      exact ⟨ret_bool HN.out.symm, hb⟩

set_option maxHeartbeats 1000000 in
theorem compareTx_any (a b : TTx) (w : World) : Calls Try.prog 99 #[.agg #[.int .i64 a.1, .int .i64 a.2.1, .int .i64 a.2.2], .agg #[.int .i64 b.1, .int .i64 b.2.1, .int .i64 b.2.2]] w (SaysI (cmpTx a b) w) := by
  by_cases h1 : a.1 < b.1
  · have d1 : (a.1 != b.1) = true := bne_iff_ne.2 (by omega)
    have hv : cmpTx a b = -1 := if_pos h1
    rw [hv]
    clear hv
    go_enter Try.func99, Try.ntmps99
    go_wp2
    go_ret
    exact ⟨rfl, by go_grown⟩
  by_cases h2 : b.1 < a.1
  · have d1 : (a.1 != b.1) = true := bne_iff_ne.2 (by omega)
    have d2 : decide (a.1 < b.1) = false := decide_eq_false h1
    have hv : cmpTx a b = 1 := by unfold cmpTx; rw [if_neg h1, if_pos h2]
    rw [hv]
    clear hv
    go_enter Try.func99, Try.ntmps99
    go_wp2
    go_ret
    exact ⟨rfl, by go_grown⟩
  have d1 : (a.1 != b.1) = false := by simp; omega
  by_cases h3 : a.2.1 < b.2.1
  · have hv : cmpTx a b = -1 := by unfold cmpTx; rw [if_neg h1, if_neg h2, if_pos h3]
    rw [hv]
    clear hv h1 h2
    go_enter Try.func99, Try.ntmps99
    go_wp2
    go_ret
    exact ⟨rfl, by go_grown⟩
  by_cases h4 : b.2.1 < a.2.1
  · have hv : cmpTx a b = 1 := by unfold cmpTx; rw [if_neg h1, if_neg h2, if_neg h3, if_pos h4]
    rw [hv]
    clear hv h1 h2
    go_enter Try.func99, Try.ntmps99
    go_wp2
    go_ret
    exact ⟨rfl, by go_grown⟩
  · have hv : cmpTx a b = 0 := by unfold cmpTx; rw [if_neg h1, if_neg h2, if_neg h3, if_neg h4]
    rw [hv]
    clear hv h1 h2
    go_enter Try.func99, Try.ntmps99
    go_wp2
    go_ret
    exact ⟨rfl, by go_grown⟩

set_option maxHeartbeats 4000000 in
theorem poolOk_impl (v : Value) (l : List TTx) (w : World) (h : RdS w w.heap.size 3 cTx v l) (hn : l.length ≤ 8796093022207) :
    Calls Try.prog 94 #[v] w (SaysB (decide (poolOk l)) w) := by
  obtain ⟨A, c, rfl, hlc, hcm, hcell⟩ := h
  go_enter Try.func94, Try.ntmps94
  go_wp2
  go_loopw [7] (fun i wr => ∃ k : Nat, k ≤ l.length ∧ i = .int .i64 k ∧ Keeps w wr ∧ ∀ j, j < k → txAt l j) (fun i _ => l.length - (intOf i).toNat)
  case atStart => exact ⟨0, Nat.zero_le _, rfl, Keeps.refl _, by omega⟩
  case round =>
    obtain ⟨k, hk, rfl, hb, hall⟩ := hrel
    have HA := Lib.hid hall
    clear hall
    by_cases hlt : k < l.length
    · obtain ⟨b, off, rfl, hbb, hc⟩ := hcell (by intro e; simp [e] at hlt)
      have hbw : b < wr.heap.size := Nat.lt_of_lt_of_le hbb (Below.size hb)
      have hx0 := (Below.cell hb (p := ⟨b, off + k * 3 + 0, none⟩) hbb).trans <| hc k _ (List.getElem?_eq_getElem hlt) 0 _ rfl
      have hx1 := (Below.cell hb (p := ⟨b, off + k * 3 + 1, none⟩) hbb).trans <| hc k _ (List.getElem?_eq_getElem hlt) 1 _ rfl
      have hx2 := (Below.cell hb (p := ⟨b, off + k * 3 + 2, none⟩) hbb).trans <| hc k _ (List.getElem?_eq_getElem hlt) 2 _ rfl
      simp only [Nat.add_zero] at hx0
      have hg : l.getD k (0, 0, 0) = l[k] := by simp [List.getD, hlt]
      have bad : ¬ txAt l k → decide (poolOk l) = false := fun h => decide_eq_false fun e => h (e.2 k hlt)
      unfold txAt at bad
      rw [hg] at bad
      have HB := Lib.hid bad
      clear bad
      by_cases p0 : 1 ≤ l[k].1 ∧ l[k].1 ≤ 9
      · obtain ⟨p0a, p0b⟩ := p0
        by_cases p1 : 1 ≤ l[k].2.1 ∧ l[k].2.1 ≤ 1000
        · obtain ⟨p1a, p1b⟩ := p1
          by_cases p2 : 0 ≤ l[k].2.2 ∧ l[k].2.2 ≤ 1000
          · obtain ⟨p2a, p2b⟩ := p2
            by_cases k0 : 0 < k
            · have hlt' : k - 1 < l.length := by omega
              have hg' : l.getD (k - 1) (0, 0, 0) = l[k - 1] := by simp [List.getD, hlt']
              have hz0 := (Below.cell hb (p := ⟨b, off + (k - 1) * 3 + 0, none⟩) hbb).trans <| hc (k - 1) _ (List.getElem?_eq_getElem hlt') 0 _ rfl
              have hz1 := (Below.cell hb (p := ⟨b, off + (k - 1) * 3 + 1, none⟩) hbb).trans <| hc (k - 1) _ (List.getElem?_eq_getElem hlt') 1 _ rfl
              have hz2 := (Below.cell hb (p := ⟨b, off + (k - 1) * 3 + 2, none⟩) hbb).trans <| hc (k - 1) _ (List.getElem?_eq_getElem hlt') 2 _ rfl
              simp only [Nat.add_zero] at hz0
              have HG := Lib.hid hg
              have HG' := Lib.hid hg'
              clear hg hg' hc hcell
              have e1 : IntKind.i64.wrap ((k : Int) - 1) = (k : Int) - 1 := IntWalk.i64_in _ (by omega)
              have e2 : (0 : Int) ≤ (k : Int) - 1 := by omega
              have e3 : ((k : Int) - 1).toNat = k - 1 := by omega
              by_cases c1 : lexTx l[k - 1] l[k]
              · have d1 : decide ((0 : Int) ≤ cmpTx l[k - 1] l[k]) = false := decide_eq_false (by have := (cmpTx_lt l[k - 1] l[k]).2 c1; omega)
                go_wp2
                have kw : Keeps w (wr.alloc (.cells #[.int .i64 l[k].1, .int .i64 l[k].2.1, .int .i64 l[k].2.2] 44)) := hb.tr (Below.alloc (Below.refl _ _) (Nat.le_refl _) _)
                have y0 : (wr.alloc (.cells #[.int .i64 l[k].1, .int .i64 l[k].2.1, .int .i64 l[k].2.2] 44)).cell? ⟨wr.heap.size, 0, none⟩ = some (.int .i64 l[k].1) := by go_simp
                have y1 : (wr.alloc (.cells #[.int .i64 l[k].1, .int .i64 l[k].2.1, .int .i64 l[k].2.2] 44)).cell? ⟨wr.heap.size, 1, none⟩ = some (.int .i64 l[k].2.1) := by go_simp
                have y2 : (wr.alloc (.cells #[.int .i64 l[k].1, .int .i64 l[k].2.1, .int .i64 l[k].2.2] 44)).cell? ⟨wr.heap.size, 2, none⟩ = some (.int .i64 l[k].2.2) := by go_simp
                have t0 := (World.cell?_alloc_past (.cells #[.int .i64 l[k].1, .int .i64 l[k].2.1, .int .i64 l[k].2.2] 44) b (off + (k - 1) * 3) hbw).trans hz0
                have t1 := (World.cell?_alloc_past (.cells #[.int .i64 l[k].1, .int .i64 l[k].2.1, .int .i64 l[k].2.2] 44) b (off + (k - 1) * 3 + 1) hbw).trans hz1
                have t2 := (World.cell?_alloc_past (.cells #[.int .i64 l[k].1, .int .i64 l[k].2.1, .int .i64 l[k].2.2] 44) b (off + (k - 1) * 3 + 2) hbw).trans hz2
                generalize wr.alloc (.cells #[.int .i64 l[k].1, .int .i64 l[k].2.1, .int .i64 l[k].2.2] 44) = w2 at *
                have e4 : (1 : Int) ≤ (k : Int) := by omega
                have e5 : (k : Int) - 1 < (l.length : Int) := by omega
                have e6 : k - 1 < l.length := by omega
                have e7 : ((k : Int) - 1 < 0) = False := by simp; omega
                refine wp_region_still_tail 26 (by kernel_rfl) (by kernel_rfl) ?_
                simp only [List.take_succ_cons, List.take_zero, List.drop_succ_cons, List.drop_zero]
                repeat (first | still_step | still_call (within_yes _ _ _ _ (by omega) (by omega)))
                refine wpStill_nil ?_
                change wpList _ _ _ _ _ w2.drew
                go_wp2_with fail
                refine (compareTx_any l[k - 1] l[k] _).mono ?_
                rintro e w3 ⟨rfl, k3⟩
                have kk : Keeps w w3 := (kw.tr (QW.drew (QW.refl _)).keeps).tr k3
                go_wp2
                go_roundw
                case rel =>
                  refine ⟨k + 1, by omega, by go_num, kk, fun j hj => ?_⟩
                  rcases Nat.lt_or_ge j k with h | h
                  · exact HA.out j h
                  · obtain rfl : j = k := by omega
                    unfold txAt
                    rw [HG.out, HG'.out]
                    exact ⟨p0a, p0b, p1a, p1b, p2a, p2b, fun _ => c1⟩
                case measure => simp [intOf]; omega
              · have d1 : decide ((0 : Int) ≤ cmpTx l[k - 1] l[k]) = true := decide_eq_true (by have := mt (cmpTx_lt l[k - 1] l[k]).1 c1; omega)
                have HN := Lib.hid (HB.out (by rw [HG'.out]; intro e; have e := e.2.2.2.2.2.2 k0; exact c1 e))
                go_wp2
                have kw : Keeps w (wr.alloc (.cells #[.int .i64 l[k].1, .int .i64 l[k].2.1, .int .i64 l[k].2.2] 44)) := hb.tr (Below.alloc (Below.refl _ _) (Nat.le_refl _) _)
                have y0 : (wr.alloc (.cells #[.int .i64 l[k].1, .int .i64 l[k].2.1, .int .i64 l[k].2.2] 44)).cell? ⟨wr.heap.size, 0, none⟩ = some (.int .i64 l[k].1) := by go_simp
                have y1 : (wr.alloc (.cells #[.int .i64 l[k].1, .int .i64 l[k].2.1, .int .i64 l[k].2.2] 44)).cell? ⟨wr.heap.size, 1, none⟩ = some (.int .i64 l[k].2.1) := by go_simp
                have y2 : (wr.alloc (.cells #[.int .i64 l[k].1, .int .i64 l[k].2.1, .int .i64 l[k].2.2] 44)).cell? ⟨wr.heap.size, 2, none⟩ = some (.int .i64 l[k].2.2) := by go_simp
                have t0 := (World.cell?_alloc_past (.cells #[.int .i64 l[k].1, .int .i64 l[k].2.1, .int .i64 l[k].2.2] 44) b (off + (k - 1) * 3) hbw).trans hz0
                have t1 := (World.cell?_alloc_past (.cells #[.int .i64 l[k].1, .int .i64 l[k].2.1, .int .i64 l[k].2.2] 44) b (off + (k - 1) * 3 + 1) hbw).trans hz1
                have t2 := (World.cell?_alloc_past (.cells #[.int .i64 l[k].1, .int .i64 l[k].2.1, .int .i64 l[k].2.2] 44) b (off + (k - 1) * 3 + 2) hbw).trans hz2
                generalize wr.alloc (.cells #[.int .i64 l[k].1, .int .i64 l[k].2.1, .int .i64 l[k].2.2] 44) = w2 at *
                have e4 : (1 : Int) ≤ (k : Int) := by omega
                have e5 : (k : Int) - 1 < (l.length : Int) := by omega
                have e6 : k - 1 < l.length := by omega
                have e7 : ((k : Int) - 1 < 0) = False := by simp; omega
                refine wp_region_still_tail 26 (by kernel_rfl) (by kernel_rfl) ?_
                simp only [List.take_succ_cons, List.take_zero, List.drop_succ_cons, List.drop_zero]
                repeat (first | still_step | still_call (within_yes _ _ _ _ (by omega) (by omega)))
                refine wpStill_nil ?_
                change wpList _ _ _ _ _ w2.drew
                go_wp2_with fail
                refine (compareTx_any l[k - 1] l[k] _).mono ?_
                rintro e w3 ⟨rfl, k3⟩
                have kk : Keeps w w3 := (kw.tr (QW.drew (QW.refl _)).keeps).tr k3
                go_wp2
                go_ret
                exact ⟨ret_bool HN.out.symm, kk⟩
            · have HG := Lib.hid hg
              clear hg hc hcell
              have hd : decide ((0 : Int) < (k : Int)) = false := decide_eq_false (by omega)
              go_wp2
              go_quiet ((go_at_call 100; first | exact Calls.quiet_of_same (within_yes _ _ _ _ (by omega) (by omega)) | exact Calls.quiet_of_same (within_no _ _ _ _ (by omega))))
              go_wp2
              go_roundw
              case rel =>
                refine ⟨k + 1, by omega, by go_num, hb.tr (below_drewN (Below.alloc (Below.refl _ _) (Nat.le_refl _) _) _), fun j hj => ?_⟩
                rcases Nat.lt_or_ge j k with h | h
                · exact HA.out j h
                · obtain rfl : j = k := by omega
                  unfold txAt
                  rw [HG.out]
                  exact ⟨p0a, p0b, p1a, p1b, p2a, p2b, fun h => absurd h k0⟩
              case measure => simp [intOf]; omega
          · have HN := Lib.hid (HB.out (by intro e; exact p2 ⟨e.2.2.2.2.1, e.2.2.2.2.2.1⟩))
            clear hg hc hcell
            have p2' : l[k].2.2 < 0 ∨ 1000 < l[k].2.2 := by omega
            clear p2
            go_wp2
            go_quiet ((go_at_call 100; first | exact Calls.quiet_of_same (within_yes _ _ _ _ (by omega) (by omega)) | exact Calls.quiet_of_same (within_no _ _ _ _ (by omega))))
            go_wp2
            go_ret
            exact ⟨ret_bool HN.out.symm, hb.tr (below_drewN (Below.alloc (Below.refl _ _) (Nat.le_refl _) _) _)⟩
        · have HN := Lib.hid (HB.out (by intro e; exact p1 ⟨e.2.2.1, e.2.2.2.1⟩))
          clear hg hc hcell
          have p1' : l[k].2.1 < 1 ∨ 1000 < l[k].2.1 := by omega
          clear p1
          go_wp2
          go_quiet ((go_at_call 100; first | exact Calls.quiet_of_same (within_yes _ _ _ _ (by omega) (by omega)) | exact Calls.quiet_of_same (within_no _ _ _ _ (by omega))))
          go_wp2
          go_ret
          exact ⟨ret_bool HN.out.symm, hb.tr (below_drewN (Below.alloc (Below.refl _ _) (Nat.le_refl _) _) _)⟩
      · have HN := Lib.hid (HB.out (by intro e; exact p0 ⟨e.1, e.2.1⟩))
        clear hg hc hcell
        have p0' : l[k].1 < 1 ∨ 9 < l[k].1 := by omega
        clear p0
        go_wp2
        go_quiet ((go_at_call 100; first | exact Calls.quiet_of_same (within_yes _ _ _ _ (by omega) (by omega)) | exact Calls.quiet_of_same (within_no _ _ _ _ (by omega))))
        go_wp2
        go_ret
        exact ⟨ret_bool HN.out.symm, hb.tr (below_drewN (Below.alloc (Below.refl _ _) (Nat.le_refl _) _) _)⟩
    · have hok : decide (poolOk l) = decide ((l.length : Int) ≤ 14) := by
        by_cases h7 : l.length ≤ 14
        · rw [decide_eq_true ⟨h7, fun j hj => HA.out j (by omega)⟩, decide_eq_true (by omega)]
        · rw [decide_eq_false (fun e => h7 e.1), decide_eq_false (by omega)]
      have HN := Lib.hid hok
      clear hok
      go_wp2
      go_ret
      exact ⟨ret_bool HN.out.symm, hb⟩

end Go.Proofs.Ytlchfjjoendimaa
