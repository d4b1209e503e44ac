/-
  Put together: Str FlatItem BookOk.
-/
import Derived.Test.YtimnogjgokljbaaDoorBase
import Derived.Test.YtimnogjgokljbaaDoorRows
import Derived.Outline
import Derived.Handy
import Derived.Test.YtimnogjgokljbaaDoorG12
import Derived.IntWalk
section
/-!
  String slices: szStringS, toStringS, eqStringS, by contracts.
-/
namespace Go.Proofs.YtimnogjgokljbaaDoor
set_option maxRecDepth 100000
set_option linter.unusedVariables false
set_option linter.unusedSimpArgs false
open Go.RowKit

def strsTot (ss : List ByteArray) : Nat := ss.length + (ss.map ByteArray.size).sum
theorem strsTot_ge (ss : List ByteArray) : ss.length ≤ strsTot ss := by unfold strsTot; omega


def okString (s : ByteArray) : Prop := s.size ≤ maxLen

theorem info_str : (Tryd.prog.info? 9).map (fun i => (i.zero, i.size, i.bytes)) = some (some (.string ByteArray.empty), 1, 16) := by kernel_rfl




end Go.Proofs.YtimnogjgokljbaaDoor

end
section
/-!
  Item: its size, copy, equality, mark and held functions, by contracts.
-/
namespace Go.Proofs.YtimnogjgokljbaaDoor
set_option maxRecDepth 100000
set_option linter.unusedVariables false
set_option linter.unusedSimpArgs false
open Go.RowKit

abbrev TItem := ByteArray × Int
def cItem (x : TItem) : List Value := [.string x.1, .int .i64 x.2]
def zItem : List Value := [.string ByteArray.empty, .int .i64 0]
def totItem (x : TItem) : Nat := x.1.size
def okItem (x : TItem) : Prop := x.1.size ≤ maxLen







end Go.Proofs.YtimnogjgokljbaaDoor

end
section
/-!
  BookOk of spec and impl, by one contract.
-/
namespace Go.Proofs.YtimnogjgokljbaaDoor
set_option maxRecDepth 100000
set_option linter.unusedVariables false
set_option linter.unusedSimpArgs false
open Go.RowKit

/-- element k of the ledger is in range, and above the one before it -/
def itemAt (l : List TItem) (k : Nat) : Prop :=
  keyOk (l.getD k (ByteArray.empty, 0)).1 ∧ 1 ≤ (l.getD k (ByteArray.empty, 0)).2 ∧ (l.getD k (ByteArray.empty, 0)).2 ≤ 1000000 ∧ (0 < k → Op.bytesLess (l.getD (k - 1) (ByteArray.empty, 0)).1.toList (l.getD k (ByteArray.empty, 0)).1.toList = true)
instance (l : List TItem) (k : Nat) : Decidable (itemAt l k) := by unfold itemAt; infer_instance
def bookOk (l : List TItem) : Prop := l.length ≤ 12 ∧ ∀ k, k < l.length → itemAt l k
instance (l : List TItem) : Decidable (bookOk l) := by unfold bookOk; infer_instance

set_option maxHeartbeats 4000000 in
theorem bookOk_spec (v : Value) (l : List TItem) (w : World) (h : RdS w w.heap.size 2 cItem v l) (hok : ∀ x ∈ l, okItem x) (hn : l.length ≤ 8796093022207) :
    Calls Tryd.prog 12 #[v] w (Quiet (.bool (decide (bookOk l))) w) := by
  obtain ⟨A, c, rfl, hlc, hcm, hcell⟩ := h
  by_cases hlen : 12 < l.length
  · have hne : decide (bookOk l) = false := decide_eq_false fun e => by have := e.1; omega
    rw [hne]
    go_enter Tryd.func12, Tryd.ntmps12
    go_wp2
    go_ret
    exact ⟨rfl, QW.refl _⟩
  have hlen0 : decide (12 < (l.length : Int)) = false := decide_eq_false (by omega)
  go_enter Tryd.func12, Tryd.ntmps12
  go_wp2
  go_loopw [3] (fun i wr => ∃ k : Nat, k ≤ l.length ∧ i = .int .i64 k ∧ QW w wr ∧ ∀ j, j < k → itemAt l j) (fun i _ => l.length - (intOf i).toNat)
  case atStart => exact ⟨0, Nat.zero_le _, rfl, QW.refl _, by omega⟩
  case round =>
    obtain ⟨k, hk, rfl, hb, hall⟩ := hrel
    have HA := Lib.hid hall
    clear hall
    by_cases hlt : k < l.length
    · obtain ⟨b, off, rfl, hbb, hc⟩ := hcell (by intro e; simp [e] at hlt)
      have hx0 := (QW.cell hb ⟨b, off + k * 2 + 0, none⟩).trans <| hc k _ (List.getElem?_eq_getElem hlt) 0 _ rfl
      have hx1 := (QW.cell hb ⟨b, off + k * 2 + 1, none⟩).trans <| hc k _ (List.getElem?_eq_getElem hlt) 1 _ rfl
      simp only [Nat.add_zero] at hx0
      have hg : l.getD k (ByteArray.empty, 0) = l[k] := by simp [List.getD, hlt]
      have HS := Lib.hid (hok _ (List.getElem_mem hlt))
      have HS : Hid (l[k].1.size ≤ maxLen) := HS
      have bad : ¬ itemAt l k → decide (bookOk l) = false := fun h => decide_eq_false fun e => h (e.2 k hlt)
      unfold itemAt at bad
      rw [hg] at bad
      have HB := Lib.hid bad
      clear bad
      by_cases p0 : keyOk l[k].1
      · have P0 := Lib.hid p0
        have dk : decide (keyOk l[k].1) = true := decide_eq_true p0
        clear p0
        by_cases p1 : 1 ≤ l[k].2 ∧ l[k].2 ≤ 1000000
        · obtain ⟨p1a, p1b⟩ := p1
          by_cases k0 : 0 < k
          · have hlt' : k - 1 < l.length := by omega
            have hg' : l.getD (k - 1) (ByteArray.empty, 0) = l[k - 1] := by simp [List.getD, hlt']
            have hz0 := (QW.cell hb ⟨b, off + (k - 1) * 2 + 0, none⟩).trans <| hc (k - 1) _ (List.getElem?_eq_getElem hlt') 0 _ rfl
            have hz1 := (QW.cell hb ⟨b, off + (k - 1) * 2 + 1, none⟩).trans <| hc (k - 1) _ (List.getElem?_eq_getElem hlt') 1 _ rfl
            simp only [Nat.add_zero] at hz0
            have HG := Lib.hid hg
            have HG' := Lib.hid hg'
            clear hg hg' hc hcell
            have e1 : IntKind.i64.wrap ((k : Int) - 1) = (k : Int) - 1 := IntWalk.i64_in _ (by omega)
            have e2 : (0 : Int) ≤ (k : Int) - 1 := by omega
            have e3 : ((k : Int) - 1).toNat = k - 1 := by omega
            by_cases c1 : Op.bytesLess l[k - 1].1.toList l[k].1.toList = true
            · skip
              go_wp2
              go_quiet ((first | (go_at_call 35; first | exact Calls.quiet_of_same (l1In_yes _ _ _ _ (by omega) (by omega)) | exact Calls.quiet_of_same (l1In_no _ _ _ _ (by omega))) | (go_at_call 28; exact Calls.quiet_of_same (l36Key_any _ _ HS.out))))
              go_wp2
              go_roundw
              case rel =>
                refine ⟨k + 1, by omega, by go_num, QW.drewN hb _, fun j hj => ?_⟩
                rcases Nat.lt_or_ge j k with h | h
                · exact HA.out j h
                · obtain rfl : j = k := by omega
                  unfold itemAt
                  rw [HG.out, HG'.out]
                  exact ⟨P0.out, p1a, p1b, fun _ => c1⟩
              case measure => simp [intOf]; omega
            · have d1 : Op.bytesLess l[k - 1].1.toList l[k].1.toList = false := by simpa using c1
              have HN := Lib.hid (HB.out (by rw [HG'.out]; intro e; have e := e.2.2.2 k0; exact c1 e))
              go_wp2
              go_quiet ((first | (go_at_call 35; first | exact Calls.quiet_of_same (l1In_yes _ _ _ _ (by omega) (by omega)) | exact Calls.quiet_of_same (l1In_no _ _ _ _ (by omega))) | (go_at_call 28; exact Calls.quiet_of_same (l36Key_any _ _ HS.out))))
              go_wp2
              go_ret
              exact ⟨ret_bool HN.out.symm, QW.drewN hb _⟩
          · have HG := Lib.hid hg
            clear hg hc hcell
            have hd : decide ((0 : Int) < (k : Int)) = false := decide_eq_false (by omega)
            go_wp2
            go_quiet ((first | (go_at_call 35; first | exact Calls.quiet_of_same (l1In_yes _ _ _ _ (by omega) (by omega)) | exact Calls.quiet_of_same (l1In_no _ _ _ _ (by omega))) | (go_at_call 28; exact Calls.quiet_of_same (l36Key_any _ _ HS.out))))
            go_wp2
            go_roundw
            case rel =>
              refine ⟨k + 1, by omega, by go_num, QW.drewN hb _, fun j hj => ?_⟩
              rcases Nat.lt_or_ge j k with h | h
              · exact HA.out j h
              · obtain rfl : j = k := by omega
                unfold itemAt
                rw [HG.out]
                exact ⟨P0.out, p1a, p1b, fun h => absurd h k0⟩
            case measure => simp [intOf]; omega
        · have HN := Lib.hid (HB.out (by intro e; exact p1 ⟨e.2.1, e.2.2.1⟩))
          clear hg hc hcell
          have p1' : l[k].2 < 1 ∨ 1000000 < l[k].2 := by omega
          clear p1
          go_wp2
          go_quiet ((first | (go_at_call 35; first | exact Calls.quiet_of_same (l1In_yes _ _ _ _ (by omega) (by omega)) | exact Calls.quiet_of_same (l1In_no _ _ _ _ (by omega))) | (go_at_call 28; exact Calls.quiet_of_same (l36Key_any _ _ HS.out))))
          go_wp2
          go_ret
          exact ⟨ret_bool HN.out.symm, QW.drewN hb _⟩
      · have HN := Lib.hid (HB.out (by intro e; exact p0 e.1))
        clear hg hc hcell
        have dk : decide (keyOk l[k].1) = false := decide_eq_false p0
        clear p0
        go_wp2
        go_quiet ((first | (go_at_call 35; first | exact Calls.quiet_of_same (l1In_yes _ _ _ _ (by omega) (by omega)) | exact Calls.quiet_of_same (l1In_no _ _ _ _ (by omega))) | (go_at_call 28; exact Calls.quiet_of_same (l36Key_any _ _ HS.out))))
        go_wp2
        go_ret
        exact ⟨ret_bool HN.out.symm, QW.drewN hb _⟩
    · have hok : decide (bookOk l) = true := decide_eq_true ⟨by omega, fun j hj => HA.out j (by omega)⟩
      have HN := Lib.hid hok
      clear hok
      go_wp2
      go_ret
      exact ⟨ret_bool HN.out.symm, hb⟩


set_option maxHeartbeats 4000000 in
theorem bookOk_impl (v : Value) (l : List TItem) (w : World) (h : RdS w w.heap.size 2 cItem v l) (hok : ∀ x ∈ l, okItem x) (hn : l.length ≤ 8796093022207) :
    Calls Tryd.prog 22 #[v] w (SaysB (decide (bookOk l)) w) := by
  obtain ⟨A, c, rfl, hlc, hcm, hcell⟩ := h
  go_enter Tryd.func22, Tryd.ntmps22
  go_wp2
  go_loopw [7] (fun i wr => ∃ k : Nat, k ≤ l.length ∧ i = .int .i64 k ∧ Keeps w wr ∧ ∀ j, j < k → itemAt l j) (fun i _ => l.length - (intOf i).toNat)
  case atStart => exact ⟨0, Nat.zero_le _, rfl, Keeps.refl _, by omega⟩
  case round =>
    obtain ⟨k, hk, rfl, hb, hall⟩ := hrel
    have HA := Lib.hid hall
    clear hall
    by_cases hlt : k < l.length
    · obtain ⟨b, off, rfl, hbb, hc⟩ := hcell (by intro e; simp [e] at hlt)
      have hbw : b < wr.heap.size := Nat.lt_of_lt_of_le hbb (Below.size hb)
      have hx0 := (Below.cell hb (p := ⟨b, off + k * 2 + 0, none⟩) hbb).trans <| hc k _ (List.getElem?_eq_getElem hlt) 0 _ rfl
      have hx1 := (Below.cell hb (p := ⟨b, off + k * 2 + 1, none⟩) hbb).trans <| hc k _ (List.getElem?_eq_getElem hlt) 1 _ rfl
      simp only [Nat.add_zero] at hx0
      have hg : l.getD k (ByteArray.empty, 0) = l[k] := by simp [List.getD, hlt]
      have HS := Lib.hid (hok _ (List.getElem_mem hlt))
      have HS : Hid (l[k].1.size ≤ maxLen) := HS
      have bad : ¬ itemAt l k → decide (bookOk l) = false := fun h => decide_eq_false fun e => h (e.2 k hlt)
      unfold itemAt at bad
      rw [hg] at bad
      have HB := Lib.hid bad
      clear bad
      by_cases p0 : keyOk l[k].1
      · have P0 := Lib.hid p0
        have dk : decide (keyOk l[k].1) = true := decide_eq_true p0
        clear p0
        by_cases p1 : 1 ≤ l[k].2 ∧ l[k].2 ≤ 1000000
        · obtain ⟨p1a, p1b⟩ := p1
          by_cases k0 : 0 < k
          · have hlt' : k - 1 < l.length := by omega
            have hg' : l.getD (k - 1) (ByteArray.empty, 0) = l[k - 1] := by simp [List.getD, hlt']
            have hz0 := (Below.cell hb (p := ⟨b, off + (k - 1) * 2 + 0, none⟩) hbb).trans <| hc (k - 1) _ (List.getElem?_eq_getElem hlt') 0 _ rfl
            have hz1 := (Below.cell hb (p := ⟨b, off + (k - 1) * 2 + 1, none⟩) hbb).trans <| hc (k - 1) _ (List.getElem?_eq_getElem hlt') 1 _ rfl
            simp only [Nat.add_zero] at hz0
            have HG := Lib.hid hg
            have HG' := Lib.hid hg'
            clear hg hg' hc hcell
            have e1 : IntKind.i64.wrap ((k : Int) - 1) = (k : Int) - 1 := IntWalk.i64_in _ (by omega)
            have e2 : (0 : Int) ≤ (k : Int) - 1 := by omega
            have e3 : ((k : Int) - 1).toNat = k - 1 := by omega
            by_cases c1 : Op.bytesLess l[k - 1].1.toList l[k].1.toList = true
            · skip
              go_wp2
              go_quiet ((first | (go_at_call 46; first | exact Calls.quiet_of_same (within_yes _ _ _ _ (by omega) (by omega)) | exact Calls.quiet_of_same (within_no _ _ _ _ (by omega))) | (go_at_call 45; exact Calls.quiet_of_same (isKey_any _ _ HS.out))))
              go_wp2
              go_roundw
              case rel =>
                refine ⟨k + 1, by omega, by go_num, hb.tr (below_drewN (Below.alloc (Below.refl _ _) (Nat.le_refl _) _) _), fun j hj => ?_⟩
                rcases Nat.lt_or_ge j k with h | h
                · exact HA.out j h
                · obtain rfl : j = k := by omega
                  unfold itemAt
                  rw [HG.out, HG'.out]
                  exact ⟨P0.out, p1a, p1b, fun _ => c1⟩
              case measure => simp [intOf]; omega
            · have d1 : Op.bytesLess l[k - 1].1.toList l[k].1.toList = false := by simpa using c1
              have HN := Lib.hid (HB.out (by rw [HG'.out]; intro e; have e := e.2.2.2 k0; exact c1 e))
              go_wp2
              go_quiet ((first | (go_at_call 46; first | exact Calls.quiet_of_same (within_yes _ _ _ _ (by omega) (by omega)) | exact Calls.quiet_of_same (within_no _ _ _ _ (by omega))) | (go_at_call 45; exact Calls.quiet_of_same (isKey_any _ _ HS.out))))
              go_wp2
              go_ret
              exact ⟨ret_bool HN.out.symm, hb.tr (below_drewN (Below.alloc (Below.refl _ _) (Nat.le_refl _) _) _)⟩
          · have HG := Lib.hid hg
            clear hg hc hcell
            have hd : decide ((0 : Int) < (k : Int)) = false := decide_eq_false (by omega)
            go_wp2
            go_quiet ((first | (go_at_call 46; first | exact Calls.quiet_of_same (within_yes _ _ _ _ (by omega) (by omega)) | exact Calls.quiet_of_same (within_no _ _ _ _ (by omega))) | (go_at_call 45; exact Calls.quiet_of_same (isKey_any _ _ HS.out))))
            go_wp2
            go_roundw
            case rel =>
              refine ⟨k + 1, by omega, by go_num, hb.tr (below_drewN (Below.alloc (Below.refl _ _) (Nat.le_refl _) _) _), fun j hj => ?_⟩
              rcases Nat.lt_or_ge j k with h | h
              · exact HA.out j h
              · obtain rfl : j = k := by omega
                unfold itemAt
                rw [HG.out]
                exact ⟨P0.out, p1a, p1b, fun h => absurd h k0⟩
            case measure => simp [intOf]; omega
        · have HN := Lib.hid (HB.out (by intro e; exact p1 ⟨e.2.1, e.2.2.1⟩))
          clear hg hc hcell
          have p1' : l[k].2 < 1 ∨ 1000000 < l[k].2 := by omega
          clear p1
          go_wp2
          go_quiet ((first | (go_at_call 46; first | exact Calls.quiet_of_same (within_yes _ _ _ _ (by omega) (by omega)) | exact Calls.quiet_of_same (within_no _ _ _ _ (by omega))) | (go_at_call 45; exact Calls.quiet_of_same (isKey_any _ _ HS.out))))
          go_wp2
          go_ret
          exact ⟨ret_bool HN.out.symm, hb.tr (below_drewN (Below.alloc (Below.refl _ _) (Nat.le_refl _) _) _)⟩
      · have HN := Lib.hid (HB.out (by intro e; exact p0 e.1))
        clear hg hc hcell
        have dk : decide (keyOk l[k].1) = false := decide_eq_false p0
        clear p0
        go_wp2
        go_quiet ((first | (go_at_call 46; first | exact Calls.quiet_of_same (within_yes _ _ _ _ (by omega) (by omega)) | exact Calls.quiet_of_same (within_no _ _ _ _ (by omega))) | (go_at_call 45; exact Calls.quiet_of_same (isKey_any _ _ HS.out))))
        go_wp2
        go_ret
        exact ⟨ret_bool HN.out.symm, hb.tr (below_drewN (Below.alloc (Below.refl _ _) (Nat.le_refl _) _) _)⟩
    · have hok : decide (bookOk l) = decide ((l.length : Int) ≤ 12) := by
        by_cases h7 : l.length ≤ 12
        · rw [decide_eq_true ⟨h7, fun j hj => HA.out j (by omega)⟩, decide_eq_true (by omega)]
        · rw [decide_eq_false (fun e => h7 e.1), decide_eq_false (by omega)]
      have HN := Lib.hid hok
      clear hok
      go_wp2
      go_ret
      exact ⟨ret_bool HN.out.symm, hb⟩

end Go.Proofs.YtimnogjgokljbaaDoor

end
