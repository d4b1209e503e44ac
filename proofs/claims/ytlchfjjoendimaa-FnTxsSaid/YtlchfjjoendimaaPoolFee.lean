/-
  PoolFee of spec and impl, by one contract.
-/
import Derived.Test.YtlchfjjoendimaaPoolOk
namespace Go.Proofs.Ytlchfjjoendimaa
set_option maxRecDepth 100000
set_option linter.unusedVariables false
set_option linter.unusedSimpArgs false
open Go.RowKit

def sumPoolFee (l : List TTx) : Int := (l.map (·.2.2)).sum
def poolFee (l : List TTx) : Int := if poolOk l then sumPoolFee l else 0

theorem sumPoolFee_next (l : List TTx) (k : Nat) (h : k < l.length) : sumPoolFee (l.take (k + 1)) = sumPoolFee (l.take k) + l[k].2.2 := by
  unfold sumPoolFee
  rw [List.take_succ_eq_append_getElem h, List.map_append, List.sum_append]
  simp only [List.map_cons, List.map_nil, List.sum_cons, List.sum_nil, Int.add_zero]

theorem bdPoolFee {l : List TTx} (h : poolOk l) (k : Nat) (hk : k < l.length) : 0 ≤ l[k].2.2 ∧ l[k].2.2 ≤ 1000 := by
  have := h.2 k hk
  unfold txAt at this
  rw [show l.getD k (0, 0, 0) = l[k] by simp [List.getD, hk]] at this
  exact ⟨this.2.2.2.2.1, this.2.2.2.2.2.1⟩

theorem sumPoolFee_bd {l : List TTx} (h : poolOk l) : ∀ k : Nat, k ≤ l.length → 0 ≤ sumPoolFee (l.take k) ∧ sumPoolFee (l.take k) ≤ k * 1000
  | 0, _ => by simp [sumPoolFee]
  | k + 1, hk => by
    have ih := sumPoolFee_bd h k (by omega)
    have b := bdPoolFee h k (by omega)
    rw [sumPoolFee_next l k (by omega)]
    omega

set_option maxHeartbeats 1000000 in
theorem poolFee_spec (v : Value) (l : List TTx) (w : World) (h : RdS w w.heap.size 3 cTx v l) (hn : l.length ≤ 8796093022207) :
    Calls Try.prog 32 #[v] w (SaysI (poolFee l) w) := by
  have hr := Lib.hid h
  obtain ⟨A, c, rfl, hlc, hcm, hcell⟩ := h
  by_cases hok : poolOk l
  · have hd : decide (poolOk l) = true := decide_eq_true hok
    have hv : poolFee l = sumPoolFee l := if_pos hok
    rw [hv]
    have H7 : l.length ≤ 14 := hok.1
    have HO := Lib.hid hok
    clear hv hok
    go_enter Try.func32, Try.ntmps32
    go_wp2
    go_loopw [3, 4] (fun n i wr => ∃ k : Nat, k ≤ l.length ∧ i = .int .i64 k ∧ n = .int .i64 (sumPoolFee (l.take k)) ∧ Keeps w wr) (fun _ i _ => l.length - (intOf i).toNat)
    case atStart => exact ⟨0, Nat.zero_le _, rfl, rfl, Keeps.refl _⟩
    case round =>
      obtain ⟨k, hk, rfl, rfl, hb⟩ := hrel
      have bd := sumPoolFee_bd HO.out k hk
      by_cases hlt : k < l.length
      · go_wp2_with fail
        refine (poolOk_spec _ l _ (hr.out.keeps hb) hn).mono ?_
        rintro e w1 ⟨rfl, q1⟩
        have q1 : Keeps wr w1 := q1
        obtain ⟨b, off, rfl, hbb, hc⟩ := hcell (by intro e; simp [e] at hlt)
        have hx1 := ((hb.tr q1).cell (p := ⟨b, off + k * 3 + 2, none⟩) hbb).trans <| hc k _ (List.getElem?_eq_getElem hlt) 2 _ rfl
        have ab := bdPoolFee HO.out k hlt
        have HS := Lib.hid (sumPoolFee_next l k hlt)
        clear hc hcell
        have hb2 : Keeps w w1 := hb.tr q1
        go_wp2_with fail
        go_roundw
        case rel => exact ⟨k + 1, by omega, by go_num, by rw [HS.out], hb2⟩
        case measure => simp [intOf]; omega
      · have hd1 : decide ((k : Int) < l.length) = false := decide_eq_false (by omega)
        go_wp2_with fail
        go_ret
        have e : k = l.length := by omega
        subst e
        exact ⟨ret_int (by rw [List.take_length]), hb⟩
  · have hd : decide (poolOk l) = false := decide_eq_false hok
    have hv : poolFee l = 0 := if_neg hok
    rw [hv]
    clear hv hok
    go_enter Try.func32, Try.ntmps32
    go_wp2
    by_cases hpos : 0 < l.length
    · refine wp_loop_rounds 1 ?_
      rw [rounds_succ]
      go_wp2_with fail
      refine (poolOk_spec _ l _ hr.out hn).mono ?_
      rintro e w1 ⟨rfl, q1⟩
      have q1 : Keeps w w1 := q1
      go_wp2_with fail
      go_ret
      exact ⟨rfl, q1⟩
    · have hd1 : decide ((0 : Int) < l.length) = false := decide_eq_false (by omega)
      refine wp_loop_rounds 1 ?_
      rw [rounds_succ]
      go_wp2_with fail
      go_ret
      exact ⟨rfl, Keeps.refl _⟩

set_option maxHeartbeats 1000000 in
theorem poolFee_impl (v : Value) (l : List TTx) (w : World) (h : RdS w w.heap.size 3 cTx v l) (hn : l.length ≤ 8796093022207) :
    Calls Try.prog 31 #[v] w (SaysI (poolFee l) w) := by
  have hr := Lib.hid h
  obtain ⟨A, c, rfl, hlc, hcm, hcell⟩ := h
  by_cases hok : poolOk l
  · have hd : decide (poolOk l) = true := decide_eq_true hok
    have hv : poolFee l = sumPoolFee l := if_pos hok
    rw [hv]
    have H7 : l.length ≤ 14 := hok.1
    have HO := Lib.hid hok
    clear hv hok
    go_enter Try.func31, Try.ntmps31
    go_wp2_with fail
    refine (poolOk_impl _ l _ hr.out hn).mono ?_
    rintro e w1 ⟨rfl, k1⟩
    have k1 : Keeps w w1 := k1
    go_wp2_with fail
    go_loopw [3, 11] (fun n i wr => ∃ k : Nat, k ≤ l.length ∧ i = .int .i64 k ∧ n = .int .i64 (sumPoolFee (l.take k)) ∧ Keeps w wr) (fun _ i _ => l.length - (intOf i).toNat)
    case atStart => exact ⟨0, Nat.zero_le _, rfl, rfl, k1⟩
    case round =>
      obtain ⟨k, hk, rfl, rfl, hb⟩ := hrel
      have bd := sumPoolFee_bd HO.out k hk
      by_cases hlt : k < l.length
      · obtain ⟨b, off, rfl, hbb, hc⟩ := hcell (by intro e; simp [e] at hlt)
        have hx0 := (Below.cell hb (p := ⟨b, off + k * 3 + 0, none⟩) hbb).trans <| hc k _ (List.getElem?_eq_getElem hlt) 0 _ rfl
        have hx1 := (Below.cell hb (p := ⟨b, off + k * 3 + 1, none⟩) hbb).trans <| hc k _ (List.getElem?_eq_getElem hlt) 1 _ rfl
        have hx2 := (Below.cell hb (p := ⟨b, off + k * 3 + 2, none⟩) hbb).trans <| hc k _ (List.getElem?_eq_getElem hlt) 2 _ rfl
        simp only [Nat.add_zero] at hx0
        have hbw : b < wr.heap.size := Nat.lt_of_lt_of_le hbb (Below.size hb)
        have ab := bdPoolFee HO.out k hlt
        have HS := Lib.hid (sumPoolFee_next l k hlt)
        clear hc hcell
        go_wp2_with fail
        go_roundw
        case rel => exact ⟨k + 1, by omega, by go_num, by rw [HS.out], hb.tr (Below.alloc (Below.refl _ _) (Nat.le_refl _) _)⟩
        case measure => simp [intOf]; omega
      · go_wp2_with fail
        go_ret
        have e : k = l.length := by omega
        subst e
        exact ⟨ret_int (by rw [List.take_length]), hb⟩
  · have hd : decide (poolOk l) = false := decide_eq_false hok
    have hv : poolFee l = 0 := if_neg hok
    rw [hv]
    clear hv hok
    go_enter Try.func31, Try.ntmps31
    go_wp2_with fail
    refine (poolOk_impl _ l _ hr.out hn).mono ?_
    rintro e w1 ⟨rfl, k1⟩
    go_wp2_with fail
    go_ret
    exact ⟨rfl, k1⟩

end Go.Proofs.Ytlchfjjoendimaa
