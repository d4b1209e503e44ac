/-
  slices.IndexFunc and ContainsFunc at the closure of Done, by contracts.
-/
import Derived.Test.YtfnjkoimejkhlaaIdx
import Derived.Test.YtfnjkoimejkhlaaFlatTx
namespace Go.Proofs.Ytfnjkoimejkhlaa
set_option maxRecDepth 100000
open Go.RowKit

set_option maxHeartbeats 1000000 in
theorem indexFuncDone (cap : Value) (p : TTx → Bool) (v : Value) (ds : List TTx) (w : World) (h : RdS w w.heap.size 3 cTx v ds) (hn : ds.length ≤ 8796093022207)
    (hcl : ∀ (d : TTx) (w' : World), Keeps w w' → Calls Try.prog 91 #[.agg #[.int .i64 d.1, .int .i64 d.2.1, .int .i64 d.2.2], cap] w' (SaysB (p d) w')) :
    Calls Try.prog 117 #[v, .func (.func 91) #[] #[cap]] w (SaysI (idxI p ds) w) := by
  obtain ⟨A, c, rfl, hlc, hcm, hcell⟩ := h
  have HC := Lib.hid hcl
  clear hcl
  go_enter Try.func117, Try.ntmps117
  go_wp2_with fail
  go_loopw [8] (fun i wr => ∃ k : Nat, k ≤ ds.length ∧ i = .int .i64 k ∧ Keeps w wr ∧ ∀ j (hj : j < ds.length), j < k → p ds[j] = false) (fun i _ => ds.length - (intOf i).toNat)
  case atStart => exact ⟨0, Nat.zero_le _, rfl, Keeps.refl _, fun j _ h => by omega⟩
  case round =>
    obtain ⟨k, hk, rfl, hb, hall⟩ := hrel
    have HA := Lib.hid hall
    clear hall
    by_cases hlt : k < ds.length
    · obtain ⟨b, off, rfl, hbb, hc⟩ := hcell (by intro e; simp [e] at hlt)
      have hx0 := (Below.cell hb (p := ⟨b, off + k * 3 + 0, none⟩) hbb).trans <| hc k _ (List.getElem?_eq_getElem hlt) 0 _ rfl
      have hx1 := (Below.cell hb (p := ⟨b, off + k * 3 + 1, none⟩) hbb).trans <| hc k _ (List.getElem?_eq_getElem hlt) 1 _ rfl
      have hx2 := (Below.cell hb (p := ⟨b, off + k * 3 + 2, none⟩) hbb).trans <| hc k _ (List.getElem?_eq_getElem hlt) 2 _ rfl
      simp only [Nat.add_zero] at hx0
      clear hc hcell
      go_wp2_with fail
      refine (HC.out ds[k] _ hb).mono ?_
      rintro e w1 ⟨rfl, k1⟩
      have k2 : Keeps w w1 := hb.tr k1
      clear k1
      by_cases hp : p ds[k] = true
      · have HI := Lib.hid (idxI_of p ds k hlt HA.out hp)
        go_wp2_with fail
        go_ret
        exact ⟨ret_int (by rw [HI.out]), k2⟩
      · have hp' : p ds[k] = false := by simpa using hp
        have HP := Lib.hid hp'
        clear hp
        go_wp2_with fail
        go_roundw
        case rel =>
          refine ⟨k + 1, by omega, by go_num, k2, fun j hj h => ?_⟩
          rcases Nat.lt_or_ge j k with h' | h'
          · exact HA.out j hj h'
          · obtain rfl : j = k := by omega
            exact HP.out
        case measure => simp [intOf]; omega
    · have HI := Lib.hid (idxI_none p ds (fun j hj => HA.out j hj (by omega)))
      go_wp2_with fail
      go_ret
      exact ⟨ret_int (by rw [HI.out]), hb⟩
theorem containsFuncDone (cap : Value) (p : TTx → Bool) (v : Value) (ds : List TTx) (w : World) (h : RdS w w.heap.size 3 cTx v ds) (hn : ds.length ≤ 8796093022207)
    (hcl : ∀ (d : TTx) (w' : World), Keeps w w' → Calls Try.prog 91 #[.agg #[.int .i64 d.1, .int .i64 d.2.1, .int .i64 d.2.2], cap] w' (SaysB (p d) w')) :
    Calls Try.prog 90 #[v, .func (.func 91) #[] #[cap]] w (SaysB (ds.any p) w) := by
  have HC := Lib.hid hcl
  have HI := Lib.hid (idxI_any p ds)
  clear hcl
  go_enter Try.func90, Try.ntmps90
  go_wp2_with fail
  refine (indexFuncDone cap p v ds w h hn HC.out).mono ?_
  rintro e w1 ⟨rfl, k1⟩
  go_wp2_with fail
  go_ret
  exact ⟨ret_bool HI.out, k1⟩

end Go.Proofs.Ytfnjkoimejkhlaa
