/-
  ToVals of spec and impl, by one contract.
-/
import Derived.Test.YtlchfjjoendimaaAcctsOk
import Derived.Test.YtlchfjjoendimaaFlatVal
import Derived.IntWalk
namespace Go.Proofs.Ytlchfjjoendimaa
set_option maxRecDepth 100000
set_option linter.unusedVariables false
set_option linter.unusedSimpArgs false
open Go.RowKit

/-- the validators of accounts, one for each that has a unit -/
def tvs (unit : Int) (l : List TAcct) : List TVal := l.flatMap fun a => if unit ≤ a.2 then [(a.1, min 1000 (a.2 / unit))] else []
def toVals (l : List TAcct) (unit : Int) : List TVal := if acctsOk l ∧ 1 ≤ unit then tvs unit l else []
theorem tvs_next (unit : Int) (l : List TAcct) (k : Nat) (h : k < l.length) : tvs unit (l.take (k + 1)) = tvs unit (l.take k) ++ if unit ≤ l[k].2 then [(l[k].1, min 1000 (l[k].2 / unit))] else [] := by
  unfold tvs
  rw [List.take_succ_eq_append_getElem h, List.flatMap_append]
  simp
theorem tvs_le (unit : Int) (l : List TAcct) : (tvs unit l).length ≤ l.length := by
  unfold tvs
  induction l with
  | nil => simp
  | cons a r ih =>
    rw [List.flatMap_cons, List.length_append, List.length_cons]
    have h1 : (if unit ≤ a.2 then [(a.1, min 1000 (a.2 / unit))] else [] : List TVal).length ≤ 1 := by split <;> simp
    omega
theorem toVals_le (l : List TAcct) (unit : Int) : (toVals l unit).length ≤ l.length := by
  unfold toVals
  split
  · exact tvs_le unit l
  · simp
theorem info_ValT : (Try.prog.info? 95).map (fun i => (i.zero, i.size, i.bytes)) = some (some (.agg #[.int .i64 0, .int .i64 0]), 2, 16) := by kernel_rfl
theorem acct_bds {l : List TAcct} (h : acctsOk l) (k : Nat) (hk : k < l.length) : 1 ≤ l[k].1 ∧ l[k].1 ≤ 99 ∧ 0 ≤ l[k].2 ∧ l[k].2 ≤ 1000000 := by
  have := h.2 k hk
  unfold acctAt at this
  rw [show l.getD k (0, 0) = l[k] by simp [List.getD, hk]] at this
  exact ⟨this.1, this.2.1, this.2.2.1, this.2.2.2.1⟩
theorem quo_pos {c u : Int} (hu : 1 ≤ u) (h : u ≤ c) : 1 ≤ c / u := by
  have := Int.ediv_le_ediv (by omega : 0 < u) h
  rwa [Int.ediv_self (by omega)] at this
theorem quo_zero {c u : Int} (h0 : 0 ≤ c) (h : c < u) : c / u = 0 := Int.ediv_eq_zero_of_lt h0 h
theorem quo_le {c u : Int} (h0 : 0 ≤ c) (hu : 1 ≤ u) : c / u ≤ c := Int.ediv_le_self _ h0

set_option maxHeartbeats 2000000 in
theorem toVals_spec (v : Value) (l : List TAcct) (unit : Int) (w : World) (h : RdS w w.heap.size 2 cAcct v l) (hn : l.length ≤ 8796093022207) :
    Calls Try.prog 51 #[v, .int .i64 unit] w (NewS w 2 cVal (toVals l unit)) := by
  have hr := Lib.hid h
  obtain ⟨A, c, rfl, hlc, hcm, hcell⟩ := h
  by_cases hok : acctsOk l ∧ 1 ≤ unit
  · have hd : decide (acctsOk l) = true := decide_eq_true hok.1
    have hv : toVals l unit = tvs unit l := if_pos hok
    rw [hv]
    have H7 : l.length ≤ 7 := hok.1.1
    have hu : 1 ≤ unit := hok.2
    have HO := Lib.hid hok.1
    clear hv hok
    go_enter Try.func51, Try.ntmps51
    go_wp2
    go_loopw [5, 6, 7] (fun o i p wr => ∃ k n : Nat, k ≤ l.length ∧ n = (tvs unit (l.take k)).length ∧ i = .int .i64 k ∧ wr.ownsRow w.heap.size 95 2 o n ((tvs unit (l.take k)).flatMap cVal) ∧ Keeps w wr) (fun _ i _ _ => l.length - (intOf i).toNat)
    case atStart => exact ⟨0, 0, Nat.zero_le _, rfl, rfl, own_empty w _ _ _ (Nat.le_refl _), Below.alloc (Below.refl _ _) (Nat.le_refl _) _⟩
    case round =>
      obtain ⟨k, n, hk, hnn, rfl, hown, hb⟩ := hrel
      have hn7 : n ≤ 7 := by have h1 := tvs_le unit (l.take k); have h2 := List.length_take_le k l; omega
      have HN := Lib.hid hnn
      clear hnn
      by_cases hlt : k < l.length
      · go_wp2_with fail
        refine (acctsOk_spec _ l _ _ (hr.out.keeps hb) hn).mono ?_
        rintro e w1 ⟨rfl, q1⟩
        have q1 : Keeps wr w1 := QW.keeps q1
        have hb2 : Keeps w w1 := hb.tr q1
        have hown1 : w1.ownsRow w.heap.size 95 2 _ n ((tvs unit (l.take k)).flatMap cVal) := own_keeps hown q1
        obtain ⟨b, off, rfl, hbb, hc⟩ := hcell (by intro e; simp [e] at hlt)
        have hx0 := (Below.cell hb2 (p := ⟨b, off + k * 2 + 0, none⟩) hbb).trans <| hc k _ (List.getElem?_eq_getElem hlt) 0 _ rfl
        have hx1 := (Below.cell hb2 (p := ⟨b, off + k * 2 + 1, none⟩) hbb).trans <| hc k _ (List.getElem?_eq_getElem hlt) 1 _ rfl
        simp only [Nat.add_zero] at hx0
        have ab := acct_bds HO.out k hlt
        have HS := Lib.hid (tvs_next unit l k hlt)
        clear hc hcell hown hb q1
        by_cases hge : unit ≤ l[k].2
        · have q1 := quo_pos hu hge
          have q2 := quo_le (c := l[k].2) (u := unit) ab.2.2.1 hu
          by_cases hbig : 1000 < l[k].2 / unit
          · have hm : min (1000 : Int) (l[k].2 / unit) = 1000 := by omega
            have HM := Lib.hid hm
            clear hm
            go_wp2_with (at_builtin; refine wp_app1 w1 cVal (l[k].1, 1000) _ _ 24 w.heap.size 95 2 16 _ rfl rfl Try.underlying24 info_ValT rfl (by decide) _ n (tvs unit (l.take k)) rfl hown1 rfl rfl (by intro u hu; simp [cVal] at hu; rcases hu with rfl | rfl <;> rfl) (by omega) (by omega) (Below.size hb2) ?_; intro v' w' hown' hb')
            go_roundw
            case rel => exact ⟨k + 1, n + 1, by omega, by rw [HS.out, if_pos hge, List.length_append, HN.out]; rfl, by go_num, by rw [HS.out, if_pos hge, HM.out]; exact hown', Below.trans hb2 hb'⟩
            case measure => simp [intOf]; omega
          · have hm : min (1000 : Int) (l[k].2 / unit) = l[k].2 / unit := by omega
            have HM := Lib.hid hm
            clear hm
            go_wp2_with (at_builtin; refine wp_app1 w1 cVal (l[k].1, l[k].2 / unit) _ _ 24 w.heap.size 95 2 16 _ rfl rfl Try.underlying24 info_ValT rfl (by decide) _ n (tvs unit (l.take k)) rfl hown1 rfl rfl (by intro u hu; simp [cVal] at hu; rcases hu with rfl | rfl <;> rfl) (by omega) (by omega) (Below.size hb2) ?_; intro v' w' hown' hb')
            go_roundw
            case rel => exact ⟨k + 1, n + 1, by omega, by rw [HS.out, if_pos hge, List.length_append, HN.out]; rfl, by go_num, by rw [HS.out, if_pos hge, HM.out]; exact hown', Below.trans hb2 hb'⟩
            case measure => simp [intOf]; omega
        · have qz := quo_zero ab.2.2.1 (by omega : l[k].2 < unit)
          go_wp2_with fail
          go_roundw
          case rel => exact ⟨k + 1, n, by omega, by rw [HS.out, if_neg (by omega), List.append_nil, HN.out], by go_num, by rw [HS.out, if_neg (by omega), List.append_nil]; exact hown1, hb2⟩
          case measure => simp [intOf]; omega
      · have hd1 : decide ((k : Int) < l.length) = false := decide_eq_false (by omega)
        go_wp2_with fail
        go_ret
        have e : k = l.length := by omega
        subst e
        have := HN.out
        rw [List.take_length] at this hown
        exact ⟨_, rfl, OwnS.of_own hown this (fun _ => rfl), hb⟩
  · have hv : toVals l unit = [] := if_neg hok
    rw [hv]
    clear hv
    go_enter Try.func51, Try.ntmps51
    go_wp2
    by_cases hpos : 0 < l.length
    · refine wp_loop_rounds 1 ?_
      rw [rounds_succ]
      go_wp2_with fail
      refine (acctsOk_spec _ l _ _ (hr.out.keeps (Below.alloc (Below.refl _ _) (Nat.le_refl _) _)) hn).mono ?_
      rintro e w1 ⟨rfl, q1⟩
      have q2 : Keeps w w1 := Keeps.tr (Below.alloc (Below.refl _ _) (Nat.le_refl _) _) (QW.keeps q1)
      have hown1 : w1.ownsRow w.heap.size 95 2 (.slice (some ⟨w.heap.size, 0, none⟩) 0 0) 0 [] := own_keeps (own_empty w _ _ _ (Nat.le_refl _)) (QW.keeps q1)
      by_cases h1 : acctsOk l
      · have hd : decide (acctsOk l) = true := decide_eq_true h1
        have hu : decide (1 ≤ unit) = false := decide_eq_false fun e => hok ⟨h1, e⟩
        clear hok h1
        go_wp2_with fail
        go_ret
        exact ⟨_, rfl, OwnS.of_own (f := cVal) (l := []) hown1 rfl (fun _ => rfl), q2⟩
      · have hd : decide (acctsOk l) = false := decide_eq_false h1
        clear hok h1
        go_wp2_with fail
        go_ret
        exact ⟨_, rfl, OwnS.of_own (f := cVal) (l := []) hown1 rfl (fun _ => rfl), q2⟩
    · have hd1 : decide ((0 : Int) < l.length) = false := decide_eq_false (by omega)
      refine wp_loop_rounds 1 ?_
      rw [rounds_succ]
      go_wp2_with fail
      go_ret
      exact ⟨_, rfl, OwnS.of_own (f := cVal) (l := []) (own_empty w _ 95 2 (Nat.le_refl _)) rfl (fun _ => rfl), Below.alloc (Below.refl _ _) (Nat.le_refl _) _⟩

set_option maxHeartbeats 2000000 in
theorem toVals_impl (v : Value) (l : List TAcct) (unit : Int) (w : World) (h : RdS w w.heap.size 2 cAcct v l) (hn : l.length ≤ 8796093022207) :
    Calls Try.prog 49 #[v, .int .i64 unit] w (NewS w 2 cVal (toVals l unit)) := by
  have hr := Lib.hid h
  obtain ⟨A, c, rfl, hlc, hcm, hcell⟩ := h
  by_cases hok : acctsOk l
  case neg =>
    have hd : decide (acctsOk l) = false := decide_eq_false hok
    have hv : toVals l unit = [] := if_neg fun e => hok e.1
    rw [hv]
    clear hv hok
    go_enter Try.func49, Try.ntmps49
    go_wp2_with fail
    refine (acctsOk_impl _ l _ hr.out hn).mono ?_
    rintro e w1 ⟨rfl, k1⟩
    go_wp2_with fail
    go_ret
    exact ⟨_, rfl, ⟨none, 0, rfl, Nat.le_refl _, by simp [maxLen], fun h => absurd rfl h⟩, k1⟩
  have hd : decide (acctsOk l) = true := decide_eq_true hok
  by_cases hu : unit < 1
  · have hv : toVals l unit = [] := if_neg fun e => by omega
    rw [hv]
    clear hv hok
    go_enter Try.func49, Try.ntmps49
    go_wp2_with fail
    refine (acctsOk_impl _ l _ hr.out hn).mono ?_
    rintro e w1 ⟨rfl, k1⟩
    go_wp2_with fail
    go_ret
    exact ⟨_, rfl, ⟨none, 0, rfl, Nat.le_refl _, by simp [maxLen], fun h => absurd rfl h⟩, k1⟩
  have hu1 : 1 ≤ unit := by omega
  have hu2 : decide (unit < 1) = false := decide_eq_false hu
  have hv : toVals l unit = tvs unit l := if_pos ⟨hok, hu1⟩
  rw [hv]
  have H7 : l.length ≤ 7 := hok.1
  have HO := Lib.hid hok
  clear hv hok hu
  go_enter Try.func49, Try.ntmps49
  go_wp2_with fail
  refine (acctsOk_impl _ l _ hr.out hn).mono ?_
  rintro e w0 ⟨rfl, k0⟩
  have k0 : Keeps w w0 := k0
  go_wp2_with fail
  go_loopw [5, 18] (fun o i wr => ∃ k n : Nat, k ≤ l.length ∧ n = (tvs unit (l.take k)).length ∧ i = .int .i64 k ∧ wr.ownsRow w.heap.size 95 2 o n ((tvs unit (l.take k)).flatMap cVal) ∧ Keeps w wr) (fun _ i _ => l.length - (intOf i).toNat)
  case atStart => exact ⟨0, 0, Nat.zero_le _, rfl, rfl, own_empty w0 _ _ _ (Below.size k0), k0.tr (Below.alloc (Below.refl _ _) (Nat.le_refl _) _)⟩
  case round =>
    obtain ⟨k, n, hk, hnn, rfl, hown, hb⟩ := hrel
    have hn7 : n ≤ 7 := by have h1 := tvs_le unit (l.take k); have h2 := List.length_take_le k l; omega
    have HN := Lib.hid hnn
    clear hnn
    by_cases hlt : k < l.length
    · obtain ⟨b, off, rfl, hbb, hc⟩ := hcell (by intro e; simp [e] at hlt)
      have hx0 := (Below.cell hb (p := ⟨b, off + k * 2 + 0, none⟩) hbb).trans <| hc k _ (List.getElem?_eq_getElem hlt) 0 _ rfl
      have hx1 := (Below.cell hb (p := ⟨b, off + k * 2 + 1, none⟩) hbb).trans <| hc k _ (List.getElem?_eq_getElem hlt) 1 _ rfl
      simp only [Nat.add_zero] at hx0
      have hbw : b < wr.heap.size := Nat.lt_of_lt_of_le hbb (Below.size hb)
      have ab := acct_bds HO.out k hlt
      have HS := Lib.hid (tvs_next unit l k hlt)
      clear hc hcell
      by_cases hge : unit ≤ l[k].2
      · have q1 := quo_pos hu1 hge
        have q2 := quo_le (c := l[k].2) (u := unit) ab.2.2.1 hu1
        go_wp2_with fail
        have y0 : (wr.alloc (.cells #[.int .i64 l[k].1, .int .i64 l[k].2] 122)).cell? ⟨wr.heap.size, 0, none⟩ = some (.int .i64 l[k].1) := by go_simp
        have y1 : (wr.alloc (.cells #[.int .i64 l[k].1, .int .i64 l[k].2] 122)).cell? ⟨wr.heap.size, 1, none⟩ = some (.int .i64 l[k].2) := by go_simp
        have kk : Keeps w (wr.alloc (.cells #[.int .i64 l[k].1, .int .i64 l[k].2] 122)) := hb.tr (Below.alloc (Below.refl _ _) (Nat.le_refl _) _)
        have hown2 := own_keeps hown (w' := wr.alloc (.cells #[.int .i64 l[k].1, .int .i64 l[k].2] 122)) (Below.alloc (Below.refl _ _) (Nat.le_refl _) _)
        generalize wr.alloc (.cells #[.int .i64 l[k].1, .int .i64 l[k].2] 122) = w2 at *
        clear hown hb hx0 hx1
        have et : (l[k].2).tdiv unit = l[k].2 / unit := Int.tdiv_eq_ediv_of_nonneg ab.2.2.1
        have ew : IntKind.i64.wrap ((l[k].2).tdiv unit) = l[k].2 / unit := by rw [et]; exact IntWalk.i64_in _ (by omega)
        have ew2 : wrap64 ((l[k].2).tdiv unit) = l[k].2 / unit := by rw [et]; exact IntWalk.wrap64_in _ (by omega)
        have en : ¬ unit = 0 := by omega
        clear et
        have hown3 : w2.drew.ownsRow w.heap.size 95 2 _ n ((tvs unit (l.take k)).flatMap cVal) := hown2.drew
        have kk3 : Keeps w w2.drew := Below.drew kk
        have hm : (if l[k].2 / unit < 1000 then l[k].2 / unit else 1000) = min 1000 (l[k].2 / unit) := by split <;> omega
        have HM := Lib.hid hm
        clear hm
        go_region_law (refine step_app1 w2.drew cVal (l[k].1, if l[k].2 / unit < 1000 then l[k].2 / unit else 1000) _ _ 24 w.heap.size 95 2 16 _ rfl rfl Try.underlying24 info_ValT rfl (by decide) _ n (tvs unit (l.take k)) rfl hown3 rfl rfl (by intro u hu; simp [cVal] at hu; rcases hu with rfl | rfl <;> rfl) (by omega) (by omega) (Below.size kk3) ?_; intro v' w' hown' hb')
        all_goals go_wp2_with fail
        all_goals
          go_roundw
          case rel => exact ⟨k + 1, n + 1, by omega, by rw [HS.out, if_pos hge, List.length_append, HN.out]; rfl, by go_num, by rw [HS.out, if_pos hge, ← HM.out]; exact hown', Below.trans kk3 hb'⟩
          case measure => simp [intOf]; omega
      · go_wp2_with fail
        go_roundw
        case rel => exact ⟨k + 1, n, by omega, by rw [HS.out, if_neg (by omega), List.append_nil, HN.out], by go_num, by rw [HS.out, if_neg (by omega), List.append_nil]; exact own_keeps hown (Below.alloc (Below.refl _ _) (Nat.le_refl _) _), hb.tr (Below.alloc (Below.refl _ _) (Nat.le_refl _) _)⟩
        case measure => simp [intOf]; omega
    · go_wp2_with fail
      go_ret
      have e : k = l.length := by omega
      subst e
      have := HN.out
      rw [List.take_length] at this hown
      exact ⟨_, rfl, OwnS.of_own hown this (fun _ => rfl), hb⟩

end Go.Proofs.Ytlchfjjoendimaa
