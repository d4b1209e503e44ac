/-
  PoolDone of spec and impl, by one contract.
-/
import Derived.Test.YtfnjkoimejkhlaaPoolOk
import Derived.Test.YtfnjkoimejkhlaaIdxDone
import Derived.Test.YtfnjkoimejkhlaaIval
namespace Go.Proofs.Ytfnjkoimejkhlaa
set_option maxRecDepth 100000
open Go.RowKit

/-- is a transaction done? -/
def doneBy (t d : TTx) : Bool := decide (d.1 = t.1) && decide (t.2.1 ≤ d.2.1)
def goneB (t : TTx) (ds : List TTx) : Bool := ds.any (doneBy t)
def poolLeft (ds l : List TTx) : List TTx := l.filter fun t => !goneB t ds
def poolDone (l ds : List TTx) : List TTx := if poolOk l then poolLeft ds l else []
theorem goneB_next (t : TTx) (ds : List TTx) (k : Nat) (h : k < ds.length) : goneB t (ds.take (k + 1)) = (goneB t (ds.take k) || doneBy t ds[k]) := by
  unfold goneB
  rw [List.take_succ_eq_append_getElem h, List.any_append]
  simp
theorem poolLeft_next (ds l : List TTx) (k : Nat) (h : k < l.length) : poolLeft ds (l.take (k + 1)) = poolLeft ds (l.take k) ++ if goneB l[k] ds then [] else [l[k]] := by
  unfold poolLeft
  rw [List.take_succ_eq_append_getElem h, List.filter_append]
  cases hg : goneB l[k] ds <;> simp [List.filter_cons, hg]
theorem poolLeft_le (ds l : List TTx) : (poolLeft ds l).length ≤ l.length := List.length_filter_le _ _
theorem poolDone_le (l ds : List TTx) : (poolDone l ds).length ≤ l.length := by
  unfold poolDone
  split
  · exact poolLeft_le ds l
  · simp
theorem info_TxT : (Try.prog.info? 87).map (fun i => (i.zero, i.size, i.bytes)) = some (some (.agg #[.int .i64 0, .int .i64 0, .int .i64 0]), 3, 24) := by kernel_rfl

set_option maxHeartbeats 4000000 in
theorem poolDone_spec (v v2 : Value) (l ds : List TTx) (w : World) (h : RdS w w.heap.size 3 cTx v l) (h2 : RdS w w.heap.size 3 cTx v2 ds) (hn : l.length ≤ 8796093022207) (hn2 : ds.length ≤ 8796093022207) :
    Calls Try.prog 40 #[v, v2] w (NewS w 3 cTx (poolDone l ds)) := by
  have hr := Lib.hid h
  obtain ⟨A, c, rfl, hlc, hcm, hcell⟩ := h
  obtain ⟨A2, c2, rfl, hlc2, hcm2, hcell2⟩ := h2
  by_cases hok : poolOk l
  · have hd : decide (poolOk l) = true := decide_eq_true hok
    have hv : poolDone l ds = poolLeft ds l := if_pos hok
    rw [hv]
    have H7 : l.length ≤ 14 := hok.1
    clear hv hok
    go_enter Try.func40, Try.ntmps40
    go_wp2
    go_loopw [5, 6] (fun o i wr => ∃ k n : Nat, k ≤ l.length ∧ n = (poolLeft ds (l.take k)).length ∧ i = .int .i64 k ∧ wr.ownsRow w.heap.size 87 3 o n ((poolLeft ds (l.take k)).flatMap cTx) ∧ Keeps w wr) (fun _ i _ => l.length - (intOf i).toNat)
    case atStart => exact ⟨0, 0, Nat.zero_le _, rfl, rfl, own_empty w _ _ _ (Nat.le_refl _), Below.alloc (Below.refl _ _) (Nat.le_refl _) _⟩
    case round =>
      obtain ⟨k, n, hk, hnn, rfl, hown, hb⟩ := hrel
      have hn7 : n ≤ 14 := by have h1 := poolLeft_le ds (l.take k); have h2 := List.length_take_le k l; omega
      have HN := Lib.hid hnn
      clear hnn
      by_cases hlt : k < l.length
      · go_wp2_with fail
        refine (poolOk_spec _ l _ (hr.out.keeps hb) hn).mono ?_
        rintro e w1 ⟨rfl, q1⟩
        have q1 : Keeps wr w1 := q1
        have hb2 : Keeps w w1 := hb.tr q1
        have hown1 := own_keeps hown q1
        obtain ⟨b, off, rfl, hbb, hc⟩ := hcell (by intro e; simp [e] at hlt)
        have hx0 := (Below.cell hb2 (p := ⟨b, off + k * 3 + 0, none⟩) hbb).trans <| hc k _ (List.getElem?_eq_getElem hlt) 0 _ rfl
        have hx1 := (Below.cell hb2 (p := ⟨b, off + k * 3 + 1, none⟩) hbb).trans <| hc k _ (List.getElem?_eq_getElem hlt) 1 _ rfl
        have hx2 := (Below.cell hb2 (p := ⟨b, off + k * 3 + 2, none⟩) hbb).trans <| hc k _ (List.getElem?_eq_getElem hlt) 2 _ rfl
        simp only [Nat.add_zero] at hx0
        have HS := Lib.hid (poolLeft_next ds l k hlt)
        have HB2 := Lib.hid hb2
        clear hc hcell hown hb q1 hb2
        go_wp2_with fail
        obtain ⟨wo, rfl⟩ : ∃ wo : World, wo = wr := ⟨_, rfl⟩
        go_loopw [7, 8] (fun g i wr => ∃ j : Nat, j ≤ ds.length ∧ i = .int .i64 j ∧ g = .bool (goneB l[k] (ds.take j)) ∧ QW w1 wr) (fun _ i _ => ds.length - (intOf i).toNat)
        case atStart => exact ⟨0, Nat.zero_le _, rfl, rfl, QW.refl _⟩
        case round =>
          obtain ⟨j, hj, rfl, rfl, hq⟩ := hrel
          have z0 := (hq.cell ⟨b, off + k * 3, none⟩).trans hx0
          have z1 := (hq.cell ⟨b, off + k * 3 + 1, none⟩).trans hx1
          have z2 := (hq.cell ⟨b, off + k * 3 + 2, none⟩).trans hx2
          clear hx0 hx1 hx2
          by_cases hlt2 : j < ds.length
          · obtain ⟨b2, o2, rfl, hbb2, hc2⟩ := hcell2 (by intro e; simp [e] at hlt2)
            have y0 := (hq.cell ⟨b2, o2 + j * 3 + 0, none⟩).trans <| (Below.cell HB2.out (p := ⟨b2, o2 + j * 3 + 0, none⟩) hbb2).trans <| hc2 j _ (List.getElem?_eq_getElem hlt2) 0 _ rfl
            have y1 := (hq.cell ⟨b2, o2 + j * 3 + 1, none⟩).trans <| (Below.cell HB2.out (p := ⟨b2, o2 + j * 3 + 1, none⟩) hbb2).trans <| hc2 j _ (List.getElem?_eq_getElem hlt2) 1 _ rfl
            simp only [Nat.add_zero] at y0
            have HG := Lib.hid (goneB_next l[k] ds j hlt2)
            clear hc2 hcell2
            obtain ⟨g, hg⟩ : ∃ g, goneB l[k] (ds.take j) = g := ⟨_, rfl⟩
            rw [hg]
            have HG1 := Lib.hid hg
            clear hg
            cases g with
            | true =>
              go_wp2_with fail
              go_quiet (fail)
              go_wp2_with fail
              go_roundw
              case rel => exact ⟨j + 1, by omega, by go_num, by rw [HG.out, HG1.out, Bool.true_or], hq.drewN _⟩
              case measure => simp [intOf]; omega
            | false =>
              by_cases c1 : ds[j].1 = l[k].1
              · have d1 : (ds[j].1 == l[k].1) = true := beq_iff_eq.2 c1
                have C1 := Lib.hid c1
                clear c1
                by_cases c3 : l[k].2.1 ≤ ds[j].2.1
                · have d2 : decide (l[k].2.1 ≤ ds[j].2.1) = true := decide_eq_true c3
                  go_wp2_with fail
                  go_quiet (fail)
                  go_wp2_with fail
                  go_roundw
                  case rel => exact ⟨j + 1, by omega, by go_num, by rw [HG.out, HG1.out, Bool.false_or]; unfold doneBy; rw [decide_eq_true C1.out, decide_eq_true c3]; rfl, hq.drewN _⟩
                  case measure => simp [intOf]; omega
                · have d2 : decide (l[k].2.1 ≤ ds[j].2.1) = false := decide_eq_false c3
                  have C3 := Lib.hid c3
                  go_wp2_with fail
                  go_quiet (fail)
                  go_wp2_with fail
                  go_roundw
                  case rel => exact ⟨j + 1, by omega, by go_num, by rw [HG.out, HG1.out, Bool.false_or]; unfold doneBy; rw [decide_eq_true C1.out, decide_eq_false (by have := C3.out; omega)]; rfl, hq.drewN _⟩
                  case measure => simp [intOf]; omega
              · have d1 : (ds[j].1 == l[k].1) = false := beq_eq_false_iff_ne.2 c1
                have C1 := Lib.hid c1
                clear c1
                go_wp2_with fail
                go_quiet (fail)
                go_wp2_with fail
                go_roundw
                case rel => exact ⟨j + 1, by omega, by go_num, by rw [HG.out, HG1.out, Bool.false_or]; unfold doneBy; rw [decide_eq_false C1.out]; rfl, hq.drewN _⟩
                case measure => simp [intOf]; omega
          · have e : j = ds.length := by omega
            subst e
            have ht : ds.take ds.length = ds := List.take_length
            have hb3 : Keeps w wr := HB2.out.tr hq.keeps
            have hown2 := own_keeps hown1 hq.keeps
            rw [ht]
            clear ht hlt2 hcell2
            by_cases hg : goneB l[k] ds = true
            · have HG := Lib.hid hg
              go_wp2_with fail
              go_roundw
              case rel => exact ⟨k + 1, n, by omega, by rw [HS.out, if_pos HG.out, List.append_nil, HN.out], by go_num, by rw [HS.out, if_pos HG.out, List.append_nil]; exact hown2, hb3⟩
              case measure => simp [intOf]; omega
            · have hg' : goneB l[k] ds = false := by simpa using hg
              have HG := Lib.hid hg
              clear hg
              go_wp2_with (at_builtin; refine wp_app1 wr cTx l[k] _ _ 25 w.heap.size 87 3 24 _ rfl rfl Try.underlying25 info_TxT rfl (by decide) _ n (poolLeft ds (l.take k)) rfl hown2 rfl rfl (by intro u hu; simp [cTx] at hu; rcases hu with rfl | rfl | rfl <;> rfl) (by omega) (by omega) (Below.size hb3) ?_; intro v' w' hown' hb')
              go_roundw
              case rel => exact ⟨k + 1, n + 1, by omega, by rw [HS.out, if_neg HG.out, List.length_append, HN.out]; rfl, by go_num, by rw [HS.out, if_neg HG.out]; exact hown', Below.trans hb3 hb'⟩
              case measure => simp [intOf]; omega
      · have hd1 : decide ((k : Int) < l.length) = false := decide_eq_false (by omega)
        go_wp2_with fail
        go_ret
        have e : k = l.length := by omega
        subst e
        have := HN.out
        rw [List.take_length] at this hown
        exact ⟨_, rfl, OwnS.of_own hown this (fun _ => rfl), hb⟩
  · have hd : decide (poolOk l) = false := decide_eq_false hok
    have hv : poolDone l ds = [] := if_neg hok
    rw [hv]
    clear hv hok
    go_enter Try.func40, Try.ntmps40
    go_wp2
    by_cases hpos : 0 < l.length
    · refine wp_loop_rounds 1 ?_
      rw [rounds_succ]
      go_wp2_with fail
      refine (poolOk_spec _ l _ (hr.out.keeps (Below.alloc (Below.refl _ _) (Nat.le_refl _) _)) hn).mono ?_
      rintro e w1 ⟨rfl, q1⟩
      have q2 : Keeps w w1 := Keeps.tr (Below.alloc (Below.refl _ _) (Nat.le_refl _) _) q1
      have hown1 := own_keeps (own_empty w w.heap.size 87 3 (Nat.le_refl _)) q1
      go_wp2_with fail
      go_ret
      exact ⟨_, rfl, OwnS.of_own (f := cTx) (l := []) hown1 rfl (fun _ => rfl), q2⟩
    · have hd1 : decide ((0 : Int) < l.length) = false := decide_eq_false (by omega)
      refine wp_loop_rounds 1 ?_
      rw [rounds_succ]
      go_wp2_with fail
      go_ret
      exact ⟨_, rfl, OwnS.of_own (f := cTx) (l := []) (own_empty w _ 87 3 (Nat.le_refl _)) rfl (fun _ => rfl), Below.alloc (Below.refl _ _) (Nat.le_refl _) _⟩

set_option maxHeartbeats 1000000 in
theorem doneClo (t d : TTx) (p : Nat) (w : World) (h0 : w.cell? ⟨p, 0, none⟩ = some (.int .i64 t.1)) (h1 : w.cell? ⟨p, 1, none⟩ = some (.int .i64 t.2.1)) (hp : p < w.heap.size) :
    Calls Try.prog 91 #[.agg #[.int .i64 d.1, .int .i64 d.2.1, .int .i64 d.2.2], .pointer (some ⟨p, 0, none⟩)] w (SaysB (doneBy t d) w) := by
  by_cases c1 : d.1 = t.1
  · have d1 : (d.1 == t.1) = true := beq_iff_eq.2 c1
    by_cases c3 : t.2.1 ≤ d.2.1
    · have hv : doneBy t d = true := by unfold doneBy; rw [decide_eq_true c1, decide_eq_true c3]; rfl
      rw [hv]
      have d2 : decide (t.2.1 ≤ d.2.1) = true := decide_eq_true c3
      clear hv c1
      go_enter Try.func91, Try.ntmps91
      go_wp2
      go_ret
      exact ⟨rfl, by go_grown⟩
    · have hv : doneBy t d = false := by unfold doneBy; rw [decide_eq_true c1, decide_eq_false c3]; rfl
      rw [hv]
      have d2 : decide (t.2.1 ≤ d.2.1) = false := decide_eq_false c3
      clear hv c1 c3
      go_enter Try.func91, Try.ntmps91
      go_wp2
      go_ret
      exact ⟨rfl, by go_grown⟩
  · have d1 : (d.1 == t.1) = false := beq_eq_false_iff_ne.2 c1
    have hv : doneBy t d = false := by unfold doneBy; rw [decide_eq_false c1]; rfl
    rw [hv]
    clear hv c1
    go_enter Try.func91, Try.ntmps91
    go_wp2
    go_ret
    exact ⟨rfl, by go_grown⟩

set_option maxHeartbeats 4000000 in
theorem poolDone_impl (v v2 : Value) (l ds : List TTx) (w : World) (h : RdS w w.heap.size 3 cTx v l) (h2 : RdS w w.heap.size 3 cTx v2 ds) (hn : l.length ≤ 8796093022207) (hn2 : ds.length ≤ 8796093022207) :
    Calls Try.prog 41 #[v, v2] w (NewS w 3 cTx (poolDone l ds)) := by
  have hr := Lib.hid h
  have hr2 := Lib.hid h2
  obtain ⟨A, c, rfl, hlc, hcm, hcell⟩ := h
  obtain ⟨A2, c2, rfl, -, -, -⟩ := h2
  by_cases hok : poolOk l
  case neg =>
    have hd : decide (poolOk l) = false := decide_eq_false hok
    have hv : poolDone l ds = [] := if_neg hok
    rw [hv]
    clear hv hok
    go_enter Try.func41, Try.ntmps41
    go_wp2_with fail
    refine (poolOk_impl _ l _ hr.out hn).mono ?_
    rintro e w1 ⟨rfl, k1⟩
    go_wp2_with fail
    go_ret
    exact ⟨_, rfl, ⟨none, 0, rfl, Nat.le_refl _, by simp [maxLen], fun h => absurd rfl h⟩, k1⟩
  have hd : decide (poolOk l) = true := decide_eq_true hok
  have hv : poolDone l ds = poolLeft ds l := if_pos hok
  rw [hv]
  have H7 : l.length ≤ 14 := hok.1
  clear hv hok
  go_enter Try.func41, Try.ntmps41
  go_wp2_with fail
  refine (poolOk_impl _ l _ hr.out hn).mono ?_
  rintro e w0 ⟨rfl, k0⟩
  have k0 : Keeps w w0 := k0
  go_wp2_with fail
  go_loopw [5, 14] (fun o i wr => ∃ k n : Nat, k ≤ l.length ∧ n = (poolLeft ds (l.take k)).length ∧ i = .int .i64 k ∧ wr.ownsRow w.heap.size 87 3 o n ((poolLeft ds (l.take k)).flatMap cTx) ∧ Keeps w wr) (fun _ i _ => l.length - (intOf i).toNat)
  case atStart => exact ⟨0, 0, Nat.zero_le _, rfl, rfl, own_empty w0 _ _ _ (Below.size k0), k0.tr (Below.alloc (Below.refl _ _) (Nat.le_refl _) _)⟩
  case round =>
    obtain ⟨k, n, hk, hnn, rfl, hown, hb⟩ := hrel
    have hn7 : n ≤ 14 := by have h1 := poolLeft_le ds (l.take k); have h2 := List.length_take_le k l; omega
    have HN := Lib.hid hnn
    clear hnn
    by_cases hlt : k < l.length
    · obtain ⟨b, off, rfl, hbb, hc⟩ := hcell (by intro e; simp [e] at hlt)
      have hx0 := (Below.cell hb (p := ⟨b, off + k * 3 + 0, none⟩) hbb).trans <| hc k _ (List.getElem?_eq_getElem hlt) 0 _ rfl
      have hx1 := (Below.cell hb (p := ⟨b, off + k * 3 + 1, none⟩) hbb).trans <| hc k _ (List.getElem?_eq_getElem hlt) 1 _ rfl
      have hx2 := (Below.cell hb (p := ⟨b, off + k * 3 + 2, none⟩) hbb).trans <| hc k _ (List.getElem?_eq_getElem hlt) 2 _ rfl
      simp only [Nat.add_zero] at hx0
      have hbw : b < wr.heap.size := Nat.lt_of_lt_of_le hbb (Below.size hb)
      have HS := Lib.hid (poolLeft_next ds l k hlt)
      have HB := Lib.hid hb
      have HO := Lib.hid hown
      clear hc hcell hb hown
      go_wp2_with fail
      have kb : Keeps wr (wr.alloc (.cells #[.int .i64 l[k].1, .int .i64 l[k].2.1, .int .i64 l[k].2.2] 87)) := Below.alloc (Below.refl _ _) (Nat.le_refl _) _
      have bx := BoxAt.new wr 87 [.int .i64 l[k].1, .int .i64 l[k].2.1, .int .i64 l[k].2.2]
      generalize wr.alloc (.cells #[.int .i64 l[k].1, .int .i64 l[k].2.1, .int .i64 l[k].2.2] 87) = wb at *
      refine (containsFuncDone (.pointer (some ⟨wr.heap.size, 0, none⟩)) (doneBy l[k]) _ ds _ (hr2.out.keeps (HB.out.tr kb)) hn2 (fun d w' kw => doneClo l[k] d wr.heap.size w' ((bx.kp kw).2 0 _ rfl) ((bx.kp kw).2 1 _ rfl) (bx.kp kw).1)).mono ?_
      rintro e w1 ⟨rfl, k1⟩
      have k1 : Keeps wb w1 := k1
      have hb1 : Keeps w w1 := (HB.out.tr kb).tr k1
      have y0 := (bx.kp k1).2 0 _ rfl
      have y1 := (bx.kp k1).2 1 _ rfl
      have y2 := (bx.kp k1).2 2 _ rfl
      have hown1 := own_keeps HO.out (kb.tr k1)
      have hgone : ds.any (doneBy l[k]) = goneB l[k] ds := rfl
      rw [hgone]
      clear hx0 hx1 hx2 kb bx k1 hgone
      obtain ⟨g, hg⟩ : ∃ g, goneB l[k] ds = g := ⟨_, rfl⟩
      rw [hg]
      rw [hg] at HS
      clear hg
      cases g with
      | true =>
        go_wp2_with fail
        go_roundw
        case rel => exact ⟨k + 1, n, by omega, by rw [HS.out, if_pos trivial, List.append_nil, HN.out], by go_num, by rw [HS.out, if_pos trivial, List.append_nil]; exact hown1, hb1⟩
        case measure => simp [intOf]; omega
      | false =>
        go_wp2_with (at_builtin; refine wp_app1 w1 cTx l[k] _ _ 25 w.heap.size 87 3 24 _ rfl rfl Try.underlying25 info_TxT rfl (by decide) _ n (poolLeft ds (l.take k)) rfl hown1 rfl rfl (by intro u hu; simp [cTx] at hu; rcases hu with rfl | rfl | rfl <;> rfl) (by omega) (by omega) (Below.size hb1) ?_; intro v' w' hown' hb')
        go_roundw
        case rel => exact ⟨k + 1, n + 1, by omega, by rw [HS.out, if_neg (by simp), List.length_append, HN.out]; rfl, by go_num, by rw [HS.out, if_neg (by simp)]; exact hown', Below.trans hb1 hb'⟩
        case measure => simp [intOf]; omega
    · go_wp2_with fail
      go_ret
      have e : k = l.length := by omega
      subst e
      have := HN.out
      rw [List.take_length] at this hown
      exact ⟨_, rfl, OwnS.of_own hown this (fun _ => rfl), hb⟩

end Go.Proofs.Ytfnjkoimejkhlaa
