
import Derived.Test.YtfgkfcfplodaoaaGreatDoorG47
set_option linter.unusedSimpArgs false
set_option linter.unusedVariables false
set_option maxRecDepth 100000
namespace Go.Proofs.YtfgkfcfplodaoaaGreatDoor
open Go Go.RowKit
set_option maxHeartbeats 4000000
theorem num_one {a : Int} (ha : okDecZ a) : numsB [decT a] = true ∧ numsL [decT a] = [a] := by
  have h1 := readZ_yes (s := decT a) ha rfl
  unfold numsB numsL
  simp [h1]
theorem num_two {a b : Int} (ha : okDecZ a) (hb : okDecZ b) : numsB [decT a, decT b] = true ∧ numsL [decT a, decT b] = [a, b] := by
  have h1 := readZ_yes (s := decT a) ha rfl
  have h2 := readZ_yes (s := decT b) hb rfl
  unfold numsB numsL
  simp [h1, h2]
theorem line_chain (d : TDesk) (s : ByteArray) {n : Int} (hn : okDecZ n) : lineD d [chainW, s, decT n] = ((chainOf s n, zLt, false), decT (chainOf s n).length) := by
  have h1 := readZ_yes (s := decT n) hn rfl
  show (if chainW = chainW ∧ [s, decT n].length = 2 then chD d s (decT n) else if numsB [s, decT n] = true then numD d chainW (numsL [s, decT n]) else (d, whatW)) = _
  rw [if_pos ⟨rfl, rfl⟩]
  unfold chD
  rw [h1, if_pos rfl]
theorem line_bare (d : TDesk) (w : ByteArray) : lineD d [w] = (d, bareD d w) := by
  show (if w = chainW ∧ ([] : List ByteArray).length = 2 then _ else if numsB [] = true then numD d w (numsL []) else (d, whatW)) = _
  rw [if_neg (fun h => absurd h.2 (by decide)), if_pos (show numsB [] = true from rfl)]
  rfl
theorem line_one (d : TDesk) (w : ByteArray) {a : Int} (ha : okDecZ a) : lineD d [w, decT a] = oneD d w a := by
  obtain ⟨h1, h2⟩ := num_one ha
  show (if w = chainW ∧ [decT a].length = 2 then _ else if numsB [decT a] = true then numD d w (numsL [decT a]) else (d, whatW)) = _
  rw [if_neg (fun h => absurd h.2 (by show ¬ (1 = 2); decide)), if_pos h1, h2]
  rfl
theorem line_two (d : TDesk) {w : ByteArray} (hw : ¬ w = chainW) {a b : Int} (ha : okDecZ a) (hb : okDecZ b) : lineD d [w, decT a, decT b] = twoD d w a b := by
  obtain ⟨h1, h2⟩ := num_two ha hb
  show (if w = chainW ∧ [decT a, decT b].length = 2 then _ else if numsB [decT a, decT b] = true then numD d w (numsL [decT a, decT b]) else (d, whatW)) = _
  rw [if_neg (fun h => hw h.1), if_pos h1, h2]
  rfl
theorem cn_ver (s : ByteArray) {t : TTrust} {k : Nat} {now : Int} (hk : k + 1 < 12) (ht : trustOk t) (h0 : 0 ≤ now ∧ now ≤ 1000000) (h1 : now ≤ (cnB s k).1.2.1 + t.1) (h2 : (cnB s (k + 1)).1.2.1 ≤ now + t.2) :
    verifyC t ((cnB s k).1, (cnB s k).2.2.1) (cnB s (k + 1)).1 (cnB s (k + 1)).2.2.1 (cnB s (k + 1)).2.2.2 now = 0 := by
  have hc0 := cnS_ok s (k + 1) (by omega)
  have e1 : (cnB s (k + 1)).2.1 = (cnB s k).2.2.1 := by
    show cnVals s (k + 1) (cnS s (k + 1)) = _
    unfold cnVals
    rw [if_neg (by omega)]
    rfl
  have hc := cnB_commit s hk
  rw [e1] at hc
  have ha := cnB_anchor s (k := k) (by omega)
  have hu : (cnB s k).1.2.1 < (cnB s (k + 1)).1.2.1 := cnB_up s (Nat.lt_succ_self k)
  have hd : headOk (cnB s (k + 1)).1 := hc0.head hk
  have e2 : (cnB s (k + 1)).1.1 = (((cnB s k).1, (cnB s k).2.2.1) : TAnchor).1.1 + 1 := by
    show ((k + 1 + 1 : Nat) : Int) = ((k + 1 : Nat) : Int) + 1
    omega
  have e3 : (cnB s (k + 1)).1.2.2.2.1 = (((cnB s k).1, (cnB s k).2.2.1) : TAnchor).1.2.2.2.2.1 := by
    show vhash (cnVals s (k + 1) (cnS s (k + 1))) = vhash (cnNext s k (cnS s k))
    unfold cnVals
    rw [if_neg (by omega)]
    rfl
  unfold verifyC
  rw [if_neg (fun q => q ⟨ht, ha, hd, h0⟩), if_neg (show ¬ (cnB s k).1.2.1 + t.1 < now by omega), if_neg (show ¬ now + t.2 < (cnB s (k + 1)).1.2.1 by omega), if_neg (fun q => q e2), if_neg (show ¬ (cnB s (k + 1)).1.2.1 ≤ (cnB s k).1.2.1 by omega), if_neg (fun q => q rfl), if_neg (fun q => q e3), if_neg (fun q => q rfl), if_neg (fun q => q hc)]
theorem cn_lie (s : ByteArray) {t : TTrust} {k : Nat} {now : Int} (hk : k + 1 < 12) (ht : trustOk t) (h0 : 0 ≤ now ∧ now ≤ 1000000) (h1 : now ≤ (cnB s k).1.2.1 + t.1) (h2 : (cnB s (k + 1)).1.2.1 ≤ now + t.2)
    (hne : ¬ headId (lieB (cnB s (k + 1))).1 = headId (cnB s (k + 1)).1) :
    verifyC t ((cnB s k).1, (cnB s k).2.2.1) (lieB (cnB s (k + 1))).1 (lieB (cnB s (k + 1))).2.2.1 (lieB (cnB s (k + 1))).2.2.2 now = 9 := by
  have hc0 := cnS_ok s (k + 1) (by omega)
  have ha := cnB_anchor s (k := k) (by omega)
  have hu : (cnB s k).1.2.1 < (cnB s (k + 1)).1.2.1 := cnB_up s (Nat.lt_succ_self k)
  have hd0 : headOk (cnB s (k + 1)).1 := hc0.head hk
  have hd : headOk (lieB (cnB s (k + 1))).1 := ⟨hd0.1, hd0.2.1, hd0.2.2.1, hd0.2.2.2.1, hd0.2.2.2.2.1, by show (lieW.size : Int) ≤ 20; decide⟩
  have e2 : (lieB (cnB s (k + 1))).1.1 = (((cnB s k).1, (cnB s k).2.2.1) : TAnchor).1.1 + 1 := by
    show ((k + 1 + 1 : Nat) : Int) = ((k + 1 : Nat) : Int) + 1
    omega
  have e3 : (lieB (cnB s (k + 1))).1.2.2.2.1 = (((cnB s k).1, (cnB s k).2.2.1) : TAnchor).1.2.2.2.2.1 := by
    show vhash (cnVals s (k + 1) (cnS s (k + 1))) = vhash (cnNext s k (cnS s k))
    unfold cnVals
    rw [if_neg (by omega)]
    rfl
  have hc : ¬ commitOk (((cnB s k).1, (cnB s k).2.2.1) : TAnchor).2 (lieB (cnB s (k + 1))).1 (lieB (cnB s (k + 1))).2.2.2 := fun q => hne q.2.2.2.1.symm
  have ht1 : (lieB (cnB s (k + 1))).1.2.1 = (cnB s (k + 1)).1.2.1 := rfl
  unfold verifyC
  rw [if_neg (fun q => q ⟨ht, ha, hd, h0⟩), if_neg (show ¬ (cnB s k).1.2.1 + t.1 < now by omega), if_neg (show ¬ now + t.2 < (lieB (cnB s (k + 1))).1.2.1 by omega), if_neg (fun q => q e2), if_neg (show ¬ (lieB (cnB s (k + 1))).1.2.1 ≤ (cnB s k).1.2.1 by omega), if_neg (fun q => q rfl), if_neg (fun q => q e3), if_neg (fun q => q rfl), if_pos hc]
abbrev P0 : TTab := ([], 0)
abbrev P1 : TTab := ([(1, false, 0, 0)], 0)
abbrev P2 : TTab := ([(1, false, 0, 0), (2, false, 0, 0)], 0)
abbrev P3 (t : Int) : TTab := ([(1, false, 0, 0), (2, false, t + 10, 1)], 0)
theorem add1 : addT P0 1 false = (P1, true) := by decide
theorem add2 : addT P1 2 false = (P2, true) := by decide
theorem lie2 (t : Int) : lieT P2 2 t = P3 t := by
  have h := lieT_at (l := P2.1) (n := 0) (id := 2) (now := t) (k := 1) (by decide) (by decide) (a := 2) (b := false) (c := 0) (d := 0) (by decide)
  rw [h]
  rfl
theorem good1 (t : Int) : goodT (P3 t) 1 = P3 t := by
  have h := goodT_at (l := (P3 t).1) (n := 0) (id := 1) (k := 0) (by show 0 < 2; decide) (by rfl) (a := 1) (b := false) (c := 0) (d := 0) (by rfl)
  rw [h]
  rfl
theorem at1 (t : Int) : 0 ≤ atP (P3 t).1 1 := by
  have : atP (P3 t).1 1 = 0 := rfl
  omega
theorem at2 : 0 ≤ atP P2.1 2 := by decide
theorem bnd2 {t : Int} (h : 0 ≤ t) (x : Int) : bnd P2.1 t x = false := by
  unfold bnd
  simp
  omega
theorem bnd3 {t : Int} (h : 0 ≤ t) (x : Int) : bnd (P3 t).1 t x = decide (2 = x) := by
  unfold bnd
  have h1 : ¬ t < 0 := by omega
  have h2 : t < t + 10 := by omega
  simp [h1, h2]
theorem ban3 {t : Int} (h : 0 ≤ t) : banL (P3 t).1 t = [2] := by
  unfold banL banK
  have e : bnd (P3 t).1 t = fun x => decide (2 = x) := funext fun x => bnd3 h x
  rw [e]
  decide
abbrev CL (s : ByteArray) (st : Int) (k : Nat) (hs : List THeader) (n : Int) (tb : TTab) (now : Int) : TLight := ((100, 20), st, ((cnB s k).1, (cnB s k).2.2.1), (hs, n), tb, now)
theorem tr_ok : trustOk ((100, 20) : TTrust) := by decide
theorem exp_at {h : Int} (h0 : 0 ≤ h ∧ h ≤ 1000000) : expT (100, 20) h = h + 100 := if_pos ⟨tr_ok, h0⟩
theorem st_one (h : THeader) (hh : headOk h) : storeOk ([h], 1) := ⟨⟨by show 1 ≤ 20; decide, by show (0 : Int) ≤ 1; decide, by show (1 : Int) ≤ 1; decide⟩, fun j hj => by
  have : j = 0 := by
    have : j < 1 := hj
    omega
  subst this
  exact ⟨hh, fun h => absurd h (by decide)⟩⟩
theorem hd_cn (s : ByteArray) {k : Nat} (hk : k < 12) : headOk (cnB s k).1 := (cnS_ok s k (by omega)).head hk
theorem link_cn (s : ByteArray) (k : Nat) : linkOk (cnB s k).1 (cnB s (k + 1)).1 := by
  refine ⟨?_, rfl, cnB_up s (Nat.lt_succ_self k), ?_⟩
  · show ((k + 1 + 1 : Nat) : Int) = ((k + 1 : Nat) : Int) + 1
    omega
  · show vhash (cnVals s (k + 1) (cnS s (k + 1))) = vhash (cnNext s k (cnS s k))
    unfold cnVals
    rw [if_neg (by omega)]
    rfl
theorem tab0_ok : tabOk P0 := tabOk_iff.2 ⟨⟨by decide, by decide, by decide⟩, fun p hp => absurd hp (by simp), List.Pairwise.nil⟩
theorem start_ok (s : ByteArray) : newB (100, 20) (cnB s 0) (cnB s 0).1.2.1 = true := by
  have ht := cnB_t s (k := 0) (by decide)
  have hh := hd_cn s (k := 0) (by decide)
  have hl : lightOk (newX (100, 20) (cnB s 0) (cnB s 0).1.2.1) := ⟨tr_ok, cnB_anchor s (by decide), st_one _ hh, tab0_ok, ⟨by show (1 : Int) ≤ 1; omega, by show (1 : Int) ≤ 2; omega⟩, ⟨ht.1, by show (cnB s 0).1.2.1 ≤ 1000000; omega⟩, by show 0 < 1; decide, rfl⟩
  unfold newB
  rw [decide_eq_true (cnB_ok s (by decide)), decide_eq_true hl, exp_at ⟨ht.1, by omega⟩, decide_eq_true (show (cnB s 0).1.2.1 ≤ (cnB s 0).1.2.1 + 100 by omega)]
  rfl
theorem cn3 (s : ByteArray) : chainOf s 3 = cnL s 3 := if_pos ⟨by decide, by decide⟩
theorem bk_at (s : ByteArray) {k : Nat} (h : k < 3) : bkAt (cnL s 3) ((k + 1 : Nat) : Int) = (k : Int) ∧ (cnL s 3).getD k zBk = cnB s k := by
  refine ⟨?_, by rw [List.getD_eq_getElem?_getD, cnL_get s h]; rfl⟩
  rcases bkAt_ch (chOk_cn s (n := 3) (by decide)) ((k + 1 : Nat) : Int) with ⟨j, hj, e1, e2⟩ | ⟨e, -⟩
  · rw [e2]
    omega
  · rw [cnL_len] at e
    omega
end Go.Proofs.YtfgkfcfplodaoaaGreatDoor
