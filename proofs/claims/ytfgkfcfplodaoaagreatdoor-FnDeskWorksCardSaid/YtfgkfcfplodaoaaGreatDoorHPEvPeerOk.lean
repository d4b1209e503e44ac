
import Derived.Test.YtfgkfcfplodaoaaGreatDoorG21
set_option linter.unusedSimpArgs false
set_option linter.unusedVariables false
set_option maxRecDepth 100000
namespace Go.Proofs.YtfgkfcfplodaoaaGreatDoor
open Go Go.RowKit
set_option maxHeartbeats 8000000
noncomputable def mTab := mdl (fun t : TTab => t.1.length ≤ 8796093022207) (fun t => [aTab t]) (fun t => rB (decide (tabOk t)))
theorem mTab_eq (t : TTab) (h : t.1.length ≤ 8796093022207) : mTab [aTab t] = some (rB (decide (tabOk t))) := mdl_eq (fun a b h => aTab_inj (by simpa using h)) t h
theorem peer_bad {l : List TPeer} {n : Int} {k : Nat} (hk : k < l.length) (h : ¬ peerAt l k) : decide (tabOk (l, n)) = false := decide_eq_false fun q => h (q.2 k hk)
theorem tabI_s : Sound Tryz.prog 189 mTab := by
  refine Sound.mdl Tryz.func189 rfl Tryz.ntmps189 ?_
  rintro ⟨l, n⟩ w hl
  refine ⟨by simp, ?_⟩
  replace hl : l.length ≤ 8796093022207 := hl
  have hΓ : GSound Tryz.prog (look [(139, mWithin), (193, mAtP), (125, mTime)]) := env_cons (has_of Tryz.func139 rfl rfl) within_s (env_cons (has_of Tryz.func193 rfl rfl) atPI_s (env_cons (has_of Tryz.func125 rfl rfl) isTime_s env_nil))
  have hlen := rowsF_len cPeer l
  simp only [initS, argPV, List.map_cons, List.map_nil, toPL, Nat.zero_add]
  refine zR ?_
  refine W.loopA (fun k => k ≤ l.length ∧ ∀ j, j < k → peerAt l j) (fun k : Nat => [.slot 1 (one (.ptr 1 0)), .blk 1 (bxTab (l, n)), .slot 6 (vL cPeer l), .slot 7 (vI l.length), .slot 8 (vI k)]) (fun k => l.length - k) 0 ⟨Nat.zero_le _, fun j hj => by omega⟩ (h := ?_)
  rintro k ⟨hk, hI⟩
  by_cases hlt : k < l.length
  · have hrow := peerD_row hlt
    have hnx := peer_next hI
    have hbd : ¬ peerAt l k → decide (tabOk (l, n)) = false := peer_bad hlt
    clear hI
    unfold peerAt peerOk at hnx hbd
    generalize peerD l k = p at *
    obtain ⟨i, pn, un, bn⟩ := p
    dsimp only at hnx hbd hrow
    have c1 := mWithin_eq i 1 99
    have c2 := mWithin_eq un 0 1000320
    have c3 := mWithin_eq bn 0 20
    have c4 := mAtP_eq (l, n) i hl
    have hq := atP_in l i hl
    dsimp only at c4
    generalize atP l i = q at *
    by_cases h1 : 1 ≤ i ∧ i ≤ 99
    · rw [decide_eq_true h1] at c1
      by_cases h2 : 0 ≤ un ∧ un ≤ 1000320
      · rw [decide_eq_true h2] at c2
        by_cases h3 : 0 ≤ bn ∧ bn ≤ 20
        · rw [decide_eq_true h3] at c3
          by_cases h4 : q = (k : Int)
          · have hnz := Lib.hid (hnx ⟨⟨h1, h2, h3⟩, h4⟩)
            clear hnx hbd h1 h2 h3 hq
            subst h4
            refine zR ?_
            exact At.roundA (k + 1) ⟨by omega, hnz.out⟩ (by omega)
          · have hbd := Lib.hid (hbd fun h => h4 h.2)
            clear hnx h1 h2 h3 hq
            refine zR ?_
            refine At.retA (by rw [Tryz.results189]) (he := ?_)
            rw [hbd.out]
        · have hbd := Lib.hid (hbd fun h => h3 h.1.2.2)
          rw [decide_eq_false h3] at c3
          clear hnx h1 h2 h3 hq c4
          refine zR ?_
          refine At.retA (by rw [Tryz.results189]) (he := ?_)
          rw [hbd.out]
      · have hbd := Lib.hid (hbd fun h => h2 h.1.2.1)
        rw [decide_eq_false h2] at c2
        clear hnx h1 h2 hq c3 c4
        refine zR ?_
        refine At.retA (by rw [Tryz.results189]) (he := ?_)
        rw [hbd.out]
    · have hbd := Lib.hid (hbd fun h => h1 h.1.1)
      rw [decide_eq_false h1] at c1
      clear hnx h1 hq c2 c3 c4
      refine zR ?_
      refine At.retA (by rw [Tryz.results189]) (he := ?_)
      rw [hbd.out]
  · have c5 := mTime_eq n
    by_cases h6 : l.length ≤ 6
    · by_cases h7 : 0 ≤ n ∧ n ≤ 1000000
      · have hgood : decide (tabOk (l, n)) = true := decide_eq_true ⟨⟨h6, h7⟩, fun j hj => hI j (by have hj : j < l.length := hj; omega)⟩
        have hgood := Lib.hid hgood
        rw [decide_eq_true h7] at c5
        clear hI h7
        refine zR ?_
        refine At.retA (by rw [Tryz.results189]) (he := ?_)
        rw [hgood.out]
      · have hbd : decide (tabOk (l, n)) = false := decide_eq_false fun h => h7 h.1.2
        have hbd := Lib.hid hbd
        rw [decide_eq_false h7] at c5
        clear hI h7
        refine zR ?_
        refine At.retA (by rw [Tryz.results189]) (he := ?_)
        rw [hbd.out]
    · have hbd : decide (tabOk (l, n)) = false := decide_eq_false fun h => h6 h.1.1
      have hbd := Lib.hid hbd
      clear hI c5
      refine zR ?_
      refine At.retA (by rw [Tryz.results189]) (he := ?_)
      rw [hbd.out]
end Go.Proofs.YtfgkfcfplodaoaaGreatDoor
