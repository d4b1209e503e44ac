/-
  Put together: PEvStoreOk PEvBlock.
-/
import Derived.Test.YtfgkfcfplodaoaaGreatDoorG34
set_option linter.unusedSimpArgs false
set_option linter.unusedVariables false
set_option maxRecDepth 100000
section
namespace Go.Proofs.YtfgkfcfplodaoaaGreatDoor
open Go Go.RowKit
set_option maxHeartbeats 8000000
def asEvStoreOk0 : List (List Nat) := [[], [0], [], [2], [2, 3], [0, 1, 2, 3, 4], [0, 1, 2, 3, 4, 5], [0, 1, 2, 3, 4, 5, 6], [0, 1, 2, 3, 4, 5, 6, 7], [0, 1, 2, 3, 4, 5, 6], [0, 1, 2, 3, 4, 5, 6, 9], [0, 1, 2, 3, 4, 5, 6, 7, 8, 9, 10], [0, 1, 2, 3, 4, 5, 6, 7, 8, 9, 10, 11], [0, 1, 2, 3, 4, 5, 6, 7, 8, 9, 10, 11, 12], [0, 1, 2, 3, 4, 5, 6, 7, 8, 9, 10, 11, 12, 13], [0, 1, 2, 3, 4, 5, 6, 7, 8, 9, 10, 11, 12, 13, 14], [0, 1, 2, 3, 4, 5, 6, 7, 8, 9, 10, 11, 12, 13], [0, 1, 2, 3, 4, 5, 6, 7, 8, 9, 10, 11, 12, 13, 16], [0, 1, 2, 3, 4, 5, 6, 7, 8, 9, 10, 11, 12, 13, 14, 15, 16, 17], [0, 1, 2, 3, 4, 5, 6, 7, 8, 9, 10, 11, 12, 13, 14, 15, 16, 17, 18], [0, 1, 2, 3, 4, 5, 6, 7, 8, 9, 10, 11, 12, 13, 14, 15, 16, 17, 18, 19], [0, 1, 2, 3, 4, 5, 6, 7, 8, 9, 10, 11, 12, 13, 14, 15, 16, 17, 18, 19, 20], [0, 1, 2, 3, 4, 5, 6, 7, 8, 9, 10, 11, 12, 13, 14, 15, 16, 17, 18, 19, 20, 21], [0, 1, 2, 3, 4, 5, 6, 7, 8, 9, 10, 11, 12, 13, 14, 15, 16, 17, 18, 19, 20], [0, 1, 2, 3, 4, 5, 6, 7, 8, 9, 10, 11, 12, 13, 14, 15, 16, 17, 18, 19, 20, 23], [0, 1, 2, 3, 4, 5, 6, 7, 8, 9, 10, 11, 12, 13, 14, 15, 16, 17, 18, 19, 20, 21, 22, 23, 24], [0, 1, 2, 3, 4, 5, 6, 7, 8, 9, 10, 11, 12, 13, 14, 15, 16, 17, 18, 19, 20, 21, 22, 23, 24, 25]]
theorem stoI_s : Sound Tryz.prog 235 mSto := by
  refine Sound.mdl Tryz.func235 rfl Tryz.ntmps235 ?_
  rintro ⟨l, n⟩ w hl
  refine ⟨by simp, ?_⟩
  replace hl : l.length ≤ 8796093022207 := hl
  have hΓ : GSound Tryz.prog (look [(139, mWithin), (165, mHead), (144, mHeadId)]) := env_cons (has_of Tryz.func139 rfl rfl) within_s (env_cons (has_of Tryz.func165 rfl rfl) headI_s (env_cons (has_of Tryz.func144 rfl rfl) headIdI_s env_nil))
  have hlen := rowsF_len cHeader l
  simp only [initS, argPV, List.map_cons, List.map_nil, toPL, Nat.zero_add]
  refine zR ?_
  refine W.loopA (fun k => k ≤ l.length ∧ ∀ j, j < k → hdAt l j) (fun k : Nat => [.slot 1 (one (.ptr 1 0)), .blk 1 (bxSto (l, n)), .slot 7 (vL cHeader l), .slot 8 (vI l.length), .slot 9 (vI k)]) (fun k => l.length - k) 0 ⟨Nat.zero_le _, fun j hj => by omega⟩ (h := ?_)
  rintro k ⟨hk, hI⟩
  by_cases hlt : k < l.length
  · have hrow := hdD_row hlt
    have hrow1 : 0 < k → (rowsF cHeader l)[k - 1]? = some (lHd (hdD l (k - 1))) := fun h => hdD_row (by omega)
    have hbdH : ¬ headOk (hdD l k) → decide (storeOk (l, n)) = false := fun h => store_bad hlt fun q => h q.1
    have hbd : 0 < k → ¬ linkOk (hdD l (k - 1)) (hdD l k) → decide (storeOk (l, n)) = false := fun h0 h => store_bad hlt fun q => h (q.2 h0)
    have hnx : headOk (hdD l k) → (0 < k → linkOk (hdD l (k - 1)) (hdD l k)) → ∀ j, j < k + 1 → hdAt l j := fun a b => hd_next hI ⟨a, b⟩
    have hyb : 0 < k → (1 ≤ (hdD l (k - 1)).1 ∧ (hdD l (k - 1)).1 ≤ 1000000) := fun h => (hI (k - 1) (by omega)).1.1
    clear hI
    unfold linkOk at hnx hbd
    have c1 := mHead_eq (hdD l k)
    have c2 := mHeadId_eq (hdD l (k - 1))
    dsimp only [aHd] at c1 c2
    have ek : ((k : Int) - 1).toNat = k - 1 := by omega
    generalize headId (hdD l (k - 1)) = hy at *
    by_cases h1 : headOk (hdD l k)
    · rw [decide_eq_true h1] at c1
      replace hnx := hnx h1
      clear h1 hbdH
      generalize hdD l k = x at *
      generalize hdD l (k - 1) = y at *
      obtain ⟨x1, x2, x3, x4, x5, x6⟩ := x
      obtain ⟨y1, y2, y3, y4, y5, y6⟩ := y
      dsimp only [lHd] at hnx hbd hrow hrow1 c1 c2 hyb
      by_cases h2 : 0 < k
      · replace hrow1 := hrow1 h2
        replace hyb := hyb h2
        by_cases h3 : x1 = y1 + 1
        · by_cases h4 : x3 = hy
          · by_cases h5 : y2 < x2
            · by_cases h6 : x4 = y5
              · have hnz := Lib.hid (hnx fun _ => ⟨h3, h4, h5, h6⟩)
                clear hnx hbd
                subst h3 h4 h6
                refine zR ?_
                refine W.drawB hΓ 27 asEvStoreOk0 (Es := ?Es5) (rest := ?rest5) (st1 := ?st15) ?_
                refine zL ?_
                refine zE ?_
                refine zR ?_
                exact At.roundA (k + 1) ⟨by omega, hnz.out⟩ (by omega)
              · replace hbd := Lib.hid (hbd h2 fun h => h6 h.2.2.2)
                clear hnx
                subst h3 h4
                refine zR ?_
                refine W.drawB hΓ 27 asEvStoreOk0 (Es := ?Es8) (rest := ?rest8) (st1 := ?st18) ?_
                refine zL ?_
                refine zE ?_
                refine zR ?_
                refine At.retA (by rw [Tryz.results235]) (he := ?_)
                rw [hbd.out]
            · replace hbd := Lib.hid (hbd h2 fun h => h5 h.2.2.1)
              clear hnx
              subst h3 h4
              refine zR ?_
              refine W.drawB hΓ 27 asEvStoreOk0 (Es := ?Es12) (rest := ?rest12) (st1 := ?st112) ?_
              refine zL ?_
              refine zE ?_
              refine zR ?_
              refine At.retA (by rw [Tryz.results235]) (he := ?_)
              rw [hbd.out]
          · replace hbd := Lib.hid (hbd h2 fun h => h4 h.2.1)
            clear hnx
            subst h3
            refine zR ?_
            refine W.drawB hΓ 27 asEvStoreOk0 (Es := ?Es16) (rest := ?rest16) (st1 := ?st116) ?_
            refine zL ?_
            refine zE ?_
            refine zR ?_
            refine At.retA (by rw [Tryz.results235]) (he := ?_)
            rw [hbd.out]
        · replace hbd := Lib.hid (hbd h2 fun h => h3 h.1)
          clear hnx
          refine zR ?_
          refine W.drawB hΓ 27 asEvStoreOk0 (Es := ?Es20) (rest := ?rest20) (st1 := ?st120) ?_
          refine zL ?_
          refine zE ?_
          refine zR ?_
          refine At.retA (by rw [Tryz.results235]) (he := ?_)
          rw [hbd.out]
      · have hnz := Lib.hid (hnx fun h => absurd h h2)
        have hk0 : k = 0 := by omega
        clear hnx hbd hrow1 hyb c2
        subst hk0
        refine zR ?_
        exact At.roundA (0 + 1) ⟨by omega, hnz.out⟩ (by omega)
    · replace hbd := Lib.hid (hbdH h1)
      clear hbdH
      rw [decide_eq_false h1] at c1
      clear hnx h1 hrow1 hyb c2
      generalize hdD l k = x at *
      obtain ⟨x1, x2, x3, x4, x5, x6⟩ := x
      dsimp only [lHd] at hrow c1
      refine zR ?_
      refine At.retA (by rw [Tryz.results235]) (he := ?_)
      rw [hbd.out]
  · have c5 := mWithin_eq n 0 l.length
    by_cases h6 : l.length ≤ 20
    · by_cases h7 : 0 ≤ n ∧ n ≤ (l.length : Int)
      · have hgood : decide (storeOk (l, n)) = true := decide_eq_true ⟨⟨h6, h7⟩, fun j hj => hI j (by have hj : j < l.length := hj; omega)⟩
        have hgood := Lib.hid hgood
        rw [decide_eq_true h7] at c5
        clear hI h7
        refine zR ?_
        refine At.retA (by rw [Tryz.results235]) (he := ?_)
        rw [hgood.out]
      · have hbd : decide (storeOk (l, n)) = false := decide_eq_false fun h => h7 h.1.2
        have hbd := Lib.hid hbd
        rw [decide_eq_false h7] at c5
        clear hI h7
        refine zR ?_
        refine At.retA (by rw [Tryz.results235]) (he := ?_)
        rw [hbd.out]
    · have hbd : decide (storeOk (l, n)) = false := decide_eq_false fun h => h6 h.1.1
      have hbd := Lib.hid hbd
      clear hI c5
      refine zR ?_
      refine At.retA (by rw [Tryz.results235]) (he := ?_)
      rw [hbd.out]
end Go.Proofs.YtfgkfcfplodaoaaGreatDoor

end
section
namespace Go.Proofs.YtfgkfcfplodaoaaGreatDoor
open Go Go.RowKit
set_option maxHeartbeats 8000000
def commitOk (l : List TVal) (h : THeader) (c : TCommit) : Prop := valsOk l ∧ headOk h ∧ c.1 = h.1 ∧ c.2.2.1 = headId h ∧ vhash l = h.2.2.2.1 ∧ enoughB l (cvals c) = true
instance (l : List TVal) (h : THeader) (c : TCommit) : Decidable (commitOk l h c) := by unfold commitOk; infer_instance
abbrev TCmA := List TVal × THeader × TCommit
abbrev okCmA (x : TCmA) : Prop := x.1.length ≤ 8796093022207 ∧ okCm x.2.2
abbrev aCmA (x : TCmA) : List Arg := [aL cVal x.1, aHd x.2.1, aCm x.2.2]
theorem aCmA_inj : ∀ x y, aCmA x = aCmA y → x = y := by
  rintro ⟨l, ⟨a, b, c, d, e, f⟩, ⟨g, h, i, j⟩⟩ ⟨l', ⟨a', b', c', d', e', f'⟩, ⟨g', h', i', j'⟩⟩ h
  simp [aCmA, aHd, aCm, csig_inj] at h
  simp [h]
noncomputable def mCommit := mdl okCmA aCmA (fun x => rB (decide (commitOk x.1 x.2.1 x.2.2)))
theorem mCommit_eq (l : List TVal) (h : THeader) (c : TCommit) (hl : l.length ≤ 8796093022207) (hc : okCm c) : mCommit [aL cVal l, aHd h, aCm c] = some (rB (decide (commitOk l h c))) := mdl_eq aCmA_inj (l, h, c) ⟨hl, hc⟩
theorem cases6B (a b c d e : Prop) [Decidable a] [Decidable b] [Decidable c] [Decidable d] [Decidable e] (f : Bool) : (decide a = false) ∨ (decide a = true ∧ decide b = false) ∨ (decide a = true ∧ decide b = true ∧ decide c = false) ∨ (decide a = true ∧ decide b = true ∧ decide c = true ∧ decide d = false) ∨ (decide a = true ∧ decide b = true ∧ decide c = true ∧ decide d = true ∧ decide e = false) ∨ (decide a = true ∧ decide b = true ∧ decide c = true ∧ decide d = true ∧ decide e = true) := by
  cases decide a <;> cases decide b <;> cases decide c <;> cases decide d <;> cases decide e <;> simp
def asEvBlock1 : List (List Nat) := [[], [0], [0, 1], [0, 1, 2], [0, 1, 2, 3], [0, 1, 2, 3, 4], [0, 1, 2, 3, 4, 5], [0, 1, 2, 3, 4, 5, 6], [0, 1, 2, 3, 4, 5, 6, 7], [0, 1, 2, 3, 4, 5, 6], [0, 1, 2, 3, 4, 5, 6, 9], [0, 1, 2, 3, 4, 5, 6, 7, 8, 9, 10], [0, 1, 2, 3, 4, 5, 6, 7, 8, 9, 10, 11], [0, 1, 2, 3, 4, 5, 6, 7, 8, 9, 10, 11, 12], [0, 1, 2, 3, 4, 5, 6, 7, 8, 9, 10, 11, 12, 13], [0, 1, 2, 3, 4, 5, 6, 7, 8, 9, 10, 11, 12, 13, 14], [0, 1, 2, 3, 4, 5, 6, 7, 8, 9, 10, 11, 12, 13], [0, 1, 2, 3, 4, 5, 6, 7, 8, 9, 10, 11, 12, 13, 16], [0, 1, 2, 3, 4, 5, 6, 7, 8, 9, 10, 11, 12, 13, 14, 15, 16, 17], [0, 1, 2, 3, 4, 5, 6, 7, 8, 9, 10, 11, 12, 13, 14, 15, 16, 17, 18], [0, 1, 2, 3, 4, 5, 6, 7, 8, 9, 10, 11, 12, 13, 14, 15, 16, 17, 18, 19], [0, 1, 2, 3, 4, 5, 6, 7, 8, 9, 10, 11, 12, 13, 14, 15, 16, 17, 18, 19, 20], [0, 1, 2, 3, 4, 5, 6, 7, 8, 9, 10, 11, 12, 13, 14, 15, 16, 17, 18, 19, 20, 21], [0, 1, 2, 3, 4, 5, 6, 7, 8, 9, 10, 11, 12, 13, 14, 15, 16, 17, 18, 19, 20], [0, 1, 2, 3, 4, 5, 6, 7, 8, 9, 10, 11, 12, 13, 14, 15, 16, 17, 18, 19, 20, 23], [0, 1, 2, 3, 4, 5, 6, 7, 8, 9, 10, 11, 12, 13, 14, 15, 16, 17, 18, 19, 20, 21, 22, 23, 24], [0, 1, 2, 3, 4, 5, 6, 7, 8, 9, 10, 11, 12, 13, 14, 15, 16, 17, 18, 19, 20, 21, 22, 23, 24, 25], [0, 1, 2, 3, 4, 5, 6, 7, 8, 9, 10, 11, 12, 13, 14, 15, 16, 17, 18, 19, 20, 21, 22, 23, 24, 25, 26], [0, 1, 2, 3, 4, 5, 6, 7, 8, 9, 10, 11, 12, 13, 14, 15, 16, 17, 18, 19, 20, 21, 22, 23, 24, 25, 26, 27], [0, 1, 2, 3, 4, 5, 6, 7, 8, 9, 10, 11, 12, 13, 14, 15, 16, 17, 18, 19, 20, 21, 22, 23, 24, 25, 26, 27], [0, 1, 2, 3, 4, 5, 6, 7, 8, 9, 10, 11, 12, 13, 14, 15, 16, 17, 18, 19, 20, 21, 22, 23, 24, 25, 26, 27, 29], [0, 1, 2, 3, 4, 5, 6, 7, 8, 9, 10, 11, 12, 13, 14, 15, 16, 17, 18, 19, 20, 21, 22, 23, 24, 25, 26, 27, 28, 29, 30], [0, 1, 2, 3, 4, 5, 6, 7, 8, 9, 10, 11, 12, 13, 14, 15, 16, 17, 18, 19, 20, 21, 22, 23, 24, 25, 26, 27, 28, 29, 30, 31], [0, 1, 2, 3, 4, 5, 6, 7, 8, 9, 10, 11, 12, 13, 14, 15, 16, 17, 18, 19, 20, 21, 22, 23, 24, 25, 26, 27, 28, 29, 30, 31, 32]]
theorem commitI_s : Sound Tryz.prog 167 mCommit := by
  refine Sound.mdl Tryz.func167 rfl Tryz.ntmps167 ?_
  rintro ⟨l, ⟨h, t, la, va, ne, da⟩, ⟨ch, cr, ci, cs⟩⟩ w ⟨hl, hc⟩
  refine ⟨by simp, ?_⟩
  replace hl : l.length ≤ 8796093022207 := hl
  replace hc : cs.length ≤ 8796093022207 := hc
  have hΓ : GSound Tryz.prog (look [(168, mVals), (165, mHead), (144, mHeadId), (166, mVHash), (128, mCValsI), (215, mEnough)]) := env_cons (has_of Tryz.func168 rfl rfl) valsI_s (env_cons (has_of Tryz.func165 rfl rfl) headI_s (env_cons (has_of Tryz.func144 rfl rfl) headIdI_s (env_cons (has_of Tryz.func166 rfl rfl) vhashI_s (env_cons (has_of Tryz.func128 rfl rfl) cvalsI_s (env_cons (has_of Tryz.func215 rfl rfl) enoughI_s env_nil)))))
  have c1 := mVals_eq l hl
  have c2 := mHead_eq (h, t, la, va, ne, da)
  have c3 := mHeadId_eq (h, t, la, va, ne, da)
  have c4 := mVHash_eq l hl
  have hcl := cvals_len (ch, cr, ci, cs)
  have c6 := mEnough_eq l (cvals (ch, cr, ci, cs)) hl (by omega)
  have key : decide (commitOk l (h, t, la, va, ne, da) (ch, cr, ci, cs)) = (decide (valsOk l) && (decide (headOk (h, t, la, va, ne, da)) && (decide (ch = h) && (decide (ci = headId (h, t, la, va, ne, da)) && (decide (vhash l = va) && enoughB l (cvals (ch, cr, ci, cs))))))) := by
    rw [Bool.eq_iff_iff]
    simp only [Bool.and_eq_true, decide_eq_true_eq]
    exact Iff.rfl
  dsimp only [aHd] at c2 c3
  generalize headId (h, t, la, va, ne, da) = x at *
  generalize vhash l = y at *
  generalize hen : enoughB l (cvals (ch, cr, ci, cs)) = en at *
  simp only [initS, argPV, List.map_cons, List.map_nil, toPL, Nat.zero_add]
  rcases cases6B (valsOk l) (headOk (h, t, la, va, ne, da)) (ch = h) (ci = x) (y = va) en with q | q | q | q | q | q
  · rw [q] at c1 key
    clear q
    refine zR ?_
    refine W.drawB hΓ 34 asEvBlock1 (Es := ?Es30) (rest := ?rest30) (st1 := ?st130) ?_
    refine zL ?_
    refine zE ?_
    refine zR ?_
    refine At.retA (by rw [Tryz.results167]) (he := ?_)
    rw [key]; rfl
  · obtain ⟨q1, q2⟩ := q
    rw [q1] at c1 key
    rw [q2] at c2 key
    clear q1 q2
    refine zR ?_
    refine W.drawB hΓ 34 asEvBlock1 (Es := ?Es34) (rest := ?rest34) (st1 := ?st134) ?_
    refine zL ?_
    refine zE ?_
    refine zR ?_
    refine At.retA (by rw [Tryz.results167]) (he := ?_)
    rw [key]; rfl
  · obtain ⟨q1, q2, q3⟩ := q
    rw [q1] at c1 key
    rw [q2] at c2 key
    rw [q3] at key
    clear q1 q2
    refine zR ?_
    refine W.drawB hΓ 34 asEvBlock1 (Es := ?Es38) (rest := ?rest38) (st1 := ?st138) ?_
    refine zL ?_
    refine zE ?_
    refine zR ?_
    refine At.retA (by rw [Tryz.results167]) (he := ?_)
    rw [key]; rfl
  · obtain ⟨q1, q2, q3, q4⟩ := q
    rw [q1] at c1 key
    rw [q2] at c2 key
    rw [q3, q4] at key
    clear q1 q2
    refine zR ?_
    refine W.drawB hΓ 34 asEvBlock1 (Es := ?Es42) (rest := ?rest42) (st1 := ?st142) ?_
    refine zL ?_
    refine zE ?_
    refine zR ?_
    refine At.retA (by rw [Tryz.results167]) (he := ?_)
    rw [key]; rfl
  · obtain ⟨q1, q2, q3, q4, q5⟩ := q
    rw [q1] at c1 key
    rw [q2] at c2 key
    rw [q3, q4, q5] at key
    clear q1 q2
    refine zR ?_
    refine W.drawB hΓ 34 asEvBlock1 (Es := ?Es46) (rest := ?rest46) (st1 := ?st146) ?_
    refine zL ?_
    refine zE ?_
    refine zR ?_
    refine At.retA (by rw [Tryz.results167]) (he := ?_)
    rw [key]; rfl
  · obtain ⟨q1, q2, q3, q4, q5⟩ := q
    rw [q1] at c1 key
    rw [q2] at c2 key
    rw [q3, q4, q5] at key
    clear q1 q2
    by_cases h12 : cs.length ≤ 12
    · have c5 := mCValsI_eq (ch, cr, ci, cs) hc h12
      dsimp only [aCm] at c5
      generalize cvals (ch, cr, ci, cs) = cv at *
      clear hen
      refine zR ?_
      refine W.drawB hΓ 34 asEvBlock1 (Es := ?Es50) (rest := ?rest50) (st1 := ?st150) ?_
      refine zL ?_
      refine zE ?_
      refine zR ?_
      refine At.retA (by rw [Tryz.results167]) (he := ?_)
      rw [key]; rfl
    · have c5 := mCValsI_no (ch, cr, ci, cs) hc h12
      have hcv : cvals (ch, cr, ci, cs) = [] := if_neg h12
      have hnil : rowsF cInt [] = [] := rfl
      dsimp only [aCm] at c5
      rw [hcv] at c6
      dsimp only [aL] at c6
      rw [hnil] at c6
      clear hen hcl hcv hnil
      refine zR ?_
      refine W.drawB hΓ 34 asEvBlock1 (Es := ?Es54) (rest := ?rest54) (st1 := ?st154) ?_
      refine zL ?_
      refine zE ?_
      refine zR ?_
      refine At.retA (by rw [Tryz.results167]) (he := ?_)
      rw [key]; rfl
abbrev TBlock := THeader × List TVal × List TVal × TCommit
abbrev aBk (b : TBlock) : Arg := .val true [.sc (.int .i64 b.1.1), .sc (.int .i64 b.1.2.1), .sc (.string b.1.2.2.1), .sc (.string b.1.2.2.2.1), .sc (.string b.1.2.2.2.2.1), .sc (.string b.1.2.2.2.2.2), .sl (rowsF cVal b.2.1), .sl (rowsF cVal b.2.2.1), .sc (.int .i64 b.2.2.2.1), .sc (.int .i64 b.2.2.2.2.1), .sc (.string b.2.2.2.2.2.1), .sl (rowsF cCSig b.2.2.2.2.2.2)]
abbrev okBk (b : TBlock) : Prop := b.2.1.length ≤ 8796093022207 ∧ b.2.2.1.length ≤ 8796093022207 ∧ okCm b.2.2.2
theorem aBk_inj : ∀ x y : TBlock, [aBk x] = [aBk y] → x = y := by
  rintro ⟨⟨a, b, c, d, e, f⟩, l, n, ⟨g, h, i, j⟩⟩ ⟨⟨a', b', c', d', e', f'⟩, l', n', ⟨g', h', i', j'⟩⟩ h
  simp [aBk, csig_inj] at h
  simp [h]
def blockOk (b : TBlock) : Prop := valsOk b.2.2.1 ∧ b.1.2.2.2.2.1 = vhash b.2.2.1 ∧ commitOk b.2.1 b.1 b.2.2.2
instance (b : TBlock) : Decidable (blockOk b) := by unfold blockOk; infer_instance
noncomputable def mBlock := mdl okBk (fun b => [aBk b]) (fun b => rB (decide (blockOk b)))
theorem mBlock_eq (b : TBlock) (h : okBk b) : mBlock [aBk b] = some (rB (decide (blockOk b))) := mdl_eq aBk_inj b h
def asEvBlock0 : List (List Nat) := [[], [0], [0, 1], [0, 1, 2], [0, 1, 2, 3], [0, 1, 2, 3, 4], [0, 1, 2, 3, 4, 5], [0, 1, 2, 3, 4, 5, 6], [0, 1, 2, 3, 4, 5, 6, 7], [0, 1, 2, 3, 4, 5, 6, 7, 8], [0, 1, 2, 3, 4, 5, 6, 7, 8, 9], [0, 1, 2, 3, 4, 5, 6, 7, 8, 9, 10], [0, 1, 2, 3, 4, 5, 6, 7, 8, 9, 10, 11], [0, 1, 2, 3, 4, 5, 6, 7, 8, 9, 10, 11, 12], [0, 1, 2, 3, 4, 5, 6, 7, 8, 9, 10, 11, 12, 13], [0, 1, 2, 3, 4, 5, 6, 7, 8, 9, 10, 11, 12, 13, 14], [0, 1, 2, 3, 4, 5, 6, 7, 8, 9, 10, 11, 12, 13, 14, 15], [0, 1, 2, 3, 4, 5, 6, 7, 8, 9, 10, 11, 12, 13], [0, 1, 2, 3, 4, 5, 6, 7, 8, 9, 10, 11, 12, 13, 17], [0, 1, 2, 3, 4, 5, 6, 7, 8, 9, 10, 11, 12, 13, 17, 18], [0, 1, 2, 3, 4, 5, 6, 7, 8, 9, 10, 11, 12, 13, 14, 15, 16, 17, 18, 19], [0, 1, 2, 3, 4, 5, 6, 7, 8, 9, 10, 11, 12, 13, 14, 15, 16, 17, 18, 19, 20], [0, 1, 2, 3, 4, 5, 6, 7, 8, 9, 10, 11, 12, 13, 14, 15, 16, 17, 18, 19, 20, 21], [0, 1, 2, 3, 4, 5, 6, 7, 8, 9, 10, 11, 12, 13, 14, 15, 16, 17, 18, 19, 20, 21, 22], [0, 1, 2, 3, 4, 5, 6, 7, 8, 9, 10, 11, 12, 13, 14, 15, 16, 17, 18, 19, 20, 21, 22, 23], [0, 1, 2, 3, 4, 5, 6, 7, 8, 9, 10, 11, 12, 13, 14, 15, 16, 17, 18, 19, 20, 21, 22, 23, 24], [0, 1, 2, 3, 4, 5, 6, 7, 8, 9, 10, 11, 12, 13, 14, 15, 16, 17, 18, 19, 20, 21, 22], [0, 1, 2, 3, 4, 5, 6, 7, 8, 9, 10, 11, 12, 13, 14, 15, 16, 17, 18, 19, 20, 21, 22, 26], [0, 1, 2, 3, 4, 5, 6, 7, 8, 9, 10, 11, 12, 13, 14, 15, 16, 17, 18, 19, 20, 21, 22, 26, 27], [0, 1, 2, 3, 4, 5, 6, 7, 8, 9, 10, 11, 12, 13, 14, 15, 16, 17, 18, 19, 20, 21, 22, 23, 24, 25, 26, 27, 28], [0, 1, 2, 3, 4, 5, 6, 7, 8, 9, 10, 11, 12, 13, 14, 15, 16, 17, 18, 19, 20, 21, 22, 23, 24, 25, 26, 27, 28, 29], [0, 1, 2, 3, 4, 5, 6, 7, 8, 9, 10, 11, 12, 13, 14, 15, 16, 17, 18, 19, 20, 21, 22, 23, 24, 25, 26, 27, 28, 29, 30], [0, 1, 2, 3, 4, 5, 6, 7, 8, 9, 10, 11, 12, 13, 14, 15, 16, 17, 18, 19, 20, 21, 22, 23, 24, 25, 26, 27, 28, 29, 30, 31], [0, 1, 2, 3, 4, 5, 6, 7, 8, 9, 10, 11, 12, 13, 14, 15, 16, 17, 18, 19, 20, 21, 22, 23, 24, 25, 26, 27, 28, 29, 30, 31, 32], [0, 1, 2, 3, 4, 5, 6, 7, 8, 9, 10, 11, 12, 13, 14, 15, 16, 17, 18, 19, 20, 21, 22, 23, 24, 25, 26, 27, 28, 29, 30, 31], [0, 1, 2, 3, 4, 5, 6, 7, 8, 9, 10, 11, 12, 13, 14, 15, 16, 17, 18, 19, 20, 21, 22, 23, 24, 25, 26, 27, 28, 29, 30, 31, 34], [0, 1, 2, 3, 4, 5, 6, 7, 8, 9, 10, 11, 12, 13, 14, 15, 16, 17, 18, 19, 20, 21, 22, 23, 24, 25, 26, 27, 28, 29, 30, 31], [0, 1, 2, 3, 4, 5, 6, 7, 8, 9, 10, 11, 12, 13, 14, 15, 16, 17, 18, 19, 20, 21, 22, 23, 24, 25, 26, 27, 28, 29, 30, 31, 36], [0, 1, 2, 3, 4, 5, 6, 7, 8, 9, 10, 11, 12, 13, 14, 15, 16, 17, 18, 19, 20, 21, 22, 23, 24, 25, 26, 27, 28, 29, 30, 31, 32, 33, 34, 35, 36, 37], [0, 1, 2, 3, 4, 5, 6, 7, 8, 9, 10, 11, 12, 13, 14, 15, 16, 17, 18, 19, 20, 21, 22, 23, 24, 25, 26, 27, 28, 29, 30, 31, 32, 33, 34, 35, 36, 37, 38], [0, 1, 2, 3, 4, 5, 6, 7, 8, 9, 10, 11, 12, 13, 14, 15, 16, 17, 18, 19, 20, 21, 22, 23, 24, 25, 26, 27, 28, 29, 30, 31, 32, 33, 34, 35, 36, 37, 38, 39]]
theorem blkOkI_s : Sound Tryz.prog 124 mBlock := by
  refine Sound.mdl Tryz.func124 rfl Tryz.ntmps124 ?_
  rintro ⟨⟨h, t, la, va, ne, da⟩, l, n, ⟨ch, cr, ci, cs⟩⟩ w ⟨hl, hn, hc⟩
  refine ⟨by simp, ?_⟩
  dsimp only at hl hn hc
  have hΓ : GSound Tryz.prog (look [(168, mVals), (165, mHead), (166, mVHash), (167, mCommit)]) := env_cons (has_of Tryz.func168 rfl rfl) valsI_s (env_cons (has_of Tryz.func165 rfl rfl) headI_s (env_cons (has_of Tryz.func166 rfl rfl) vhashI_s (env_cons (has_of Tryz.func167 rfl rfl) commitI_s env_nil)))
  have c0 := mVals_eq l hl
  have c1 := mVals_eq n hn
  have c2 := mVHash_eq l hl
  have c4 := mVHash_eq n hn
  have c5 := mHead_eq (h, t, la, va, ne, da)
  have c3 := mCommit_eq l (h, t, la, va, ne, da) (ch, cr, ci, cs) hl hc
  have key : decide (blockOk ((h, t, la, va, ne, da), l, n, (ch, cr, ci, cs))) = (decide (valsOk l) && (decide (valsOk n) && (decide (headOk (h, t, la, va, ne, da)) && (decide (va = vhash l) && (decide (ne = vhash n) && decide (commitOk l (h, t, la, va, ne, da) (ch, cr, ci, cs))))))) := by
    rw [Bool.eq_iff_iff]
    simp only [Bool.and_eq_true, decide_eq_true_eq]
    constructor
    · rintro ⟨h1, h2, h3⟩; exact ⟨h3.1, h1, h3.2.1, h3.2.2.2.2.1.symm, h2, h3⟩
    · rintro ⟨_, h1, _, _, h2, h3⟩; exact ⟨h1, h2, h3⟩
  dsimp only [aHd, aCm] at c3 c5
  generalize vhash l = x at *
  generalize vhash n = y at *
  generalize decide (commitOk l (h, t, la, va, ne, da) (ch, cr, ci, cs)) = co at *
  simp only [initS, argPV, List.map_cons, List.map_nil, toPL, Nat.zero_add]
  rcases cases6B (valsOk l) (valsOk n) (headOk (h, t, la, va, ne, da)) (va = x) (ne = y) co with q | q | q | q | q | q
  · rw [q] at c0 key
    clear q
    refine zR ?_
    refine W.drawB hΓ 41 asEvBlock0 (Es := ?Es74) (rest := ?rest74) (st1 := ?st174) ?_
    refine zL ?_
    refine zE ?_
    refine zR ?_
    refine At.retA (by rw [Tryz.results124]) (he := ?_)
    rw [key]; rfl
  · obtain ⟨q1, q2⟩ := q
    rw [q1] at c0 key
    rw [q2] at c1 key
    clear q1 q2
    refine zR ?_
    refine W.drawB hΓ 41 asEvBlock0 (Es := ?Es78) (rest := ?rest78) (st1 := ?st178) ?_
    refine zL ?_
    refine zE ?_
    refine zR ?_
    refine At.retA (by rw [Tryz.results124]) (he := ?_)
    rw [key]; rfl
  · obtain ⟨q1, q2, q3⟩ := q
    rw [q1] at c0 key
    rw [q2] at c1 key
    rw [q3] at c5 key
    clear q1 q2 q3
    refine zR ?_
    refine W.drawB hΓ 41 asEvBlock0 (Es := ?Es82) (rest := ?rest82) (st1 := ?st182) ?_
    refine zL ?_
    refine zE ?_
    refine zR ?_
    refine At.retA (by rw [Tryz.results124]) (he := ?_)
    rw [key]; rfl
  · obtain ⟨q1, q2, q3, q4⟩ := q
    rw [q1] at c0 key
    rw [q2] at c1 key
    rw [q3] at c5 key
    rw [q4] at key
    clear q1 q2 q3
    refine zR ?_
    refine W.drawB hΓ 41 asEvBlock0 (Es := ?Es86) (rest := ?rest86) (st1 := ?st186) ?_
    refine zL ?_
    refine zE ?_
    refine zR ?_
    refine At.retA (by rw [Tryz.results124]) (he := ?_)
    rw [key]; rfl
  · obtain ⟨q1, q2, q3, q4, q5⟩ := q
    rw [q1] at c0 key
    rw [q2] at c1 key
    rw [q3] at c5 key
    rw [q4, q5] at key
    clear q1 q2 q3
    refine zR ?_
    refine W.drawB hΓ 41 asEvBlock0 (Es := ?Es90) (rest := ?rest90) (st1 := ?st190) ?_
    refine zL ?_
    refine zE ?_
    refine zR ?_
    refine At.retA (by rw [Tryz.results124]) (he := ?_)
    rw [key]; rfl
  · obtain ⟨q1, q2, q3, q4, q5⟩ := q
    rw [q1] at c0 key
    rw [q2] at c1 key
    rw [q3] at c5 key
    rw [q4, q5] at key
    clear q1 q2 q3
    refine zR ?_
    refine W.drawB hΓ 41 asEvBlock0 (Es := ?Es94) (rest := ?rest94) (st1 := ?st194) ?_
    refine zL ?_
    refine zE ?_
    refine zR ?_
    refine At.retA (by rw [Tryz.results124]) (he := ?_)
    rw [key]; rfl
end Go.Proofs.YtfgkfcfplodaoaaGreatDoor

end
