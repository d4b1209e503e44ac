/-
  Put together: PEvVerify PEvBkL.
-/
import Derived.Test.YtfgkfcfplodaoaaGreatDoorG36
set_option linter.unusedSimpArgs false
set_option linter.unusedVariables false
set_option maxRecDepth 100000
section
namespace Go.Proofs.YtfgkfcfplodaoaaGreatDoor
open Go Go.RowKit
set_option maxHeartbeats 8000000
def verifyC (t : TTrust) (a : TAnchor) (h : THeader) (n : List TVal) (c : TCommit) (now : Int) : Int :=
  if ¬ (trustOk t ∧ anchorOk a ∧ headOk h ∧ (0 ≤ now ∧ now ≤ 1000000)) then 1
  else if a.1.2.1 + t.1 < now then 2
  else if now + t.2 < h.2.1 then 3
  else if ¬ h.1 = a.1.1 + 1 then 4
  else if h.2.1 ≤ a.1.2.1 then 5
  else if ¬ h.2.2.1 = headId a.1 then 6
  else if ¬ h.2.2.2.1 = a.1.2.2.2.2.1 then 7
  else if ¬ h.2.2.2.2.1 = vhash n then 8
  else if ¬ commitOk a.2 h c then 9
  else 0
def verifyA (t : TTrust) (a : TAnchor) (h : THeader) (n : List TVal) (c : TCommit) (now : Int) : TAnchor := if verifyC t a h n c now = 0 then (h, n) else a
abbrev TVf := TTrust × TAnchor × THeader × List TVal × TCommit × Int
abbrev okVf (x : TVf) : Prop := okAn x.2.1 ∧ x.2.2.2.1.length ≤ 1048576 ∧ x.2.2.2.2.1.2.2.2.length ≤ 1048576
abbrev aVf (x : TVf) : List Arg := [aTr x.1, aAn x.2.1, aHd x.2.2.1, aL cVal x.2.2.2.1, aCm x.2.2.2.2.1, aI x.2.2.2.2.2]
theorem aVf_inj : ∀ x y, aVf x = aVf y → x = y := by
  rintro ⟨⟨p, s⟩, ⟨⟨a, b, c, d, e, f⟩, l⟩, ⟨ba, bb, bc, bd, be, bf⟩, bn, ⟨g, h, i, j⟩, nw⟩ ⟨⟨p', s'⟩, ⟨⟨a', b', c', d', e', f'⟩, l'⟩, ⟨ba', bb', bc', bd', be', bf'⟩, bn', ⟨g', h', i', j'⟩, nw'⟩ h
  simp [aVf, aTr, aAn, aHd, aCm, csig_inj] at h
  simp [h]
noncomputable def mVerify := mdl okVf aVf (fun x => rSk (verifyA x.1 x.2.1 x.2.2.1 x.2.2.2.1 x.2.2.2.2.1 x.2.2.2.2.2) (verifyC x.1 x.2.1 x.2.2.1 x.2.2.2.1 x.2.2.2.2.1 x.2.2.2.2.2))
theorem mVerify_eq (t : TTrust) (a : TAnchor) (h : THeader) (n : List TVal) (c : TCommit) (now : Int) (hok : okVf (t, a, h, n, c, now)) : mVerify [aTr t, aAn a, aHd h, aL cVal n, aCm c, aI now] = some (rSk (verifyA t a h n c now) (verifyC t a h n c now)) := mdl_eq aVf_inj (t, a, h, n, c, now) hok
noncomputable def mVerified := mdl okVf aVf (fun x => rI (verifyC x.1 x.2.1 x.2.2.1 x.2.2.2.1 x.2.2.2.2.1 x.2.2.2.2.2))
theorem mVerified_eq (t : TTrust) (a : TAnchor) (h : THeader) (n : List TVal) (c : TCommit) (now : Int) (hok : okVf (t, a, h, n, c, now)) : mVerified [aTr t, aAn a, aHd h, aL cVal n, aCm c, aI now] = some (rI (verifyC t a h n c now)) := mdl_eq aVf_inj (t, a, h, n, c, now) hok
theorem verify_ways (t : TTrust) (a : TAnchor) (h : THeader) (n : List TVal) (c : TCommit) (now : Int) :
    (decide (trustOk t) = false ∧ verifyC t a h n c now = 1) ∨
    (decide (trustOk t) = true ∧ decide (anchorOk a) = false ∧ verifyC t a h n c now = 1) ∨
    (decide (trustOk t) = true ∧ decide (anchorOk a) = true ∧ decide (headOk h) = false ∧ verifyC t a h n c now = 1) ∨
    (decide (trustOk t) = true ∧ decide (anchorOk a) = true ∧ decide (headOk h) = true ∧ decide (0 ≤ now ∧ now ≤ 1000000) = false ∧ verifyC t a h n c now = 1) ∨
    (decide (trustOk t) = true ∧ decide (anchorOk a) = true ∧ decide (headOk h) = true ∧ decide (0 ≤ now ∧ now ≤ 1000000) = true ∧ a.1.2.1 + t.1 < now ∧ verifyC t a h n c now = 2) ∨
    (decide (trustOk t) = true ∧ decide (anchorOk a) = true ∧ decide (headOk h) = true ∧ decide (0 ≤ now ∧ now ≤ 1000000) = true ∧ ¬ a.1.2.1 + t.1 < now ∧ now + t.2 < h.2.1 ∧ verifyC t a h n c now = 3) ∨
    (decide (trustOk t) = true ∧ decide (anchorOk a) = true ∧ decide (headOk h) = true ∧ decide (0 ≤ now ∧ now ≤ 1000000) = true ∧ ¬ a.1.2.1 + t.1 < now ∧ ¬ now + t.2 < h.2.1 ∧ ¬ h.1 = a.1.1 + 1 ∧ verifyC t a h n c now = 4) ∨
    (decide (trustOk t) = true ∧ decide (anchorOk a) = true ∧ decide (headOk h) = true ∧ decide (0 ≤ now ∧ now ≤ 1000000) = true ∧ ¬ a.1.2.1 + t.1 < now ∧ ¬ now + t.2 < h.2.1 ∧ h.1 = a.1.1 + 1 ∧ h.2.1 ≤ a.1.2.1 ∧ verifyC t a h n c now = 5) ∨
    (decide (trustOk t) = true ∧ decide (anchorOk a) = true ∧ decide (headOk h) = true ∧ decide (0 ≤ now ∧ now ≤ 1000000) = true ∧ ¬ a.1.2.1 + t.1 < now ∧ ¬ now + t.2 < h.2.1 ∧ h.1 = a.1.1 + 1 ∧ ¬ h.2.1 ≤ a.1.2.1 ∧ decide (h.2.2.1 = headId a.1) = false ∧ verifyC t a h n c now = 6) ∨
    (decide (trustOk t) = true ∧ decide (anchorOk a) = true ∧ decide (headOk h) = true ∧ decide (0 ≤ now ∧ now ≤ 1000000) = true ∧ ¬ a.1.2.1 + t.1 < now ∧ ¬ now + t.2 < h.2.1 ∧ h.1 = a.1.1 + 1 ∧ ¬ h.2.1 ≤ a.1.2.1 ∧ decide (h.2.2.1 = headId a.1) = true ∧ decide (h.2.2.2.1 = a.1.2.2.2.2.1) = false ∧ verifyC t a h n c now = 7) ∨
    (decide (trustOk t) = true ∧ decide (anchorOk a) = true ∧ decide (headOk h) = true ∧ decide (0 ≤ now ∧ now ≤ 1000000) = true ∧ ¬ a.1.2.1 + t.1 < now ∧ ¬ now + t.2 < h.2.1 ∧ h.1 = a.1.1 + 1 ∧ ¬ h.2.1 ≤ a.1.2.1 ∧ decide (h.2.2.1 = headId a.1) = true ∧ decide (h.2.2.2.1 = a.1.2.2.2.2.1) = true ∧ decide (h.2.2.2.2.1 = vhash n) = false ∧ verifyC t a h n c now = 8) ∨
    (decide (trustOk t) = true ∧ decide (anchorOk a) = true ∧ decide (headOk h) = true ∧ decide (0 ≤ now ∧ now ≤ 1000000) = true ∧ ¬ a.1.2.1 + t.1 < now ∧ ¬ now + t.2 < h.2.1 ∧ h.1 = a.1.1 + 1 ∧ ¬ h.2.1 ≤ a.1.2.1 ∧ decide (h.2.2.1 = headId a.1) = true ∧ decide (h.2.2.2.1 = a.1.2.2.2.2.1) = true ∧ decide (h.2.2.2.2.1 = vhash n) = true ∧ decide (commitOk a.2 h c) = false ∧ verifyC t a h n c now = 9) ∨
    (decide (trustOk t) = true ∧ decide (anchorOk a) = true ∧ decide (headOk h) = true ∧ decide (0 ≤ now ∧ now ≤ 1000000) = true ∧ ¬ a.1.2.1 + t.1 < now ∧ ¬ now + t.2 < h.2.1 ∧ h.1 = a.1.1 + 1 ∧ ¬ h.2.1 ≤ a.1.2.1 ∧ decide (h.2.2.1 = headId a.1) = true ∧ decide (h.2.2.2.1 = a.1.2.2.2.2.1) = true ∧ decide (h.2.2.2.2.1 = vhash n) = true ∧ decide (commitOk a.2 h c) = true ∧ verifyC t a h n c now = 0) := by
  unfold verifyC
  simp only [decide_eq_true_eq, decide_eq_false_iff_not]
  by_cases h1 : trustOk t
  · by_cases h2 : anchorOk a
    · by_cases h3 : headOk h
      · by_cases h4 : 0 ≤ now ∧ now ≤ 1000000
        · have h0 : ¬ ¬ (trustOk t ∧ anchorOk a ∧ headOk h ∧ (0 ≤ now ∧ now ≤ 1000000)) := fun h => h ⟨h1, h2, h3, h4⟩
          rw [if_neg h0]
          by_cases h5 : a.1.2.1 + t.1 < now
          · simp [h1, h2, h3, h4, h5]
          by_cases h6 : now + t.2 < h.2.1
          · simp [h1, h2, h3, h4, h5, h6]
          by_cases h7 : h.1 = a.1.1 + 1
          rotate_left
          · simp [h1, h2, h3, h4, h5, h6, h7]
          by_cases h8 : h.2.1 ≤ a.1.2.1
          · simp [h1, h2, h3, h4, h5, h6, h7, h8]
          by_cases h9 : h.2.2.1 = headId a.1
          rotate_left
          · simp [h1, h2, h3, h4, h5, h6, h7, h8, h9]
          by_cases h10 : h.2.2.2.1 = a.1.2.2.2.2.1
          rotate_left
          · simp [h1, h2, h3, h4, h5, h6, h7, h8, h9, h10]
          by_cases h11 : h.2.2.2.2.1 = vhash n
          rotate_left
          · simp [h1, h2, h3, h4, h5, h6, h7, h8, h9, h10, h11]
          by_cases h12 : commitOk a.2 h c
          rotate_left
          · simp [h1, h2, h3, h4, h5, h6, h7, h8, h9, h10, h11, h12]
          simp [h1, h2, h3, h4, h5, h6, h7, h8, h9, h10, h11, h12]
        · simp [h1, h2, h3, h4]
      · simp [h1, h2, h3]
    · simp [h1, h2]
  · simp [h1]
theorem verified_s : Sound Tryz.prog 118 mVerified := by
  refine Sound.mdl Tryz.func118 rfl Tryz.ntmps118 ?_
  rintro ⟨⟨p, s⟩, ⟨⟨ah, at_, ala, ava, ane, ada⟩, al⟩, ⟨h, t, la, va, ne, da⟩, n, ⟨ch, cr, ci, cs⟩, now⟩ w ⟨hal, hn, hc⟩
  refine ⟨by simp, ?_⟩
  dsimp only at hal hn hc
  replace hal : al.length ≤ 1048576 := hal
  have hΓ : GSound Tryz.prog (look [(122, mTrust), (123, mAnchor), (165, mHead), (125, mTime), (126, mExp), (144, mHeadId), (166, mVHash), (167, mCommit)]) := env_cons (has_of Tryz.func122 rfl rfl) trustI_s (env_cons (has_of Tryz.func123 rfl rfl) anchorI_s (env_cons (has_of Tryz.func165 rfl rfl) headI_s (env_cons (has_of Tryz.func125 rfl rfl) isTime_s (env_cons (has_of Tryz.func126 rfl rfl) expI_s (env_cons (has_of Tryz.func144 rfl rfl) headIdI_s (env_cons (has_of Tryz.func166 rfl rfl) vhashI_s (env_cons (has_of Tryz.func167 rfl rfl) commitI_s env_nil)))))))
  have c1 := mTrust_eq (p, s)
  have c2 := mAnchor_eq ((ah, at_, ala, ava, ane, ada), al) (by dsimp only; omega)
  have c3 := mHead_eq (h, t, la, va, ne, da)
  have c4 := mTime_eq now
  have c5 := mExp_eq (p, s) at_
  have c6 := mHeadId_eq (ah, at_, ala, ava, ane, ada)
  have c7 := mVHash_eq n (by omega)
  have c8 := mCommit_eq al (h, t, la, va, ne, da) (ch, cr, ci, cs) (by omega) (by show cs.length ≤ _; omega)
  have q := verify_ways (p, s) ((ah, at_, ala, ava, ane, ada), al) (h, t, la, va, ne, da) n (ch, cr, ci, cs) now
  have ex := exp_of (t := (p, s)) (n := at_)
  have an := anchor_num (a := ((ah, at_, ala, ava, ane, ada), al))
  have tn := trust_num (t := (p, s))
  dsimp only [aTr, aAn, aHd, aCm] at c1 c2 c3 c5 c6 c8
  dsimp only at q ex an tn
  generalize decide (trustOk (p, s)) = d1 at *
  generalize decide (anchorOk ((ah, at_, ala, ava, ane, ada), al)) = d2 at *
  generalize hd3 : decide (headOk (h, t, la, va, ne, da)) = d3 at *
  generalize verifyC (p, s) ((ah, at_, ala, ava, ane, ada), al) (h, t, la, va, ne, da) n (ch, cr, ci, cs) now = code at *
  generalize decide (commitOk al (h, t, la, va, ne, da) (ch, cr, ci, cs)) = co at *
  generalize headId (ah, at_, ala, ava, ane, ada) = x at *
  generalize hy : vhash n = y at *
  generalize expT (p, s) at_ = ext at *
  clear hd3 hy
  simp only [initS, argPV, List.map_cons, List.map_nil, toPL, Nat.zero_add]
  rcases q with ⟨rfl, rfl⟩ | ⟨rfl, rfl, rfl⟩ | ⟨rfl, rfl, rfl, rfl⟩ | ⟨rfl, rfl, rfl, q4, rfl⟩ | ⟨rfl, rfl, rfl, q4, q5, rfl⟩ | ⟨rfl, rfl, rfl, q4, q5, q6, rfl⟩ | ⟨rfl, rfl, rfl, q4, q5, q6, q7, rfl⟩ | ⟨rfl, rfl, rfl, q4, q5, q6, q7, q8, rfl⟩ | ⟨rfl, rfl, rfl, q4, q5, q6, q7, q8, q9, rfl⟩ | ⟨rfl, rfl, rfl, q4, q5, q6, q7, q8, q9, q10, rfl⟩ | ⟨rfl, rfl, rfl, q4, q5, q6, q7, q8, q9, q10, q11, rfl⟩ | ⟨rfl, rfl, rfl, q4, q5, q6, q7, q8, q9, q10, q11, rfl, rfl⟩ | ⟨rfl, rfl, rfl, q4, q5, q6, q7, q8, q9, q10, q11, rfl, rfl⟩
  · clear ex an tn
    refine zR ?_
    refine At.retA (by rw [Tryz.results118]) (he := rfl)
  · clear ex an tn
    refine zR ?_
    refine At.retA (by rw [Tryz.results118]) (he := rfl)
  · clear ex an tn
    refine zR ?_
    refine At.retA (by rw [Tryz.results118]) (he := rfl)
  · clear ex an tn
    rw [q4] at c4
    refine zR ?_
    refine At.retA (by rw [Tryz.results118]) (he := rfl)
  · obtain ⟨tn1, tn2⟩ := tn rfl
    obtain ⟨an1, an2⟩ := an rfl
    have ex := ex rfl an2
    subst ex
    rw [q4] at c4
    have q4 := of_decide_eq_true q4
    clear tn an
    refine zR ?_
    refine At.retA (by rw [Tryz.results118]) (he := rfl)
  · obtain ⟨tn1, tn2⟩ := tn rfl
    obtain ⟨an1, an2⟩ := an rfl
    have ex := ex rfl an2
    subst ex
    rw [q4] at c4
    have q4 := of_decide_eq_true q4
    clear tn an
    refine zR ?_
    refine At.retA (by rw [Tryz.results118]) (he := rfl)
  · obtain ⟨tn1, tn2⟩ := tn rfl
    obtain ⟨an1, an2⟩ := an rfl
    have ex := ex rfl an2
    subst ex
    rw [q4] at c4
    have q4 := of_decide_eq_true q4
    clear tn an
    refine zR ?_
    refine At.retA (by rw [Tryz.results118]) (he := rfl)
  · obtain ⟨tn1, tn2⟩ := tn rfl
    obtain ⟨an1, an2⟩ := an rfl
    have ex := ex rfl an2
    subst ex
    rw [q4] at c4
    have q4 := of_decide_eq_true q4
    clear tn an
    subst q7
    refine zR ?_
    refine At.retA (by rw [Tryz.results118]) (he := rfl)
  · obtain ⟨tn1, tn2⟩ := tn rfl
    obtain ⟨an1, an2⟩ := an rfl
    have ex := ex rfl an2
    subst ex
    rw [q4] at c4
    have q4 := of_decide_eq_true q4
    clear tn an
    subst q7
    refine zR ?_
    refine W.drawB hΓ 7 [[], [0], [], [2], [2, 3], [0, 1, 2, 3, 4], [0, 1, 2, 3, 4, 5]] (Es := ?Es20) (rest := ?rest20) (st1 := ?st120) ?_
    refine zL ?_
    refine zE ?_
    refine zR ?_
    refine At.retA (by rw [Tryz.results118]) (he := rfl)
  · obtain ⟨tn1, tn2⟩ := tn rfl
    obtain ⟨an1, an2⟩ := an rfl
    have ex := ex rfl an2
    subst ex
    rw [q4] at c4
    have q4 := of_decide_eq_true q4
    clear tn an
    subst q7
    refine zR ?_
    refine W.drawB hΓ 7 [[], [0], [], [2], [2, 3], [0, 1, 2, 3, 4], [0, 1, 2, 3, 4, 5]] (Es := ?Es24) (rest := ?rest24) (st1 := ?st124) ?_
    refine zL ?_
    refine zE ?_
    refine zR ?_
    refine At.retA (by rw [Tryz.results118]) (he := rfl)
  · obtain ⟨tn1, tn2⟩ := tn rfl
    obtain ⟨an1, an2⟩ := an rfl
    have ex := ex rfl an2
    subst ex
    rw [q4] at c4
    have q4 := of_decide_eq_true q4
    clear tn an
    subst q7
    refine zR ?_
    refine W.drawB hΓ 7 [[], [0], [], [2], [2, 3], [0, 1, 2, 3, 4], [0, 1, 2, 3, 4, 5]] (Es := ?Es28) (rest := ?rest28) (st1 := ?st128) ?_
    refine zL ?_
    refine zE ?_
    refine zR ?_
    refine W.drawB hΓ 6 [[], [0], [], [2], [0, 1, 2, 3], [0, 1, 2, 3, 4]] (Es := ?Es30) (rest := ?rest30) (st1 := ?st130) ?_
    refine zL ?_
    refine zE ?_
    refine zR ?_
    refine At.retA (by rw [Tryz.results118]) (he := rfl)
  · obtain ⟨tn1, tn2⟩ := tn rfl
    obtain ⟨an1, an2⟩ := an rfl
    have ex := ex rfl an2
    subst ex
    rw [q4] at c4
    have q4 := of_decide_eq_true q4
    clear tn an
    subst q7
    refine zR ?_
    refine W.drawB hΓ 7 [[], [0], [], [2], [2, 3], [0, 1, 2, 3, 4], [0, 1, 2, 3, 4, 5]] (Es := ?Es34) (rest := ?rest34) (st1 := ?st134) ?_
    refine zL ?_
    refine zE ?_
    refine zR ?_
    refine W.drawB hΓ 6 [[], [0], [], [2], [0, 1, 2, 3], [0, 1, 2, 3, 4]] (Es := ?Es36) (rest := ?rest36) (st1 := ?st136) ?_
    refine zL ?_
    refine zE ?_
    refine zR ?_
    refine At.retA (by rw [Tryz.results118]) (he := rfl)
  · obtain ⟨tn1, tn2⟩ := tn rfl
    obtain ⟨an1, an2⟩ := an rfl
    have ex := ex rfl an2
    subst ex
    rw [q4] at c4
    have q4 := of_decide_eq_true q4
    clear tn an
    subst q7
    refine zR ?_
    refine W.drawB hΓ 7 [[], [0], [], [2], [2, 3], [0, 1, 2, 3, 4], [0, 1, 2, 3, 4, 5]] (Es := ?Es40) (rest := ?rest40) (st1 := ?st140) ?_
    refine zL ?_
    refine zE ?_
    refine zR ?_
    refine W.drawB hΓ 6 [[], [0], [], [2], [0, 1, 2, 3], [0, 1, 2, 3, 4]] (Es := ?Es42) (rest := ?rest42) (st1 := ?st142) ?_
    refine zL ?_
    refine zE ?_
    refine zR ?_
    refine At.retA (by rw [Tryz.results118]) (he := rfl)
theorem verifyI_s : Sound Tryz.prog 61 mVerify := by
  refine Sound.mdl Tryz.func61 rfl Tryz.ntmps61 ?_
  rintro ⟨⟨p, s⟩, ⟨⟨ah, at_, ala, ava, ane, ada⟩, al⟩, ⟨h, t, la, va, ne, da⟩, n, ⟨ch, cr, ci, cs⟩, now⟩ w ⟨hal, hn, hc⟩
  refine ⟨by simp, ?_⟩
  dsimp only at hal hn hc
  have hΓ : GSound Tryz.prog (look [(118, mVerified), (60, mCopyA), (70, mCopyV)]) := env_cons (has_of Tryz.func118 rfl rfl) verified_s (env_cons (has_of Tryz.func60 rfl rfl) copyAI_s (env_cons (has_of Tryz.func70 rfl rfl) copyV_s env_nil))
  have c1 := mVerified_eq (p, s) ((ah, at_, ala, ava, ane, ada), al) (h, t, la, va, ne, da) n (ch, cr, ci, cs) now ⟨hal, hn, hc⟩
  have c2 := mCopyA_eq ((ah, at_, ala, ava, ane, ada), al) hal
  have c3 := mCopyV_eq n hn
  have hA : verifyA (p, s) ((ah, at_, ala, ava, ane, ada), al) (h, t, la, va, ne, da) n (ch, cr, ci, cs) now = if verifyC (p, s) ((ah, at_, ala, ava, ane, ada), al) (h, t, la, va, ne, da) n (ch, cr, ci, cs) now = 0 then ((h, t, la, va, ne, da), n) else ((ah, at_, ala, ava, ane, ada), al) := rfl
  dsimp only [aTr, aAn, aHd, aCm, rAn, rowsAn] at c1 c2
  simp only [initS, argPV, List.map_cons, List.map_nil, toPL, Nat.zero_add]
  generalize verifyA (p, s) ((ah, at_, ala, ava, ane, ada), al) (h, t, la, va, ne, da) n (ch, cr, ci, cs) now = an at *
  generalize verifyC (p, s) ((ah, at_, ala, ava, ane, ada), al) (h, t, la, va, ne, da) n (ch, cr, ci, cs) now = code at *
  by_cases h0 : code = 0
  · subst h0
    rw [if_pos rfl] at hA
    subst hA
    refine zR ?_
    refine W.drawB hΓ 4 [[], [], [1], [0, 1, 2], [0, 1, 2, 3], [0, 1, 2, 3, 4]] (Es := ?Es48) (rest := ?rest48) (st1 := ?st148) ?_
    refine zL ?_
    refine zE ?_
    refine zR ?_
    refine At.retA (by rw [Tryz.results61]) (he := rfl)
  · rw [if_neg h0] at hA
    subst hA
    refine zR ?_
    refine At.retA (by rw [Tryz.results61]) (he := rfl)
end Go.Proofs.YtfgkfcfplodaoaaGreatDoor

end
section
namespace Go.Proofs.YtfgkfcfplodaoaaGreatDoor
open Go Go.RowKit
set_option maxHeartbeats 8000000
abbrev rowsCm (c : TCommit) : List RL := [.ro (.sc (.int .i64 c.1)), .ro (.sc (.int .i64 c.2.1)), .ro (.sc (.string c.2.2.1)), .own .ft 127 2 (rowsF cCSig c.2.2.2)]
abbrev okBkS (b : TBlock) : Prop := b.2.1.length ≤ 1048576 ∧ b.2.2.1.length ≤ 1048576 ∧ b.2.2.2.2.2.2.length ≤ 1048576
abbrev rowsBk (b : TBlock) : List RL := [.ro (.sc (.int .i64 b.1.1)), .ro (.sc (.int .i64 b.1.2.1)), .ro (.sc (.string b.1.2.2.1)), .ro (.sc (.string b.1.2.2.2.1)), .ro (.sc (.string b.1.2.2.2.2.1)), .ro (.sc (.string b.1.2.2.2.2.2)), .own .ft 76 2 (rowsF cVal b.2.1), .own .ft 76 2 (rowsF cVal b.2.2.1), .ro (.sc (.int .i64 b.2.2.2.1)), .ro (.sc (.int .i64 b.2.2.2.2.1)), .ro (.sc (.string b.2.2.2.2.2.1)), .own .ft 127 2 (rowsF cCSig b.2.2.2.2.2.2)]
noncomputable instance decBk : DecidableEq TBlock := fun a b => Classical.propDecidable (a = b)
end Go.Proofs.YtfgkfcfplodaoaaGreatDoor

end
