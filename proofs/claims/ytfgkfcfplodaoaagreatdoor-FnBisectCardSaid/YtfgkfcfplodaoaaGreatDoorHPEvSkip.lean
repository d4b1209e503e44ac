/-
  Skip of both programs.
-/
import Derived.Test.YtfgkfcfplodaoaaGreatDoorHPEvBlock
namespace Go.Proofs.YtfgkfcfplodaoaaGreatDoor
set_option maxRecDepth 100000
set_option linter.unusedVariables false
set_option linter.unusedSimpArgs false
open Go Go.RowKit
set_option maxHeartbeats 8000000

abbrev rowsAn (a : TAnchor) : List RL := [.ro (.sc (.int .i64 a.1.1)), .ro (.sc (.int .i64 a.1.2.1)), .ro (.sc (.string a.1.2.2.1)), .ro (.sc (.string a.1.2.2.2.1)), .ro (.sc (.string a.1.2.2.2.2.1)), .ro (.sc (.string a.1.2.2.2.2.2)), .own .ft 76 2 (rowsF cVal a.2)]
abbrev rAn (a : TAnchor) : Res := .comp true (rowsAn a)
abbrev okAn (a : TAnchor) : Prop := a.2.length ≤ 1048576
noncomputable def mCopyA := mdl okAn (fun a => [aAn a]) rAn
theorem mCopyA_eq (a : TAnchor) (h : okAn a) : mCopyA [aAn a] = some (rAn a) := mdl_eq aAn_inj a h
noncomputable def mCopyV := mdl (fun l : List TVal => l.length ≤ 1048576) (fun l => [aL cVal l]) (fun l => rL 76 2 cVal l)
theorem mCopyV_eq (l : List TVal) (h : l.length ≤ 1048576) : mCopyV [aL cVal l] = some (rL 76 2 cVal l) := mdl_eq (by intro a b h; simpa using h) l h
theorem copyV_s : Sound Tryz.prog 70 mCopyV := by
  refine Sound.mdl Tryz.func70 rfl Tryz.ntmps70 ?_
  rintro l w hl
  refine ⟨by simp, ?_⟩
  replace hl : l.length ≤ 1048576 := hl
  have hΓ : GSound Tryz.prog (look []) := env_nil
  have hlen := rowsF_len cVal l
  have hw : wid 2 (rowsF cVal l) := rowsF_wid (f := cVal) (s := 2) (fun _ => rfl) l
  simp only [initS, argPV, List.map_cons, List.map_nil, toPL, Nat.zero_add]
  refine zR ?_
  refine At.retA (by rw [Tryz.results70]) (he := rfl)
theorem copyAS_s : Sound Tryz.prog 65 mCopyA := by
  refine Sound.mdl Tryz.func65 rfl Tryz.ntmps65 ?_
  rintro ⟨⟨h, t, la, va, ne, da⟩, l⟩ w hl
  refine ⟨by simp, ?_⟩
  replace hl : l.length ≤ 1048576 := hl
  have hΓ : GSound Tryz.prog (look []) := env_nil
  have hlen := rowsF_len cVal l
  have hw : wid 2 (rowsF cVal l) := rowsF_wid (f := cVal) (s := 2) (fun _ => rfl) l
  simp only [initS, argPV, List.map_cons, List.map_nil, toPL, Nat.zero_add]
  refine zR ?_
  refine At.retA (by rw [Tryz.results65]) (he := rfl)
theorem copyAI_s : Sound Tryz.prog 60 mCopyA := by
  refine Sound.mdl Tryz.func60 rfl Tryz.ntmps60 ?_
  rintro ⟨⟨h, t, la, va, ne, da⟩, l⟩ w hl
  refine ⟨by simp, ?_⟩
  replace hl : l.length ≤ 1048576 := hl
  have hΓ : GSound Tryz.prog (look [(70, mCopyV)]) := env_cons (has_of Tryz.func70 rfl rfl) copyV_s env_nil
  have c1 := mCopyV_eq l hl
  simp only [initS, argPV, List.map_cons, List.map_nil, toPL, Nat.zero_add]
  refine zR ?_
  refine W.drawB hΓ 6 [[], [0], [], [2], [2, 3], [0, 1, 2, 3, 4], [0, 1, 2, 3, 4, 5]] (Es := ?Es12) (rest := ?rest12) (st1 := ?st112) ?_
  refine zL ?_
  refine zE ?_
  refine zR ?_
  refine At.retA (by rw [Tryz.results60]) (he := rfl)
/-- why a block is not taken -/
def skipC (t : TTrust) (a : TAnchor) (b : TBlock) (now : Int) : Int :=
  if ¬ (trustOk t ∧ anchorOk a ∧ blockOk b ∧ (0 ≤ now ∧ now ≤ 1000000)) then 1
  else if a.1.2.1 + t.1 < now then 2
  else if now + t.2 < b.1.2.1 then 3
  else if b.1.1 ≤ a.1.1 + 1 then 4
  else if b.1.2.1 ≤ a.1.2.1 then 5
  else if thirdB a.2 (cvals b.2.2.2) = false then 9
  else 0
def skipA (t : TTrust) (a : TAnchor) (b : TBlock) (now : Int) : TAnchor := if skipC t a b now = 0 then (b.1, b.2.2.1) else a
abbrev TSk := TTrust × TAnchor × TBlock × Int
abbrev okSk (x : TSk) : Prop := okAn x.2.1 ∧ x.2.2.1.2.1.length ≤ 1048576 ∧ x.2.2.1.2.2.1.length ≤ 1048576 ∧ x.2.2.1.2.2.2.2.2.2.length ≤ 1048576
abbrev aSk (x : TSk) : List Arg := [aTr x.1, aAn x.2.1, aBk x.2.2.1, aI x.2.2.2]
theorem aSk_inj : ∀ x y, aSk x = aSk y → x = y := by
  rintro ⟨⟨p, s⟩, ⟨⟨a, b, c, d, e, f⟩, l⟩, ⟨⟨ba, bb, bc, bd, be, bf⟩, bl, bn, ⟨g, h, i, j⟩⟩, nw⟩ ⟨⟨p', s'⟩, ⟨⟨a', b', c', d', e', f'⟩, l'⟩, ⟨⟨ba', bb', bc', bd', be', bf'⟩, bl', bn', ⟨g', h', i', j'⟩⟩, nw'⟩ h
  simp [aSk, aTr, aAn, aBk, csig_inj] at h
  simp [h]
abbrev rSk (a : TAnchor) (k : Int) : Res := .tup [(true, rowsAn a), rSc (.int .i64 k)]
noncomputable def mSkip := mdl okSk aSk (fun x => rSk (skipA x.1 x.2.1 x.2.2.1 x.2.2.2) (skipC x.1 x.2.1 x.2.2.1 x.2.2.2))
theorem mSkip_eq (t : TTrust) (a : TAnchor) (b : TBlock) (now : Int) (h : okSk (t, a, b, now)) : mSkip [aTr t, aAn a, aBk b, aI now] = some (rSk (skipA t a b now) (skipC t a b now)) := mdl_eq aSk_inj (t, a, b, now) h
noncomputable def mSkipped := mdl okSk aSk (fun x => rI (skipC x.1 x.2.1 x.2.2.1 x.2.2.2))
theorem mSkipped_eq (t : TTrust) (a : TAnchor) (b : TBlock) (now : Int) (h : okSk (t, a, b, now)) : mSkipped [aTr t, aAn a, aBk b, aI now] = some (rI (skipC t a b now)) := mdl_eq aSk_inj (t, a, b, now) h
/-- the ways a block may go, each with its code -/
theorem skip_ways (t : TTrust) (a : TAnchor) (b : TBlock) (now : Int) :
    (decide (trustOk t) = false ∧ skipC t a b now = 1) ∨
    (decide (trustOk t) = true ∧ decide (anchorOk a) = false ∧ skipC t a b now = 1) ∨
    (decide (trustOk t) = true ∧ decide (anchorOk a) = true ∧ decide (blockOk b) = false ∧ skipC t a b now = 1) ∨
    (decide (trustOk t) = true ∧ decide (anchorOk a) = true ∧ decide (blockOk b) = true ∧ decide (0 ≤ now ∧ now ≤ 1000000) = false ∧ skipC t a b now = 1) ∨
    (decide (trustOk t) = true ∧ decide (anchorOk a) = true ∧ decide (blockOk b) = true ∧ decide (0 ≤ now ∧ now ≤ 1000000) = true ∧ a.1.2.1 + t.1 < now ∧ skipC t a b now = 2) ∨
    (decide (trustOk t) = true ∧ decide (anchorOk a) = true ∧ decide (blockOk b) = true ∧ decide (0 ≤ now ∧ now ≤ 1000000) = true ∧ ¬ a.1.2.1 + t.1 < now ∧ now + t.2 < b.1.2.1 ∧ skipC t a b now = 3) ∨
    (decide (trustOk t) = true ∧ decide (anchorOk a) = true ∧ decide (blockOk b) = true ∧ decide (0 ≤ now ∧ now ≤ 1000000) = true ∧ ¬ a.1.2.1 + t.1 < now ∧ ¬ now + t.2 < b.1.2.1 ∧ b.1.1 ≤ a.1.1 + 1 ∧ skipC t a b now = 4) ∨
    (decide (trustOk t) = true ∧ decide (anchorOk a) = true ∧ decide (blockOk b) = true ∧ decide (0 ≤ now ∧ now ≤ 1000000) = true ∧ ¬ a.1.2.1 + t.1 < now ∧ ¬ now + t.2 < b.1.2.1 ∧ ¬ b.1.1 ≤ a.1.1 + 1 ∧ b.1.2.1 ≤ a.1.2.1 ∧ skipC t a b now = 5) ∨
    (decide (trustOk t) = true ∧ decide (anchorOk a) = true ∧ decide (blockOk b) = true ∧ decide (0 ≤ now ∧ now ≤ 1000000) = true ∧ ¬ a.1.2.1 + t.1 < now ∧ ¬ now + t.2 < b.1.2.1 ∧ ¬ b.1.1 ≤ a.1.1 + 1 ∧ ¬ b.1.2.1 ≤ a.1.2.1 ∧ thirdB a.2 (cvals b.2.2.2) = false ∧ skipC t a b now = 9) ∨
    (decide (trustOk t) = true ∧ decide (anchorOk a) = true ∧ decide (blockOk b) = true ∧ decide (0 ≤ now ∧ now ≤ 1000000) = true ∧ ¬ a.1.2.1 + t.1 < now ∧ ¬ now + t.2 < b.1.2.1 ∧ ¬ b.1.1 ≤ a.1.1 + 1 ∧ ¬ b.1.2.1 ≤ a.1.2.1 ∧ thirdB a.2 (cvals b.2.2.2) = true ∧ skipC t a b now = 0) := by
  unfold skipC
  simp only [decide_eq_true_eq, decide_eq_false_iff_not]
  by_cases h1 : trustOk t
  · by_cases h2 : anchorOk a
    · by_cases h3 : blockOk b
      · by_cases h4 : 0 ≤ now ∧ now ≤ 1000000
        · have h0 : ¬ ¬ (trustOk t ∧ anchorOk a ∧ blockOk b ∧ (0 ≤ now ∧ now ≤ 1000000)) := fun h => h ⟨h1, h2, h3, h4⟩
          rw [if_neg h0]
          by_cases h5 : a.1.2.1 + t.1 < now
          · simp [h1, h2, h3, h4, h5]
          · by_cases h6 : now + t.2 < b.1.2.1
            · simp [h1, h2, h3, h4, h5, h6]
            · by_cases h7 : b.1.1 ≤ a.1.1 + 1
              · simp [h1, h2, h3, h4, h5, h6, h7]
              · by_cases h8 : b.1.2.1 ≤ a.1.2.1
                · simp [h1, h2, h3, h4, h5, h6, h7, h8]
                · cases h9 : thirdB a.2 (cvals b.2.2.2) <;> simp [h1, h2, h3, h4, h5, h6, h7, h8]
        · simp [h1, h2, h3, h4]
      · simp [h1, h2, h3]
    · simp [h1, h2]
  · simp [h1]
theorem anchor_num {a : TAnchor} (h : decide (anchorOk a) = true) : (1 ≤ a.1.1 ∧ a.1.1 ≤ 1000000) ∧ (0 ≤ a.1.2.1 ∧ a.1.2.1 ≤ 1000000) := by
  have := of_decide_eq_true h
  exact ⟨this.1.1, this.1.2.1⟩
theorem trust_num {t : TTrust} (h : decide (trustOk t) = true) : (1 ≤ t.1 ∧ t.1 ≤ 100000) ∧ (0 ≤ t.2 ∧ t.2 ≤ 1000) := of_decide_eq_true h
theorem sum_zeros (l : List TVal) : (l.map fun _ => (0 : Int)).sum = 0 := by
  induction l with
  | nil => rfl
  | cons x r ih => rw [List.map_cons, List.sum_cons, ih]; rfl
theorem block_12 {b : TBlock} (h : decide (blockOk b) = true) : b.2.2.2.2.2.2.length ≤ 12 := by
  have h1 := (of_decide_eq_true h : blockOk b).2.2.2.2.2.2.2
  by_cases h12 : b.2.2.2.2.2.2.length ≤ 12
  · exact h12
  · exfalso
    have hv : cvals b.2.2.2 = [] := if_neg h12
    rw [hv] at h1
    unfold enoughB at h1
    rw [Bool.and_eq_true, decide_eq_true_eq, decide_eq_true_eq] at h1
    have h2 := powerOf_in b.2.1
    have h3 : powSum (fun x => decide (x ∈ ([] : List Int))) b.2.1 = 0 := by
      unfold powSum powC
      simp only [List.not_mem_nil, decide_false, Bool.false_eq_true, if_false]
      exact sum_zeros b.2.1
    rw [h3] at h1
    omega
theorem exp_of {t : TTrust} {n : Int} (h : decide (trustOk t) = true) (hn : 0 ≤ n ∧ n ≤ 1000000) : expT t n = n + t.1 := if_pos ⟨of_decide_eq_true h, hn⟩
theorem skipped_s : Sound Tryz.prog 69 mSkipped := by
  refine Sound.mdl Tryz.func69 rfl Tryz.ntmps69 ?_
  rintro ⟨⟨p, s⟩, ⟨⟨ah, at_, ala, ava, ane, ada⟩, al⟩, ⟨⟨h, t, la, va, ne, da⟩, l, n, ⟨ch, cr, ci, cs⟩⟩, now⟩ w ⟨hal, hl, hn, hc⟩
  refine ⟨by simp, ?_⟩
  dsimp only at hal hl hn hc
  replace hal : al.length ≤ 1048576 := hal
  have hΓ : GSound Tryz.prog (look [(122, mTrust), (123, mAnchor), (124, mBlock), (125, mTime), (126, mExp), (128, mCValsI), (127, mThird)]) := env_cons (has_of Tryz.func122 rfl rfl) trustI_s (env_cons (has_of Tryz.func123 rfl rfl) anchorI_s (env_cons (has_of Tryz.func124 rfl rfl) blkOkI_s (env_cons (has_of Tryz.func125 rfl rfl) isTime_s (env_cons (has_of Tryz.func126 rfl rfl) expI_s (env_cons (has_of Tryz.func128 rfl rfl) cvalsI_s (env_cons (has_of Tryz.func127 rfl rfl) thirdI_s env_nil))))))
  have c1 := mTrust_eq (p, s)
  have c2 := mAnchor_eq ((ah, at_, ala, ava, ane, ada), al) (by dsimp only; omega)
  have c3 := mBlock_eq ((h, t, la, va, ne, da), l, n, (ch, cr, ci, cs)) ⟨by dsimp only; omega, by dsimp only; omega, by show cs.length ≤ _; omega⟩
  have c4 := mTime_eq now
  have c5 := mExp_eq (p, s) at_
  have hcl := cvals_len (ch, cr, ci, cs)
  have c7 := mThird_eq al (cvals (ch, cr, ci, cs)) (by omega) (by omega)
  have q := skip_ways (p, s) ((ah, at_, ala, ava, ane, ada), al) ((h, t, la, va, ne, da), l, n, (ch, cr, ci, cs)) now
  have ex := exp_of (t := (p, s)) (n := at_)
  have an := anchor_num (a := ((ah, at_, ala, ava, ane, ada), al))
  have tn := trust_num (t := (p, s))
  have b12 := block_12 (b := ((h, t, la, va, ne, da), l, n, (ch, cr, ci, cs)))
  dsimp only [aTr, aAn, aBk] at c1 c2 c3 c5
  dsimp only at q ex an tn b12
  generalize decide (trustOk (p, s)) = d1 at *
  generalize decide (anchorOk ((ah, at_, ala, ava, ane, ada), al)) = d2 at *
  generalize decide (blockOk ((h, t, la, va, ne, da), l, n, (ch, cr, ci, cs))) = d3 at *
  generalize skipC (p, s) ((ah, at_, ala, ava, ane, ada), al) ((h, t, la, va, ne, da), l, n, (ch, cr, ci, cs)) now = code at *
  generalize thirdB al (cvals (ch, cr, ci, cs)) = th at *
  generalize hcv : cvals (ch, cr, ci, cs) = cv at *
  generalize expT (p, s) at_ = ext at *
  simp only [initS, argPV, List.map_cons, List.map_nil, toPL, Nat.zero_add]
  rcases q with ⟨rfl, rfl⟩ | ⟨rfl, rfl, rfl⟩ | ⟨rfl, rfl, rfl, rfl⟩ | ⟨rfl, rfl, rfl, q4, rfl⟩ | ⟨rfl, rfl, rfl, q4, q5, rfl⟩ | ⟨rfl, rfl, rfl, q4, q5, q6, rfl⟩ | ⟨rfl, rfl, rfl, q4, q5, q6, q7, rfl⟩ | ⟨rfl, rfl, rfl, q4, q5, q6, q7, q8, rfl⟩ | ⟨rfl, rfl, rfl, q4, q5, q6, q7, q8, rfl, rfl⟩ | ⟨rfl, rfl, rfl, q4, q5, q6, q7, q8, rfl, rfl⟩
  · clear ex an tn b12
    refine zR ?_
    refine At.retA (by rw [Tryz.results69]) (he := rfl)
  · clear ex an tn b12
    refine zR ?_
    refine At.retA (by rw [Tryz.results69]) (he := rfl)
  · clear ex an tn b12
    refine zR ?_
    refine At.retA (by rw [Tryz.results69]) (he := rfl)
  · clear ex an tn b12
    rw [q4] at c4
    refine zR ?_
    refine At.retA (by rw [Tryz.results69]) (he := rfl)
  · obtain ⟨tn1, tn2⟩ := tn rfl
    obtain ⟨an1, an2⟩ := an rfl
    have ex := ex rfl an2
    subst ex
    have b12 := b12 rfl
    rw [q4] at c4
    have q4 := of_decide_eq_true q4
    clear tn an
    refine zR ?_
    refine At.retA (by rw [Tryz.results69]) (he := rfl)
  · obtain ⟨tn1, tn2⟩ := tn rfl
    obtain ⟨an1, an2⟩ := an rfl
    have ex := ex rfl an2
    subst ex
    have b12 := b12 rfl
    rw [q4] at c4
    have q4 := of_decide_eq_true q4
    clear tn an
    refine zR ?_
    refine At.retA (by rw [Tryz.results69]) (he := rfl)
  · obtain ⟨tn1, tn2⟩ := tn rfl
    obtain ⟨an1, an2⟩ := an rfl
    have ex := ex rfl an2
    subst ex
    have b12 := b12 rfl
    rw [q4] at c4
    have q4 := of_decide_eq_true q4
    clear tn an
    refine zR ?_
    refine At.retA (by rw [Tryz.results69]) (he := rfl)
  · obtain ⟨tn1, tn2⟩ := tn rfl
    obtain ⟨an1, an2⟩ := an rfl
    have ex := ex rfl an2
    subst ex
    have b12 := b12 rfl
    rw [q4] at c4
    have q4 := of_decide_eq_true q4
    clear tn an
    refine zR ?_
    refine At.retA (by rw [Tryz.results69]) (he := rfl)
  · obtain ⟨tn1, tn2⟩ := tn rfl
    obtain ⟨an1, an2⟩ := an rfl
    have ex := ex rfl an2
    subst ex
    have b12 := b12 rfl
    rw [q4] at c4
    have q4 := of_decide_eq_true q4
    have c6 := mCValsI_eq (ch, cr, ci, cs) (by show cs.length ≤ _; omega) b12
    rw [hcv] at c6
    dsimp only [aCm] at c6
    clear hcv
    clear tn an
    refine zR ?_
    refine W.drawB hΓ 8 [[], [0], [], [2], [2, 3], [0, 1, 2, 3, 4], [0, 1, 2, 3, 4, 5], [0, 1, 2, 3, 4, 5, 6]] (Es := ?Es34) (rest := ?rest34) (st1 := ?st134) ?_
    refine zL ?_
    refine zE ?_
    refine zR ?_
    refine At.retA (by rw [Tryz.results69]) (he := rfl)
  · obtain ⟨tn1, tn2⟩ := tn rfl
    obtain ⟨an1, an2⟩ := an rfl
    have ex := ex rfl an2
    subst ex
    have b12 := b12 rfl
    rw [q4] at c4
    have q4 := of_decide_eq_true q4
    have c6 := mCValsI_eq (ch, cr, ci, cs) (by show cs.length ≤ _; omega) b12
    rw [hcv] at c6
    dsimp only [aCm] at c6
    clear hcv
    clear tn an
    refine zR ?_
    refine W.drawB hΓ 8 [[], [0], [], [2], [2, 3], [0, 1, 2, 3, 4], [0, 1, 2, 3, 4, 5], [0, 1, 2, 3, 4, 5, 6]] (Es := ?Es38) (rest := ?rest38) (st1 := ?st138) ?_
    refine zL ?_
    refine zE ?_
    refine zR ?_
    refine At.retA (by rw [Tryz.results69]) (he := rfl)
theorem skipI_s : Sound Tryz.prog 21 mSkip := by
  refine Sound.mdl Tryz.func21 rfl Tryz.ntmps21 ?_
  rintro ⟨⟨p, s⟩, ⟨⟨ah, at_, ala, ava, ane, ada⟩, al⟩, ⟨⟨h, t, la, va, ne, da⟩, l, n, ⟨ch, cr, ci, cs⟩⟩, now⟩ w ⟨hal, hl, hn, hc⟩
  refine ⟨by simp, ?_⟩
  dsimp only at hal hl hn hc
  replace hal : al.length ≤ 1048576 := hal
  have hΓ : GSound Tryz.prog (look [(69, mSkipped), (60, mCopyA), (70, mCopyV)]) := env_cons (has_of Tryz.func69 rfl rfl) skipped_s (env_cons (has_of Tryz.func60 rfl rfl) copyAI_s (env_cons (has_of Tryz.func70 rfl rfl) copyV_s env_nil))
  have c1 := mSkipped_eq (p, s) ((ah, at_, ala, ava, ane, ada), al) ((h, t, la, va, ne, da), l, n, (ch, cr, ci, cs)) now ⟨hal, hl, hn, hc⟩
  have c2 := mCopyA_eq ((ah, at_, ala, ava, ane, ada), al) hal
  have c3 := mCopyV_eq n hn
  have hA : skipA (p, s) ((ah, at_, ala, ava, ane, ada), al) ((h, t, la, va, ne, da), l, n, (ch, cr, ci, cs)) now = if skipC (p, s) ((ah, at_, ala, ava, ane, ada), al) ((h, t, la, va, ne, da), l, n, (ch, cr, ci, cs)) now = 0 then ((h, t, la, va, ne, da), n) else ((ah, at_, ala, ava, ane, ada), al) := rfl
  dsimp only [aTr, aAn, aBk, rAn, rowsAn] at c1 c2
  simp only [initS, argPV, List.map_cons, List.map_nil, toPL, Nat.zero_add]
  generalize skipA (p, s) ((ah, at_, ala, ava, ane, ada), al) ((h, t, la, va, ne, da), l, n, (ch, cr, ci, cs)) now = an at *
  generalize skipC (p, s) ((ah, at_, ala, ava, ane, ada), al) ((h, t, la, va, ne, da), l, n, (ch, cr, ci, cs)) now = code at *
  by_cases h0 : code = 0
  · subst h0
    rw [if_pos rfl] at hA
    subst hA
    refine zR ?_
    refine W.drawB hΓ 6 [[], [0], [], [2], [2, 3], [0, 1, 2, 3, 4], [0, 1, 2, 3, 4, 5], [0, 1, 2, 3, 4, 5, 6]] (Es := ?Es44) (rest := ?rest44) (st1 := ?st144) ?_
    refine zL ?_
    refine zE ?_
    refine zR ?_
    refine At.retA (by rw [Tryz.results21]) (he := rfl)
  · rw [if_neg h0] at hA
    subst hA
    refine zR ?_
    refine At.retA (by rw [Tryz.results21]) (he := rfl)
theorem skipS_s : Sound Tryz.prog 22 mSkip := by
  refine Sound.mdl Tryz.func22 rfl Tryz.ntmps22 ?_
  rintro ⟨⟨p, s⟩, ⟨⟨ah, at_, ala, ava, ane, ada⟩, al⟩, ⟨⟨h, t, la, va, ne, da⟩, l, n, ⟨ch, cr, ci, cs⟩⟩, now⟩ w ⟨hal, hl, hn, hc⟩
  refine ⟨by simp, ?_⟩
  dsimp only at hal hl hn hc
  replace hal : al.length ≤ 1048576 := hal
  have hΓ : GSound Tryz.prog (look [(65, mCopyA), (71, mTrust), (72, mAnchor), (73, mBlock), (74, mTime), (25, mCVals), (24, mThird)]) := env_cons (has_of Tryz.func65 rfl rfl) copyAS_s (env_cons (has_of Tryz.func71 rfl rfl) trustS_s (env_cons (has_of Tryz.func72 rfl rfl) anchorS_s (env_cons (has_of Tryz.func73 rfl rfl) blkOkS_s (env_cons (has_of Tryz.func74 rfl rfl) l10Time_s (env_cons (has_of Tryz.func25 rfl rfl) cvalsS_s (env_cons (has_of Tryz.func24 rfl rfl) thirdS_s env_nil))))))
  have c0 := mCopyA_eq ((ah, at_, ala, ava, ane, ada), al) hal
  have c8 := mCopyA_eq ((h, t, la, va, ne, da), n) hn
  have c1 := mTrust_eq (p, s)
  have c2 := mAnchor_eq ((ah, at_, ala, ava, ane, ada), al) (by dsimp only; omega)
  have c3 := mBlock_eq ((h, t, la, va, ne, da), l, n, (ch, cr, ci, cs)) ⟨by dsimp only; omega, by dsimp only; omega, by show cs.length ≤ _; omega⟩
  have c4 := mTime_eq now
  have hcl := cvals_len (ch, cr, ci, cs)
  have c7 := mThird_eq al (cvals (ch, cr, ci, cs)) (by omega) (by omega)
  have q := skip_ways (p, s) ((ah, at_, ala, ava, ane, ada), al) ((h, t, la, va, ne, da), l, n, (ch, cr, ci, cs)) now
  have an := anchor_num (a := ((ah, at_, ala, ava, ane, ada), al))
  have tn := trust_num (t := (p, s))
  have b12 := block_12 (b := ((h, t, la, va, ne, da), l, n, (ch, cr, ci, cs)))
  have hA : skipA (p, s) ((ah, at_, ala, ava, ane, ada), al) ((h, t, la, va, ne, da), l, n, (ch, cr, ci, cs)) now = if skipC (p, s) ((ah, at_, ala, ava, ane, ada), al) ((h, t, la, va, ne, da), l, n, (ch, cr, ci, cs)) now = 0 then ((h, t, la, va, ne, da), n) else ((ah, at_, ala, ava, ane, ada), al) := rfl
  dsimp only [aTr, aAn, aBk, rAn, rowsAn] at c0 c1 c2 c3 c8
  dsimp only at q an tn b12
  generalize decide (trustOk (p, s)) = d1 at *
  generalize decide (anchorOk ((ah, at_, ala, ava, ane, ada), al)) = d2 at *
  generalize decide (blockOk ((h, t, la, va, ne, da), l, n, (ch, cr, ci, cs))) = d3 at *
  generalize skipA (p, s) ((ah, at_, ala, ava, ane, ada), al) ((h, t, la, va, ne, da), l, n, (ch, cr, ci, cs)) now = rA at *
  generalize skipC (p, s) ((ah, at_, ala, ava, ane, ada), al) ((h, t, la, va, ne, da), l, n, (ch, cr, ci, cs)) now = code at *
  generalize thirdB al (cvals (ch, cr, ci, cs)) = th at *
  generalize hcv : cvals (ch, cr, ci, cs) = cv at *
  simp only [initS, argPV, List.map_cons, List.map_nil, toPL, Nat.zero_add]
  rcases q with ⟨rfl, rfl⟩ | ⟨rfl, rfl, rfl⟩ | ⟨rfl, rfl, rfl, rfl⟩ | ⟨rfl, rfl, rfl, q4, rfl⟩ | ⟨rfl, rfl, rfl, q4, q5, rfl⟩ | ⟨rfl, rfl, rfl, q4, q5, q6, rfl⟩ | ⟨rfl, rfl, rfl, q4, q5, q6, q7, rfl⟩ | ⟨rfl, rfl, rfl, q4, q5, q6, q7, q8, rfl⟩ | ⟨rfl, rfl, rfl, q4, q5, q6, q7, q8, rfl, rfl⟩ | ⟨rfl, rfl, rfl, q4, q5, q6, q7, q8, rfl, rfl⟩
  · clear an tn b12
    rw [if_neg (by decide)] at hA
    subst hA
    refine zR ?_
    refine At.retA (by rw [Tryz.results22]) (he := rfl)
  · clear an tn b12
    rw [if_neg (by decide)] at hA
    subst hA
    refine zR ?_
    refine At.retA (by rw [Tryz.results22]) (he := rfl)
  · clear an tn b12
    rw [if_neg (by decide)] at hA
    subst hA
    refine zR ?_
    refine At.retA (by rw [Tryz.results22]) (he := rfl)
  · clear an tn b12
    rw [q4] at c4
    rw [if_neg (by decide)] at hA
    subst hA
    refine zR ?_
    refine At.retA (by rw [Tryz.results22]) (he := rfl)
  · obtain ⟨tn1, tn2⟩ := tn rfl
    obtain ⟨an1, an2⟩ := an rfl
    have b12 := b12 rfl
    rw [q4] at c4
    have q4 := of_decide_eq_true q4
    clear tn an
    rw [if_neg (by decide)] at hA
    subst hA
    refine zR ?_
    refine At.retA (by rw [Tryz.results22]) (he := rfl)
  · obtain ⟨tn1, tn2⟩ := tn rfl
    obtain ⟨an1, an2⟩ := an rfl
    have b12 := b12 rfl
    rw [q4] at c4
    have q4 := of_decide_eq_true q4
    clear tn an
    rw [if_neg (by decide)] at hA
    subst hA
    refine zR ?_
    refine At.retA (by rw [Tryz.results22]) (he := rfl)
  · obtain ⟨tn1, tn2⟩ := tn rfl
    obtain ⟨an1, an2⟩ := an rfl
    have b12 := b12 rfl
    rw [q4] at c4
    have q4 := of_decide_eq_true q4
    clear tn an
    rw [if_neg (by decide)] at hA
    subst hA
    refine zR ?_
    refine At.retA (by rw [Tryz.results22]) (he := rfl)
  · obtain ⟨tn1, tn2⟩ := tn rfl
    obtain ⟨an1, an2⟩ := an rfl
    have b12 := b12 rfl
    rw [q4] at c4
    have q4 := of_decide_eq_true q4
    clear tn an
    rw [if_neg (by decide)] at hA
    subst hA
    refine zR ?_
    refine At.retA (by rw [Tryz.results22]) (he := rfl)
  · obtain ⟨tn1, tn2⟩ := tn rfl
    obtain ⟨an1, an2⟩ := an rfl
    have b12 := b12 rfl
    rw [q4] at c4
    have q4 := of_decide_eq_true q4
    have c6 := mCVals_eq (ch, cr, ci, cs) (by show cs.length ≤ _; omega)
    rw [hcv] at c6
    dsimp only [aCm] at c6
    clear hcv
    clear tn an
    rw [if_neg (by decide)] at hA
    subst hA
    refine zR ?_
    refine W.drawB hΓ 8 [[], [0], [], [2], [2, 3], [0, 1, 2, 3, 4], [0, 1, 2, 3, 4, 5], [0, 1, 2, 3, 4, 5, 6]] (Es := ?Es68) (rest := ?rest68) (st1 := ?st168) ?_
    refine zL ?_
    refine zE ?_
    refine zR ?_
    refine At.retA (by rw [Tryz.results22]) (he := rfl)
  · obtain ⟨tn1, tn2⟩ := tn rfl
    obtain ⟨an1, an2⟩ := an rfl
    have b12 := b12 rfl
    rw [q4] at c4
    have q4 := of_decide_eq_true q4
    have c6 := mCVals_eq (ch, cr, ci, cs) (by show cs.length ≤ _; omega)
    rw [hcv] at c6
    dsimp only [aCm] at c6
    clear hcv
    clear tn an
    rw [if_pos rfl] at hA
    subst hA
    refine zR ?_
    refine W.drawB hΓ 8 [[], [0], [], [2], [2, 3], [0, 1, 2, 3, 4], [0, 1, 2, 3, 4, 5], [0, 1, 2, 3, 4, 5, 6]] (Es := ?Es72) (rest := ?rest72) (st1 := ?st172) ?_
    refine zL ?_
    refine zE ?_
    refine zR ?_
    refine At.retA (by rw [Tryz.results22]) (he := rfl)
end Go.Proofs.YtfgkfcfplodaoaaGreatDoor
