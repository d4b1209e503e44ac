/-
  Whose signatures of a commit are right: CommitVals of both programs.
-/
import Derived.Test.YtfgkfcfplodaoaaGreatDoorG22
import Derived.Test.YtfgkfcfplodaoaaGreatDoorG23
namespace Go.Proofs.YtfgkfcfplodaoaaGreatDoor
set_option maxRecDepth 100000
set_option linter.unusedVariables false
set_option linter.unusedSimpArgs false
open Go Go.RowKit
set_option maxHeartbeats 4000000

theorem strict_ext : ∀ {a b : List Int}, a.Pairwise (· < ·) → b.Pairwise (· < ·) → (∀ x, x ∈ a ↔ x ∈ b) → a = b
  | [], [], _, _, _ => rfl
  | [], y :: r, _, _, h => by have := (h y).2 (List.mem_cons_self ..); cases this
  | x :: r, [], _, _, h => by have := (h x).1 (List.mem_cons_self ..); cases this
  | x :: r, y :: q, ha, hb, h => by
    rw [List.pairwise_cons] at ha hb
    have h1 := (h x).1 (List.mem_cons_self ..)
    have h2 := (h y).2 (List.mem_cons_self ..)
    have e : x = y := by
      rcases List.mem_cons.1 h1 with h1 | h1
      · exact h1
      · rcases List.mem_cons.1 h2 with h2 | h2
        · exact h2.symm
        · have := hb.1 x h1; have := ha.1 y h2; omega
    subst e
    rw [strict_ext ha.2 hb.2 fun z => ⟨fun hz => ?_, fun hz => ?_⟩]
    · rcases List.mem_cons.1 ((h z).1 (List.mem_cons_of_mem _ hz)) with e | e
      · have := ha.1 z hz; omega
      · exact e
    · rcases List.mem_cons.1 ((h z).2 (List.mem_cons_of_mem _ hz)) with e | e
      · have := hb.1 z hz; omega
      · exact e
theorem compact_up {l : List Int} (h : l.Pairwise (· ≤ ·)) : ∀ m, m ≤ l.length → (Lib.compactUpTo l.toArray m).Pairwise (· < ·) ∧ ∀ x, x ∈ Lib.compactUpTo l.toArray m ↔ ∃ i, i < m ∧ l[i]? = some x
  | 0, _ => ⟨List.Pairwise.nil, fun x => ⟨fun h => by simp [Lib.compactUpTo] at h, fun ⟨i, hi, _⟩ => by omega⟩⟩
  | m + 1, hm => by
    obtain ⟨h1, h2⟩ := compact_up h m (by omega)
    have hg : ∀ i, i < l.length → l.toArray[i]! = l.getD i 0 := fun i hi => by simp [hi]
    have hgi : ∀ i, i < l.length → l[i]? = some (l.getD i 0) := fun i hi => by simp [List.getD_eq_getElem?_getD, hi]
    have hle : ∀ i j, i ≤ j → j < l.length → l.getD i 0 ≤ l.getD j 0 := fun i j hij hj => by
      by_cases e : i = j
      · rw [e]; exact Int.le_refl _
      · have := List.pairwise_iff_getElem.1 h i j (by omega) hj (by omega)
        simpa [List.getD_eq_getElem?_getD, hj, show i < l.length by omega] using this
    rw [Lib.compactUpTo_succ]
    cases hk : Lib.keeps l.toArray m with
    | true =>
      rw [if_pos rfl, hg m (by omega)]
      refine ⟨List.pairwise_append.2 ⟨h1, List.pairwise_singleton _ _, fun x hx y hy => ?_⟩, fun x => ?_⟩
      · rw [List.mem_singleton] at hy
        subst hy
        obtain ⟨i, hi, hx⟩ := (h2 x).1 hx
        rw [hgi i (by omega)] at hx
        cases hx
        have a1 := hle i (m - 1) (by omega) (by omega)
        have a2 := hle (m - 1) m (by omega) (by omega)
        have hne : l.getD m 0 ≠ l.getD (m - 1) 0 := by
          have := of_decide_eq_true hk
          rw [hg m (by omega), hg (m - 1) (by omega)] at this
          rcases this with h | h
          · omega
          · exact h
        omega
      · rw [List.mem_append, List.mem_singleton, h2]
        constructor
        · rintro (⟨i, hi, hx⟩ | rfl)
          · exact ⟨i, by omega, hx⟩
          · exact ⟨m, by omega, hgi m (by omega)⟩
        · rintro ⟨i, hi, hx⟩
          by_cases e : i = m
          · subst e
            rw [hgi i (by omega)] at hx
            cases hx
            exact .inr rfl
          · exact .inl ⟨i, by omega, hx⟩
    | false =>
      rw [if_neg (by simp), List.append_nil]
      refine ⟨h1, fun x => ?_⟩
      have hne := of_decide_eq_false hk
      rw [not_or, hg m (by omega), hg (m - 1) (by omega)] at hne
      obtain ⟨n1, n2⟩ := hne
      have n3 : l.getD m 0 = l.getD (m - 1) 0 := Classical.not_not.1 n2
      rw [h2]
      constructor
      · rintro ⟨i, hi, hx⟩; exact ⟨i, by omega, hx⟩
      · rintro ⟨i, hi, hx⟩
        by_cases e : i = m
        · subst e
          exact ⟨i - 1, by omega, by rw [hgi i (by omega), n3] at hx; rw [hgi (i - 1) (by omega)]; exact hx⟩
        · exact ⟨i, by omega, hx⟩
theorem compact_strict {l : List Int} (h : l.Pairwise (· ≤ ·)) : (Lib.compact l).Pairwise (· < ·) ∧ ∀ x, x ∈ Lib.compact l ↔ x ∈ l := by
  obtain ⟨h1, h2⟩ := compact_up h l.length (Nat.le_refl _)
  refine ⟨h1, fun x => ?_⟩
  show x ∈ Lib.compactUpTo l.toArray l.length ↔ _
  rw [h2, List.mem_iff_getElem?]
  constructor
  · rintro ⟨i, _, h⟩; exact ⟨i, h⟩
  · rintro ⟨i, h⟩; exact ⟨i, (List.getElem?_eq_some_iff.1 h).1, h⟩

abbrev TCommit := Int × Int × ByteArray × List TCSig
abbrev aCm (c : TCommit) : Arg := .val true [.sc (.int .i64 c.1), .sc (.int .i64 c.2.1), .sc (.string c.2.2.1), .sl (rowsF cCSig c.2.2.2)]
theorem csig_inj {a b : List TCSig} : rowsF cCSig a = rowsF cCSig b ↔ a = b := by
  refine ⟨fun h => ?_, fun h => by rw [h]⟩
  unfold rowsF at h
  refine (List.map_inj_right fun x y h => ?_).1 h
  obtain ⟨x1, x2⟩ := x
  obtain ⟨y1, y2⟩ := y
  simpa [cCSig] using h
theorem aCm_inj : ∀ x y : TCommit, [aCm x] = [aCm y] → x = y := by
  rintro ⟨a, b, c, l⟩ ⟨a', b', c', l'⟩ h
  simpa [aCm, csig_inj] using h
abbrev okCm (c : TCommit) : Prop := c.2.2.2.length ≤ 8796093022207
def sgAt (c : TCommit) (v : Int) (s : ByteArray) : Bool := signedB (c.1, c.2.1, 2, c.2.2.1, v) s
def hasK (c : TCommit) (v : Int) (k : Nat) : Bool := (c.2.2.2.take k).any fun g => decide (g.1 = v) && sgAt c v g.2
theorem hasK_succ {c : TCommit} {v : Int} {k : Nat} (h : k < c.2.2.2.length) : hasK c v (k + 1) = (hasK c v k || (decide (c.2.2.2[k].1 = v) && sgAt c v c.2.2.2[k].2)) := by
  unfold hasK
  rw [List.take_succ_eq_append_getElem h, List.any_append]
  simp
def cvK (c : TCommit) (k : Nat) : List Int := ((List.range k).map fun i : Nat => (i : Int) + 1).filter fun v => hasK c v c.2.2.2.length
theorem cvK_succ (c : TCommit) (k : Nat) : cvK c (k + 1) = cvK c k ++ (if hasK c ((k : Int) + 1) c.2.2.2.length then [(k : Int) + 1] else []) := by
  unfold cvK
  rw [List.range_succ, List.map_append, List.filter_append]
  congr 1
  simp only [List.map_cons, List.map_nil, List.filter_cons, List.filter_nil]
theorem cvK_len (c : TCommit) (k : Nat) : (cvK c k).length ≤ k := by
  unfold cvK
  have := List.length_filter_le (fun v => hasK c v c.2.2.2.length) ((List.range k).map fun i : Nat => (i : Int) + 1)
  simpa using this
def cvals (c : TCommit) : List Int := if c.2.2.2.length ≤ 12 then cvK c 99 else []
theorem cvals_len (c : TCommit) : (cvals c).length ≤ 99 := by
  unfold cvals
  split
  · exact cvK_len c 99
  · simp
noncomputable def mCVals := mdl okCm (fun c => [aCm c]) (fun c => rL 3 1 cInt (cvals c))
theorem mCVals_eq (c : TCommit) (h : okCm c) : mCVals [aCm c] = some (rL 3 1 cInt (cvals c)) := mdl_eq aCm_inj c h
abbrev okCmI (x : TCommit × Int) : Prop := okCm x.1
abbrev aCmI (x : TCommit × Int) : List Arg := [aCm x.1, aI x.2]
abbrev rVt (x : TCommit × Int) : Res := Res.comp true [.ro (.sc (.int .i64 x.1.1)), .ro (.sc (.int .i64 x.1.2.1)), .ro (.sc (.int .i64 2)), .ro (.sc (.string x.1.2.2.1)), .ro (.sc (.int .i64 x.2))]
theorem aCmI_inj : ∀ x y, aCmI x = aCmI y → x = y := by
  rintro ⟨⟨a, b, c, l⟩, v⟩ ⟨⟨a', b', c', l'⟩, v'⟩ h
  simpa [aCmI, aCm, csig_inj, and_assoc] using h
noncomputable def mL9Vote := mdl okCmI aCmI rVt
theorem mL9Vote_eq (c : TCommit) (v : Int) (h : okCm c) : mL9Vote [aCm c, aI v] = some (rVt (c, v)) := mdl_eq aCmI_inj (c, v) h
theorem l9Vote_s : Sound Tryz.prog 79 mL9Vote := by
  refine Sound.mdl Tryz.func79 rfl Tryz.ntmps79 ?_
  rintro ⟨⟨h, r, id, l⟩, v⟩ w hl
  refine ⟨by simp, ?_⟩
  have hΓ : GSound Tryz.prog (look []) := env_nil
  simp only [initS, argPV, List.map_cons, List.map_nil, toPL, Nat.zero_add]
  refine zR ?_
  refine At.retA (by rw [Tryz.results79]) (he := rfl)
/-- what the program of impl gathers from the first k signatures -/
def outK (c : TCommit) (k : Nat) : List Int := ((c.2.2.2.take k).filter fun g => sgAt c g.1 g.2).map (·.1)
theorem outK_succ {c : TCommit} {k : Nat} (h : k < c.2.2.2.length) : outK c (k + 1) = outK c k ++ (if sgAt c c.2.2.2[k].1 c.2.2.2[k].2 then [c.2.2.2[k].1] else []) := by
  unfold outK
  rw [List.take_succ_eq_append_getElem h, List.filter_append, List.map_append]
  congr 1
  simp only [List.filter_cons, List.filter_nil]
  split <;> rfl
theorem outK_len (c : TCommit) (k : Nat) : (outK c k).length ≤ k := by
  unfold outK
  rw [List.length_map]
  refine Nat.le_trans (List.length_filter_le _ _) ?_
  rw [List.length_take]
  omega
theorem cvK_mem (c : TCommit) (x : Int) : x ∈ cvK c 99 ↔ (1 ≤ x ∧ x ≤ 99) ∧ hasK c x c.2.2.2.length = true := by
  unfold cvK
  rw [List.mem_filter, List.mem_map]
  refine and_congr ⟨?_, fun h => ⟨(x - 1).toNat, by rw [List.mem_range]; omega, by omega⟩⟩ Iff.rfl
  rintro ⟨i, hi, rfl⟩
  rw [List.mem_range] at hi
  omega
theorem cvK_strict (c : TCommit) (k : Nat) : (cvK c k).Pairwise (· < ·) := by
  unfold cvK
  refine List.Pairwise.filter _ ?_
  rw [List.pairwise_map]
  exact (List.pairwise_lt_range (n := k)).imp fun h => by omega
theorem outK_mem (c : TCommit) (x : Int) : x ∈ outK c c.2.2.2.length ↔ (1 ≤ x ∧ x ≤ 99) ∧ hasK c x c.2.2.2.length = true := by
  unfold outK hasK
  rw [List.take_length, List.any_eq_true, List.mem_map]
  constructor
  · rintro ⟨g, hg, rfl⟩
    rw [List.mem_filter] at hg
    obtain ⟨h1, h2⟩ := hg
    refine ⟨?_, g, h1, by simp [h2]⟩
    unfold sgAt signedB at h2
    rw [Bool.and_eq_true, decide_eq_true_eq] at h2
    exact h2.1.2.2.2.2
  · rintro ⟨_, g, h1, h2⟩
    rw [Bool.and_eq_true, decide_eq_true_eq] at h2
    obtain ⟨rfl, h2⟩ := h2
    exact ⟨g, List.mem_filter.2 ⟨h1, h2⟩, rfl⟩
theorem cvals_of {c : TCommit} {l' : List Int} (hp : l'.Perm (outK c c.2.2.2.length)) (hs : l'.Pairwise fun x y => x ≤ y) (h12 : c.2.2.2.length ≤ 12) : Lib.compact l' = cvals c := by
  obtain ⟨h1, h2⟩ := compact_strict hs
  unfold cvals
  rw [if_pos h12]
  refine strict_ext h1 (cvK_strict c 99) fun x => ?_
  rw [h2, hp.mem_iff, outK_mem, cvK_mem]
theorem csig_row {l : List TCSig} {k : Nat} (h : k < l.length) : (rowsF cCSig l)[k]? = some [.sc (.int .i64 l[k].1), .sc (.string l[k].2)] := rowsF_get cCSig l k h
def asEvCVals0 : List (List Nat) := [[], [0], [0, 1], [0, 1, 2], [0, 1], [0, 1, 2, 3, 4], [0, 1, 2, 3, 4, 5], [0, 1, 2, 3, 4, 5, 6], [0, 1], [0, 1, 2, 3, 4, 5, 6, 7, 8], [0, 1, 2, 3, 4, 5, 6, 7, 8, 9], [0, 1, 2, 3, 4, 5, 6, 7, 8, 9, 10], [0, 1, 2, 3, 4, 5, 6, 7, 8, 9, 10], [0, 1, 2, 3, 4, 5, 6, 7, 8, 9, 10, 11, 12], [0, 1, 2, 3, 4, 5, 6, 7, 8, 9, 10], [0, 1, 2, 3, 4, 5, 6, 7, 8, 9, 10, 14], [0, 1, 2, 3, 4, 5, 6, 7, 8, 9, 10], [0, 1, 2, 3, 4, 5, 6, 7, 8, 9, 10, 14, 15, 16], [0, 1, 2, 3, 4, 5, 6, 7, 8, 9, 10, 14, 15, 16, 17], [0, 1, 2, 3, 4, 5, 6, 7, 8, 9, 10, 14, 15, 16, 17, 18], [0, 1, 2, 3, 4, 5, 6, 7, 8, 9, 10, 11, 12, 13, 14, 15, 16, 17, 18, 19], [0, 1, 2, 3, 4, 5, 6, 7, 8, 9, 10, 11, 12, 13, 14, 15, 16, 17, 18, 19, 20], [0, 1, 2, 3, 4, 5, 6, 7, 8, 9, 10, 11, 12, 13, 14, 15, 16, 17, 18, 19, 20, 21], [0, 1, 2, 3, 4, 5, 6, 7, 8, 9, 10, 11, 12, 13, 14, 15, 16, 17, 18, 19, 20, 21, 22]]
theorem cvalsS_s : Sound Tryz.prog 25 mCVals := by
  refine Sound.mdl Tryz.func25 rfl Tryz.ntmps25 ?_
  rintro ⟨h, r, id, l⟩ w hl
  refine ⟨by simp, ?_⟩
  replace hl : l.length ≤ 8796093022207 := hl
  have hΓ : GSound Tryz.prog (look [(79, mL9Vote), (78, mSigned)]) := env_cons (has_of Tryz.func79 rfl rfl) l9Vote_s (env_cons (has_of Tryz.func78 rfl rfl) signedS_s env_nil)
  have hlen := rowsF_len cCSig l
  have hnil : rowsF cInt [] = [] := rfl
  simp only [initS, argPV, List.map_cons, List.map_nil, toPL, Nat.zero_add]
  by_cases h12 : l.length ≤ 12
  · have hcv : cvals (h, r, id, l) = cvK (h, r, id, l) 99 := if_pos h12
    have hz : rowsF cInt (cvK (h, r, id, l) 0) = [] := rfl
    refine zR ?_
    refine W.loopA (fun k => k ≤ 99) (fun k : Nat => [.slot 1 (one (.ptr 1 0)), .blk 1 (.box [.sc (.int .i64 h), .sc (.int .i64 r), .sc (.string id), .sl (rowsF cCSig l)]), .slot 4 (vI ((k : Int) + 1)), .slot 3 (one (.all 7)), .blk 7 (.arr .ft 3 1 (rowsF cInt (cvK (h, r, id, l) k)))]) (fun k => 99 - k) 0 (Nat.zero_le _) (h := ?_)
    rintro k hk
    clear hz hnil
    have hcl := cvK_len (h, r, id, l) k
    by_cases hlt : k < 99
    · have hsu := cvK_succ (h, r, id, l) k
      dsimp only at hsu
      refine zR ?_
      refine W.loopA (fun j => j ≤ l.length) (fun j : Nat => [.slot 1 (one (.ptr 1 0)), .blk 1 (.box [.sc (.int .i64 h), .sc (.int .i64 r), .sc (.string id), .sl (rowsF cCSig l)]), .slot 4 (vI ((k : Int) + 1)), .slot 3 (one (.all 7)), .blk 7 (.arr .ft 3 1 (rowsF cInt (cvK (h, r, id, l) k))), .slot 5 (vB (hasK (h, r, id, l) ((k : Int) + 1) j)), .slot 6 (vI j)]) (fun j => l.length - j) 0 (Nat.zero_le _) (h := ?_)
      rintro j hj
      by_cases hjl : j < l.length
      · have hrow := csig_row hjl
        have hsj := hasK_succ (c := (h, r, id, l)) (v := (k : Int) + 1) hjl
        have c1 := mL9Vote_eq (h, r, id, l) ((k : Int) + 1) hl
        have c2 := mSigned_eq (h, r, 2, id, (k : Int) + 1) l[j].2
        dsimp only [aCm, aVt, sgAt] at c1 c2 hsj
        generalize signedB (h, r, 2, id, (k : Int) + 1) l[j].2 = sb at *
        clear hsu hcv
        cases hh : hasK (h, r, id, l) ((k : Int) + 1) j with
        | true =>
          rw [hh, Bool.true_or] at hsj
          refine zR ?_
          refine W.drawB hΓ 24 asEvCVals0 (Es := ?Es10) (rest := ?rest10) (st1 := ?st110) ?_
          refine zL ?_
          refine zE ?_
          refine zR ?_
          exact At.roundA (j + 1) (by omega) (by omega)
        | false =>
          rw [hh, Bool.false_or] at hsj
          by_cases hq : l[j].1 = (k : Int) + 1
          · have hqd : decide (l[j].1 = (k : Int) + 1) = true := decide_eq_true hq
            rw [hqd, Bool.true_and] at hsj
            clear hq
            refine zR ?_
            refine W.drawB hΓ 24 asEvCVals0 (Es := ?Es13) (rest := ?rest13) (st1 := ?st113) ?_
            refine zL ?_
            refine zE ?_
            refine zR ?_
            exact At.roundA (j + 1) (by omega) (by omega)
          · have hqd : decide (l[j].1 = (k : Int) + 1) = false := decide_eq_false hq
            rw [hqd, Bool.false_and] at hsj
            clear hq
            refine zR ?_
            refine W.drawB hΓ 24 asEvCVals0 (Es := ?Es16) (rest := ?rest16) (st1 := ?st116) ?_
            refine zL ?_
            refine zE ?_
            refine zR ?_
            exact At.roundA (j + 1) (by omega) (by omega)
      · have hje : j = l.length := by omega
        subst hje
        cases hh : hasK (h, r, id, l) ((k : Int) + 1) l.length with
        | true =>
          rw [hh, if_pos rfl] at hsu
          have e : rowsF cInt (cvK (h, r, id, l) k) ++ [[.sc (.int .i64 ((k : Int) + 1))]] = rowsF cInt (cvK (h, r, id, l) (k + 1)) := by rw [hsu, ← rowsF_app]; rfl
          clear hsu
          refine zR ?_
          exact At.roundA (k + 1) (by omega) (by omega)
        | false =>
          rw [hh, if_neg (by simp), List.append_nil] at hsu
          refine zR ?_
          exact At.roundA (k + 1) (by omega) (by omega)
    · have hke : k = 99 := by omega
      subst hke
      refine zR ?_
      refine At.retA (by rw [Tryz.results25]) (he := ?_)
      rw [hcv]
  · have hcv : cvals (h, r, id, l) = [] := if_neg h12
    refine zR ?_
    refine At.retA (by rw [Tryz.results25]) (he := ?_)
    rw [hcv]
    rfl
noncomputable def mCValsI := mdl okCm (fun c => [aCm c]) (fun c => if c.2.2.2.length ≤ 12 then rL 3 1 cInt (cvals c) else rN)
theorem mCValsI_eq (c : TCommit) (h : okCm c) (h12 : c.2.2.2.length ≤ 12) : mCValsI [aCm c] = some (rL 3 1 cInt (cvals c)) := by
  have := mdl_eq (ok := okCm) (enc := fun c => [aCm c]) (g := fun c => if c.2.2.2.length ≤ 12 then rL 3 1 cInt (cvals c) else rN) aCm_inj c h
  rw [if_pos h12] at this
  exact this
theorem mCValsI_no (c : TCommit) (h : okCm c) (h12 : ¬ c.2.2.2.length ≤ 12) : mCValsI [aCm c] = some rN := by
  have := mdl_eq (ok := okCm) (enc := fun c => [aCm c]) (g := fun c => if c.2.2.2.length ≤ 12 then rL 3 1 cInt (cvals c) else rN) aCm_inj c h
  rw [if_neg h12] at this
  exact this
theorem cvalsI_s : Sound Tryz.prog 128 mCValsI := by
  refine Sound.mdl Tryz.func128 rfl Tryz.ntmps128 ?_
  rintro ⟨h, r, id, l⟩ w hl
  refine ⟨by simp, ?_⟩
  replace hl : l.length ≤ 8796093022207 := hl
  have hΓ : GSound Tryz.prog (look [(173, mSigned)]) := env_cons (has_of Tryz.func173 rfl rfl) signedI_s env_nil
  have hSo : Has Tryz.prog 174 := has_of Tryz.func174 rfl rfl
  have hCo : Has Tryz.prog 175 := has_of Tryz.func175 rfl rfl
  have hlen := rowsF_len cCSig l
  have hnil : rowsF cInt [] = [] := rfl
  simp only [initS, argPV, List.map_cons, List.map_nil, toPL, Nat.zero_add]
  by_cases h12 : l.length ≤ 12
  · have hz : rowsF cInt (outK (h, r, id, l) 0) = [] := rfl
    refine zR ?_
    refine W.loopA (fun k => k ≤ l.length) (fun k : Nat => [.slot 1 (one (.ptr 1 0)), .blk 1 (.box [.sc (.int .i64 h), .sc (.int .i64 r), .sc (.string id), .sl (rowsF cCSig l)]), .slot 12 (one (.sl (rowsF cCSig l))), .slot 13 (vI l.length), .slot 14 (vI k), .slot 3 (one (.all 10)), .blk 10 (.arr .ft 3 1 (rowsF cInt (outK (h, r, id, l) k)))]) (fun k => l.length - k) 0 (Nat.zero_le _) (h := ?_)
    rintro k hk
    clear hz hnil
    have hol := outK_len (h, r, id, l) k
    by_cases hlt : k < l.length
    · have hrow := csig_row hlt
      have hs1 : signedB (h, r, 2, id, l[k].1) l[k].2 = true → outK (h, r, id, l) (k + 1) = outK (h, r, id, l) k ++ [l[k].1] := fun e => by rw [outK_succ (c := (h, r, id, l)) hlt]; exact congrArg (outK (h, r, id, l) k ++ ·) (if_pos e)
      have hs2 : signedB (h, r, 2, id, l[k].1) l[k].2 = false → outK (h, r, id, l) (k + 1) = outK (h, r, id, l) k := fun e => by
        have e' : ¬ sgAt (h, r, id, l) l[k].1 l[k].2 = true := by show ¬ signedB (h, r, 2, id, l[k].1) l[k].2 = true; rw [e]; simp
        have := outK_succ (c := (h, r, id, l)) hlt
        rw [this]
        refine (congrArg (outK (h, r, id, l) k ++ ·) (if_neg e')).trans (List.append_nil _)
      have c2 := mSigned_eq (h, r, 2, id, l[k].1) l[k].2
      dsimp only [aVt] at c2
      cases hsb : signedB (h, r, 2, id, l[k].1) l[k].2 with
      | true =>
        have hsu := hs1 hsb
        rw [hsb] at c2
        clear hs1 hs2
        have e : rowsF cInt (outK (h, r, id, l) k) ++ [[.sc (.int .i64 l[k].1)]] = rowsF cInt (outK (h, r, id, l) (k + 1)) := by rw [hsu, ← rowsF_app]; rfl
        clear hsu hsb
        refine zR ?_
        exact At.roundA (k + 1) (by omega) (by omega)
      | false =>
        have hsu := hs2 hsb
        rw [hsb] at c2
        clear hsb hs1 hs2
        refine zR ?_
        exact At.roundA (k + 1) (by omega) (by omega)
    · have hke : k = l.length := by omega
      subst hke
      refine zR ?_
      refine zO ?_
      refine zL ?_
      refine WL.opSort1A (n := 10) hSo sortI_s (fun _ => rfl) (outK (h, r, id, l) l.length) (by omega) (h := ?_)
      rintro l' hp hs
      refine zL ?_
      refine zE ?_
      have hcv := cvals_of (c := (h, r, id, l)) hp hs h12
      have hl' : l'.length ≤ 12 := by rw [hp.length_eq]; omega
      clear hp hs
      refine zR ?_
      refine zO ?_
      refine zL ?_
      refine WL.opCut1A (n := 10) hCo (compI_s _) l' (by omega) (h := ?_)
      rw [hcv]
      refine zL ?_
      refine zE ?_
      refine zR ?_
      refine At.retA (by rw [Tryz.results128]) (he := ?_)
      simp only [if_pos h12]
  · refine zR ?_
    refine At.retA (by rw [Tryz.results128]) (he := ?_)
    simp only [if_neg h12]
end Go.Proofs.YtfgkfcfplodaoaaGreatDoor
