/-
  Put together: EvPRoot EvIncl.
-/
import Derived.Test.YtimnogjgokljbaaDoorHEvTree
import Derived.Test.YtimnogjgokljbaaDoorG38
section
/-!
  PathRoot and Includes of both programs.
-/
namespace Go.Proofs.YtimnogjgokljbaaDoor
set_option maxRecDepth 100000
set_option linter.unusedVariables false
set_option linter.unusedSimpArgs false
open Go Go.RowKit
set_option maxHeartbeats 4000000

/-- the root of a path; and is it as long as it should be? -/
def pr (leaf : ByteArray) (i n : Nat) (p : List ByteArray) : ByteArray × Bool :=
  if n = 1 then (leaf, decide (p.length = 0))
  else if h : p.length = 0 ∨ n = 0 ∨ 64 < n then (ByteArray.empty, false)
  else if i < spl n then (nodeH (pr leaf i (spl n) (p.take (p.length - 1))).1 (p.getD (p.length - 1) ByteArray.empty), (pr leaf i (spl n) (p.take (p.length - 1))).2)
  else (nodeH (p.getD (p.length - 1) ByteArray.empty) (pr leaf (i - spl n) (n - spl n) (p.take (p.length - 1))).1, (pr leaf (i - spl n) (n - spl n) (p.take (p.length - 1))).2)
termination_by n
decreasing_by all_goals (have := spl_lt (n := n) (by omega) (by omega); omega)
theorem pr_one {leaf : ByteArray} {i : Nat} {p : List ByteArray} : pr leaf i 1 p = (leaf, decide (p.length = 0)) := by rw [pr, if_pos rfl]
theorem pr_nil {leaf : ByteArray} {i n : Nat} {p : List ByteArray} (h1 : ¬ n = 1) (h : p.length = 0) : pr leaf i n p = (ByteArray.empty, false) := by rw [pr, if_neg h1, dif_pos (.inl h)]
theorem pr_lo {leaf : ByteArray} {i n : Nat} {p : List ByteArray} (h2 : 2 ≤ n) (h64 : n ≤ 64) (h : ¬ p.length = 0) (hk : i < spl n) :
    pr leaf i n p = (nodeH (pr leaf i (spl n) (p.take (p.length - 1))).1 (p.getD (p.length - 1) ByteArray.empty), (pr leaf i (spl n) (p.take (p.length - 1))).2) := by
  rw [pr, if_neg (by omega), dif_neg (by omega), if_pos hk]
theorem pr_hi {leaf : ByteArray} {i n : Nat} {p : List ByteArray} (h2 : 2 ≤ n) (h64 : n ≤ 64) (h : ¬ p.length = 0) (hk : ¬ i < spl n) :
    pr leaf i n p = (nodeH (p.getD (p.length - 1) ByteArray.empty) (pr leaf (i - spl n) (n - spl n) (p.take (p.length - 1))).1, (pr leaf (i - spl n) (n - spl n) (p.take (p.length - 1))).2) := by
  rw [pr, if_neg (by omega), dif_neg (by omega), if_neg hk]
theorem pr_size {leaf : ByteArray} (hl : leaf.size ≤ 1048576) (i n : Nat) (p : List ByteArray) : (pr leaf i n p).1.size ≤ 1048576 := by
  rw [pr]
  split
  · exact hl
  · split
    · simp
    · split <;> (dsimp only; rw [nodeH_size]; omega)
abbrev rT2 (x : ByteArray × Bool) : Res := .tup [(false, [.ro (.sc (.string x.1))]), (false, [.ro (.sc (.bool x.2))])]
abbrev encR (x : ByteArray × Nat × Nat × List ByteArray) : List Arg := [aS x.1, aI (x.2.1 : Int), aI (x.2.2.1 : Int), aL cStr x.2.2.2]
theorem encR_inj : ∀ x y, encR x = encR y → x = y := by
  rintro ⟨a, b, c, d⟩ ⟨a', b', c', d'⟩ h
  simp [encR] at h
  obtain ⟨h0, h1, h2, h3⟩ := h
  have e1 : b = b' := by omega
  have e2 : c = c' := by omega
  rw [h0, e1, e2, h3]
abbrev okPr (x : ByteArray × Nat × Nat × List ByteArray) : Prop := x.1.size ≤ 1048576 ∧ (x.2.1 < x.2.2.1 ∧ x.2.2.1 ≤ 40) ∧ okT x.2.2.2
noncomputable def mUr := mdl okPr encR (fun x => rT2 (pr x.1 x.2.1 x.2.2.1 x.2.2.2))
noncomputable def mUrN (N : Nat) := mdl (fun x => okPr x ∧ x.2.2.1 < N) encR (fun x => rT2 (pr x.1 x.2.1 x.2.2.1 x.2.2.2))
theorem mUr_eq (leaf : ByteArray) (i n : Nat) (p : List ByteArray) (h0 : leaf.size ≤ 1048576) (h : i < n ∧ n ≤ 40) (hp : okT p) : mUr [aS leaf, aI (i : Int), aI (n : Int), aL cStr p] = some (rT2 (pr leaf i n p)) := mdl_eq encR_inj (leaf, i, n, p) ⟨h0, h, hp⟩
theorem mUrN_eq (N : Nat) (leaf : ByteArray) (i n : Nat) (p : List ByteArray) (h0 : leaf.size ≤ 1048576) (h : i < n ∧ n ≤ 40) (hp : okT p) (hN : n < N) : mUrN N [aS leaf, aI (i : Int), aI (n : Int), aL cStr p] = some (rT2 (pr leaf i n p)) := mdl_eq encR_inj (leaf, i, n, p) ⟨⟨h0, h, hp⟩, hN⟩
theorem ur_s : Sound Tryd.prog 60 mUr := by
  refine Sound.again (fun x => x.2.2.1) encR_inj fun N ih => ?_
  refine Sound.mdl Tryd.func60 rfl Tryd.ntmps60 ?_
  rintro ⟨leaf, i, n, p⟩ w ⟨⟨h0, ⟨m1, m2⟩, hp⟩, hN⟩
  refine ⟨by simp, ?_⟩
  dsimp only at h0 m1 m2 hp hN
  have hΓ : GSound Tryd.prog (look [(73, mNode), (72, mSpl), (60, mUrN N)]) := env_cons (has_of Tryd.func73 rfl rfl) nodeS_s (env_cons (has_of Tryd.func72 rfl rfl) splS_s (env_cons (has_of Tryd.func60 rfl rfl) ih env_nil))
  have hlen := rowsF_len cStr p
  obtain ⟨hl, hsz⟩ := id hp
  by_cases h1 : n = 1
  · subst h1
    have hv := pr_one (leaf := leaf) (i := i) (p := p)
    have e : decide ((p.length : Int) = 0) = decide (p.length = 0) := by
      by_cases h : p.length = 0
      · rw [decide_eq_true h, decide_eq_true (by omega)]
      · rw [decide_eq_false h, decide_eq_false (by omega)]
    clear hsz hp ih
    simp only [initS, argPV, List.map_cons, List.map_nil, toPL, Nat.zero_add]
    repeat (first | with_reducible apply W.seq | with_reducible apply W.block | with_reducible apply W.skip | with_reducible apply W.exit | with_reducible apply W.ret | with_reducible apply At.seqN | with_reducible apply At.blkN | with_reducible apply At.blkE | with_reducible apply At.blkR | with_reducible apply At.thenX | with_reducible apply At.thenR | with_reducible apply At.blkX rfl | ((with_reducible apply W.ops); (repeat (first | refine WL.opA hΓ (h := ?_) | refine WL.opX hΓ (h := ?_) | refine WL.opY (h := ?_) | refine WL.opZ (h := ?_))); with_reducible apply WL.nil) | refine W.condT (h := ?_) | refine W.condF (h := ?_))
    refine At.retA (by rw [Tryd.results60]) (he := ?_)
    rw [hv]
    try simp [e]
  · by_cases hn : p.length = 0
    · have hv := pr_nil (leaf := leaf) (i := i) h1 hn
      clear hsz hp ih
      simp only [initS, argPV, List.map_cons, List.map_nil, toPL, Nat.zero_add]
      repeat (first | with_reducible apply W.seq | with_reducible apply W.block | with_reducible apply W.skip | with_reducible apply W.exit | with_reducible apply W.ret | with_reducible apply At.seqN | with_reducible apply At.blkN | with_reducible apply At.blkE | with_reducible apply At.blkR | with_reducible apply At.thenX | with_reducible apply At.thenR | with_reducible apply At.blkX rfl | ((with_reducible apply W.ops); (repeat (first | refine WL.opA hΓ (h := ?_) | refine WL.opX hΓ (h := ?_) | refine WL.opY (h := ?_) | refine WL.opZ (h := ?_))); with_reducible apply WL.nil) | refine W.condT (h := ?_) | refine W.condF (h := ?_))
      refine At.retA (by rw [Tryd.results60]) (he := ?_)
      rw [hv]
      rfl
    · have hs := spl_lt (n := n) (by omega) (by omega)
      have c2 := mSpl_eq n (by omega)
      have hrow := row_s (l := p) (k := p.length - 1) (by omega)
      have hs1 := sz_at hsz (p.length - 1)
      have e1 := rowsF_take cStr p (p.length - 1)
      have el : ((p.length : Int) - 1).toNat = p.length - 1 := by omega
      have x0 := row_ex (l := p) (k := 0) (by omega)
      by_cases hk : i < spl n
      · have hv := pr_lo (leaf := leaf) (by omega) (by omega) hn hk
        have c3 := mUrN_eq N leaf i (spl n) (p.take (p.length - 1)) h0 ⟨hk, by omega⟩ (hp.take _) (by omega)
        have hz := pr_size h0 i (spl n) (p.take (p.length - 1))
        generalize pr leaf i (spl n) (p.take (p.length - 1)) = r at *
        obtain ⟨r1, r2⟩ := r
        dsimp only [rT2] at c3 hz hv
        have c4 := mNode_eq r1 (p.getD (p.length - 1) ByteArray.empty) (by omega)
        clear hsz hp ih
        simp only [initS, argPV, List.map_cons, List.map_nil, toPL, Nat.zero_add]
        repeat (first | with_reducible apply W.seq | with_reducible apply W.block | with_reducible apply W.skip | with_reducible apply W.exit | with_reducible apply W.ret | with_reducible apply At.seqN | with_reducible apply At.blkN | with_reducible apply At.blkE | with_reducible apply At.blkR | with_reducible apply At.thenX | with_reducible apply At.thenR | with_reducible apply At.blkX rfl | ((with_reducible apply W.ops); (repeat (first | refine WL.opA hΓ (h := ?_) | refine WL.opX hΓ (h := ?_) | refine WL.opY (h := ?_) | refine WL.opZ (h := ?_))); with_reducible apply WL.nil) | refine W.condT (h := ?_) | refine W.condF (h := ?_))
        refine At.retA (by rw [Tryd.results60]) (he := ?_)
        rw [hv]
      · have hv := pr_hi (leaf := leaf) (by omega) (by omega) hn hk
        have d1 : (i : Int) - (spl n : Int) = ((i - spl n : Nat) : Int) := by omega
        have d2 : (n : Int) - (spl n : Int) = ((n - spl n : Nat) : Int) := by omega
        have c3 := mUrN_eq N leaf (i - spl n) (n - spl n) (p.take (p.length - 1)) h0 ⟨by omega, by omega⟩ (hp.take _) (by omega)
        have hz := pr_size h0 (i - spl n) (n - spl n) (p.take (p.length - 1))
        generalize pr leaf (i - spl n) (n - spl n) (p.take (p.length - 1)) = r at *
        obtain ⟨r1, r2⟩ := r
        dsimp only [rT2] at c3 hz hv
        have c4 := mNode_eq (p.getD (p.length - 1) ByteArray.empty) r1 (by omega)
        clear hsz hp ih
        simp only [initS, argPV, List.map_cons, List.map_nil, toPL, Nat.zero_add]
        repeat (first | with_reducible apply W.seq | with_reducible apply W.block | with_reducible apply W.skip | with_reducible apply W.exit | with_reducible apply W.ret | with_reducible apply At.seqN | with_reducible apply At.blkN | with_reducible apply At.blkE | with_reducible apply At.blkR | with_reducible apply At.thenX | with_reducible apply At.thenR | with_reducible apply At.blkX rfl | ((with_reducible apply W.ops); (repeat (first | refine WL.opA hΓ (h := ?_) | refine WL.opX hΓ (h := ?_) | refine WL.opY (h := ?_) | refine WL.opZ (h := ?_))); with_reducible apply WL.nil) | refine W.condT (h := ?_) | refine W.condF (h := ?_))
        refine At.retA (by rw [Tryd.results60]) (he := ?_)
        rw [hv]
def fixP2 (r : ByteArray × Bool) : ByteArray × Bool := if r.2 = true then (r.1, true) else (ByteArray.empty, false)
def pathRoot (leaf : ByteArray) (i n : Int) (p : List ByteArray) : ByteArray × Bool := if (0 ≤ i ∧ i < n) ∧ n ≤ 40 then fixP2 (pr leaf i.toNat n.toNat p) else (ByteArray.empty, false)
theorem pathRoot_no {leaf : ByteArray} {i n : Int} {p : List ByteArray} (h : ¬ ((0 ≤ i ∧ i < n) ∧ n ≤ 40)) : pathRoot leaf i n p = (ByteArray.empty, false) := if_neg h
theorem pathRoot_yes {leaf : ByteArray} {i n : Nat} {p : List ByteArray} (h : i < n ∧ n ≤ 40) : pathRoot leaf i n p = fixP2 (pr leaf i n p) := by unfold pathRoot; rw [if_pos (by omega)]; rfl
abbrev encPR (x : ByteArray × Int × Int × List ByteArray) : List Arg := [aS x.1, aI x.2.1, aI x.2.2.1, aL cStr x.2.2.2]
theorem encPR_inj : ∀ x y, encPR x = encPR y → x = y := by
  rintro ⟨a, b, c, d⟩ ⟨a', b', c', d'⟩ h
  simpa [encPR] using h
abbrev okPR (x : ByteArray × Int × Int × List ByteArray) : Prop := x.1.size ≤ 1048576 ∧ okT x.2.2.2
noncomputable def mPR := mdl okPR encPR (fun x => rT2 (pathRoot x.1 x.2.1 x.2.2.1 x.2.2.2))
noncomputable def mPRN (N : Nat) := mdl (fun x => okPR x ∧ x.2.2.1.toNat < N) encPR (fun x => rT2 (pathRoot x.1 x.2.1 x.2.2.1 x.2.2.2))
theorem mPR_eq (leaf : ByteArray) (i n : Int) (p : List ByteArray) (h0 : leaf.size ≤ 1048576) (hp : okT p) : mPR [aS leaf, aI i, aI n, aL cStr p] = some (rT2 (pathRoot leaf i n p)) := mdl_eq encPR_inj (leaf, i, n, p) ⟨h0, hp⟩
theorem mPRN_eq (N : Nat) (leaf : ByteArray) (i n : Nat) (p : List ByteArray) (h0 : leaf.size ≤ 1048576) (h : i < n ∧ n ≤ 40) (hp : okT p) (hN : n < N) : mPRN N [aS leaf, aI (i : Int), aI (n : Int), aL cStr p] = some (rT2 (fixP2 (pr leaf i n p))) := by
  have := mdl_eq (ok := fun x => okPR x ∧ x.2.2.1.toNat < N) (g := fun x => rT2 (pathRoot x.1 x.2.1 x.2.2.1 x.2.2.2)) encPR_inj (leaf, (i : Int), (n : Int), p) ⟨⟨h0, hp⟩, by dsimp only; rw [Int.toNat_natCast]; exact hN⟩
  dsimp only at this
  rw [pathRoot_yes h] at this
  exact this
theorem prS_s : Sound Tryd.prog 38 mPR := by
  refine Sound.mdl Tryd.func38 rfl Tryd.ntmps38 ?_
  rintro ⟨leaf, i, n, p⟩ w ⟨h0, hp⟩
  refine ⟨by simp, ?_⟩
  dsimp only at h0 hp
  have hΓ : GSound Tryd.prog (look [(60, mUr)]) := env_cons (has_of Tryd.func60 rfl rfl) ur_s env_nil
  by_cases hi0 : 0 ≤ i
  · by_cases hi1 : i < n
    · by_cases h40 : n ≤ 40
      · obtain ⟨i', rfl⟩ := Int.eq_ofNat_of_zero_le hi0
        obtain ⟨n', rfl⟩ := Int.eq_ofNat_of_zero_le (show 0 ≤ n by omega)
        have hv := pathRoot_yes (leaf := leaf) (i := i') (n := n') (p := p) (by omega)
        have c3 := mUr_eq leaf i' n' p h0 (by omega) hp
        generalize pr leaf i' n' p = r at *
        obtain ⟨r1, r2⟩ := r
        dsimp only [rT2] at c3
        clear hp
        cases r2 with
        | true =>
          simp only [initS, argPV, List.map_cons, List.map_nil, toPL, Nat.zero_add]
          repeat (first | with_reducible apply W.seq | with_reducible apply W.block | with_reducible apply W.skip | with_reducible apply W.exit | with_reducible apply W.ret | with_reducible apply At.seqN | with_reducible apply At.blkN | with_reducible apply At.blkE | with_reducible apply At.blkR | with_reducible apply At.thenX | with_reducible apply At.thenR | with_reducible apply At.blkX rfl | ((with_reducible apply W.ops); (repeat (first | refine WL.opA hΓ (h := ?_) | refine WL.opX hΓ (h := ?_) | refine WL.opY (h := ?_) | refine WL.opZ (h := ?_))); with_reducible apply WL.nil) | refine W.condT (h := ?_) | refine W.condF (h := ?_))
          refine At.retA (by rw [Tryd.results38]) (he := ?_)
          rw [hv]
          rfl
        | false =>
          simp only [initS, argPV, List.map_cons, List.map_nil, toPL, Nat.zero_add]
          repeat (first | with_reducible apply W.seq | with_reducible apply W.block | with_reducible apply W.skip | with_reducible apply W.exit | with_reducible apply W.ret | with_reducible apply At.seqN | with_reducible apply At.blkN | with_reducible apply At.blkE | with_reducible apply At.blkR | with_reducible apply At.thenX | with_reducible apply At.thenR | with_reducible apply At.blkX rfl | ((with_reducible apply W.ops); (repeat (first | refine WL.opA hΓ (h := ?_) | refine WL.opX hΓ (h := ?_) | refine WL.opY (h := ?_) | refine WL.opZ (h := ?_))); with_reducible apply WL.nil) | refine W.condT (h := ?_) | refine W.condF (h := ?_))
          refine At.retA (by rw [Tryd.results38]) (he := ?_)
          rw [hv]
          rfl
      · have hv := pathRoot_no (leaf := leaf) (i := i) (n := n) (p := p) (fun h => h40 h.2)
        clear hp
        simp only [initS, argPV, List.map_cons, List.map_nil, toPL, Nat.zero_add]
        repeat (first | with_reducible apply W.seq | with_reducible apply W.block | with_reducible apply W.skip | with_reducible apply W.exit | with_reducible apply W.ret | with_reducible apply At.seqN | with_reducible apply At.blkN | with_reducible apply At.blkE | with_reducible apply At.blkR | with_reducible apply At.thenX | with_reducible apply At.thenR | with_reducible apply At.blkX rfl | ((with_reducible apply W.ops); (repeat (first | refine WL.opA hΓ (h := ?_) | refine WL.opX hΓ (h := ?_) | refine WL.opY (h := ?_) | refine WL.opZ (h := ?_))); with_reducible apply WL.nil) | refine W.condT (h := ?_) | refine W.condF (h := ?_))
        refine At.retA (by rw [Tryd.results38]) (he := ?_)
        rw [hv]
        rfl
    · have hv := pathRoot_no (leaf := leaf) (i := i) (n := n) (p := p) (fun h => hi1 h.1.2)
      clear hp
      simp only [initS, argPV, List.map_cons, List.map_nil, toPL, Nat.zero_add]
      repeat (first | with_reducible apply W.seq | with_reducible apply W.block | with_reducible apply W.skip | with_reducible apply W.exit | with_reducible apply W.ret | with_reducible apply At.seqN | with_reducible apply At.blkN | with_reducible apply At.blkE | with_reducible apply At.blkR | with_reducible apply At.thenX | with_reducible apply At.thenR | with_reducible apply At.blkX rfl | ((with_reducible apply W.ops); (repeat (first | refine WL.opA hΓ (h := ?_) | refine WL.opX hΓ (h := ?_) | refine WL.opY (h := ?_) | refine WL.opZ (h := ?_))); with_reducible apply WL.nil) | refine W.condT (h := ?_) | refine W.condF (h := ?_))
      refine At.retA (by rw [Tryd.results38]) (he := ?_)
      rw [hv]
      rfl
  · have hv := pathRoot_no (leaf := leaf) (i := i) (n := n) (p := p) (fun h => hi0 h.1.1)
    clear hp
    simp only [initS, argPV, List.map_cons, List.map_nil, toPL, Nat.zero_add]
    repeat (first | with_reducible apply W.seq | with_reducible apply W.block | with_reducible apply W.skip | with_reducible apply W.exit | with_reducible apply W.ret | with_reducible apply At.seqN | with_reducible apply At.blkN | with_reducible apply At.blkE | with_reducible apply At.blkR | with_reducible apply At.thenX | with_reducible apply At.thenR | with_reducible apply At.blkX rfl | ((with_reducible apply W.ops); (repeat (first | refine WL.opA hΓ (h := ?_) | refine WL.opX hΓ (h := ?_) | refine WL.opY (h := ?_) | refine WL.opZ (h := ?_))); with_reducible apply WL.nil) | refine W.condT (h := ?_) | refine W.condF (h := ?_))
    refine At.retA (by rw [Tryd.results38]) (he := ?_)
    rw [hv]
    rfl
def inclB (rt data : ByteArray) (i n : Int) (p : List ByteArray) : Bool := (pathRoot (leafH data) i n p).2 && decide ((pathRoot (leafH data) i n p).1 = rt)
abbrev encIn (x : ByteArray × ByteArray × Int × Int × List ByteArray) : List Arg := [aS x.1, aS x.2.1, aI x.2.2.1, aI x.2.2.2.1, aL cStr x.2.2.2.2]
theorem encIn_inj : ∀ x y, encIn x = encIn y → x = y := by
  rintro ⟨a, b, c, d, e⟩ ⟨a', b', c', d', e'⟩ h
  simpa [encIn] using h
noncomputable def mIncl := mdl (fun x : ByteArray × ByteArray × Int × Int × List ByteArray => x.2.1.size ≤ 1048576 ∧ okT x.2.2.2.2) encIn (fun x => rB (inclB x.1 x.2.1 x.2.2.1 x.2.2.2.1 x.2.2.2.2))
theorem mIncl_eq (rt data : ByteArray) (i n : Int) (p : List ByteArray) (h0 : data.size ≤ 1048576) (hp : okT p) : mIncl [aS rt, aS data, aI i, aI n, aL cStr p] = some (rB (inclB rt data i n p)) := mdl_eq encIn_inj (rt, data, i, n, p) ⟨h0, hp⟩
theorem inclS_s : Sound Tryd.prog 14 mIncl := by
  refine Sound.mdl Tryd.func14 rfl Tryd.ntmps14 ?_
  rintro ⟨rt, data, i, n, p⟩ w ⟨h0, hp⟩
  refine ⟨by simp, ?_⟩
  dsimp only at h0 hp
  have hΓ : GSound Tryd.prog (look [(39, mLeaf), (38, mPR)]) := env_cons (has_of Tryd.func39 rfl rfl) leafS_s (env_cons (has_of Tryd.func38 rfl rfl) prS_s env_nil)
  have c1 := mLeaf_eq data (by omega)
  have c2 := mPR_eq (leafH data) i n p (by rw [leafH_size]; omega) hp
  have hv : inclB rt data i n p = ((pathRoot (leafH data) i n p).2 && decide ((pathRoot (leafH data) i n p).1 = rt)) := rfl
  clear hp
  generalize pathRoot (leafH data) i n p = r at *
  obtain ⟨r1, r2⟩ := r
  dsimp only [rT2] at c2 hv
  cases r2 with
  | true =>
    simp only [initS, argPV, List.map_cons, List.map_nil, toPL, Nat.zero_add]
    repeat (first | with_reducible apply W.seq | with_reducible apply W.block | with_reducible apply W.skip | with_reducible apply W.exit | with_reducible apply W.ret | with_reducible apply At.seqN | with_reducible apply At.blkN | with_reducible apply At.blkE | with_reducible apply At.blkR | with_reducible apply At.thenX | with_reducible apply At.thenR | with_reducible apply At.blkX rfl | ((with_reducible apply W.ops); (repeat (first | refine WL.opA hΓ (h := ?_) | refine WL.opX hΓ (h := ?_) | refine WL.opY (h := ?_) | refine WL.opZ (h := ?_))); with_reducible apply WL.nil) | refine W.condT (h := ?_) | refine W.condF (h := ?_))
    refine At.retA (by rw [Tryd.results14]) (he := ?_)
    rw [hv]
    simp
  | false =>
    simp only [initS, argPV, List.map_cons, List.map_nil, toPL, Nat.zero_add]
    repeat (first | with_reducible apply W.seq | with_reducible apply W.block | with_reducible apply W.skip | with_reducible apply W.exit | with_reducible apply W.ret | with_reducible apply At.seqN | with_reducible apply At.blkN | with_reducible apply At.blkE | with_reducible apply At.blkR | with_reducible apply At.thenX | with_reducible apply At.thenR | with_reducible apply At.blkX rfl | ((with_reducible apply W.ops); (repeat (first | refine WL.opA hΓ (h := ?_) | refine WL.opX hΓ (h := ?_) | refine WL.opY (h := ?_) | refine WL.opZ (h := ?_))); with_reducible apply WL.nil) | refine W.condT (h := ?_) | refine W.condF (h := ?_))
    refine At.retA (by rw [Tryd.results14]) (he := ?_)
    rw [hv]
    rfl

end Go.Proofs.YtimnogjgokljbaaDoor

end
section
/-!
  The path of a leaf shows that the tree holds it.
-/
namespace Go.Proofs.YtimnogjgokljbaaDoor
set_option maxRecDepth 100000
set_option linter.unusedVariables false
set_option linter.unusedSimpArgs false
open Go Go.RowKit
set_option maxHeartbeats 4000000

/-- the path of a leaf leads to the root -/
theorem pr_path (n : Nat) : ∀ (i : Nat) (l : List ByteArray), l.length = n → i < n → n ≤ 64 → pr (leafH (l.getD i ByteArray.empty)) i n (pathL i l) = (root l, true) := by
  induction n using Nat.strongRecOn with
  | _ n ih =>
    intro i l hl hi h64
    by_cases h1 : n = 1
    · subst h1
      have e : i = 0 := by omega
      subst e
      rw [pathL_one (by omega), pr_one, root_one (by omega)]
      rfl
    · obtain ⟨s1, s2⟩ := spl_lt (n := n) (by omega) h64
      have hr : root l = nodeH (root (l.take (spl n))) (root (l.drop (spl n))) := by
        have := root_two (l := l) (by omega) (by omega)
        rwa [hl] at this
      by_cases hk : i < spl n
      · have hp : pathL i l = pathL i (l.take (spl n)) ++ [root (l.drop (spl n))] := by
          have := pathL_lo (i := i) (l := l) (by omega) (by omega) (by rw [hl]; exact hk)
          rwa [hl] at this
        have i1 := ih (spl n) s2 i (l.take (spl n)) (by rw [List.length_take]; omega) hk (by omega)
        have hg0 : (l.take (spl n)).getD i ByteArray.empty = l.getD i ByteArray.empty := by
          rw [List.getD_eq_getElem?_getD, List.getD_eq_getElem?_getD, List.getElem?_take, if_pos hk]
        rw [hg0] at i1
        rw [hp]
        have hlen : (pathL i (l.take (spl n)) ++ [root (l.drop (spl n))]).length - 1 = (pathL i (l.take (spl n))).length := by simp
        rw [pr_lo (by omega) h64 (by simp) hk, hlen, List.take_left, i1, hr]
        have hg : (pathL i (l.take (spl n)) ++ [root (l.drop (spl n))]).getD (pathL i (l.take (spl n))).length ByteArray.empty = root (l.drop (spl n)) := by
          rw [List.getD_eq_getElem?_getD, List.getElem?_append_right (Nat.le_refl _)]
          simp
        rw [hg]
      · have hp : pathL i l = pathL (i - spl n) (l.drop (spl n)) ++ [root (l.take (spl n))] := by
          have := pathL_hi (i := i) (l := l) (by omega) (by omega) (by rw [hl]; exact hk)
          rwa [hl] at this
        have i1 := ih (n - spl n) (by omega) (i - spl n) (l.drop (spl n)) (by rw [List.length_drop]; omega) (by omega) (by omega)
        have hg0 : (l.drop (spl n)).getD (i - spl n) ByteArray.empty = l.getD i ByteArray.empty := by
          rw [List.getD_eq_getElem?_getD, List.getD_eq_getElem?_getD, List.getElem?_drop]
          congr 2
          omega
        rw [hg0] at i1
        rw [hp]
        have hlen : (pathL (i - spl n) (l.drop (spl n)) ++ [root (l.take (spl n))]).length - 1 = (pathL (i - spl n) (l.drop (spl n))).length := by simp
        rw [pr_hi (by omega) h64 (by simp) hk, hlen, List.take_left, i1, hr]
        have hg : (pathL (i - spl n) (l.drop (spl n)) ++ [root (l.take (spl n))]).getD (pathL (i - spl n) (l.drop (spl n))).length ByteArray.empty = root (l.take (spl n)) := by
          rw [List.getD_eq_getElem?_getD, List.getElem?_append_right (Nat.le_refl _)]
          simp
        rw [hg]
theorem incl_path {l : List ByteArray} {i : Nat} (hi : i < l.length) (h40 : l.length ≤ 40) : inclB (tree l) (l.getD i ByteArray.empty) i l.length (pathL i l) = true := by
  unfold inclB
  rw [pathRoot_yes ⟨hi, h40⟩, pr_path l.length i l rfl hi (by omega), tree_root (by omega) h40]
  simp [fixP2]
theorem path_sz (n : Nat) : ∀ (i : Nat) (l : List ByteArray), l.length = n → ∀ x ∈ pathL i l, x.size ≤ 32 := by
  induction n using Nat.strongRecOn with
  | _ n ih =>
    intro i l hl x hx
    by_cases hn : l.length ≤ 1 ∨ 64 < l.length
    · rw [pathL, dif_pos hn] at hx; simp at hx
    · have hs := spl_lt (n := l.length) (by omega) (by omega)
      by_cases hk : i < spl l.length
      · rw [pathL_lo (by omega) (by omega) hk] at hx
        rcases List.mem_append.1 hx with h | h
        · exact ih (spl l.length) (by omega) i (l.take (spl l.length)) (by rw [List.length_take]; omega) x h
        · rw [List.mem_singleton.1 h, root_size]; omega
      · rw [pathL_hi (by omega) (by omega) hk] at hx
        rcases List.mem_append.1 hx with h | h
        · exact ih (l.length - spl l.length) (by omega) (i - spl l.length) (l.drop (spl l.length)) (by rw [List.length_drop]) x h
        · rw [List.mem_singleton.1 h, root_size]; omega
theorem path_okT {l : List ByteArray} (i : Nat) (h40 : l.length ≤ 64) : okT (pathL i l) := by
  refine ⟨?_, fun x hx => ?_⟩
  · have := pathL_len _ i l rfl; omega
  · have := path_sz _ i l rfl x hx; omega

end Go.Proofs.YtimnogjgokljbaaDoor

end
