/-
  Put together: EvOldPath EvTPath.
-/
import Derived.Test.YtimnogjgokljbaaDoorHEvTree
import Derived.Test.YtimnogjgokljbaaDoorG13
section
/-!
  OldPath of both programs.
-/
namespace Go.Proofs.YtimnogjgokljbaaDoor
set_option maxRecDepth 100000
set_option linter.unusedVariables false
set_option linter.unusedSimpArgs false
open Go Go.RowKit
set_option maxHeartbeats 4000000

/-- the parts that prove a prefix -/
def parts (m : Nat) (l : List ByteArray) : List ByteArray :=
  if m = l.length then [root l]
  else if h : l.length < 2 ∨ 64 < l.length then []
  else if m ≤ spl l.length then parts m (l.take (spl l.length)) ++ [root (l.drop (spl l.length))]
  else [root (l.take (spl l.length))] ++ parts (m - spl l.length) (l.drop (spl l.length))
termination_by l.length
decreasing_by
  · have := spl_lt (n := l.length) (by omega) (by omega)
    rw [List.length_take]
    omega
  · have := spl_lt (n := l.length) (by omega) (by omega)
    rw [List.length_drop]
    omega
theorem parts_eq {m : Nat} {l : List ByteArray} (h : m = l.length) : parts m l = [root l] := by rw [parts, if_pos h]
theorem parts_lo {m : Nat} {l : List ByteArray} (hm : ¬ m = l.length) (h2 : 2 ≤ l.length) (h64 : l.length ≤ 64) (hk : m ≤ spl l.length) : parts m l = parts m (l.take (spl l.length)) ++ [root (l.drop (spl l.length))] := by
  rw [parts, if_neg hm, dif_neg (by omega), if_pos hk]
theorem parts_hi {m : Nat} {l : List ByteArray} (hm : ¬ m = l.length) (h2 : 2 ≤ l.length) (h64 : l.length ≤ 64) (hk : ¬ m ≤ spl l.length) : parts m l = [root (l.take (spl l.length))] ++ parts (m - spl l.length) (l.drop (spl l.length)) := by
  rw [parts, if_neg hm, dif_neg (by omega), if_neg hk]
theorem parts_len (n : Nat) : ∀ (m : Nat) (l : List ByteArray), l.length = n → (parts m l).length ≤ n + 1 := by
  induction n using Nat.strongRecOn with
  | _ n ih =>
    intro m l hl
    by_cases hm : m = l.length
    · rw [parts_eq hm]; simp
    · by_cases hn : l.length < 2 ∨ 64 < l.length
      · rw [parts, if_neg hm, dif_pos hn]; simp
      · have hs := spl_lt (n := l.length) (by omega) (by omega)
        by_cases hk : m ≤ spl l.length
        · rw [parts_lo hm (by omega) (by omega) hk]
          have := ih (spl l.length) (by omega) m (l.take (spl l.length)) (by rw [List.length_take]; omega)
          rw [List.length_append]
          simp only [List.length_cons, List.length_nil]
          omega
        · rw [parts_hi hm (by omega) (by omega) hk]
          have := ih (l.length - spl l.length) (by omega) (m - spl l.length) (l.drop (spl l.length)) (by rw [List.length_drop])
          rw [List.length_append]
          simp only [List.length_cons, List.length_nil]
          omega
theorem cStr_app1 (l : List ByteArray) (x : ByteArray) : rowsF cStr l ++ [[.sc (.string x)]] = rowsF cStr (l ++ [x]) := by rw [← rowsF_app]; rfl
theorem cStr_app2 (l : List ByteArray) (x : ByteArray) : [Leaf.sc (.string x)] :: rowsF cStr l = rowsF cStr ([x] ++ l) := rfl
abbrev encP (x : List ByteArray × Int) : List Arg := [aL cStr x.1, aI x.2]
theorem encP_inj : ∀ x y, encP x = encP y → x = y := by
  rintro ⟨a, b⟩ ⟨d, e⟩ h
  simpa [encP] using h
abbrev okQ (x : List ByteArray × Int) : Prop := okL x.1 ∧ 1 ≤ x.2 ∧ x.2 ≤ x.1.length
abbrev rPt (x : List ByteArray × Int) : Res := rL 9 1 cStr (parts x.2.toNat x.1)
noncomputable def mPt := mdl okQ encP rPt
noncomputable def mPtN (N : Nat) := mdl (fun x => okQ x ∧ x.1.length < N) encP rPt
theorem mPt_eq (l : List ByteArray) (m : Nat) (h : okL l) (h1 : 1 ≤ m) (h2 : m ≤ l.length) : mPt [aL cStr l, aI (m : Int)] = some (rL 9 1 cStr (parts m l)) := mdl_eq encP_inj (l, (m : Int)) ⟨h, by dsimp only; omega, by dsimp only; omega⟩
theorem mPtN_eq (N : Nat) (l : List ByteArray) (m : Nat) (h : okL l) (h1 : 1 ≤ m) (h2 : m ≤ l.length) (hN : l.length < N) : mPtN N [aL cStr l, aI (m : Int)] = some (rL 9 1 cStr (parts m l)) := mdl_eq encP_inj (l, (m : Int)) ⟨⟨h, by dsimp only; omega, by dsimp only; omega⟩, hN⟩
def pathOk (l : List ByteArray) (m : Int) : Prop := l.length ≤ 40 ∧ 1 ≤ m ∧ m ≤ l.length
instance (l : List ByteArray) (m : Int) : Decidable (pathOk l m) := by unfold pathOk; infer_instance
def oldL (l : List ByteArray) (m : Int) : List ByteArray := if pathOk l m then parts m.toNat l else []
theorem oldL_yes {l : List ByteArray} {m : Nat} (h : pathOk l m) : oldL l m = parts m l := by unfold oldL; rw [if_pos h, Int.toNat_natCast]
theorem oldL_no {l : List ByteArray} {m : Int} (h : ¬ pathOk l m) : oldL l m = [] := if_neg h
theorem oldL_le (l : List ByteArray) (m : Int) : (oldL l m).length ≤ 41 := by
  by_cases h : pathOk l m
  · unfold oldL; rw [if_pos h]
    have := parts_len _ m.toNat l rfl
    have := h.1
    omega
  · rw [oldL_no h]; simp
abbrev rOl (x : List ByteArray × Int) : Res := rL 9 1 cStr (oldL x.1 x.2)
abbrev rOi (x : List ByteArray × Int) : Res := if pathOk x.1 x.2 then rL 9 1 cStr (oldL x.1 x.2) else rN
section
variable {w : World} {v : Value} {l : List ByteArray} {m : Int}
theorem path_args (h : RdS w w.heap.size 1 cStr v l) : RepAs w [aL cStr l, aI m] [v, .int .i64 m] :=
  RepAs.cons (aL_rep (fun _ => rfl) cStr_one h) (RepAs.cons (aI_rep m) RepAs.nil)
theorem GlobOk.below {γ0 : Nat → Option Nat} {w w' : World} (h : GlobOk γ0 w) (hb : Below w.heap.size w w') : GlobOk γ0 w' := fun g cs hg => by
  obtain ⟨h1, h2, h3⟩ := h g cs hg
  exact ⟨h1, Nat.lt_of_lt_of_le h2 hb.size, fun j v hj => ⟨(h3 j v hj).1, (hb.cell (p := ⟨g, j, none⟩) h2).trans (h3 j v hj).2⟩⟩
theorem okT_tot (ht : strsTot l ≤ 1048576) : okT l := by
  have h0 := strsTot_ge l
  refine ⟨by omega, fun x hx => ?_⟩
  have h1 : x.size ≤ (l.map ByteArray.size).sum := by
    clear ht h0
    induction l with
    | nil => cases hx
    | cons y r ih =>
      simp only [List.map_cons, List.sum_cons]
      rcases List.mem_cons.1 hx with rfl | hx
      · omega
      · have := ih hx; omega
  unfold strsTot at ht
  omega
end

end Go.Proofs.YtimnogjgokljbaaDoor

end
section
/-!
  TreePath of both programs.
-/
namespace Go.Proofs.YtimnogjgokljbaaDoor
set_option maxRecDepth 100000
set_option linter.unusedVariables false
set_option linter.unusedSimpArgs false
open Go Go.RowKit
set_option maxHeartbeats 4000000

/-- the path of a leaf -/
def pathL (i : Nat) (l : List ByteArray) : List ByteArray :=
  if h : l.length ≤ 1 ∨ 64 < l.length then []
  else if i < spl l.length then pathL i (l.take (spl l.length)) ++ [root (l.drop (spl l.length))]
  else pathL (i - spl l.length) (l.drop (spl l.length)) ++ [root (l.take (spl l.length))]
termination_by l.length
decreasing_by
  · have := spl_lt (n := l.length) (by omega) (by omega)
    rw [List.length_take]
    omega
  · have := spl_lt (n := l.length) (by omega) (by omega)
    rw [List.length_drop]
    omega
theorem pathL_one {i : Nat} {l : List ByteArray} (h : l.length ≤ 1) : pathL i l = [] := by rw [pathL, dif_pos (.inl h)]
theorem pathL_lo {i : Nat} {l : List ByteArray} (h2 : 2 ≤ l.length) (h64 : l.length ≤ 64) (hk : i < spl l.length) : pathL i l = pathL i (l.take (spl l.length)) ++ [root (l.drop (spl l.length))] := by
  rw [pathL, dif_neg (by omega), if_pos hk]
theorem pathL_hi {i : Nat} {l : List ByteArray} (h2 : 2 ≤ l.length) (h64 : l.length ≤ 64) (hk : ¬ i < spl l.length) : pathL i l = pathL (i - spl l.length) (l.drop (spl l.length)) ++ [root (l.take (spl l.length))] := by
  rw [pathL, dif_neg (by omega), if_neg hk]
theorem pathL_len (n : Nat) : ∀ (i : Nat) (l : List ByteArray), l.length = n → (pathL i l).length ≤ n + 1 := by
  induction n using Nat.strongRecOn with
  | _ n ih =>
    intro i l hl
    by_cases hn : l.length ≤ 1 ∨ 64 < l.length
    · rw [pathL, dif_pos hn]; simp
    · have hs := spl_lt (n := l.length) (by omega) (by omega)
      by_cases hk : i < spl l.length
      · rw [pathL_lo (by omega) (by omega) hk]
        have := ih (spl l.length) (by omega) i (l.take (spl l.length)) (by rw [List.length_take]; omega)
        rw [List.length_append]
        simp only [List.length_cons, List.length_nil]
        omega
      · rw [pathL_hi (by omega) (by omega) hk]
        have := ih (l.length - spl l.length) (by omega) (i - spl l.length) (l.drop (spl l.length)) (by rw [List.length_drop])
        rw [List.length_append]
        simp only [List.length_cons, List.length_nil]
        omega
abbrev okR (x : List ByteArray × Int) : Prop := okL x.1 ∧ 0 ≤ x.2 ∧ x.2 < x.1.length
abbrev rPa (x : List ByteArray × Int) : Res := rL 9 1 cStr (pathL x.2.toNat x.1)
noncomputable def mPa := mdl okR encP rPa
noncomputable def mPaN (N : Nat) := mdl (fun x => okR x ∧ x.1.length < N) encP rPa
theorem mPa_eq (l : List ByteArray) (i : Nat) (h : okL l) (h2 : i < l.length) : mPa [aL cStr l, aI (i : Int)] = some (rL 9 1 cStr (pathL i l)) := mdl_eq encP_inj (l, (i : Int)) ⟨h, by dsimp only; omega, by dsimp only; omega⟩
theorem mPaN_eq (N : Nat) (l : List ByteArray) (i : Nat) (h : okL l) (h2 : i < l.length) (hN : l.length < N) : mPaN N [aL cStr l, aI (i : Int)] = some (rL 9 1 cStr (pathL i l)) := mdl_eq encP_inj (l, (i : Int)) ⟨⟨h, by dsimp only; omega, by dsimp only; omega⟩, hN⟩
theorem tpathI_s : Sound Tryd.prog 37 mPa := by
  refine Sound.again (fun x => x.1.length) encP_inj fun N ih => ?_
  refine Sound.mdl Tryd.func37 rfl Tryd.ntmps37 ?_
  rintro ⟨l, m⟩ w ⟨⟨h, m1, m2⟩, hN⟩
  refine ⟨by simp, ?_⟩
  dsimp only at h m1 m2 hN
  have hΓ : GSound Tryd.prog (look [(46, mWithin), (31, mTree), (53, mSpl), (37, mPaN N)]) := env_cons (has_of Tryd.func46 rfl rfl) within_s (env_cons (has_of Tryd.func31 rfl rfl) treeI_s (env_cons (has_of Tryd.func53 rfl rfl) splI_s (env_cons (has_of Tryd.func37 rfl rfl) ih env_nil)))
  have hlen := rowsF_len cStr l
  obtain ⟨⟨h1, h40⟩, hsz⟩ := id h
  obtain ⟨i, rfl⟩ := Int.eq_ofNat_of_zero_le (show 0 ≤ m by omega)
  have c1 := mWithin_eq (i : Int) 0 ((l.length : Int) - 1)
  rw [show decide (0 ≤ (i : Int) ∧ (i : Int) ≤ (l.length : Int) - 1) = true from decide_eq_true (by omega)] at c1
  have hn0 : ([] : List (List Leaf)) = rowsF cStr [] := rfl
  have hT : okT l := ⟨by omega, hsz⟩
  by_cases hone : l.length = 1
  · have hv := pathL_one (i := i) (l := l) (by omega)
    have hone1 : l.length ≤ 1 := by omega
    clear hsz h hT hone
    simp only [initS, argPV, List.map_cons, List.map_nil, toPL, Nat.zero_add]
    repeat (first | with_reducible apply W.seq | with_reducible apply W.block | with_reducible apply W.skip | with_reducible apply W.exit | with_reducible apply W.ret | with_reducible apply At.seqN | with_reducible apply At.blkN | with_reducible apply At.blkE | with_reducible apply At.blkR | with_reducible apply At.thenX | with_reducible apply At.thenR | with_reducible apply At.blkX rfl | ((with_reducible apply W.ops); (repeat (first | refine WL.opA hΓ (h := ?_) | refine WL.opX hΓ (h := ?_) | refine WL.opY (h := ?_) | refine WL.opZ (h := ?_))); with_reducible apply WL.nil) | refine W.condT (h := ?_) | refine W.condF (h := ?_))
    refine At.retA (by rw [Tryd.results37]) (he := ?_)
    simp only [rPa, Int.toNat_natCast, hv]
  · have hs := spl_lt (n := l.length) (by omega) (by omega)
    have c2 := mSpl_eq l.length (by omega)
    have e1 := rowsF_take cStr l (spl l.length)
    have e2 := sub_lo l (spl l.length)
    have x0 := row_ex (l := l) (k := 0) (by omega)
    have x1 := row_ex (l := l) (k := spl l.length) (by omega)
    clear hn0
    by_cases hk : i < spl l.length
    · have hv := pathL_lo (by omega) (by omega) hk
      have c3 := mPaN_eq N (l.take (spl l.length)) i (h.take hs.1 (by omega)) (by rw [List.length_take]; omega) (by rw [List.length_take]; omega)
      have c4 := mTree_eq (l.drop (spl l.length)) (hT.drop _)
      rw [tree_root (by rw [List.length_drop]; omega) (by rw [List.length_drop]; omega)] at c4
      have hl2 := pathL_len _ i (l.take (spl l.length)) rfl
      rw [List.length_take] at hl2
      have ha := cStr_app1 (pathL i (l.take (spl l.length))) (root (l.drop (spl l.length)))
      clear hsz h hT
      generalize pathL i (l.take (spl l.length)) = L at *
      simp only [initS, argPV, List.map_cons, List.map_nil, toPL, Nat.zero_add]
      repeat (first | with_reducible apply W.seq | with_reducible apply W.block | with_reducible apply W.skip | with_reducible apply W.exit | with_reducible apply W.ret | with_reducible apply At.seqN | with_reducible apply At.blkN | with_reducible apply At.blkE | with_reducible apply At.blkR | with_reducible apply At.thenX | with_reducible apply At.thenR | with_reducible apply At.blkX rfl | ((with_reducible apply W.ops); (repeat (first | refine WL.opA hΓ (h := ?_) | refine WL.opX hΓ (h := ?_) | refine WL.opY (h := ?_) | refine WL.opZ (h := ?_))); with_reducible apply WL.nil) | refine W.condT (h := ?_) | refine W.condF (h := ?_))
      refine W.drawsA hΓ 10 [[], [], [0, 1], [], [0, 1, 2, 3], [], [], [5, 6], [0, 1, 2, 3, 4, 5, 6, 7], [0, 1, 2, 3, 4, 5, 6, 7, 8], [0, 1, 2, 3, 4, 5, 6, 7, 8, 9], [0, 1, 2, 3, 4, 5, 6, 7, 8, 9, 10]] (rest := ?rest7) (Es := ?Es7) (st1 := ?st17) (h := ?h7) (hf := ?hf7) (hp := ?hp7) (hd := ?hd7) (hfr := ?hfr7) (hst := ?hst7) (hT := ?hT7)
      case h7 => kernel_rfl
      case hf7 =>
        repeat (first | refine FlowT.opA (h := ?_) | refine FlowT.opX (h := ?_) | refine FlowT.opY (h := ?_) | refine FlowT.opZ (h := ?_))
        exact FlowT.done
      case hp7 => rfl
      case hd7 => rfl
      case hfr7 => rfl
      case hst7 =>
        simp only [pick_nil, pick_all, List.cons_append, List.nil_append]
        rfl
      (repeat (first | refine WL.opA hΓ (h := ?_) | refine WL.opX hΓ (h := ?_) | refine WL.opY (h := ?_) | refine WL.opZ (h := ?_)))
      with_reducible apply WL.nil
      repeat (first | with_reducible apply W.seq | with_reducible apply W.block | with_reducible apply W.skip | with_reducible apply W.exit | with_reducible apply W.ret | with_reducible apply At.seqN | with_reducible apply At.blkN | with_reducible apply At.blkE | with_reducible apply At.blkR | with_reducible apply At.thenX | with_reducible apply At.thenR | with_reducible apply At.blkX rfl | ((with_reducible apply W.ops); (repeat (first | refine WL.opA hΓ (h := ?_) | refine WL.opX hΓ (h := ?_) | refine WL.opY (h := ?_) | refine WL.opZ (h := ?_))); with_reducible apply WL.nil) | refine W.condT (h := ?_) | refine W.condF (h := ?_))
      refine At.retA (by rw [Tryd.results37]) (he := ?_)
      simp only [rPa, Int.toNat_natCast, hv]
    · have hv := pathL_hi (by omega) (by omega) hk
      have e3 : (i : Int) - (spl l.length : Int) = ((i - spl l.length : Nat) : Int) := by omega
      have c3 := mPaN_eq N (l.drop (spl l.length)) (i - spl l.length) (h.drop (by omega)) (by rw [List.length_drop]; omega) (by rw [List.length_drop]; omega)
      have c4 := mTree_eq (l.take (spl l.length)) (hT.take _)
      rw [tree_root (by rw [List.length_take]; omega) (by rw [List.length_take]; omega)] at c4
      have hl2 := pathL_len _ (i - spl l.length) (l.drop (spl l.length)) rfl
      rw [List.length_drop] at hl2
      have ha := cStr_app1 (pathL (i - spl l.length) (l.drop (spl l.length))) (root (l.take (spl l.length)))
      clear hsz h hT
      generalize pathL (i - spl l.length) (l.drop (spl l.length)) = L at *
      simp only [initS, argPV, List.map_cons, List.map_nil, toPL, Nat.zero_add]
      repeat (first | with_reducible apply W.seq | with_reducible apply W.block | with_reducible apply W.skip | with_reducible apply W.exit | with_reducible apply W.ret | with_reducible apply At.seqN | with_reducible apply At.blkN | with_reducible apply At.blkE | with_reducible apply At.blkR | with_reducible apply At.thenX | with_reducible apply At.thenR | with_reducible apply At.blkX rfl | ((with_reducible apply W.ops); (repeat (first | refine WL.opA hΓ (h := ?_) | refine WL.opX hΓ (h := ?_) | refine WL.opY (h := ?_) | refine WL.opZ (h := ?_))); with_reducible apply WL.nil) | refine W.condT (h := ?_) | refine W.condF (h := ?_))
      refine W.drawsA hΓ 12 [[], [], [0, 1], [], [], [3, 4], [0, 1, 2, 3, 4, 5], [], [], [7, 8], [0, 1, 2, 3, 4, 5, 6, 7, 8, 9], [0, 1, 2, 3, 4, 5, 6, 7, 8, 9, 10], [0, 1, 2, 3, 4, 5, 6, 7, 8, 9, 10, 11], [0, 1, 2, 3, 4, 5, 6, 7, 8, 9, 10, 11, 12]] (rest := ?rest12) (Es := ?Es12) (st1 := ?st112) (h := ?h12) (hf := ?hf12) (hp := ?hp12) (hd := ?hd12) (hfr := ?hfr12) (hst := ?hst12) (hT := ?hT12)
      case h12 => kernel_rfl
      case hf12 =>
        repeat (first | refine FlowT.opA (h := ?_) | refine FlowT.opX (h := ?_) | refine FlowT.opY (h := ?_) | refine FlowT.opZ (h := ?_))
        exact FlowT.done
      case hp12 => rfl
      case hd12 => rfl
      case hfr12 => rfl
      case hst12 =>
        simp only [pick_nil, pick_all, List.cons_append, List.nil_append]
        rfl
      (repeat (first | refine WL.opA hΓ (h := ?_) | refine WL.opX hΓ (h := ?_) | refine WL.opY (h := ?_) | refine WL.opZ (h := ?_)))
      with_reducible apply WL.nil
      repeat (first | with_reducible apply W.seq | with_reducible apply W.block | with_reducible apply W.skip | with_reducible apply W.exit | with_reducible apply W.ret | with_reducible apply At.seqN | with_reducible apply At.blkN | with_reducible apply At.blkE | with_reducible apply At.blkR | with_reducible apply At.thenX | with_reducible apply At.thenR | with_reducible apply At.blkX rfl | ((with_reducible apply W.ops); (repeat (first | refine WL.opA hΓ (h := ?_) | refine WL.opX hΓ (h := ?_) | refine WL.opY (h := ?_) | refine WL.opZ (h := ?_))); with_reducible apply WL.nil) | refine W.condT (h := ?_) | refine W.condF (h := ?_))
      refine At.retA (by rw [Tryd.results37]) (he := ?_)
      simp only [rPa, Int.toNat_natCast, hv]

end Go.Proofs.YtimnogjgokljbaaDoor

end
