/-
  Validators and headers shown and hashed; anchors. Both programs.
-/
import Derived.Test.YtimnogjgokljbaaGreatDoorHEvVote
import Derived.Test.YtimnogjgokljbaaGreatDoorHEvEnough
namespace Go.Proofs.YtimnogjgokljbaaGreatDoor
set_option maxRecDepth 100000
set_option linter.unusedVariables false
set_option linter.unusedSimpArgs false
open Go Go.RowKit
set_option maxHeartbeats 4000000

/-- what is written behind the first k validators -/
def showK (l : List TVal) : Nat → ByteArray
  | 0 => varS l.length
  | k + 1 => showK l k ++ varS (l.getD k (0, 0)).1 ++ varS (l.getD k (0, 0)).2
theorem showK_size (l : List TVal) : ∀ k, (showK l k).size ≤ 7 + 14 * k
  | 0 => varS_size _
  | k + 1 => by
    have h := showK_size l k
    have h1 := varS_size (l.getD k (0, 0)).1
    have h2 := varS_size (l.getD k (0, 0)).2
    show (showK l k ++ varS (l.getD k (0, 0)).1 ++ varS (l.getD k (0, 0)).2).size ≤ _
    rw [ByteArray.size_append, ByteArray.size_append]
    omega
theorem showK_succ {l : List TVal} {k : Nat} (h : k < l.length) : showK l (k + 1) = showK l k ++ varS l[k].1 ++ varS l[k].2 := by
  show showK l k ++ varS (l.getD k (0, 0)).1 ++ varS (l.getD k (0, 0)).2 = _
  rw [List.getD_eq_getElem?_getD, List.getElem?_eq_getElem h, Option.getD_some]
def showV (l : List TVal) : ByteArray := if valsOk l then showK l l.length else ByteArray.empty
theorem showV_yes {l : List TVal} (h : valsOk l) : showV l = showK l l.length := if_pos h
theorem showV_no {l : List TVal} (h : ¬ valsOk l) : showV l = ByteArray.empty := if_neg h
theorem showV_size (l : List TVal) : (showV l).size ≤ 105 := by
  by_cases h : valsOk l
  · rw [showV_yes h]
    have := showK_size l l.length
    have := h.1.2
    omega
  · rw [showV_no h]; simp
noncomputable def mShowV := mdl (fun l : List TVal => l.length ≤ 8796093022207) (fun l => [aL cVal l]) (fun l => rS (showV l))
theorem mShowV_eq (l : List TVal) (h : l.length ≤ 8796093022207) : mShowV [aL cVal l] = some (rS (showV l)) := mdl_eq (by intro a b h; simpa using h) l h
theorem showVS_s : Sound Tryz.prog 100 mShowV := by
  refine Sound.mdl Tryz.func100 rfl Tryz.ntmps100 ?_
  rintro l w hl
  refine ⟨by simp, ?_⟩
  replace hl : l.length ≤ 8796093022207 := hl
  have hΓ : GSound Tryz.prog (look [(75, mVals), (131, mVar)]) := env_cons (has_of Tryz.func75 rfl rfl) valsS_s (env_cons (has_of Tryz.func131 rfl rfl) varSpec_s env_nil)
  have c1 := mVals_eq l hl
  have c2 := mVar_eq l.length
  simp only [initS, argPV, List.map_cons, List.map_nil, toPL, Nat.zero_add]
  by_cases hv : valsOk l
  · have h7 := hv.1.2
    have hz : varS l.length = showK l 0 := rfl
    repeat (first | with_reducible (first | apply W.seq | apply W.block | apply W.skip | apply W.exit | apply W.ret | apply At.seqN | apply At.blkN | apply At.blkE | apply At.blkR | apply At.thenX | apply At.thenR | apply At.blkX rfl) | ((with_reducible apply W.ops); (repeat (first | refine WL.opA hΓ (h := ?_) | refine WL.opX hΓ (h := ?_) | refine WL.opY (h := ?_) | refine WL.opZ (h := ?_))); with_reducible apply WL.nil) | refine W.condT (h := ?_) | refine W.condF (h := ?_))
    refine W.loopA (fun k => k ≤ l.length) (fun k : Nat => [.slot 4 (vI k), .slot 3 (vS (showK l k)), .slot 0 (vL cVal l)]) (fun k => l.length - k) 0 (Nat.zero_le _) (h := ?_)
    rintro k hk
    clear hz c1 c2
    have hs := showK_size l k
    by_cases hlt : k < l.length
    · have hrow := row_at cVal l hlt
      simp only [cVal, List.map_cons, List.map_nil] at hrow
      have e := showK_succ hlt
      have v1 := mVar_eq l[k].1
      have v2 := mVar_eq l[k].2
      have s1 := varS_size l[k].1
      have s2 := varS_size l[k].2
      generalize varS l[k].1 = x1 at *
      generalize varS l[k].2 = x2 at *
      have e1 := ByteArray.size_append (a := showK l k) (b := x1)
      repeat (first | with_reducible (first | apply W.seq | apply W.block | apply W.skip | apply W.exit | apply W.ret | apply At.seqN | apply At.blkN | apply At.blkE | apply At.blkR | apply At.thenX | apply At.thenR | apply At.blkX rfl) | ((with_reducible apply W.ops); (repeat (first | refine WL.opA hΓ (h := ?_) | refine WL.opX hΓ (h := ?_) | refine WL.opY (h := ?_) | refine WL.opZ (h := ?_))); with_reducible apply WL.nil) | refine W.condT (h := ?_) | refine W.condF (h := ?_))
      refine W.drawsA hΓ 16 [[], [], [], [1, 2], [1, 2, 3], [1, 2, 3, 4], [1, 2, 3, 4, 5], [0, 1, 2, 3, 4, 5, 6], [], [], [8, 9], [8, 9, 10], [8, 9, 10, 11], [1, 2, 3, 4, 5, 6, 8, 9, 10, 11, 12], [0, 1, 2, 3, 4, 5, 6, 7, 8, 9, 10, 11, 12, 13], [0, 1, 2, 3, 4, 5, 6, 7, 8, 9, 10, 11, 12, 13, 14]] (rest := ?rest5) (Es := ?Es5) (st1 := ?st15) (h := ?h5) (hf := ?hf5) (hp := ?hp5) (hd := ?hd5) (hfr := ?hfr5) (hst := ?hst5) (hT := ?hT5)
      case h5 => kernel_rfl
      case hf5 =>
        repeat (first | refine FlowT.opA (h := ?_) | refine FlowT.opX (h := ?_) | refine FlowT.opY (h := ?_) | refine FlowT.opZ (h := ?_))
        exact FlowT.done
      case hp5 => rfl
      case hd5 => rfl
      case hfr5 => rfl
      case hst5 =>
        simp only [pick_nil, pick_all, List.cons_append, List.nil_append]
        rfl
      (repeat (first | refine WL.opA hΓ (h := ?_) | refine WL.opX hΓ (h := ?_) | refine WL.opY (h := ?_) | refine WL.opZ (h := ?_)))
      with_reducible apply WL.nil
      repeat (first | with_reducible (first | apply W.seq | apply W.block | apply W.skip | apply W.exit | apply W.ret | apply At.seqN | apply At.blkN | apply At.blkE | apply At.blkR | apply At.thenX | apply At.thenR | apply At.blkX rfl) | ((with_reducible apply W.ops); (repeat (first | refine WL.opA hΓ (h := ?_) | refine WL.opX hΓ (h := ?_) | refine WL.opY (h := ?_) | refine WL.opZ (h := ?_))); with_reducible apply WL.nil) | refine W.condT (h := ?_) | refine W.condF (h := ?_))
      exact At.roundA (k + 1) (by omega) (by omega)
    · have hke : k = l.length := by omega
      subst hke
      repeat (first | with_reducible (first | apply W.seq | apply W.block | apply W.skip | apply W.exit | apply W.ret | apply At.seqN | apply At.blkN | apply At.blkE | apply At.blkR | apply At.thenX | apply At.thenR | apply At.blkX rfl) | ((with_reducible apply W.ops); (repeat (first | refine WL.opA hΓ (h := ?_) | refine WL.opX hΓ (h := ?_) | refine WL.opY (h := ?_) | refine WL.opZ (h := ?_))); with_reducible apply WL.nil) | refine W.condT (h := ?_) | refine W.condF (h := ?_))
      refine At.retA (by rw [Tryz.results100]) (he := ?_)
      rw [showV_yes hv]
  · have hn := showV_no hv
    repeat (first | with_reducible (first | apply W.seq | apply W.block | apply W.skip | apply W.exit | apply W.ret | apply At.seqN | apply At.blkN | apply At.blkE | apply At.blkR | apply At.thenX | apply At.thenR | apply At.blkX rfl) | ((with_reducible apply W.ops); (repeat (first | refine WL.opA hΓ (h := ?_) | refine WL.opX hΓ (h := ?_) | refine WL.opY (h := ?_) | refine WL.opZ (h := ?_))); with_reducible apply WL.nil) | refine W.condT (h := ?_) | refine W.condF (h := ?_))
    refine At.retA (by rw [Tryz.results100]) (he := ?_)
    rw [hn]
    rfl
theorem showVI_s : Sound Tryz.prog 137 mShowV := by
  refine Sound.mdl Tryz.func137 rfl Tryz.ntmps137 ?_
  rintro l w hl
  refine ⟨by simp, ?_⟩
  replace hl : l.length ≤ 8796093022207 := hl
  have hΓ : GSound Tryz.prog (look [(119, mVals), (148, mVar)]) := env_cons (has_of Tryz.func119 rfl rfl) valsI_s (env_cons (has_of Tryz.func148 rfl rfl) varImpl_s env_nil)
  have c1 := mVals_eq l hl
  have c2 := mVar_eq l.length
  simp only [initS, argPV, List.map_cons, List.map_nil, toPL, Nat.zero_add]
  by_cases hv : valsOk l
  · have h7 := hv.1.2
    have hz : varS l.length = showK l 0 := rfl
    repeat (first | with_reducible (first | apply W.seq | apply W.block | apply W.skip | apply W.exit | apply W.ret | apply At.seqN | apply At.blkN | apply At.blkE | apply At.blkR | apply At.thenX | apply At.thenR | apply At.blkX rfl) | ((with_reducible apply W.ops); (repeat (first | refine WL.opA hΓ (h := ?_) | refine WL.opX hΓ (h := ?_) | refine WL.opY (h := ?_) | refine WL.opZ (h := ?_))); with_reducible apply WL.nil) | refine W.condT (h := ?_) | refine W.condF (h := ?_))
    refine W.loopA (fun k => k ≤ l.length) (fun k : Nat => [.slot 14 (vI k), .slot 13 (vI l.length), .slot 12 (vL cVal l), .slot 3 (vS (showK l k))]) (fun k => l.length - k) 0 (Nat.zero_le _) (h := ?_)
    rintro k hk
    clear hz c1 c2
    have hs := showK_size l k
    by_cases hlt : k < l.length
    · have hrow := row_at cVal l hlt
      simp only [cVal, List.map_cons, List.map_nil] at hrow
      have e := showK_succ hlt
      have v1 := mVar_eq l[k].1
      have v2 := mVar_eq l[k].2
      have s1 := varS_size l[k].1
      have s2 := varS_size l[k].2
      generalize varS l[k].1 = x1 at *
      generalize varS l[k].2 = x2 at *
      have e1 := ByteArray.size_append (a := showK l k) (b := x1)
      repeat (first | with_reducible (first | apply W.seq | apply W.block | apply W.skip | apply W.exit | apply W.ret | apply At.seqN | apply At.blkN | apply At.blkE | apply At.blkR | apply At.thenX | apply At.thenR | apply At.blkX rfl) | ((with_reducible apply W.ops); (repeat (first | refine WL.opA hΓ (h := ?_) | refine WL.opX hΓ (h := ?_) | refine WL.opY (h := ?_) | refine WL.opZ (h := ?_))); with_reducible apply WL.nil) | refine W.condT (h := ?_) | refine W.condF (h := ?_))
      refine W.drawsA hΓ 10 [[], [], [1], [1, 2], [0, 1, 2, 3], [], [5], [1, 2, 3, 5, 6], [0, 1, 2, 3, 4, 5, 6, 7], [0, 1, 2, 3, 4, 5, 6, 7, 8]] (rest := ?rest15) (Es := ?Es15) (st1 := ?st115) (h := ?h15) (hf := ?hf15) (hp := ?hp15) (hd := ?hd15) (hfr := ?hfr15) (hst := ?hst15) (hT := ?hT15)
      case h15 => kernel_rfl
      case hf15 =>
        repeat (first | refine FlowT.opA (h := ?_) | refine FlowT.opX (h := ?_) | refine FlowT.opY (h := ?_) | refine FlowT.opZ (h := ?_))
        exact FlowT.done
      case hp15 => rfl
      case hd15 => rfl
      case hfr15 => rfl
      case hst15 =>
        simp only [pick_nil, pick_all, List.cons_append, List.nil_append]
        rfl
      (repeat (first | refine WL.opA hΓ (h := ?_) | refine WL.opX hΓ (h := ?_) | refine WL.opY (h := ?_) | refine WL.opZ (h := ?_)))
      with_reducible apply WL.nil
      repeat (first | with_reducible (first | apply W.seq | apply W.block | apply W.skip | apply W.exit | apply W.ret | apply At.seqN | apply At.blkN | apply At.blkE | apply At.blkR | apply At.thenX | apply At.thenR | apply At.blkX rfl) | ((with_reducible apply W.ops); (repeat (first | refine WL.opA hΓ (h := ?_) | refine WL.opX hΓ (h := ?_) | refine WL.opY (h := ?_) | refine WL.opZ (h := ?_))); with_reducible apply WL.nil) | refine W.condT (h := ?_) | refine W.condF (h := ?_))
      exact At.roundA (k + 1) (by omega) (by omega)
    · have hke : k = l.length := by omega
      subst hke
      repeat (first | with_reducible (first | apply W.seq | apply W.block | apply W.skip | apply W.exit | apply W.ret | apply At.seqN | apply At.blkN | apply At.blkE | apply At.blkR | apply At.thenX | apply At.thenR | apply At.blkX rfl) | ((with_reducible apply W.ops); (repeat (first | refine WL.opA hΓ (h := ?_) | refine WL.opX hΓ (h := ?_) | refine WL.opY (h := ?_) | refine WL.opZ (h := ?_))); with_reducible apply WL.nil) | refine W.condT (h := ?_) | refine W.condF (h := ?_))
      refine At.retA (by rw [Tryz.results137]) (he := ?_)
      rw [showV_yes hv]
  · have hn := showV_no hv
    repeat (first | with_reducible (first | apply W.seq | apply W.block | apply W.skip | apply W.exit | apply W.ret | apply At.seqN | apply At.blkN | apply At.blkE | apply At.blkR | apply At.thenX | apply At.thenR | apply At.blkX rfl) | ((with_reducible apply W.ops); (repeat (first | refine WL.opA hΓ (h := ?_) | refine WL.opX hΓ (h := ?_) | refine WL.opY (h := ?_) | refine WL.opZ (h := ?_))); with_reducible apply WL.nil) | refine W.condT (h := ?_) | refine W.condF (h := ?_))
    refine At.retA (by rw [Tryz.results137]) (he := ?_)
    rw [hn]
    rfl
def vhash (l : List TVal) : ByteArray := if valsOk l then shortS (showV l) else ByteArray.empty
theorem vhash_no {l : List TVal} (h : ¬ valsOk l) : vhash l = ByteArray.empty := if_neg h
theorem vhash_yes {l : List TVal} (h : valsOk l) : vhash l = shortS (showV l) := if_pos h
noncomputable def mVHash := mdl (fun l : List TVal => l.length ≤ 8796093022207) (fun l => [aL cVal l]) (fun l => rS (vhash l))
theorem mVHash_eq (l : List TVal) (h : l.length ≤ 8796093022207) : mVHash [aL cVal l] = some (rS (vhash l)) := mdl_eq (by intro a b h; simpa using h) l h
theorem vhashS_s : Sound Tryz.prog 59 mVHash := by
  refine Sound.mdl Tryz.func59 rfl Tryz.ntmps59 ?_
  rintro l w hl
  refine ⟨by simp, ?_⟩
  replace hl : l.length ≤ 8796093022207 := hl
  have hΓ : GSound Tryz.prog (look [(75, mVals), (100, mShowV), (99, mShort)]) := env_cons (has_of Tryz.func75 rfl rfl) valsS_s (env_cons (has_of Tryz.func100 rfl rfl) showVS_s (env_cons (has_of Tryz.func99 rfl rfl) short_s env_nil))
  have c1 := mVals_eq l hl
  have c2 := mShowV_eq l hl
  have hz := showV_size l
  have c3 := mShort_eq (showV l) (by omega)
  simp only [initS, argPV, List.map_cons, List.map_nil, toPL, Nat.zero_add]
  by_cases hv : valsOk l
  · have e := vhash_yes hv
    rw [decide_eq_true hv] at c1
    clear hv
    repeat (first | with_reducible (first | apply W.seq | apply W.block | apply W.skip | apply W.exit | apply W.ret | apply At.seqN | apply At.blkN | apply At.blkE | apply At.blkR | apply At.thenX | apply At.thenR | apply At.blkX rfl) | ((with_reducible apply W.ops); (repeat (first | refine WL.opA hΓ (h := ?_) | refine WL.opX hΓ (h := ?_) | refine WL.opY (h := ?_) | refine WL.opZ (h := ?_))); with_reducible apply WL.nil) | refine W.condT (h := ?_) | refine W.condF (h := ?_))
    refine At.retA (by rw [Tryz.results59]) (he := ?_)
    rw [e]
  · have e := vhash_no hv
    rw [decide_eq_false hv] at c1
    clear hv
    repeat (first | with_reducible (first | apply W.seq | apply W.block | apply W.skip | apply W.exit | apply W.ret | apply At.seqN | apply At.blkN | apply At.blkE | apply At.blkR | apply At.thenX | apply At.thenR | apply At.blkX rfl) | ((with_reducible apply W.ops); (repeat (first | refine WL.opA hΓ (h := ?_) | refine WL.opX hΓ (h := ?_) | refine WL.opY (h := ?_) | refine WL.opZ (h := ?_))); with_reducible apply WL.nil) | refine W.condT (h := ?_) | refine W.condF (h := ?_))
    refine At.retA (by rw [Tryz.results59]) (he := ?_)
    rw [e]
    rfl
theorem vhashI_s : Sound Tryz.prog 118 mVHash := by
  refine Sound.mdl Tryz.func118 rfl Tryz.ntmps118 ?_
  rintro l w hl
  refine ⟨by simp, ?_⟩
  replace hl : l.length ≤ 8796093022207 := hl
  have hΓ : GSound Tryz.prog (look [(119, mVals), (137, mShowV), (136, mShort)]) := env_cons (has_of Tryz.func119 rfl rfl) valsI_s (env_cons (has_of Tryz.func137 rfl rfl) showVI_s (env_cons (has_of Tryz.func136 rfl rfl) shortI_s env_nil))
  have c1 := mVals_eq l hl
  have c2 := mShowV_eq l hl
  have hz := showV_size l
  have c3 := mShort_eq (showV l) (by omega)
  simp only [initS, argPV, List.map_cons, List.map_nil, toPL, Nat.zero_add]
  by_cases hv : valsOk l
  · have e := vhash_yes hv
    rw [decide_eq_true hv] at c1
    clear hv
    repeat (first | with_reducible (first | apply W.seq | apply W.block | apply W.skip | apply W.exit | apply W.ret | apply At.seqN | apply At.blkN | apply At.blkE | apply At.blkR | apply At.thenX | apply At.thenR | apply At.blkX rfl) | ((with_reducible apply W.ops); (repeat (first | refine WL.opA hΓ (h := ?_) | refine WL.opX hΓ (h := ?_) | refine WL.opY (h := ?_) | refine WL.opZ (h := ?_))); with_reducible apply WL.nil) | refine W.condT (h := ?_) | refine W.condF (h := ?_))
    refine At.retA (by rw [Tryz.results118]) (he := ?_)
    rw [e]
  · have e := vhash_no hv
    rw [decide_eq_false hv] at c1
    clear hv
    repeat (first | with_reducible (first | apply W.seq | apply W.block | apply W.skip | apply W.exit | apply W.ret | apply At.seqN | apply At.blkN | apply At.blkE | apply At.blkR | apply At.thenX | apply At.thenR | apply At.blkX rfl) | ((with_reducible apply W.ops); (repeat (first | refine WL.opA hΓ (h := ?_) | refine WL.opX hΓ (h := ?_) | refine WL.opY (h := ?_) | refine WL.opZ (h := ?_))); with_reducible apply WL.nil) | refine W.condT (h := ?_) | refine W.condF (h := ?_))
    refine At.retA (by rw [Tryz.results118]) (he := ?_)
    rw [e]
    rfl
def headId (h : THeader) : ByteArray := if headOk h then shortS (showHead h) else ByteArray.empty
theorem headId_no {h : THeader} (ho : ¬ headOk h) : headId h = ByteArray.empty := if_neg ho
theorem headId_yes {h : THeader} (ho : headOk h) : headId h = shortS (showHead h) := if_pos ho
theorem headId_size (h : THeader) : (headId h).size ≤ 8 := by
  unfold headId
  split
  · rw [shortS_size]; exact Nat.le_refl _
  · simp
noncomputable def mHeadId := mdl (fun _ : THeader => True) (fun h => [aHd h]) (fun h => rS (headId h))
theorem mHeadId_eq (h : THeader) : mHeadId [aHd h] = some (rS (headId h)) := mdl_eq aHd_inj h trivial
theorem headIdS_s : Sound Tryz.prog 63 mHeadId := by
  refine Sound.mdl Tryz.func63 rfl Tryz.ntmps63 ?_
  rintro ⟨h, t, la, va, ne, da⟩ w -
  refine ⟨by simp, ?_⟩
  have hΓ : GSound Tryz.prog (look [(83, mHead), (103, mShowHd), (99, mShort)]) := env_cons (has_of Tryz.func83 rfl rfl) headS_s (env_cons (has_of Tryz.func103 rfl rfl) showHdS_s (env_cons (has_of Tryz.func99 rfl rfl) short_s env_nil))
  have c1 := mHead_eq (h, t, la, va, ne, da)
  have c2 := mShowHd_eq (h, t, la, va, ne, da)
  have hz := showHead_size (h, t, la, va, ne, da)
  have c3 := mShort_eq (showHead (h, t, la, va, ne, da)) (by omega)
  dsimp only [aHd] at c1 c2
  simp only [initS, argPV, List.map_cons, List.map_nil, toPL, Nat.zero_add]
  by_cases hv : headOk (h, t, la, va, ne, da)
  · have e := headId_yes hv
    rw [decide_eq_true hv] at c1
    clear hv
    generalize showHead (h, t, la, va, ne, da) = x at *
    repeat (first | with_reducible (first | apply W.seq | apply W.block | apply W.skip | apply W.exit | apply W.ret | apply At.seqN | apply At.blkN | apply At.blkE | apply At.blkR | apply At.thenX | apply At.thenR | apply At.blkX rfl) | ((with_reducible apply W.ops); (repeat (first | refine WL.opA hΓ (h := ?_) | refine WL.opX hΓ (h := ?_) | refine WL.opY (h := ?_) | refine WL.opZ (h := ?_))); with_reducible apply WL.nil) | refine W.condT (h := ?_) | refine W.condF (h := ?_))
    refine At.retA (by rw [Tryz.results63]) (he := ?_)
    rw [e]
  · have e := headId_no hv
    rw [decide_eq_false hv] at c1
    clear hv
    repeat (first | with_reducible (first | apply W.seq | apply W.block | apply W.skip | apply W.exit | apply W.ret | apply At.seqN | apply At.blkN | apply At.blkE | apply At.blkR | apply At.thenX | apply At.thenR | apply At.blkX rfl) | ((with_reducible apply W.ops); (repeat (first | refine WL.opA hΓ (h := ?_) | refine WL.opX hΓ (h := ?_) | refine WL.opY (h := ?_) | refine WL.opZ (h := ?_))); with_reducible apply WL.nil) | refine W.condT (h := ?_) | refine W.condF (h := ?_))
    refine At.retA (by rw [Tryz.results63]) (he := ?_)
    rw [e]
    rfl
theorem headIdI_s : Sound Tryz.prog 134 mHeadId := by
  refine Sound.mdl Tryz.func134 rfl Tryz.ntmps134 ?_
  rintro ⟨h, t, la, va, ne, da⟩ w -
  refine ⟨by simp, ?_⟩
  have hΓ : GSound Tryz.prog (look [(117, mHead), (146, mShowHd), (136, mShort)]) := env_cons (has_of Tryz.func117 rfl rfl) headI_s (env_cons (has_of Tryz.func146 rfl rfl) showHdI_s (env_cons (has_of Tryz.func136 rfl rfl) shortI_s env_nil))
  have c1 := mHead_eq (h, t, la, va, ne, da)
  have c2 := mShowHd_eq (h, t, la, va, ne, da)
  have hz := showHead_size (h, t, la, va, ne, da)
  have c3 := mShort_eq (showHead (h, t, la, va, ne, da)) (by omega)
  dsimp only [aHd] at c1 c2
  simp only [initS, argPV, List.map_cons, List.map_nil, toPL, Nat.zero_add]
  by_cases hv : headOk (h, t, la, va, ne, da)
  · have e := headId_yes hv
    rw [decide_eq_true hv] at c1
    clear hv
    generalize showHead (h, t, la, va, ne, da) = x at *
    repeat (first | with_reducible (first | apply W.seq | apply W.block | apply W.skip | apply W.exit | apply W.ret | apply At.seqN | apply At.blkN | apply At.blkE | apply At.blkR | apply At.thenX | apply At.thenR | apply At.blkX rfl) | ((with_reducible apply W.ops); (repeat (first | refine WL.opA hΓ (h := ?_) | refine WL.opX hΓ (h := ?_) | refine WL.opY (h := ?_) | refine WL.opZ (h := ?_))); with_reducible apply WL.nil) | refine W.condT (h := ?_) | refine W.condF (h := ?_))
    refine At.retA (by rw [Tryz.results134]) (he := ?_)
    rw [e]
  · have e := headId_no hv
    rw [decide_eq_false hv] at c1
    clear hv
    repeat (first | with_reducible (first | apply W.seq | apply W.block | apply W.skip | apply W.exit | apply W.ret | apply At.seqN | apply At.blkN | apply At.blkE | apply At.blkR | apply At.thenX | apply At.thenR | apply At.blkX rfl) | ((with_reducible apply W.ops); (repeat (first | refine WL.opA hΓ (h := ?_) | refine WL.opX hΓ (h := ?_) | refine WL.opY (h := ?_) | refine WL.opZ (h := ?_))); with_reducible apply WL.nil) | refine W.condT (h := ?_) | refine W.condF (h := ?_))
    refine At.retA (by rw [Tryz.results134]) (he := ?_)
    rw [e]
    rfl
/-- an anchor: a header and the validators behind it -/
abbrev TAnchor := THeader × List TVal
abbrev aAn (a : TAnchor) : Arg := .val true [.sc (.int .i64 a.1.1), .sc (.int .i64 a.1.2.1), .sc (.string a.1.2.2.1), .sc (.string a.1.2.2.2.1), .sc (.string a.1.2.2.2.2.1), .sc (.string a.1.2.2.2.2.2), .sl (rowsF cVal a.2)]
theorem aAn_inj : ∀ x y : TAnchor, [aAn x] = [aAn y] → x = y := by
  rintro ⟨⟨a, b, c, d, e, f⟩, l⟩ ⟨⟨a', b', c', d', e', f'⟩, l'⟩ h
  simpa [aAn, and_assoc] using h
def anchorOk (a : TAnchor) : Prop := headOk a.1 ∧ valsOk a.2 ∧ vhash a.2 = a.1.2.2.2.2.1
instance (a : TAnchor) : Decidable (anchorOk a) := by unfold anchorOk; infer_instance
noncomputable def mAnchor := mdl (fun a : TAnchor => a.2.length ≤ 8796093022207) (fun a => [aAn a]) (fun a => rB (decide (anchorOk a)))
theorem mAnchor_eq (a : TAnchor) (h : a.2.length ≤ 8796093022207) : mAnchor [aAn a] = some (rB (decide (anchorOk a))) := mdl_eq aAn_inj a h
theorem anchorS_s : Sound Tryz.prog 40 mAnchor := by
  refine Sound.mdl Tryz.func40 rfl Tryz.ntmps40 ?_
  rintro ⟨⟨h, t, la, va, ne, da⟩, l⟩ w hl
  refine ⟨by simp, ?_⟩
  replace hl : l.length ≤ 8796093022207 := hl
  have hΓ : GSound Tryz.prog (look [(83, mHead), (75, mVals), (59, mVHash)]) := env_cons (has_of Tryz.func83 rfl rfl) headS_s (env_cons (has_of Tryz.func75 rfl rfl) valsS_s (env_cons (has_of Tryz.func59 rfl rfl) vhashS_s env_nil))
  have c1 := mHead_eq (h, t, la, va, ne, da)
  have c2 := mVals_eq l hl
  have c3 := mVHash_eq l hl
  dsimp only [aHd] at c1
  have key : decide (anchorOk ((h, t, la, va, ne, da), l)) = (decide (headOk (h, t, la, va, ne, da)) && (decide (valsOk l) && decide (vhash l = ne))) := by
    rw [Bool.eq_iff_iff]
    simp only [Bool.and_eq_true, decide_eq_true_eq]
    exact Iff.rfl
  simp only [initS, argPV, List.map_cons, List.map_nil, toPL, Nat.zero_add]
  generalize vhash l = x at *
  cases hd : decide (headOk (h, t, la, va, ne, da)) with
  | false =>
    rw [hd] at c1 key
    repeat (first | with_reducible (first | apply W.seq | apply W.block | apply W.skip | apply W.exit | apply W.ret | apply At.seqN | apply At.blkN | apply At.blkE | apply At.blkR | apply At.thenX | apply At.thenR | apply At.blkX rfl) | ((with_reducible apply W.ops); (repeat (first | refine WL.opA hΓ (h := ?_) | refine WL.opX hΓ (h := ?_) | refine WL.opY (h := ?_) | refine WL.opZ (h := ?_))); with_reducible apply WL.nil) | refine W.condT (h := ?_) | refine W.condF (h := ?_))
    refine W.drawsA hΓ 18 [[], [0], [0, 1], [0, 1, 2], [0, 1, 2, 3], [0, 1, 2, 3, 4], [0, 1, 2, 3, 4, 5], [0, 1, 2, 3, 4, 5, 6], [0, 1, 2, 3, 4, 5, 6, 7], [0, 1, 2, 3, 4, 5, 6, 7, 8], [0, 1, 2, 3, 4, 5, 6, 7, 8, 9], [0, 1, 2, 3, 4, 5, 6, 7, 8, 9, 10], [0, 1, 2, 3, 4, 5, 6, 7, 8], [0, 1, 2, 3, 4, 5, 6, 7, 8, 12], [0, 1, 2, 3, 4, 5, 6, 7, 8, 12, 13], [0, 1, 2, 3, 4, 5, 6, 7, 8, 9, 10, 11, 12, 13, 14], [0, 1, 2, 3, 4, 5, 6, 7, 8, 9, 10, 11, 12, 13, 14, 15], [0, 1, 2, 3, 4, 5, 6, 7, 8, 9, 10, 11, 12, 13, 14, 15, 16]] (rest := ?rest48) (Es := ?Es48) (st1 := ?st148) (h := ?h48) (hf := ?hf48) (hp := ?hp48) (hd := ?hd48) (hfr := ?hfr48) (hst := ?hst48) (hT := ?hT48)
    case h48 => kernel_rfl
    case hf48 =>
      repeat (first | refine FlowT.opA (h := ?_) | refine FlowT.opX (h := ?_) | refine FlowT.opY (h := ?_) | refine FlowT.opZ (h := ?_))
      exact FlowT.done
    case hp48 => rfl
    case hd48 => rfl
    case hfr48 => rfl
    case hst48 =>
      simp only [pick_nil, pick_all, List.cons_append, List.nil_append]
      rfl
    (repeat (first | refine WL.opA hΓ (h := ?_) | refine WL.opX hΓ (h := ?_) | refine WL.opY (h := ?_) | refine WL.opZ (h := ?_)))
    with_reducible apply WL.nil
    repeat (first | with_reducible (first | apply W.seq | apply W.block | apply W.skip | apply W.exit | apply W.ret | apply At.seqN | apply At.blkN | apply At.blkE | apply At.blkR | apply At.thenX | apply At.thenR | apply At.blkX rfl) | ((with_reducible apply W.ops); (repeat (first | refine WL.opA hΓ (h := ?_) | refine WL.opX hΓ (h := ?_) | refine WL.opY (h := ?_) | refine WL.opZ (h := ?_))); with_reducible apply WL.nil) | refine W.condT (h := ?_) | refine W.condF (h := ?_))
    refine At.retA (by rw [Tryz.results40]) (he := ?_)
    rw [key]
    rfl
  | true =>
    rw [hd] at c1 key
    cases hv : decide (valsOk l) with
    | false =>
      rw [hv] at c2 key
      repeat (first | with_reducible (first | apply W.seq | apply W.block | apply W.skip | apply W.exit | apply W.ret | apply At.seqN | apply At.blkN | apply At.blkE | apply At.blkR | apply At.thenX | apply At.thenR | apply At.blkX rfl) | ((with_reducible apply W.ops); (repeat (first | refine WL.opA hΓ (h := ?_) | refine WL.opX hΓ (h := ?_) | refine WL.opY (h := ?_) | refine WL.opZ (h := ?_))); with_reducible apply WL.nil) | refine W.condT (h := ?_) | refine W.condF (h := ?_))
      refine W.drawsA hΓ 18 [[], [0], [0, 1], [0, 1, 2], [0, 1, 2, 3], [0, 1, 2, 3, 4], [0, 1, 2, 3, 4, 5], [0, 1, 2, 3, 4, 5, 6], [0, 1, 2, 3, 4, 5, 6, 7], [0, 1, 2, 3, 4, 5, 6, 7, 8], [0, 1, 2, 3, 4, 5, 6, 7, 8, 9], [0, 1, 2, 3, 4, 5, 6, 7, 8, 9, 10], [0, 1, 2, 3, 4, 5, 6, 7, 8], [0, 1, 2, 3, 4, 5, 6, 7, 8, 12], [0, 1, 2, 3, 4, 5, 6, 7, 8, 12, 13], [0, 1, 2, 3, 4, 5, 6, 7, 8, 9, 10, 11, 12, 13, 14], [0, 1, 2, 3, 4, 5, 6, 7, 8, 9, 10, 11, 12, 13, 14, 15], [0, 1, 2, 3, 4, 5, 6, 7, 8, 9, 10, 11, 12, 13, 14, 15, 16]] (rest := ?rest52) (Es := ?Es52) (st1 := ?st152) (h := ?h52) (hf := ?hf52) (hp := ?hp52) (hd := ?hd52) (hfr := ?hfr52) (hst := ?hst52) (hT := ?hT52)
      case h52 => kernel_rfl
      case hf52 =>
        repeat (first | refine FlowT.opA (h := ?_) | refine FlowT.opX (h := ?_) | refine FlowT.opY (h := ?_) | refine FlowT.opZ (h := ?_))
        exact FlowT.done
      case hp52 => rfl
      case hd52 => rfl
      case hfr52 => rfl
      case hst52 =>
        simp only [pick_nil, pick_all, List.cons_append, List.nil_append]
        rfl
      (repeat (first | refine WL.opA hΓ (h := ?_) | refine WL.opX hΓ (h := ?_) | refine WL.opY (h := ?_) | refine WL.opZ (h := ?_)))
      with_reducible apply WL.nil
      repeat (first | with_reducible (first | apply W.seq | apply W.block | apply W.skip | apply W.exit | apply W.ret | apply At.seqN | apply At.blkN | apply At.blkE | apply At.blkR | apply At.thenX | apply At.thenR | apply At.blkX rfl) | ((with_reducible apply W.ops); (repeat (first | refine WL.opA hΓ (h := ?_) | refine WL.opX hΓ (h := ?_) | refine WL.opY (h := ?_) | refine WL.opZ (h := ?_))); with_reducible apply WL.nil) | refine W.condT (h := ?_) | refine W.condF (h := ?_))
      refine At.retA (by rw [Tryz.results40]) (he := ?_)
      rw [key]
      rfl
    | true =>
      rw [hv] at c2 key
      repeat (first | with_reducible (first | apply W.seq | apply W.block | apply W.skip | apply W.exit | apply W.ret | apply At.seqN | apply At.blkN | apply At.blkE | apply At.blkR | apply At.thenX | apply At.thenR | apply At.blkX rfl) | ((with_reducible apply W.ops); (repeat (first | refine WL.opA hΓ (h := ?_) | refine WL.opX hΓ (h := ?_) | refine WL.opY (h := ?_) | refine WL.opZ (h := ?_))); with_reducible apply WL.nil) | refine W.condT (h := ?_) | refine W.condF (h := ?_))
      refine W.drawsA hΓ 18 [[], [0], [0, 1], [0, 1, 2], [0, 1, 2, 3], [0, 1, 2, 3, 4], [0, 1, 2, 3, 4, 5], [0, 1, 2, 3, 4, 5, 6], [0, 1, 2, 3, 4, 5, 6, 7], [0, 1, 2, 3, 4, 5, 6, 7, 8], [0, 1, 2, 3, 4, 5, 6, 7, 8, 9], [0, 1, 2, 3, 4, 5, 6, 7, 8, 9, 10], [0, 1, 2, 3, 4, 5, 6, 7, 8], [0, 1, 2, 3, 4, 5, 6, 7, 8, 12], [0, 1, 2, 3, 4, 5, 6, 7, 8, 12, 13], [0, 1, 2, 3, 4, 5, 6, 7, 8, 9, 10, 11, 12, 13, 14], [0, 1, 2, 3, 4, 5, 6, 7, 8, 9, 10, 11, 12, 13, 14, 15], [0, 1, 2, 3, 4, 5, 6, 7, 8, 9, 10, 11, 12, 13, 14, 15, 16]] (rest := ?rest56) (Es := ?Es56) (st1 := ?st156) (h := ?h56) (hf := ?hf56) (hp := ?hp56) (hd := ?hd56) (hfr := ?hfr56) (hst := ?hst56) (hT := ?hT56)
      case h56 => kernel_rfl
      case hf56 =>
        repeat (first | refine FlowT.opA (h := ?_) | refine FlowT.opX (h := ?_) | refine FlowT.opY (h := ?_) | refine FlowT.opZ (h := ?_))
        exact FlowT.done
      case hp56 => rfl
      case hd56 => rfl
      case hfr56 => rfl
      case hst56 =>
        simp only [pick_nil, pick_all, List.cons_append, List.nil_append]
        rfl
      (repeat (first | refine WL.opA hΓ (h := ?_) | refine WL.opX hΓ (h := ?_) | refine WL.opY (h := ?_) | refine WL.opZ (h := ?_)))
      with_reducible apply WL.nil
      repeat (first | with_reducible (first | apply W.seq | apply W.block | apply W.skip | apply W.exit | apply W.ret | apply At.seqN | apply At.blkN | apply At.blkE | apply At.blkR | apply At.thenX | apply At.thenR | apply At.blkX rfl) | ((with_reducible apply W.ops); (repeat (first | refine WL.opA hΓ (h := ?_) | refine WL.opX hΓ (h := ?_) | refine WL.opY (h := ?_) | refine WL.opZ (h := ?_))); with_reducible apply WL.nil) | refine W.condT (h := ?_) | refine W.condF (h := ?_))
      refine At.retA (by rw [Tryz.results40]) (he := ?_)
      rw [key]
      rfl
theorem anchorI_s : Sound Tryz.prog 88 mAnchor := by
  refine Sound.mdl Tryz.func88 rfl Tryz.ntmps88 ?_
  rintro ⟨⟨h, t, la, va, ne, da⟩, l⟩ w hl
  refine ⟨by simp, ?_⟩
  replace hl : l.length ≤ 8796093022207 := hl
  have hΓ : GSound Tryz.prog (look [(117, mHead), (118, mVHash)]) := env_cons (has_of Tryz.func117 rfl rfl) headI_s (env_cons (has_of Tryz.func118 rfl rfl) vhashI_s env_nil)
  have c1 := mHead_eq (h, t, la, va, ne, da)
  have c3 := mVHash_eq l hl
  dsimp only [aHd] at c1
  have key : decide (anchorOk ((h, t, la, va, ne, da), l)) = (decide (headOk (h, t, la, va, ne, da)) && decide (vhash l = ne)) := by
    by_cases ho : headOk (h, t, la, va, ne, da)
    · by_cases hv : valsOk l
      · simp [anchorOk, ho, hv]
      · have hn : ¬ vhash l = ne := fun e => by
          have h1 : (ne.size : Int) = 8 := ho.2.2.2.1
          rw [← e, vhash_no hv] at h1
          simp at h1
        simp [anchorOk, hv, hn]
    · simp [anchorOk, ho]
  simp only [initS, argPV, List.map_cons, List.map_nil, toPL, Nat.zero_add]
  generalize vhash l = x at *
  cases hd : decide (headOk (h, t, la, va, ne, da)) with
  | false =>
    rw [hd] at c1 key
    repeat (first | with_reducible (first | apply W.seq | apply W.block | apply W.skip | apply W.exit | apply W.ret | apply At.seqN | apply At.blkN | apply At.blkE | apply At.blkR | apply At.thenX | apply At.thenR | apply At.blkX rfl) | ((with_reducible apply W.ops); (repeat (first | refine WL.opA hΓ (h := ?_) | refine WL.opX hΓ (h := ?_) | refine WL.opY (h := ?_) | refine WL.opZ (h := ?_))); with_reducible apply WL.nil) | refine W.condT (h := ?_) | refine W.condF (h := ?_))
    refine W.drawsA hΓ 13 [[], [0], [0, 1], [0, 1, 2], [0, 1, 2, 3], [0, 1, 2, 3, 4], [0, 1, 2, 3, 4, 5], [0, 1, 2, 3], [0, 1, 2, 3, 7], [0, 1, 2, 3, 7, 8], [0, 1, 2, 3, 4, 5, 6, 7, 8, 9], [0, 1, 2, 3, 4, 5, 6, 7, 8, 9, 10], [0, 1, 2, 3, 4, 5, 6, 7, 8, 9, 10, 11]] (rest := ?rest62) (Es := ?Es62) (st1 := ?st162) (h := ?h62) (hf := ?hf62) (hp := ?hp62) (hd := ?hd62) (hfr := ?hfr62) (hst := ?hst62) (hT := ?hT62)
    case h62 => kernel_rfl
    case hf62 =>
      repeat (first | refine FlowT.opA (h := ?_) | refine FlowT.opX (h := ?_) | refine FlowT.opY (h := ?_) | refine FlowT.opZ (h := ?_))
      exact FlowT.done
    case hp62 => rfl
    case hd62 => rfl
    case hfr62 => rfl
    case hst62 =>
      simp only [pick_nil, pick_all, List.cons_append, List.nil_append]
      rfl
    (repeat (first | refine WL.opA hΓ (h := ?_) | refine WL.opX hΓ (h := ?_) | refine WL.opY (h := ?_) | refine WL.opZ (h := ?_)))
    with_reducible apply WL.nil
    repeat (first | with_reducible (first | apply W.seq | apply W.block | apply W.skip | apply W.exit | apply W.ret | apply At.seqN | apply At.blkN | apply At.blkE | apply At.blkR | apply At.thenX | apply At.thenR | apply At.blkX rfl) | ((with_reducible apply W.ops); (repeat (first | refine WL.opA hΓ (h := ?_) | refine WL.opX hΓ (h := ?_) | refine WL.opY (h := ?_) | refine WL.opZ (h := ?_))); with_reducible apply WL.nil) | refine W.condT (h := ?_) | refine W.condF (h := ?_))
    refine At.retA (by rw [Tryz.results88]) (he := ?_)
    rw [key]
    rfl
  | true =>
    rw [hd] at c1 key
    repeat (first | with_reducible (first | apply W.seq | apply W.block | apply W.skip | apply W.exit | apply W.ret | apply At.seqN | apply At.blkN | apply At.blkE | apply At.blkR | apply At.thenX | apply At.thenR | apply At.blkX rfl) | ((with_reducible apply W.ops); (repeat (first | refine WL.opA hΓ (h := ?_) | refine WL.opX hΓ (h := ?_) | refine WL.opY (h := ?_) | refine WL.opZ (h := ?_))); with_reducible apply WL.nil) | refine W.condT (h := ?_) | refine W.condF (h := ?_))
    refine W.drawsA hΓ 13 [[], [0], [0, 1], [0, 1, 2], [0, 1, 2, 3], [0, 1, 2, 3, 4], [0, 1, 2, 3, 4, 5], [0, 1, 2, 3], [0, 1, 2, 3, 7], [0, 1, 2, 3, 7, 8], [0, 1, 2, 3, 4, 5, 6, 7, 8, 9], [0, 1, 2, 3, 4, 5, 6, 7, 8, 9, 10], [0, 1, 2, 3, 4, 5, 6, 7, 8, 9, 10, 11]] (rest := ?rest66) (Es := ?Es66) (st1 := ?st166) (h := ?h66) (hf := ?hf66) (hp := ?hp66) (hd := ?hd66) (hfr := ?hfr66) (hst := ?hst66) (hT := ?hT66)
    case h66 => kernel_rfl
    case hf66 =>
      repeat (first | refine FlowT.opA (h := ?_) | refine FlowT.opX (h := ?_) | refine FlowT.opY (h := ?_) | refine FlowT.opZ (h := ?_))
      exact FlowT.done
    case hp66 => rfl
    case hd66 => rfl
    case hfr66 => rfl
    case hst66 =>
      simp only [pick_nil, pick_all, List.cons_append, List.nil_append]
      rfl
    (repeat (first | refine WL.opA hΓ (h := ?_) | refine WL.opX hΓ (h := ?_) | refine WL.opY (h := ?_) | refine WL.opZ (h := ?_)))
    with_reducible apply WL.nil
    repeat (first | with_reducible (first | apply W.seq | apply W.block | apply W.skip | apply W.exit | apply W.ret | apply At.seqN | apply At.blkN | apply At.blkE | apply At.blkR | apply At.thenX | apply At.thenR | apply At.blkX rfl) | ((with_reducible apply W.ops); (repeat (first | refine WL.opA hΓ (h := ?_) | refine WL.opX hΓ (h := ?_) | refine WL.opY (h := ?_) | refine WL.opZ (h := ?_))); with_reducible apply WL.nil) | refine W.condT (h := ?_) | refine W.condF (h := ?_))
    refine At.retA (by rw [Tryz.results88]) (he := ?_)
    rw [key]
    rfl
end Go.Proofs.YtimnogjgokljbaaGreatDoor
