/-
  The laws' own functions for a row of texts: its size, copy, equality.
-/
import Derived.Test.YtilgmdgipeimaaaDoorEvGrown
namespace Go.Proofs.YtilgmdgipeimaaaDoor
set_option maxRecDepth 100000
set_option linter.unusedVariables false
set_option linter.unusedSimpArgs false
open Go Go.RowKit
set_option maxHeartbeats 4000000

def szI (tot left : Int) : Int := if tot ≤ left then left - tot else -1
theorem szI_yes {tot left : Int} (h : tot ≤ left) : szI tot left = left - tot := if_pos h
theorem szI_no {tot left : Int} (h : ¬ tot ≤ left) : szI tot left = -1 := if_neg h
def bsz (x : ByteArray) : Int := (x.size : Int)
def strT (l : List ByteArray) : Int := l.length + (l.map bsz).sum
theorem sum_nonneg : ∀ {l : List ByteArray}, 0 ≤ (l.map bsz).sum
  | [] => by simp
  | x :: l => by
    have := sum_nonneg (l := l)
    simp only [List.map_cons, List.sum_cons]
    unfold bsz at *
    omega
theorem sumK_le (l : List ByteArray) (k : Nat) : 0 ≤ sumK bsz l k ∧ sumK bsz l k ≤ (l.map bsz).sum := by
  have h1 := sum_nonneg (l := l.take k)
  have h2 := sum_nonneg (l := l.drop k)
  have h3 : (l.map bsz).sum = ((l.take k).map bsz).sum + ((l.drop k).map bsz).sum := by rw [← List.sum_append, ← List.map_append, List.take_append_drop]
  unfold sumK
  omega
theorem elem_le {l : List ByteArray} {x : ByteArray} (h : x ∈ l) : bsz x ≤ (l.map bsz).sum := by
  obtain ⟨k, hk, rfl⟩ := List.getElem_of_mem h
  have h1 := sumK_succ bsz hk
  have h2 := (sumK_le l k).1
  have h3 := (sumK_le l (k + 1)).2
  omega
theorem okP_of {l : List ByteArray} (h : strT l ≤ 1048576) : okP l := by
  have h1 := sum_nonneg (l := l)
  unfold strT at h
  refine ⟨by omega, fun x hx => ?_⟩
  have := elem_le hx
  unfold bsz at *
  omega
abbrev okSS (x : List ByteArray × Int) : Prop := x.1.length ≤ 9223372036854775807 ∧ (∀ y ∈ x.1, y.size ≤ 9223372036854775807) ∧ 0 ≤ x.2 ∧ x.2 ≤ 1048576
noncomputable def mSzSS := mdl okSS (fun x => [aL cStr x.1, aI x.2]) (fun x => rI (szI (strT x.1) x.2))
theorem mSzSS_eq (l : List ByteArray) (n : Int) (h : okSS (l, n)) : mSzSS [aL cStr l, aI n] = some (rI (szI (strT l) n)) := mdl_eq (by rintro ⟨a, b⟩ ⟨d, e⟩ h; simpa using h) (l, n) h
theorem szSS_s : Sound Tryd.prog 11 mSzSS := by
  refine Sound.mdl Tryd.func11 rfl Tryd.ntmps11 ?_
  rintro ⟨l, n⟩ w ⟨hl, hy, n1, n2⟩
  refine ⟨by simp, ?_⟩
  dsimp only at hl hy n1 n2
  have hΓ : GSound Tryd.prog (look []) := env_nil
  have hlen := rowsF_len cStr l
  have hnn := sum_nonneg (l := l)
  have ht : strT l = l.length + (l.map bsz).sum := rfl
  simp only [initS, argPV, List.map_cons, List.map_nil, toPL, Nat.zero_add]
  by_cases b0 : (l.length : Int) ≤ n
  · repeat (first | with_reducible apply W.seq | with_reducible apply W.block | with_reducible apply W.skip | with_reducible apply W.exit | with_reducible apply W.ret | with_reducible apply At.seqN | with_reducible apply At.blkN | with_reducible apply At.blkE | with_reducible apply At.blkR | with_reducible apply At.thenX | with_reducible apply At.thenR | with_reducible apply At.blkX rfl | ((with_reducible apply W.ops); (repeat (first | refine WL.opA hΓ (h := ?_) | refine WL.opX hΓ (h := ?_) | refine WL.opY (h := ?_) | refine WL.opZ (h := ?_))); with_reducible apply WL.nil) | refine W.condT (h := ?_) | refine W.condF (h := ?_))
    have hz : n - (l.length : Int) = n - l.length - sumK bsz l 0 := by rw [sumK_zero]; omega
    refine W.loopA (fun k => k ≤ l.length ∧ (l.length : Int) + sumK bsz l k ≤ n) (fun k : Nat => [.slot 5 (vI k), .slot 1 (vI (n - l.length - sumK bsz l k)), .slot 0 (vL cStr l)]) (fun k => l.length - k) 0 ⟨Nat.zero_le _, by rw [sumK_zero]; omega⟩ (by rw [← hz]; clear hz; simp (disch := omega) only [Sub, SubL, getS_hit, getS_miss, getS_blk, getS_kill, getS_nil, getB_nil, getB_slot, getB_hit, getB_miss, getB_kill0, getB_kill1, lsNms, vsNms, PL.nms, PV.nms, Blk.nms, bound, PV.kill, PL.kill, PL.names, List.append_nil, List.nil_append, List.cons_append, and_true, true_and, and_self, *] <;> (repeat' apply And.intro) <;> rfl) (h := ?_)
    clear hz
    rintro k ⟨hk, hs⟩
    have hk0 := sumK_le l k
    by_cases hlt : k < l.length
    · have hrow := row_s hlt
      have hnx := sumK_succ bsz hlt
      have hk1 := sumK_le l (k + 1)
      have hg : l[k] = l.getD k ByteArray.empty := by rw [List.getD_eq_getElem?_getD, List.getElem?_eq_getElem hlt]; rfl
      have hsz : (l.getD k ByteArray.empty).size ≤ 9223372036854775807 := by rw [← hg]; exact hy _ (List.getElem_mem hlt)
      rw [hg] at hnx
      unfold bsz at hnx
      change sumK bsz l (k + 1) = sumK bsz l k + ((l.getD k ByteArray.empty).size : Int) at hnx
      have e1 : n - (l.length : Int) - sumK bsz l k - ((l.getD k ByteArray.empty).size : Int) = n - l.length - sumK bsz l (k + 1) := by omega
      clear hy hg
      generalize l.getD k ByteArray.empty = x at *
      generalize sumK bsz l k = S at *
      obtain ⟨S2, hS2⟩ : ∃ S2, S2 = sumK bsz l (k + 1) := ⟨_, rfl⟩
      rw [← hS2] at hnx hk1 e1
      by_cases b1 : (l.length : Int) + S2 ≤ n
      · repeat (first | with_reducible apply W.seq | with_reducible apply W.block | with_reducible apply W.skip | with_reducible apply W.exit | with_reducible apply W.ret | with_reducible apply At.seqN | with_reducible apply At.blkN | with_reducible apply At.blkE | with_reducible apply At.blkR | with_reducible apply At.thenX | with_reducible apply At.thenR | with_reducible apply At.blkX rfl | ((with_reducible apply W.ops); (repeat (first | refine WL.opA hΓ (h := ?_) | refine WL.opX hΓ (h := ?_) | refine WL.opY (h := ?_) | refine WL.opZ (h := ?_))); with_reducible apply WL.nil) | refine W.condT (h := ?_) | refine W.condF (h := ?_))
        subst hS2
        exact At.roundA (k + 1) ⟨by omega, b1⟩ (by omega)
      · have hr := szI_no (tot := strT l) (left := n) (by omega)
        repeat (first | with_reducible apply W.seq | with_reducible apply W.block | with_reducible apply W.skip | with_reducible apply W.exit | with_reducible apply W.ret | with_reducible apply At.seqN | with_reducible apply At.blkN | with_reducible apply At.blkE | with_reducible apply At.blkR | with_reducible apply At.thenX | with_reducible apply At.thenR | with_reducible apply At.blkX rfl | ((with_reducible apply W.ops); (repeat (first | refine WL.opA hΓ (h := ?_) | refine WL.opX hΓ (h := ?_) | refine WL.opY (h := ?_) | refine WL.opZ (h := ?_))); with_reducible apply WL.nil) | refine W.condT (h := ?_) | refine W.condF (h := ?_))
        refine At.retA (by rw [Tryd.results11]) (he := ?_)
        rw [hr]
    · have hk2 : k = l.length := by omega
      have hall : sumK bsz l k = (l.map bsz).sum := sumK_all bsz (by omega)
      have hr := szI_yes (tot := strT l) (left := n) (by omega)
      generalize sumK bsz l k = S at *
      clear hy
      repeat (first | with_reducible apply W.seq | with_reducible apply W.block | with_reducible apply W.skip | with_reducible apply W.exit | with_reducible apply W.ret | with_reducible apply At.seqN | with_reducible apply At.blkN | with_reducible apply At.blkE | with_reducible apply At.blkR | with_reducible apply At.thenX | with_reducible apply At.thenR | with_reducible apply At.blkX rfl | ((with_reducible apply W.ops); (repeat (first | refine WL.opA hΓ (h := ?_) | refine WL.opX hΓ (h := ?_) | refine WL.opY (h := ?_) | refine WL.opZ (h := ?_))); with_reducible apply WL.nil) | refine W.condT (h := ?_) | refine W.condF (h := ?_))
      refine At.retA (by rw [Tryd.results11]) (he := ?_)
      rw [hr, ht]
      congr 5
      omega
  · have hr := szI_no (tot := strT l) (left := n) (by omega)
    clear hy
    repeat (first | with_reducible apply W.seq | with_reducible apply W.block | with_reducible apply W.skip | with_reducible apply W.exit | with_reducible apply W.ret | with_reducible apply At.seqN | with_reducible apply At.blkN | with_reducible apply At.blkE | with_reducible apply At.blkR | with_reducible apply At.thenX | with_reducible apply At.thenR | with_reducible apply At.blkX rfl | ((with_reducible apply W.ops); (repeat (first | refine WL.opA hΓ (h := ?_) | refine WL.opX hΓ (h := ?_) | refine WL.opY (h := ?_) | refine WL.opZ (h := ?_))); with_reducible apply WL.nil) | refine W.condT (h := ?_) | refine W.condF (h := ?_))
    refine At.retA (by rw [Tryd.results11]) (he := ?_)
    rw [hr]
theorem rowsF_repS (n : Nat) (x : ByteArray) : rowsF cStr (List.replicate n x) = List.replicate n [Leaf.sc (.string x)] := List.map_replicate
theorem padS_len {α : Type} (z : α) (l : List α) {k : Nat} (h : k ≤ l.length) : (l.take k ++ List.replicate (l.length - k) z).length = l.length := by simp; omega
def padT (l : List ByteArray) (k : Nat) : List ByteArray := l.take k ++ List.replicate (l.length - k) ByteArray.empty
theorem padT_len (l : List ByteArray) {k : Nat} (h : k ≤ l.length) : (padT l k).length = l.length := padS_len _ l h
theorem padT_all (l : List ByteArray) : padT l l.length = l := by simp [padT]
theorem padT_zero (l : List ByteArray) : padT l 0 = List.replicate l.length ByteArray.empty := by simp [padT]
theorem padT_get (l : List ByteArray) {k : Nat} (h : k < l.length) : (padT l k)[k]? = some ByteArray.empty := by
  unfold padT
  rw [List.getElem?_append_right (by simp; omega), List.length_take, Nat.min_eq_left (by omega), Nat.sub_self, List.getElem?_replicate, if_pos (by omega)]
theorem padT_set (l : List ByteArray) {k : Nat} (h : k < l.length) : (padT l k).set k l[k] = padT l (k + 1) := by
  have hl : (l.take k).length = k := by rw [List.length_take]; omega
  have hr : l.length - k = (l.length - (k + 1)) + 1 := by omega
  unfold padT
  rw [List.set_append_right _ _ (by omega), hl, Nat.sub_self, hr, List.replicate_succ, List.set_cons_zero, List.take_succ_eq_append_getElem h, List.append_assoc]
  rfl
noncomputable def mToSS := mdl (fun l : List ByteArray => l.length ≤ 1048576) (fun l => [aL cStr l]) (fun l => rL 9 1 cStr l)
theorem mToSS_eq (l : List ByteArray) (h : l.length ≤ 1048576) : mToSS [aL cStr l] = some (rL 9 1 cStr l) := mdl_eq aL_inj1 l h
theorem toSS_s : Sound Tryd.prog 13 mToSS := by
  refine Sound.mdl Tryd.func13 rfl Tryd.ntmps13 ?_
  rintro l w hl
  refine ⟨by simp, ?_⟩
  replace hl : l.length ≤ 1048576 := hl
  have hΓ : GSound Tryd.prog (look []) := env_nil
  have hlen := rowsF_len cStr l
  have hz : List.replicate l.length [Leaf.sc (.string ByteArray.empty)] = rowsF cStr (padT l 0) := by rw [padT_zero]; exact (rowsF_repS _ _).symm
  simp only [initS, argPV, List.map_cons, List.map_nil, toPL, Nat.zero_add]
  repeat (first | with_reducible apply W.seq | with_reducible apply W.block | with_reducible apply W.skip | with_reducible apply W.exit | with_reducible apply W.ret | with_reducible apply At.seqN | with_reducible apply At.blkN | with_reducible apply At.blkE | with_reducible apply At.blkR | with_reducible apply At.thenX | with_reducible apply At.thenR | with_reducible apply At.blkX rfl | ((with_reducible apply W.ops); (repeat (first | refine WL.opA hΓ (h := ?_) | refine WL.opX hΓ (h := ?_) | refine WL.opY (h := ?_) | refine WL.opZ (h := ?_))); with_reducible apply WL.nil) | refine W.condT (h := ?_) | refine W.condF (h := ?_))
  refine W.loopA (fun k => k ≤ l.length) (fun k : Nat => [.slot 4 (vI k), .slot 0 (vL cStr l), .slot 3 (one (.all 7)), .blk 7 (.arr true 9 1 (rowsF cStr (padT l k)))]) (fun k => l.length - k) 0 (Nat.zero_le _) (h := ?_)
  rintro k hk
  clear hz
  have hpl := padT_len l hk
  have hpr := rowsF_len cStr (padT l k)
  by_cases hlt : k < l.length
  · have hrow := row_s hlt
    have hset : (rowsF cStr (padT l k)).set k [.sc (.string (l.getD k ByteArray.empty))] = rowsF cStr (padT l (k + 1)) := by
      rw [← padT_set l hlt, ← rowsF_set, List.getD_eq_getElem?_getD, List.getElem?_eq_getElem hlt]
      rfl
    have hold : (rowsF cStr (padT l k))[k]? = some [.sc (.string ByteArray.empty)] := by
      unfold rowsF
      rw [List.getElem?_map, padT_get l hlt]
      rfl
    generalize l.getD k ByteArray.empty = x at hrow hset
    repeat (first | with_reducible apply W.seq | with_reducible apply W.block | with_reducible apply W.skip | with_reducible apply W.exit | with_reducible apply W.ret | with_reducible apply At.seqN | with_reducible apply At.blkN | with_reducible apply At.blkE | with_reducible apply At.blkR | with_reducible apply At.thenX | with_reducible apply At.thenR | with_reducible apply At.blkX rfl | ((with_reducible apply W.ops); (repeat (first | refine WL.opA hΓ (h := ?_) | refine WL.opX hΓ (h := ?_) | refine WL.opY (h := ?_) | refine WL.opZ (h := ?_))); with_reducible apply WL.nil) | refine W.condT (h := ?_) | refine W.condF (h := ?_))
    exact At.roundA (k + 1) (by omega) (by omega)
  · have hke : k = l.length := by omega
    subst hke
    repeat (first | with_reducible apply W.seq | with_reducible apply W.block | with_reducible apply W.skip | with_reducible apply W.exit | with_reducible apply W.ret | with_reducible apply At.seqN | with_reducible apply At.blkN | with_reducible apply At.blkE | with_reducible apply At.blkR | with_reducible apply At.thenX | with_reducible apply At.thenR | with_reducible apply At.blkX rfl | ((with_reducible apply W.ops); (repeat (first | refine WL.opA hΓ (h := ?_) | refine WL.opX hΓ (h := ?_) | refine WL.opY (h := ?_) | refine WL.opZ (h := ?_))); with_reducible apply WL.nil) | refine W.condT (h := ?_) | refine W.condF (h := ?_))
    refine At.retA (by rw [Tryd.results13]) (he := ?_)
    rw [padT_all]
theorem list_eqS {a b : List ByteArray} (hl : a.length = b.length) (h : ∀ j, j < a.length → a.getD j ByteArray.empty = b.getD j ByteArray.empty) : a = b := by
  refine List.ext_getElem hl fun i h1 h2 => ?_
  have := h i h1
  rwa [List.getD_eq_getElem?_getD, List.getD_eq_getElem?_getD, List.getElem?_eq_getElem h1, List.getElem?_eq_getElem h2] at this
noncomputable def mEqSS := mdl (fun x : List ByteArray × List ByteArray => x.1.length ≤ 8796093022207 ∧ x.2.length ≤ 8796093022207) (fun x => [aL cStr x.1, aL cStr x.2]) (fun x => rB (decide (x.1 = x.2)))
theorem mEqSS_eq (a b : List ByteArray) (h1 : a.length ≤ 8796093022207) (h2 : b.length ≤ 8796093022207) : mEqSS [aL cStr a, aL cStr b] = some (rB (decide (a = b))) := mdl_eq (by rintro ⟨a, b⟩ ⟨d, e⟩ h; simpa using h) (a, b) ⟨h1, h2⟩
theorem eqSS_s : Sound Tryd.prog 15 mEqSS := by
  refine Sound.mdl Tryd.func15 rfl Tryd.ntmps15 ?_
  rintro ⟨a, b⟩ w ⟨ha, hb⟩
  refine ⟨by simp, ?_⟩
  dsimp only at ha hb
  have hΓ : GSound Tryd.prog (look []) := env_nil
  have hl1 := rowsF_len cStr a
  have hl2 := rowsF_len cStr b
  simp only [initS, argPV, List.map_cons, List.map_nil, toPL, Nat.zero_add]
  by_cases hl : a.length = b.length
  · repeat (first | with_reducible apply W.seq | with_reducible apply W.block | with_reducible apply W.skip | with_reducible apply W.exit | with_reducible apply W.ret | with_reducible apply At.seqN | with_reducible apply At.blkN | with_reducible apply At.blkE | with_reducible apply At.blkR | with_reducible apply At.thenX | with_reducible apply At.thenR | with_reducible apply At.blkX rfl | ((with_reducible apply W.ops); (repeat (first | refine WL.opA hΓ (h := ?_) | refine WL.opX hΓ (h := ?_) | refine WL.opY (h := ?_) | refine WL.opZ (h := ?_))); with_reducible apply WL.nil) | refine W.condT (h := ?_) | refine W.condF (h := ?_))
    refine W.loopA (fun k => k ≤ a.length ∧ ∀ j, j < k → a.getD j ByteArray.empty = b.getD j ByteArray.empty) (fun k : Nat => [.slot 5 (vI k), .slot 0 (vL cStr a), .slot 1 (vL cStr b)]) (fun k => a.length - k) 0 ⟨Nat.zero_le _, fun j hj => by omega⟩ (h := ?_)
    rintro k ⟨hk, hI⟩
    by_cases hlt : k < a.length
    · have hr1 := row_s (l := a) hlt
      have hr2 := row_s (l := b) (k := k) (by omega)
      by_cases he : a.getD k ByteArray.empty = b.getD k ByteArray.empty
      · have hnx : ∀ j, j < k + 1 → a.getD j ByteArray.empty = b.getD j ByteArray.empty := fun j hj => by
          rcases Nat.lt_succ_iff_lt_or_eq.1 hj with h1 | rfl
          · exact hI j h1
          · exact he
        clear hI
        generalize a.getD k ByteArray.empty = x at hr1 he
        generalize b.getD k ByteArray.empty = y at hr2 he
        subst he
        repeat (first | with_reducible apply W.seq | with_reducible apply W.block | with_reducible apply W.skip | with_reducible apply W.exit | with_reducible apply W.ret | with_reducible apply At.seqN | with_reducible apply At.blkN | with_reducible apply At.blkE | with_reducible apply At.blkR | with_reducible apply At.thenX | with_reducible apply At.thenR | with_reducible apply At.blkX rfl | ((with_reducible apply W.ops); (repeat (first | refine WL.opA hΓ (h := ?_) | refine WL.opX hΓ (h := ?_) | refine WL.opY (h := ?_) | refine WL.opZ (h := ?_))); with_reducible apply WL.nil) | refine W.condT (h := ?_) | refine W.condF (h := ?_))
        refine W.drawsA hΓ 9 [[], [], [0, 1], [0, 1, 2], [], [], [4, 5], [4, 5, 6], [0, 1, 2, 3, 4, 5, 6, 7]] (rest := ?rest21) (Es := ?Es21) (st1 := ?st121) (h := ?h21) (hf := ?hf21) (hp := ?hp21) (hd := ?hd21) (hfr := ?hfr21) (hst := ?hst21) (hT := ?hT21)
        case h21 => kernel_rfl
        case hf21 =>
          repeat (first | refine FlowT.opA (h := ?_) | refine FlowT.opX (h := ?_) | refine FlowT.opY (h := ?_) | refine FlowT.opZ (h := ?_))
          exact FlowT.done
        case hp21 => rfl
        case hd21 => rfl
        case hfr21 => rfl
        case hst21 =>
          simp only [pick_nil, pick_all, List.cons_append, List.nil_append]
          rfl
        (repeat (first | refine WL.opA hΓ (h := ?_) | refine WL.opX hΓ (h := ?_) | refine WL.opY (h := ?_) | refine WL.opZ (h := ?_)))
        with_reducible apply WL.nil
        repeat (first | with_reducible apply W.seq | with_reducible apply W.block | with_reducible apply W.skip | with_reducible apply W.exit | with_reducible apply W.ret | with_reducible apply At.seqN | with_reducible apply At.blkN | with_reducible apply At.blkE | with_reducible apply At.blkR | with_reducible apply At.thenX | with_reducible apply At.thenR | with_reducible apply At.blkX rfl | ((with_reducible apply W.ops); (repeat (first | refine WL.opA hΓ (h := ?_) | refine WL.opX hΓ (h := ?_) | refine WL.opY (h := ?_) | refine WL.opZ (h := ?_))); with_reducible apply WL.nil) | refine W.condT (h := ?_) | refine W.condF (h := ?_))
        exact At.roundA (k + 1) ⟨by omega, hnx⟩ (by omega)
      · have hne : ¬ a = b := fun e => he (by rw [e])
        clear hI
        generalize a.getD k ByteArray.empty = x at hr1 he
        generalize b.getD k ByteArray.empty = y at hr2 he
        repeat (first | with_reducible apply W.seq | with_reducible apply W.block | with_reducible apply W.skip | with_reducible apply W.exit | with_reducible apply W.ret | with_reducible apply At.seqN | with_reducible apply At.blkN | with_reducible apply At.blkE | with_reducible apply At.blkR | with_reducible apply At.thenX | with_reducible apply At.thenR | with_reducible apply At.blkX rfl | ((with_reducible apply W.ops); (repeat (first | refine WL.opA hΓ (h := ?_) | refine WL.opX hΓ (h := ?_) | refine WL.opY (h := ?_) | refine WL.opZ (h := ?_))); with_reducible apply WL.nil) | refine W.condT (h := ?_) | refine W.condF (h := ?_))
        refine W.drawsA hΓ 9 [[], [], [0, 1], [0, 1, 2], [], [], [4, 5], [4, 5, 6], [0, 1, 2, 3, 4, 5, 6, 7]] (rest := ?rest24) (Es := ?Es24) (st1 := ?st124) (h := ?h24) (hf := ?hf24) (hp := ?hp24) (hd := ?hd24) (hfr := ?hfr24) (hst := ?hst24) (hT := ?hT24)
        case h24 => kernel_rfl
        case hf24 =>
          repeat (first | refine FlowT.opA (h := ?_) | refine FlowT.opX (h := ?_) | refine FlowT.opY (h := ?_) | refine FlowT.opZ (h := ?_))
          exact FlowT.done
        case hp24 => rfl
        case hd24 => rfl
        case hfr24 => rfl
        case hst24 =>
          simp only [pick_nil, pick_all, List.cons_append, List.nil_append]
          rfl
        (repeat (first | refine WL.opA hΓ (h := ?_) | refine WL.opX hΓ (h := ?_) | refine WL.opY (h := ?_) | refine WL.opZ (h := ?_)))
        with_reducible apply WL.nil
        repeat (first | with_reducible apply W.seq | with_reducible apply W.block | with_reducible apply W.skip | with_reducible apply W.exit | with_reducible apply W.ret | with_reducible apply At.seqN | with_reducible apply At.blkN | with_reducible apply At.blkE | with_reducible apply At.blkR | with_reducible apply At.thenX | with_reducible apply At.thenR | with_reducible apply At.blkX rfl | ((with_reducible apply W.ops); (repeat (first | refine WL.opA hΓ (h := ?_) | refine WL.opX hΓ (h := ?_) | refine WL.opY (h := ?_) | refine WL.opZ (h := ?_))); with_reducible apply WL.nil) | refine W.condT (h := ?_) | refine W.condF (h := ?_))
        refine At.retA (by rw [Tryd.results15]) (he := ?_)
        simp [hne]
    · have he : a = b := list_eqS hl (fun j hj => hI j (by omega))
      clear hI
      repeat (first | with_reducible apply W.seq | with_reducible apply W.block | with_reducible apply W.skip | with_reducible apply W.exit | with_reducible apply W.ret | with_reducible apply At.seqN | with_reducible apply At.blkN | with_reducible apply At.blkE | with_reducible apply At.blkR | with_reducible apply At.thenX | with_reducible apply At.thenR | with_reducible apply At.blkX rfl | ((with_reducible apply W.ops); (repeat (first | refine WL.opA hΓ (h := ?_) | refine WL.opX hΓ (h := ?_) | refine WL.opY (h := ?_) | refine WL.opZ (h := ?_))); with_reducible apply WL.nil) | refine W.condT (h := ?_) | refine W.condF (h := ?_))
      refine At.retA (by rw [Tryd.results15]) (he := ?_)
      simp [he]
  · have hne : ¬ a = b := fun e => hl (by rw [e])
    repeat (first | with_reducible apply W.seq | with_reducible apply W.block | with_reducible apply W.skip | with_reducible apply W.exit | with_reducible apply W.ret | with_reducible apply At.seqN | with_reducible apply At.blkN | with_reducible apply At.blkE | with_reducible apply At.blkR | with_reducible apply At.thenX | with_reducible apply At.thenR | with_reducible apply At.blkX rfl | ((with_reducible apply W.ops); (repeat (first | refine WL.opA hΓ (h := ?_) | refine WL.opX hΓ (h := ?_) | refine WL.opY (h := ?_) | refine WL.opZ (h := ?_))); with_reducible apply WL.nil) | refine W.condT (h := ?_) | refine W.condF (h := ?_))
    refine At.retA (by rw [Tryd.results15]) (he := ?_)
    simp [hne]

end Go.Proofs.YtilgmdgipeimaaaDoor
