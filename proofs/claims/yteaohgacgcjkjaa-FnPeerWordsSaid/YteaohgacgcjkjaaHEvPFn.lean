/-
  The law's own functions for a PMsg: its size, copy, equality.
-/
import Derived.Test.YteaohgacgcjkjaaHEvPMsg
namespace Go.Proofs.Yteaohgacgcjkjaa
set_option maxRecDepth 100000
set_option linter.unusedVariables false
set_option linter.unusedSimpArgs false
open Go Go.RowKit
set_option maxHeartbeats 4000000

def szR (tot : Nat) (left : Int) : Int := if (tot : Int) ≤ left then left - tot else -1
theorem szR_yes {tot : Nat} {left : Int} (h : (tot : Int) ≤ left) : szR tot left = left - tot := if_pos h
theorem szR_no {tot : Nat} {left : Int} (h : ¬ (tot : Int) ≤ left) : szR tot left = -1 := if_neg h
abbrev okSz (h : THeader) : Prop := h.2.2.1.size ≤ 9223372036854775807 ∧ h.2.2.2.1.size ≤ 9223372036854775807 ∧ h.2.2.2.2.1.size ≤ 9223372036854775807 ∧ h.2.2.2.2.2.size ≤ 9223372036854775807
abbrev leftOk (n : Int) : Prop := 0 ≤ n ∧ n ≤ 1048576

abbrev roI (n : Int) : RL := .ro (.sc (.int .i64 n))
abbrev roS (s : ByteArray) : RL := .ro (.sc (.string s))
abbrev rRq (r : TReq) : Res := .comp true [roI r.1, roI r.2.1, roI r.2.2]
abbrev rHd (h : THeader) : Res := .comp true [roI h.1, roI h.2.1, roS h.2.2.1, roS h.2.2.2.1, roS h.2.2.2.2.1, roS h.2.2.2.2.2]
abbrev aAd (a : TAddr) : Arg := .val true [.sc (.int .i64 a.1), .sc (.int .i64 a.2)]
abbrev rAd (a : TAddr) : Res := .comp true [roI a.1, roI a.2]
theorem aAd_inj : ∀ x y : TAddr, [aAd x] = [aAd y] → x = y := by
  rintro ⟨a, b⟩ ⟨a', b'⟩ h
  simpa [aAd] using h
noncomputable def mEqRq := mdl (fun _ : TReq × TReq => True) (fun x => [aRq x.1, aRq x.2]) (fun x => rB (decide (x.1 = x.2)))
theorem mEqRq_eq (x y : TReq) : mEqRq [aRq x, aRq y] = some (rB (decide (x = y))) := mdl_eq (by
  rintro ⟨⟨a, b, c⟩, a', b', c'⟩ ⟨⟨d, e, f⟩, d', e', f'⟩ h
  simp at h
  simp [h]) (x, y) trivial
theorem eqRq_s : Sound Try.prog 59 mEqRq := by
  refine Sound.mdl Try.func59 rfl Try.ntmps59 ?_
  rintro ⟨⟨a, b, c⟩, a', b', c'⟩ w -
  refine ⟨by simp, ?_⟩
  have hΓ : GSound Try.prog (look []) := env_nil
  simp only [initS, argPV, List.map_cons, List.map_nil, toPL, Nat.zero_add]
  rcases cases3 (a = a') (b = b') (c = c') with ⟨rfl, rfl, rfl⟩ | h | h | h
  · repeat (first | with_reducible (first | apply W.seq | apply W.block | apply W.skip | apply W.exit | apply W.ret | apply At.seqN | apply At.blkN | apply At.blkE | apply At.blkR | apply At.thenX | apply At.thenR | apply At.blkX rfl) | ((with_reducible apply W.ops); (repeat (first | refine WL.opA hΓ (h := ?_) | refine WL.opX hΓ (h := ?_) | refine WL.opY (h := ?_) | refine WL.opZ (h := ?_))); with_reducible apply WL.nil) | refine W.condT (h := ?_) | refine W.condF (h := ?_))
    refine At.retA (by rw [Try.results59]) (he := ?_)
    simp
  all_goals
    repeat (first | with_reducible (first | apply W.seq | apply W.block | apply W.skip | apply W.exit | apply W.ret | apply At.seqN | apply At.blkN | apply At.blkE | apply At.blkR | apply At.thenX | apply At.thenR | apply At.blkX rfl) | ((with_reducible apply W.ops); (repeat (first | refine WL.opA hΓ (h := ?_) | refine WL.opX hΓ (h := ?_) | refine WL.opY (h := ?_) | refine WL.opZ (h := ?_))); with_reducible apply WL.nil) | refine W.condT (h := ?_) | refine W.condF (h := ?_))
    refine At.retA (by rw [Try.results59]) (he := ?_)
    simp [h]
noncomputable def mEqHd := mdl (fun _ : THeader × THeader => True) (fun x => [aHd x.1, aHd x.2]) (fun x => rB (decide (x.1 = x.2)))
theorem mEqHd_eq (x y : THeader) : mEqHd [aHd x, aHd y] = some (rB (decide (x = y))) := mdl_eq (by
  rintro ⟨⟨a, b, c, d, e, f⟩, a', b', c', d', e', f'⟩ ⟨⟨g, i, j, k, l, m⟩, g', i', j', k', l', m'⟩ h
  simp at h
  simp [h]) (x, y) trivial
theorem eqHd_s : Sound Try.prog 60 mEqHd := by
  refine Sound.mdl Try.func60 rfl Try.ntmps60 ?_
  rintro ⟨⟨a, b, c, d, e, f⟩, a', b', c', d', e', f'⟩ w -
  refine ⟨by simp, ?_⟩
  have hΓ : GSound Try.prog (look []) := env_nil
  simp only [initS, argPV, List.map_cons, List.map_nil, toPL, Nat.zero_add]
  rcases cases6 (a = a') (b = b') (c = c') (d = d') (e = e') (f = f') with ⟨rfl, rfl, rfl, rfl, rfl, rfl⟩ | h | h | h | h | h | h
  · repeat (first | with_reducible (first | apply W.seq | apply W.block | apply W.skip | apply W.exit | apply W.ret | apply At.seqN | apply At.blkN | apply At.blkE | apply At.blkR | apply At.thenX | apply At.thenR | apply At.blkX rfl) | ((with_reducible apply W.ops); (repeat (first | refine WL.opA hΓ (h := ?_) | refine WL.opX hΓ (h := ?_) | refine WL.opY (h := ?_) | refine WL.opZ (h := ?_))); with_reducible apply WL.nil) | refine W.condT (h := ?_) | refine W.condF (h := ?_))
    refine At.retA (by rw [Try.results60]) (he := ?_)
    simp
  all_goals
    repeat (first | with_reducible (first | apply W.seq | apply W.block | apply W.skip | apply W.exit | apply W.ret | apply At.seqN | apply At.blkN | apply At.blkE | apply At.blkR | apply At.thenX | apply At.thenR | apply At.blkX rfl) | ((with_reducible apply W.ops); (repeat (first | refine WL.opA hΓ (h := ?_) | refine WL.opX hΓ (h := ?_) | refine WL.opY (h := ?_) | refine WL.opZ (h := ?_))); with_reducible apply WL.nil) | refine W.condT (h := ?_) | refine W.condF (h := ?_))
    refine At.retA (by rw [Try.results60]) (he := ?_)
    simp [h]
noncomputable def mEqAd := mdl (fun _ : TAddr × TAddr => True) (fun x => [aAd x.1, aAd x.2]) (fun x => rB (decide (x.1 = x.2)))
theorem mEqAd_eq (x y : TAddr) : mEqAd [aAd x, aAd y] = some (rB (decide (x = y))) := mdl_eq (by
  rintro ⟨⟨a, b⟩, a', b'⟩ ⟨⟨g, i⟩, g', i'⟩ h
  simp at h
  simp [h]) (x, y) trivial
theorem eqAd_s : Sound Try.prog 85 mEqAd := by
  refine Sound.mdl Try.func85 rfl Try.ntmps85 ?_
  rintro ⟨⟨a, b⟩, a', b'⟩ w -
  refine ⟨by simp, ?_⟩
  have hΓ : GSound Try.prog (look []) := env_nil
  simp only [initS, argPV, List.map_cons, List.map_nil, toPL, Nat.zero_add]
  by_cases h1 : a = a'
  · by_cases h2 : b = b'
    · subst h1; subst h2
      repeat (first | with_reducible (first | apply W.seq | apply W.block | apply W.skip | apply W.exit | apply W.ret | apply At.seqN | apply At.blkN | apply At.blkE | apply At.blkR | apply At.thenX | apply At.thenR | apply At.blkX rfl) | ((with_reducible apply W.ops); (repeat (first | refine WL.opA hΓ (h := ?_) | refine WL.opX hΓ (h := ?_) | refine WL.opY (h := ?_) | refine WL.opZ (h := ?_))); with_reducible apply WL.nil) | refine W.condT (h := ?_) | refine W.condF (h := ?_))
      refine At.retA (by rw [Try.results85]) (he := ?_)
      simp
    · repeat (first | with_reducible (first | apply W.seq | apply W.block | apply W.skip | apply W.exit | apply W.ret | apply At.seqN | apply At.blkN | apply At.blkE | apply At.blkR | apply At.thenX | apply At.thenR | apply At.blkX rfl) | ((with_reducible apply W.ops); (repeat (first | refine WL.opA hΓ (h := ?_) | refine WL.opX hΓ (h := ?_) | refine WL.opY (h := ?_) | refine WL.opZ (h := ?_))); with_reducible apply WL.nil) | refine W.condT (h := ?_) | refine W.condF (h := ?_))
      refine At.retA (by rw [Try.results85]) (he := ?_)
      simp [h2]
  · repeat (first | with_reducible (first | apply W.seq | apply W.block | apply W.skip | apply W.exit | apply W.ret | apply At.seqN | apply At.blkN | apply At.blkE | apply At.blkR | apply At.thenX | apply At.thenR | apply At.blkX rfl) | ((with_reducible apply W.ops); (repeat (first | refine WL.opA hΓ (h := ?_) | refine WL.opX hΓ (h := ?_) | refine WL.opY (h := ?_) | refine WL.opZ (h := ?_))); with_reducible apply WL.nil) | refine W.condT (h := ?_) | refine W.condF (h := ?_))
    refine At.retA (by rw [Try.results85]) (he := ?_)
    simp [h1]
theorem list_eq_of {α : Type} (z : α) {a b : List α} (hl : a.length = b.length) (h : ∀ j, j < a.length → a.getD j z = b.getD j z) : a = b := by
  refine List.ext_getElem hl fun i h1 h2 => ?_
  have := h i h1
  rwa [List.getD_eq_getElem?_getD, List.getD_eq_getElem?_getD, List.getElem?_eq_getElem h1, List.getElem?_eq_getElem h2] at this
noncomputable def mEqAdS := mdl (fun x : List TAddr × List TAddr => x.1.length ≤ 8796093022207 ∧ x.2.length ≤ 8796093022207) (fun x => [aL cAddr x.1, aL cAddr x.2]) (fun x => rB (decide (x.1 = x.2)))
theorem mEqAdS_eq (a b : List TAddr) (h1 : a.length ≤ 8796093022207) (h2 : b.length ≤ 8796093022207) : mEqAdS [aL cAddr a, aL cAddr b] = some (rB (decide (a = b))) := mdl_eq (by rintro ⟨a, b⟩ ⟨d, e⟩ h; simpa using h) (a, b) ⟨h1, h2⟩
theorem eqAdS_s : Sound Try.prog 61 mEqAdS := by
  refine Sound.mdl Try.func61 rfl Try.ntmps61 ?_
  rintro ⟨a, b⟩ w ⟨ha, hb⟩
  refine ⟨by simp, ?_⟩
  dsimp only at ha hb
  have hΓ : GSound Try.prog (look [(85, mEqAd)]) := env_cons (has_of Try.func85 rfl rfl) eqAd_s env_nil
  have hl1 := rowsF_len cAddr a
  have hl2 := rowsF_len cAddr b
  simp only [initS, argPV, List.map_cons, List.map_nil, toPL, Nat.zero_add]
  by_cases hl : a.length = b.length
  · repeat (first | with_reducible (first | apply W.seq | apply W.block | apply W.skip | apply W.exit | apply W.ret | apply At.seqN | apply At.blkN | apply At.blkE | apply At.blkR | apply At.thenX | apply At.thenR | apply At.blkX rfl) | ((with_reducible apply W.ops); (repeat (first | refine WL.opA hΓ (h := ?_) | refine WL.opX hΓ (h := ?_) | refine WL.opY (h := ?_) | refine WL.opZ (h := ?_))); with_reducible apply WL.nil) | refine W.condT (h := ?_) | refine W.condF (h := ?_))
    refine W.loopA (fun k => k ≤ a.length ∧ ∀ j, j < k → a.getD j (0, 0) = b.getD j (0, 0)) (fun k : Nat => [.slot 5 (vI k), .slot 0 (vL cAddr a), .slot 1 (vL cAddr b)]) (fun k => a.length - k) 0 ⟨Nat.zero_le _, fun j hj => by omega⟩ (h := ?_)
    rintro k ⟨hk, hI⟩
    by_cases hlt : k < a.length
    · have hr1 := row_addr hlt
      have hr2 := row_addr (l := b) (k := k) (by omega)
      have c1 := mEqAd_eq (a.getD k (0, 0)) (b.getD k (0, 0))
      by_cases he : a.getD k (0, 0) = b.getD k (0, 0)
      · have hnx : ∀ j, j < k + 1 → a.getD j (0, 0) = b.getD j (0, 0) := fun j hj => by
          rcases Nat.lt_succ_iff_lt_or_eq.1 hj with h1 | rfl
          · exact hI j h1
          · exact he
        clear hI
        generalize a.getD k (0, 0) = x at hr1 c1 he
        generalize b.getD k (0, 0) = y at hr2 c1 he
        subst he
        repeat (first | with_reducible (first | apply W.seq | apply W.block | apply W.skip | apply W.exit | apply W.ret | apply At.seqN | apply At.blkN | apply At.blkE | apply At.blkR | apply At.thenX | apply At.thenR | apply At.blkX rfl) | ((with_reducible apply W.ops); (repeat (first | refine WL.opA hΓ (h := ?_) | refine WL.opX hΓ (h := ?_) | refine WL.opY (h := ?_) | refine WL.opZ (h := ?_))); with_reducible apply WL.nil) | refine W.condT (h := ?_) | refine W.condF (h := ?_))
        refine W.drawsA hΓ 10 [[], [], [0, 1], [0, 1, 2], [], [], [4, 5], [4, 5, 6], [0, 1, 2, 3, 4, 5, 6, 7], [0, 1, 2, 3, 4, 5, 6, 7, 8]] (rest := ?rest25) (Es := ?Es25) (st1 := ?st125) (h := ?h25) (hf := ?hf25) (hp := ?hp25) (hd := ?hd25) (hfr := ?hfr25) (hst := ?hst25) (hT := ?hT25)
        case h25 => kernel_rfl
        case hf25 =>
          repeat (first | refine FlowT.opA (h := ?_) | refine FlowT.opX (h := ?_) | refine FlowT.opY (h := ?_) | refine FlowT.opZ (h := ?_))
          exact FlowT.done
        case hp25 => rfl
        case hd25 => rfl
        case hfr25 => rfl
        case hst25 =>
          simp only [pick_nil, pick_all, List.cons_append, List.nil_append]
          rfl
        (repeat (first | refine WL.opA hΓ (h := ?_) | refine WL.opX hΓ (h := ?_) | refine WL.opY (h := ?_) | refine WL.opZ (h := ?_)))
        with_reducible apply WL.nil
        repeat (first | with_reducible (first | apply W.seq | apply W.block | apply W.skip | apply W.exit | apply W.ret | apply At.seqN | apply At.blkN | apply At.blkE | apply At.blkR | apply At.thenX | apply At.thenR | apply At.blkX rfl) | ((with_reducible apply W.ops); (repeat (first | refine WL.opA hΓ (h := ?_) | refine WL.opX hΓ (h := ?_) | refine WL.opY (h := ?_) | refine WL.opZ (h := ?_))); with_reducible apply WL.nil) | refine W.condT (h := ?_) | refine W.condF (h := ?_))
        exact At.roundA (k + 1) ⟨by omega, hnx⟩ (by omega)
      · have hne : ¬ a = b := fun e => he (by rw [e])
        clear hI
        generalize a.getD k (0, 0) = x at hr1 c1 he
        generalize b.getD k (0, 0) = y at hr2 c1 he
        repeat (first | with_reducible (first | apply W.seq | apply W.block | apply W.skip | apply W.exit | apply W.ret | apply At.seqN | apply At.blkN | apply At.blkE | apply At.blkR | apply At.thenX | apply At.thenR | apply At.blkX rfl) | ((with_reducible apply W.ops); (repeat (first | refine WL.opA hΓ (h := ?_) | refine WL.opX hΓ (h := ?_) | refine WL.opY (h := ?_) | refine WL.opZ (h := ?_))); with_reducible apply WL.nil) | refine W.condT (h := ?_) | refine W.condF (h := ?_))
        refine W.drawsA hΓ 10 [[], [], [0, 1], [0, 1, 2], [], [], [4, 5], [4, 5, 6], [0, 1, 2, 3, 4, 5, 6, 7], [0, 1, 2, 3, 4, 5, 6, 7, 8]] (rest := ?rest28) (Es := ?Es28) (st1 := ?st128) (h := ?h28) (hf := ?hf28) (hp := ?hp28) (hd := ?hd28) (hfr := ?hfr28) (hst := ?hst28) (hT := ?hT28)
        case h28 => kernel_rfl
        case hf28 =>
          repeat (first | refine FlowT.opA (h := ?_) | refine FlowT.opX (h := ?_) | refine FlowT.opY (h := ?_) | refine FlowT.opZ (h := ?_))
          exact FlowT.done
        case hp28 => rfl
        case hd28 => rfl
        case hfr28 => rfl
        case hst28 =>
          simp only [pick_nil, pick_all, List.cons_append, List.nil_append]
          rfl
        (repeat (first | refine WL.opA hΓ (h := ?_) | refine WL.opX hΓ (h := ?_) | refine WL.opY (h := ?_) | refine WL.opZ (h := ?_)))
        with_reducible apply WL.nil
        repeat (first | with_reducible (first | apply W.seq | apply W.block | apply W.skip | apply W.exit | apply W.ret | apply At.seqN | apply At.blkN | apply At.blkE | apply At.blkR | apply At.thenX | apply At.thenR | apply At.blkX rfl) | ((with_reducible apply W.ops); (repeat (first | refine WL.opA hΓ (h := ?_) | refine WL.opX hΓ (h := ?_) | refine WL.opY (h := ?_) | refine WL.opZ (h := ?_))); with_reducible apply WL.nil) | refine W.condT (h := ?_) | refine W.condF (h := ?_))
        refine At.retA (by rw [Try.results61]) (he := ?_)
        simp [hne]
    · have he : a = b := list_eq_of (0, 0) hl (fun j hj => hI j (by omega))
      clear hI
      repeat (first | with_reducible (first | apply W.seq | apply W.block | apply W.skip | apply W.exit | apply W.ret | apply At.seqN | apply At.blkN | apply At.blkE | apply At.blkR | apply At.thenX | apply At.thenR | apply At.blkX rfl) | ((with_reducible apply W.ops); (repeat (first | refine WL.opA hΓ (h := ?_) | refine WL.opX hΓ (h := ?_) | refine WL.opY (h := ?_) | refine WL.opZ (h := ?_))); with_reducible apply WL.nil) | refine W.condT (h := ?_) | refine W.condF (h := ?_))
      refine At.retA (by rw [Try.results61]) (he := ?_)
      simp [he]
  · have hne : ¬ a = b := fun e => hl (by rw [e])
    repeat (first | with_reducible (first | apply W.seq | apply W.block | apply W.skip | apply W.exit | apply W.ret | apply At.seqN | apply At.blkN | apply At.blkE | apply At.blkR | apply At.thenX | apply At.thenR | apply At.blkX rfl) | ((with_reducible apply W.ops); (repeat (first | refine WL.opA hΓ (h := ?_) | refine WL.opX hΓ (h := ?_) | refine WL.opY (h := ?_) | refine WL.opZ (h := ?_))); with_reducible apply WL.nil) | refine W.condT (h := ?_) | refine W.condF (h := ?_))
    refine At.retA (by rw [Try.results61]) (he := ?_)
    simp [hne]
open Classical in
noncomputable def eqPB (x y : TPMsg) : Bool := decide (x = y)
open Classical in
theorem eqPB_self (x : TPMsg) : eqPB x x = true := by unfold eqPB; exact decide_eq_true rfl
open Classical in
theorem eqPB_no {x y : TPMsg} (h : ¬ x = y) : eqPB x y = false := by unfold eqPB; exact decide_eq_false h
noncomputable def mEqPM := mdl (fun x : TPMsg × TPMsg => okPM x.1 ∧ okPM x.2) (fun x => [aPM x.1, aPM x.2]) (fun x => rB (eqPB x.1 x.2))
theorem mEqPM_eq (x y : TPMsg) (h1 : okPM x) (h2 : okPM y) : mEqPM [aPM x, aPM y] = some (rB (eqPB x y)) := mdl_eq (by
  rintro ⟨a, b⟩ ⟨d, e⟩ h
  simp only [List.cons.injEq, and_true] at h
  have h1 := aPM_inj a d (by rw [h.1])
  have h2 := aPM_inj b e (by rw [h.2])
  rw [h1, h2]) (x, y) ⟨h1, h2⟩
theorem eqPM_s : Sound Try.prog 23 mEqPM := by
  refine Sound.mdl Try.func23 rfl Try.ntmps23 ?_
  rintro ⟨⟨k, f, ⟨r1, r2, r3⟩, ⟨h1, h2, la, va, ne, da⟩, l⟩, k', f', ⟨r1', r2', r3'⟩, ⟨h1', h2', la', va', ne', da'⟩, l'⟩ w ⟨hl, hl'⟩
  refine ⟨by simp, ?_⟩
  replace hl : l.length ≤ 8796093022207 := hl
  replace hl' : l'.length ≤ 8796093022207 := hl'
  have hΓ : GSound Try.prog (look [(59, mEqRq), (60, mEqHd), (61, mEqAdS)]) := env_cons (has_of Try.func59 rfl rfl) eqRq_s (env_cons (has_of Try.func60 rfl rfl) eqHd_s (env_cons (has_of Try.func61 rfl rfl) eqAdS_s env_nil))
  have c1 := mEqRq_eq (r1, r2, r3) (r1', r2', r3')
  have c2 := mEqHd_eq (h1, h2, la, va, ne, da) (h1', h2', la', va', ne', da')
  have c3 := mEqAdS_eq l l' hl hl'
  dsimp only [aRq, aHd] at c1 c2
  clear hl hl'
  generalize hx : eqPB (k, f, (r1, r2, r3), (h1, h2, la, va, ne, da), l) (k', f', (r1', r2', r3'), (h1', h2', la', va', ne', da'), l') = X
  have hno : (¬ (k, f, (r1, r2, r3), (h1, h2, la, va, ne, da), l) = (k', f', (r1', r2', r3'), (h1', h2', la', va', ne', da'), l')) → X = false := fun h => hx ▸ eqPB_no h
  have hyes : (k, f, (r1, r2, r3), (h1, h2, la, va, ne, da), l) = (k', f', (r1', r2', r3'), (h1', h2', la', va', ne', da'), l') → X = true := fun h => by rw [← hx, h]; exact eqPB_self _
  clear hx
  generalize g1 : decide ((r1, r2, r3) = (r1', r2', r3')) = b1 at c1
  generalize g2 : decide ((h1, h2, la, va, ne, da) = (h1', h2', la', va', ne', da')) = b2 at c2
  generalize g3 : decide (l = l') = b3 at c3
  simp only [Prod.mk.injEq] at hno hyes
  simp only [initS, argPV, List.map_cons, List.map_nil, toPL, Nat.zero_add]
  by_cases hk : k = k'
  · by_cases hf : f = f'
    · cases b1 with
      | false =>
        replace hno := hno (fun h => of_decide_eq_false g1 (by simp [h]))
        clear g1 g2 g3 hyes
        repeat (first | with_reducible (first | apply W.seq | apply W.block | apply W.skip | apply W.exit | apply W.ret | apply At.seqN | apply At.blkN | apply At.blkE | apply At.blkR | apply At.thenX | apply At.thenR | apply At.blkX rfl) | ((with_reducible apply W.ops); (repeat (first | refine WL.opA hΓ (h := ?_) | refine WL.opX hΓ (h := ?_) | refine WL.opY (h := ?_) | refine WL.opZ (h := ?_))); with_reducible apply WL.nil) | refine W.condT (h := ?_) | refine W.condF (h := ?_))
        refine At.retA (by rw [Try.results23]) (he := ?_)
        rw [hno]
      | true =>
        cases b2 with
        | false =>
          replace hno := hno (fun h => of_decide_eq_false g2 (by simp [h]))
          clear g1 g2 g3 hyes
          repeat (first | with_reducible (first | apply W.seq | apply W.block | apply W.skip | apply W.exit | apply W.ret | apply At.seqN | apply At.blkN | apply At.blkE | apply At.blkR | apply At.thenX | apply At.thenR | apply At.blkX rfl) | ((with_reducible apply W.ops); (repeat (first | refine WL.opA hΓ (h := ?_) | refine WL.opX hΓ (h := ?_) | refine WL.opY (h := ?_) | refine WL.opZ (h := ?_))); with_reducible apply WL.nil) | refine W.condT (h := ?_) | refine W.condF (h := ?_))
          refine At.retA (by rw [Try.results23]) (he := ?_)
          rw [hno]
        | true =>
          cases b3 with
          | false =>
            replace hno := hno (fun h => of_decide_eq_false g3 h.2.2.2.2)
            clear g1 g2 g3 hyes
            repeat (first | with_reducible (first | apply W.seq | apply W.block | apply W.skip | apply W.exit | apply W.ret | apply At.seqN | apply At.blkN | apply At.blkE | apply At.blkR | apply At.thenX | apply At.thenR | apply At.blkX rfl) | ((with_reducible apply W.ops); (repeat (first | refine WL.opA hΓ (h := ?_) | refine WL.opX hΓ (h := ?_) | refine WL.opY (h := ?_) | refine WL.opZ (h := ?_))); with_reducible apply WL.nil) | refine W.condT (h := ?_) | refine W.condF (h := ?_))
            refine At.retA (by rw [Try.results23]) (he := ?_)
            rw [hno]
          | true =>
            replace hyes := hyes ⟨hk, hf, by simpa using of_decide_eq_true g1, by simpa using of_decide_eq_true g2, of_decide_eq_true g3⟩
            clear g1 g2 g3 hno
            repeat (first | with_reducible (first | apply W.seq | apply W.block | apply W.skip | apply W.exit | apply W.ret | apply At.seqN | apply At.blkN | apply At.blkE | apply At.blkR | apply At.thenX | apply At.thenR | apply At.blkX rfl) | ((with_reducible apply W.ops); (repeat (first | refine WL.opA hΓ (h := ?_) | refine WL.opX hΓ (h := ?_) | refine WL.opY (h := ?_) | refine WL.opZ (h := ?_))); with_reducible apply WL.nil) | refine W.condT (h := ?_) | refine W.condF (h := ?_))
            refine At.retA (by rw [Try.results23]) (he := ?_)
            rw [hyes]
    · replace hno := hno (fun h => hf h.2.1)
      clear g1 g2 g3 hyes
      repeat (first | with_reducible (first | apply W.seq | apply W.block | apply W.skip | apply W.exit | apply W.ret | apply At.seqN | apply At.blkN | apply At.blkE | apply At.blkR | apply At.thenX | apply At.thenR | apply At.blkX rfl) | ((with_reducible apply W.ops); (repeat (first | refine WL.opA hΓ (h := ?_) | refine WL.opX hΓ (h := ?_) | refine WL.opY (h := ?_) | refine WL.opZ (h := ?_))); with_reducible apply WL.nil) | refine W.condT (h := ?_) | refine W.condF (h := ?_))
      refine At.retA (by rw [Try.results23]) (he := ?_)
      rw [hno]
  · replace hno := hno (fun h => hk h.1)
    clear g1 g2 g3 hyes
    repeat (first | with_reducible (first | apply W.seq | apply W.block | apply W.skip | apply W.exit | apply W.ret | apply At.seqN | apply At.blkN | apply At.blkE | apply At.blkR | apply At.thenX | apply At.thenR | apply At.blkX rfl) | ((with_reducible apply W.ops); (repeat (first | refine WL.opA hΓ (h := ?_) | refine WL.opX hΓ (h := ?_) | refine WL.opY (h := ?_) | refine WL.opZ (h := ?_))); with_reducible apply WL.nil) | refine W.condT (h := ?_) | refine W.condF (h := ?_))
    refine At.retA (by rw [Try.results23]) (he := ?_)
    rw [hno]

theorem msg_arg {w : World} {k f : Int} {q : TReq} {hd : THeader} {vl : Value} {l : List TAddr} (h : RdS w w.heap.size 2 cAddr vl l) :
    RepA w (aPM (k, f, q, hd, l)) (.agg #[.int .i64 k, .int .i64 f, .int .i64 q.1, .int .i64 q.2.1, .int .i64 q.2.2, .int .i64 hd.1, .int .i64 hd.2.1, .string hd.2.2.1, .string hd.2.2.2.1, .string hd.2.2.2.2.1, .string hd.2.2.2.2.2, vl]) := by
  refine ⟨[.int .i64 k, .int .i64 f, .int .i64 q.1, .int .i64 q.2.1, .int .i64 q.2.2, .int .i64 hd.1, .int .i64 hd.2.1, .string hd.2.2.1, .string hd.2.2.2.1, .string hd.2.2.2.2.1, .string hd.2.2.2.2.2, vl], rfl, rfl, fun j x hj => ?_⟩
  match j, hj with
  | 0, hj => cases hj; exact ⟨_, rfl, .sc rfl⟩
  | 1, hj => cases hj; exact ⟨_, rfl, .sc rfl⟩
  | 2, hj => cases hj; exact ⟨_, rfl, .sc rfl⟩
  | 3, hj => cases hj; exact ⟨_, rfl, .sc rfl⟩
  | 4, hj => cases hj; exact ⟨_, rfl, .sc rfl⟩
  | 5, hj => cases hj; exact ⟨_, rfl, .sc rfl⟩
  | 6, hj => cases hj; exact ⟨_, rfl, .sc rfl⟩
  | 7, hj => cases hj; exact ⟨_, rfl, .sc rfl⟩
  | 8, hj => cases hj; exact ⟨_, rfl, .sc rfl⟩
  | 9, hj => cases hj; exact ⟨_, rfl, .sc rfl⟩
  | 10, hj => cases hj; exact ⟨_, rfl, .sc rfl⟩
  | 11, hj => cases hj; exact ⟨_, rfl, h.rep (fun _ => rfl) (fun x u hu => by simp [cAddr] at hu; rcases hu with rfl | rfl <;> rfl)⟩
  | j + 12, hj => simp at hj

end Go.Proofs.Yteaohgacgcjkjaa
