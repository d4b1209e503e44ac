/-
  Put together: PEvChg PEvAllF.
-/
import Derived.Test.YtfgkfcfplodaoaaGreatDoorG21
import Derived.Test.YtfgkfcfplodaoaaGreatDoorG27
set_option linter.unusedSimpArgs false
set_option linter.unusedVariables false
set_option maxRecDepth 100000
section
namespace Go.Proofs.YtfgkfcfplodaoaaGreatDoor
open Go Go.RowKit
set_option maxHeartbeats 8000000
theorem twoC {α : Type} (a : α) (f : Nat → α) : ∃ J : Nat → α, J 0 = a ∧ ∀ k, J (k + 1) = f k := ⟨fun k => match k with | 0 => a | k + 1 => f k, rfl, fun _ => rfl⟩
abbrev TCh := List TVal × Bool × Bool
def chS (x : TVal) (s : TCh) (v : TVal) : TCh :=
  ((if s.2.1 = false ∧ x.1 ≤ v.1 then s.1 ++ [x] else s.1) ++ (if v.1 = x.1 then [] else [v]), s.2.1 || decide (x.1 ≤ v.1), s.2.2 || decide (v.1 = x.1))
def chK (x : TVal) (l : List TVal) (k : Nat) : TCh := (l.take k).foldl (chS x) ([], decide (x.2 = 0), false)
def chEnd (x : TVal) (s : TCh) : List TVal := if s.2.1 = false then s.1 ++ [x] else s.1
def chg (l : List TVal) (x : TVal) : List TVal := chEnd x (chK x l l.length)
def chgB (l : List TVal) (x : TVal) : Bool := (chK x l l.length).2.2 || !decide (x.2 = 0)
theorem chK_next (x : TVal) {l : List TVal} {k : Nat} (h : k < l.length) : chK x l (k + 1) = chS x (chK x l k) l[k] := by
  unfold chK
  rw [List.take_succ_eq_append_getElem h, List.foldl_append]
  rfl
theorem chK_len (x : TVal) (l : List TVal) : ∀ k, (chK x l k).1.length ≤ 2 * k
  | 0 => by simp [chK]
  | k + 1 => by
    have ih := chK_len x l k
    by_cases h : k < l.length
    · rw [chK_next x h]
      generalize chK x l k = s at *
      unfold chS
      simp only [List.length_append]
      have h1 : (if s.2.1 = false ∧ x.1 ≤ l[k].1 then s.1 ++ [x] else s.1).length ≤ s.1.length + 1 := by split <;> simp
      have h2 : (if l[k].1 = x.1 then ([] : List TVal) else [l[k]]).length ≤ 1 := by split <;> simp
      omega
    · have : chK x l (k + 1) = chK x l k := by unfold chK; rw [List.take_of_length_le (by omega), List.take_of_length_le (by omega)]
      rw [this]
      omega
theorem chg_len (l : List TVal) (x : TVal) : (chg l x).length ≤ 2 * l.length + 1 := by
  have := chK_len x l l.length
  unfold chg chEnd
  split
  · simp; omega
  · omega
abbrev okChg (x : List TVal × TVal) : Prop := x.1.length ≤ 1048576
abbrev aChg (x : List TVal × TVal) : List Arg := [aL cVal x.1, .val true [.sc (.int .i64 x.2.1), .sc (.int .i64 x.2.2)]]
theorem aChg_inj : ∀ x y, aChg x = aChg y → x = y := by
  rintro ⟨l, a, b⟩ ⟨l', a', b'⟩ h
  simp at h
  simp [h]
abbrev rChg (l : List TVal) (b : Bool) : Res := .tup [(false, [.own .ft 76 2 (rowsF cVal l)]), rSc (.bool b)]
noncomputable def mChg := mdl okChg aChg (fun x => rChg (chg x.1 x.2) (chgB x.1 x.2))
theorem mChg_eq (l : List TVal) (x : TVal) (h : l.length ≤ 1048576) : mChg [aL cVal l, .val true [.sc (.int .i64 x.1), .sc (.int .i64 x.2)]] = some (rChg (chg l x) (chgB l x)) := mdl_eq aChg_inj (l, x) h
theorem chg_s : Sound Tryz.prog 95 mChg := by
  refine Sound.mdl Tryz.func95 rfl Tryz.ntmps95 ?_
  rintro ⟨l, a, p⟩ w hl
  refine ⟨by simp, ?_⟩
  replace hl : l.length ≤ 1048576 := hl
  have hΓ : GSound Tryz.prog (look []) := env_nil
  have hlen := rowsF_len cVal l
  have hnil : rowsF cVal [] = [] := rfl
  simp only [initS, argPV, List.map_cons, List.map_nil, toPL, Nat.zero_add]
  refine zR ?_
  refine W.loopA (fun k => k ≤ l.length) (fun k : Nat => [.slot 0 (vL cVal l), .slot 3 (one (.ptr 3 0)), .blk 3 (.box [.sc (.int .i64 a), .sc (.int .i64 p)]), .slot 6 (one (.all 10)), .blk 10 (.arr .ft 76 2 (rowsF cVal (chK (a, p) l k).1)), .slot 7 (one (.sc (.bool (chK (a, p) l k).2.1))), .slot 8 (one (.sc (.bool (chK (a, p) l k).2.2))), .slot 9 (vI k)]) (fun k => l.length - k) 0 (Nat.zero_le _) (h := ?_)
  rintro k hk
  have hkl := chK_len (a, p) l k
  by_cases hlt : k < l.length
  · have hrow := val_row hlt
    have hn := chK_next (a, p) hlt
    generalize l[k] = v at *
    obtain ⟨i, q⟩ := v
    generalize chK (a, p) l k = s at *
    obtain ⟨o, b1, b2⟩ := s
    dsimp only at hkl ⊢
    have e1 := cVal_app o a p
    have e2 := cVal_app o i q
    have e3 := cVal_app (o ++ [(a, p)]) i q
    have hl1 : o.length ≤ 2097152 := by omega
    have hl2 : (o ++ [(a, p)]).length ≤ 2097153 := by rw [List.length_append]; simp; omega
    by_cases h1 : b1 = false
    · subst h1
      by_cases h2 : a ≤ i
      · by_cases h3 : i = a
        · have e : chS (a, p) (o, false, b2) (i, q) = (o ++ [(a, p)], true, true) := by simp [chS, h2, h3]
          rw [e] at hn
          have hn := Lib.hid hn
          clear e hkl
          subst h3
          refine zR ?_
          refine W.drawB hΓ 12 [[], [0], [0, 1], [0, 1, 2], [0, 1, 2], [0, 1, 2, 3, 4], [0, 1, 2, 3, 4, 5], [0, 1, 2, 3, 4, 5, 6], [0, 1, 2], [0, 1, 2, 8], [0, 1, 2, 3, 4, 5, 6, 7, 8, 9], [0, 1, 2, 3, 4, 5, 6, 7, 8, 9, 10]] (Es := ?Es5) (rest := ?rest5) (st1 := ?st15) ?_
          refine zL ?_
          refine zE ?_
          refine zR ?_
          refine W.drawB hΓ 8 [[], [], [0, 1], [0, 1, 2], [0, 1, 2, 3], [], [5], [0, 1, 2, 3, 4, 5, 6]] (Es := ?Es7) (rest := ?rest7) (st1 := ?st17) ?_
          refine zL ?_
          refine zE ?_
          refine zR ?_
          refine At.roundA (k + 1) (by omega) (by omega) (hs := ?_)
          rw [hn.out]
          exact subP
        · have e : chS (a, p) (o, false, b2) (i, q) = (o ++ [(a, p)] ++ [(i, q)], true, b2) := by simp [chS, h2, h3]
          rw [e] at hn
          have hn := Lib.hid hn
          clear e hkl
          refine zR ?_
          refine W.drawB hΓ 12 [[], [0], [0, 1], [0, 1, 2], [0, 1, 2], [0, 1, 2, 3, 4], [0, 1, 2, 3, 4, 5], [0, 1, 2, 3, 4, 5, 6], [0, 1, 2], [0, 1, 2, 8], [0, 1, 2, 3, 4, 5, 6, 7, 8, 9], [0, 1, 2, 3, 4, 5, 6, 7, 8, 9, 10]] (Es := ?Es10) (rest := ?rest10) (st1 := ?st110) ?_
          refine zL ?_
          refine zE ?_
          refine zR ?_
          refine W.drawB hΓ 8 [[], [], [0, 1], [0, 1, 2], [0, 1, 2, 3], [], [5], [0, 1, 2, 3, 4, 5, 6]] (Es := ?Es12) (rest := ?rest12) (st1 := ?st112) ?_
          refine zL ?_
          refine zE ?_
          refine zR ?_
          refine At.roundA (k + 1) (by omega) (by omega) (hs := ?_)
          rw [hn.out]
          exact subP
      · have h3 : ¬ i = a := by omega
        have e : chS (a, p) (o, false, b2) (i, q) = (o ++ [(i, q)], false, b2) := by simp [chS, h2, h3]
        rw [e] at hn
        have hn := Lib.hid hn
        clear e hkl
        refine zR ?_
        refine W.drawB hΓ 12 [[], [0], [0, 1], [0, 1, 2], [0, 1, 2], [0, 1, 2, 3, 4], [0, 1, 2, 3, 4, 5], [0, 1, 2, 3, 4, 5, 6], [0, 1, 2], [0, 1, 2, 8], [0, 1, 2, 3, 4, 5, 6, 7, 8, 9], [0, 1, 2, 3, 4, 5, 6, 7, 8, 9, 10]] (Es := ?Es15) (rest := ?rest15) (st1 := ?st115) ?_
        refine zL ?_
        refine zE ?_
        refine zR ?_
        refine W.drawB hΓ 8 [[], [], [0, 1], [0, 1, 2], [0, 1, 2, 3], [], [5], [0, 1, 2, 3, 4, 5, 6]] (Es := ?Es17) (rest := ?rest17) (st1 := ?st117) ?_
        refine zL ?_
        refine zE ?_
        refine zR ?_
        refine At.roundA (k + 1) (by omega) (by omega) (hs := ?_)
        rw [hn.out]
        exact subP
    · have h1 : b1 = true := by simpa using h1
      subst h1
      by_cases h3 : i = a
      · have e : chS (a, p) (o, true, b2) (i, q) = (o, true, true) := by simp [chS, h3]
        rw [e] at hn
        have hn := Lib.hid hn
        clear e hkl
        subst h3
        refine zR ?_
        refine W.drawB hΓ 12 [[], [0], [0, 1], [0, 1, 2], [0, 1, 2], [0, 1, 2, 3, 4], [0, 1, 2, 3, 4, 5], [0, 1, 2, 3, 4, 5, 6], [0, 1, 2], [0, 1, 2, 8], [0, 1, 2, 3, 4, 5, 6, 7, 8, 9], [0, 1, 2, 3, 4, 5, 6, 7, 8, 9, 10]] (Es := ?Es20) (rest := ?rest20) (st1 := ?st120) ?_
        refine zL ?_
        refine zE ?_
        refine zR ?_
        refine W.drawB hΓ 8 [[], [], [0, 1], [0, 1, 2], [0, 1, 2, 3], [], [5], [0, 1, 2, 3, 4, 5, 6]] (Es := ?Es22) (rest := ?rest22) (st1 := ?st122) ?_
        refine zL ?_
        refine zE ?_
        refine zR ?_
        refine At.roundA (k + 1) (by omega) (by omega) (hs := ?_)
        rw [hn.out]
        exact subP
      · have e : chS (a, p) (o, true, b2) (i, q) = (o ++ [(i, q)], true, b2) := by simp [chS, h3]
        rw [e] at hn
        have hn := Lib.hid hn
        clear e hkl
        refine zR ?_
        refine W.drawB hΓ 12 [[], [0], [0, 1], [0, 1, 2], [0, 1, 2], [0, 1, 2, 3, 4], [0, 1, 2, 3, 4, 5], [0, 1, 2, 3, 4, 5, 6], [0, 1, 2], [0, 1, 2, 8], [0, 1, 2, 3, 4, 5, 6, 7, 8, 9], [0, 1, 2, 3, 4, 5, 6, 7, 8, 9, 10]] (Es := ?Es25) (rest := ?rest25) (st1 := ?st125) ?_
        refine zL ?_
        refine zE ?_
        refine zR ?_
        refine W.drawB hΓ 8 [[], [], [0, 1], [0, 1, 2], [0, 1, 2, 3], [], [5], [0, 1, 2, 3, 4, 5, 6]] (Es := ?Es27) (rest := ?rest27) (st1 := ?st127) ?_
        refine zL ?_
        refine zE ?_
        refine zR ?_
        refine At.roundA (k + 1) (by omega) (by omega) (hs := ?_)
        rw [hn.out]
        exact subP
  · have hke : k = l.length := by omega
    subst hke
    have hg : chg l (a, p) = chEnd (a, p) (chK (a, p) l l.length) := rfl
    have hb : chgB l (a, p) = ((chK (a, p) l l.length).2.2 || !decide (p = 0)) := rfl
    generalize chK (a, p) l l.length = s at *
    obtain ⟨o, b1, b2⟩ := s
    dsimp only at hkl hg hb ⊢
    have hb := Lib.hid hb
    have e1 := cVal_app o a p
    have hl1 : o.length ≤ 2097152 := by omega
    clear hkl
    cases b1 with
    | false =>
      have eg : chEnd (a, p) (o, false, b2) = o ++ [(a, p)] := rfl
      rw [eg] at hg
      have hg := Lib.hid hg
      cases b2 with
      | true =>
        refine zR ?_
        refine W.drawB hΓ 9 [[], [], [1], [1, 2], [1, 2, 3], [1, 2, 3, 4], [1, 2, 3, 4, 5], [0, 1, 2], [0, 1, 2, 3, 4, 5, 6, 7]] (Es := ?Es30) (rest := ?rest30) (st1 := ?st130) ?_
        refine zL ?_
        refine zE ?_
        refine zR ?_
        refine At.retA (by rw [Tryz.results95]) (he := ?_)
        rw [hg.out, hb.out]
        rfl
      | false =>
        by_cases h0 : p = 0
        · subst h0
          refine zR ?_
          refine W.drawB hΓ 9 [[], [], [1], [1, 2], [1, 2, 3], [1, 2, 3, 4], [1, 2, 3, 4, 5], [0, 1, 2], [0, 1, 2, 3, 4, 5, 6, 7]] (Es := ?Es34) (rest := ?rest34) (st1 := ?st134) ?_
          refine zL ?_
          refine zE ?_
          refine zR ?_
          refine At.retA (by rw [Tryz.results95]) (he := ?_)
          rw [hg.out, hb.out]
          rfl
        · refine zR ?_
          refine W.drawB hΓ 9 [[], [], [1], [1, 2], [1, 2, 3], [1, 2, 3, 4], [1, 2, 3, 4, 5], [0, 1, 2], [0, 1, 2, 3, 4, 5, 6, 7]] (Es := ?Es38) (rest := ?rest38) (st1 := ?st138) ?_
          refine zL ?_
          refine zE ?_
          refine zR ?_
          refine At.retA (by rw [Tryz.results95]) (he := ?_)
          rw [hg.out, hb.out]
          simp [h0]
    | true =>
      have eg : chEnd (a, p) (o, true, b2) = o := rfl
      rw [eg] at hg
      have hg := Lib.hid hg
      cases b2 with
      | true =>
        refine zR ?_
        refine W.drawB hΓ 9 [[], [], [1], [1, 2], [1, 2, 3], [1, 2, 3, 4], [1, 2, 3, 4, 5], [0, 1, 2], [0, 1, 2, 3, 4, 5, 6, 7]] (Es := ?Es42) (rest := ?rest42) (st1 := ?st142) ?_
        refine zL ?_
        refine zE ?_
        refine zR ?_
        refine At.retA (by rw [Tryz.results95]) (he := ?_)
        rw [hg.out, hb.out]
        rfl
      | false =>
        by_cases h0 : p = 0
        · subst h0
          refine zR ?_
          refine W.drawB hΓ 9 [[], [], [1], [1, 2], [1, 2, 3], [1, 2, 3, 4], [1, 2, 3, 4, 5], [0, 1, 2], [0, 1, 2, 3, 4, 5, 6, 7]] (Es := ?Es46) (rest := ?rest46) (st1 := ?st146) ?_
          refine zL ?_
          refine zE ?_
          refine zR ?_
          refine At.retA (by rw [Tryz.results95]) (he := ?_)
          rw [hg.out, hb.out]
          rfl
        · refine zR ?_
          refine W.drawB hΓ 9 [[], [], [1], [1, 2], [1, 2, 3], [1, 2, 3, 4], [1, 2, 3, 4, 5], [0, 1, 2], [0, 1, 2, 3, 4, 5, 6, 7]] (Es := ?Es50) (rest := ?rest50) (st1 := ?st150) ?_
          refine zL ?_
          refine zE ?_
          refine zR ?_
          refine At.retA (by rw [Tryz.results95]) (he := ?_)
          rw [hg.out, hb.out]
          simp [h0]
def chV (l : List TVal) (x : TVal) : List TVal × Bool := if valsOk l ∧ chgB l x = true ∧ valsOk (chg l x) then (chg l x, true) else (l, false)
abbrev aChV (x : List TVal × TVal) : List Arg := [aL cVal x.1, aL cVal [x.2]]
theorem aChV_inj : ∀ x y, aChV x = aChV y → x = y := by
  rintro ⟨l, a, b⟩ ⟨l', a', b'⟩ h
  simp at h
  simp [h]
noncomputable def mChV := mdl okChg aChV (fun x => rChg (chV x.1 x.2).1 (chV x.1 x.2).2)
theorem mChV_eq (l : List TVal) (x : TVal) (h : l.length ≤ 1048576) : mChV [aL cVal l, aL cVal [x]] = some (rChg (chV l x).1 (chV l x).2) := mdl_eq aChV_inj (l, x) h
theorem chV_s : Sound Tryz.prog 42 mChV := by
  refine Sound.mdl Tryz.func42 rfl Tryz.ntmps42 ?_
  rintro ⟨l, a, p⟩ w hl
  refine ⟨by simp, ?_⟩
  replace hl : l.length ≤ 1048576 := hl
  have hΓ : GSound Tryz.prog (look [(75, mVals), (95, mChg)]) := env_cons (has_of Tryz.func75 rfl rfl) valsS_s (env_cons (has_of Tryz.func95 rfl rfl) chg_s env_nil)
  have hlen := rowsF_len cVal l
  have c1 := mVals_eq l (by omega)
  have hwid := rowsF_wid (f := cVal) (s := 2) (fun _ => rfl) l
  have hrw : rowsF cVal [(a, p)] = [[.sc (.int .i64 a), .sc (.int .i64 p)]] := rfl
  have hrow : (rowsF cVal [(a, p)])[0]? = some [.sc (.int .i64 a), .sc (.int .i64 p)] := rfl
  by_cases h1 : valsOk l
  · rw [decide_eq_true h1] at c1
    have hl7 : l.length ≤ 7 := h1.1.2
    have c2 := mChg_eq l (a, p) hl
    have hgl := chg_len l (a, p)
    have hv : chV l (a, p) = if chgB l (a, p) = true ∧ valsOk (chg l (a, p)) then (chg l (a, p), true) else (l, false) := by unfold chV; simp only [h1, true_and]
    have c3 := mVals_eq (chg l (a, p)) (by omega)
    dsimp only at c2
    generalize chg l (a, p) = o at *
    generalize chgB l (a, p) = b at *
    obtain ⟨J, hJ0, hJs⟩ := twoC (α := St) [.slot 8 (vI ((0 : Nat) : Int)), .slot 7 (one (.all 11)), .slot 6 (one (.all 11)), .blk 11 (.arr .ft 76 2 (rowsF cVal l)), .slot 0 (vL cVal l), .slot 1 (vL cVal [(a, p)])] (fun k => [.slot 8 (vI ((k + 1 : Nat) : Int)), .slot 7 (one (.all 31)), .blk 31 (.arr .ft 76 2 (rowsF cVal o)), .slot 0 (vL cVal l), .slot 1 (vL cVal [(a, p)])])
    have hj1 := hJs 0
    rw [Nat.zero_add] at hj1
    simp only [initS, argPV, List.map_cons, List.map_nil, toPL, Nat.zero_add]
    refine zR ?_
    refine W.loopA (fun k => k ≤ 1 ∧ (k = 1 → b = true)) J (fun k => 1 - k) 0 ⟨Nat.zero_le _, fun h => by cases h⟩ (hs := ?_) (h := ?_)
    · rw [hJ0]
      exact subP
    rintro k ⟨hk, hkb⟩
    rcases (by omega : k = 0 ∨ k = 1) with rfl | rfl
    · clear hkb
      rw [hJ0]
      cases b with
      | false =>
        rw [if_neg (by simp)] at hv
        refine zR ?_
        refine At.retA (by rw [Tryz.results42]) (he := ?_)
        rw [hv]
      | true =>
        refine zR ?_
        refine At.roundA 1 ⟨by omega, fun _ => rfl⟩ (by omega) (hs := ?_)
        rw [hj1]
        exact subP
    · rw [hj1]
      cases b with
      | false => cases hkb rfl
      | true =>
        clear hkb
        by_cases h2 : valsOk o
        · rw [decide_eq_true h2] at c3
          rw [if_pos ⟨rfl, h2⟩] at hv
          refine zR ?_
          refine At.retA (by rw [Tryz.results42]) (he := ?_)
          rw [hv]
        · rw [decide_eq_false h2] at c3
          rw [if_neg (by simp [h2])] at hv
          refine zR ?_
          refine At.retA (by rw [Tryz.results42]) (he := ?_)
          rw [hv]
  · have hv : chV l (a, p) = (l, false) := if_neg (by simp [h1])
    rw [decide_eq_false h1] at c1
    simp only [initS, argPV, List.map_cons, List.map_nil, toPL, Nat.zero_add]
    refine zR ?_
    refine At.retA (by rw [Tryz.results42]) (he := ?_)
    rw [hv]
end Go.Proofs.YtfgkfcfplodaoaaGreatDoor

end
section
namespace Go.Proofs.YtfgkfcfplodaoaaGreatDoor
open Go Go.RowKit
abbrev oldF (w : World) (k : Nat) : Prop := k < w.heap.size ∧ globs k = none
open Classical in
noncomputable def ownA (w : World) : Nat → Option Nat := fun k => if oldF w k then some 998 else none
theorem ownA_fr {w : World} {k : Nat} (h : oldF w k) : ownA w k = some 998 := if_pos h
theorem ownA_no {w : World} {k : Nat} (h : ¬ oldF w k) : ownA w k = none := if_neg h
theorem ownA_some {w : World} {k n : Nat} (h : ownA w k = some n) : oldF w k ∧ n = 998 := by
  unfold ownA at h
  split at h
  · rename_i e
    cases h
    exact ⟨e, rfl⟩
  · cases h
def PostM (w : World) (r : Res) (e : Ending) (w' : World) : Prop :=
  ∃ u γ hdr, e = .returned u ∧ Below w.heap.size w w' ∧ (∀ b, oldF w b → γ b ≠ none) ∧ (∀ b k, w.heap.size ≤ b → γ b = some k → b < w'.heap.size ∧ AtR r hdr b k) ∧ RepR w.heap.size w' γ hdr r u
def SoundM (P : Program) (f : FuncId) (m : List Arg → Option Res) : Prop :=
  ∀ args r vs w, GlobOk none0 w → m args = some r → RepAs w args vs → Calls P f vs.toArray w (PostM w r)
def scL : Leaf → Bool
  | .sc _ => true
  | _ => false
def scA : Arg → Bool
  | .val _ ls => ls.all scL
  | _ => false
theorem scL_any {w : World} {γ : Nat → Option Nat} {l : Leaf} {u : Value} (hs : scL l = true) (h : RepL w none0 l u) : RepL w γ l u := by
  cases h with
  | sc h => exact .sc h
  | _ => simp [scL] at hs
theorem scLs_any {w : World} {γ : Nat → Option Nat} {ls : List Leaf} {us : List Value} (hs : ls.all scL = true) (h : RepLs w none0 ls us) : RepLs w γ ls us :=
  ⟨h.1, fun j l hj => by
    obtain ⟨u, h1, h2⟩ := h.2 j l hj
    exact ⟨u, h1, scL_any (List.all_eq_true.1 hs _ (List.mem_of_getElem? hj)) h2⟩⟩
theorem scA_any {w : World} {γ : Nat → Option Nat} {x : Arg} {u : Value} (hs : scA x = true) (h : RepA w x u) : RepD w γ x u := by
  cases x with
  | val g ls =>
    cases g with
    | true =>
      obtain ⟨us, rfl, h1⟩ := h
      exact ⟨us, rfl, scLs_any hs h1⟩
    | false =>
      obtain ⟨l, rfl, h1⟩ := h
      exact ⟨l, rfl, scL_any (by simpa [scA] using hs) h1⟩
  | row _ _ => cases hs
  | clo _ _ => cases hs
section
variable {P : Program} {Γ : Models} {γ0 : Nat → Option Nat} {w0 : World} {N : Nat} {st st1 : St} {a : Act} {w : World} {η : Nat → Value} {γ : Nat → Option Nat} {Q : Exit → Act → World → Prop}
theorem SoundM.of {f : FuncId} {fn : Func} {c : Code} {m : List Arg → Option Res}
    (hf : P.funcs[f]? = some fn) (hb : fn.body = some c) (hN : fn.ntmps = N)
    (h : ∀ args r w, m args = some r → args.all scA = true ∧ args.length ≤ N ∧ W P (ownA w) w N (frE (oldF w) w :: initS 0 args) c (bodyPost P fn (PostM w r))) : SoundM P f m := by
  intro args r vs w hgl hm hargs
  obtain ⟨hsc, hl, hW⟩ := h args r w hm
  refine calls_of_wp hf hb (hW _ _ ⟨fun _ => .slice none 0 0, ownA w, ?_⟩)
  have hsz : vs.length = args.length := hargs.1
  refine { slots := fun k => ?_, blks := fun n b' hb' => ?_, live := fun k n hk => ?_, low := fun k _ hk => ⟨hk, rfl⟩, os := rfl, tape := rfl, output := rfl, size := Nat.le_refl _, defers := rfl, width := ?_, glob := fun g cs hg => ?_, pin := fun _ k ls hk hbx => ?_, pinA := PinA.no fun _ fl e s rows hb => ?_ }
  · show RepV _ _ _ _ (getS (initS 0 args) k) _
    refine initS_data args 0 (fun t => (vs.toArray ++ Array.replicate (fn.ntmps - vs.toArray.size) undef).getD t undef) (fun j y hj => ?_) k
    obtain ⟨v, k1, k2⟩ := hargs.2 j y hj
    have hlt : j < vs.length := (List.getElem?_eq_some_iff.1 k1).1
    have : (vs.toArray ++ Array.replicate (fn.ntmps - vs.toArray.size) undef).getD (0 + j) undef = v := by
      rw [Array.getD_eq_getD_getElem?, Array.getElem?_append_left (by simp; omega)]
      simp [k1]
    rw [this]
    exact scA_any (List.all_eq_true.1 hsc _ (List.mem_of_getElem? hj)) k2
  · simp only [frE, getB] at hb'
    split at hb'
    · rename_i e
      cases hb'
      subst e
      refine ⟨[], ⟨rfl, .inl ⟨by simp, rfl⟩⟩, ⟨rfl, fun j x hj => by simp at hj⟩, fun row hr => by simp at hr, fun k hk => by simp [Value.ownBlock] at hk, fun e => (by cases e), fun e => (by cases e), fun S h e => ?_⟩
      injection e with e1 e2
      subst e1; subst e2
      exact ⟨by simp [Value.ownBlock], fun k hk => ⟨ownA_fr hk, rfl⟩⟩
    · rw [initS_blk] at hb'
      cases hb'
  · obtain ⟨h3, rfl⟩ := ownA_some hk
    exact ⟨h3.1, .inr (by simp [getB, nstB, Fl.nst]), by simp [getB]⟩
  · simp
    omega
  · obtain ⟨k1, k2, k3⟩ := hgl g cs hg
    exact ⟨ownA_no fun e => (by have e2 := e.2; rw [hg] at e2; cases e2), k2, k3⟩
  · simp only [frE, getB] at hbx
    rw [if_neg (by decide), initS_blk] at hbx
    cases hbx
  · simp only [frE, getB] at hb
    rw [if_neg (by decide), initS_blk] at hb
    cases hb
theorem At.retM {fn : Func} {r : Res}
    (hfr : getB st 998 = some (.arr (.fr (oldF w0) (fun k => w0.heap[k]?)) 0 1 [])) (hr : resN P st fn.results.toList = some r) (hL : apart (ownC P st 0 fn.results.toList) = true) (hL9 : ((ownC P st 0 fn.results.toList).all fun p => p.2 != 998) = true) :
    At (ownA w0) w0 N st .ret (bodyPost P fn (PostM w0 r)) := by
  classical
  intro a w ⟨η, γ, h⟩
  obtain ⟨xs, -, -, -, -, hfl⟩ := h.blks 998 _ hfr
  obtain ⟨-, hfo⟩ := hfl.2.2 _ _ rfl
  generalize hLd : ownC P st 0 fn.results.toList = L at hL hL9
  have hn9 : ∀ i n, (i, n) ∈ L → n ≠ 998 := fun i n hm => by
    have := List.all_eq_true.1 hL9 _ hm
    simpa using this
  have hge : ∀ k n, γ k = some n → n ≠ 998 → w0.heap.size ≤ k ∧ ¬ oldF w0 k := fun k n hk hn => by
    have hkf : ¬ oldF w0 k := fun e => by rw [(hfo k e).1] at hk; injection hk with hk; exact hn hk.symm
    refine ⟨Nat.le_of_not_lt fun hlt => ?_, hkf⟩
    have := (h.low k hlt (ownA_no hkf)).1
    rw [hk] at this
    cases this
  obtain ⟨u, h1, h2⟩ := retN_core h hr hLd hL (B := w0.heap.size) (γr := fun k => if oldF w0 k then some 999999 else γoutN γ L k) (fun k hk => by
      have hkb : ¬ oldF w0 k := fun e => by rw [(hfo k e).1] at hk; cases hk
      simp only [if_neg hkb, γoutN, hk]) (fun i n hm k hk => by
      obtain ⟨h3, h4⟩ := hge k n hk (hn9 i n hm)
      exact ⟨h3, by simp only [if_neg h4, γoutN, hk, (find_own hL hm).1, Option.map_some]⟩)
  refine ⟨h.defers, u, h1, u, fun k => if oldF w0 k then some 999999 else γoutN γ L k, hout η L, rfl, ⟨h.os, h.tape, h.output, h.size, fun k hk => ?_⟩, fun k hk => by simp only [if_pos hk]; simp, fun k i hkb hk => ?_, h2⟩
  · by_cases ef : oldF w0 k
    · exact (hfo k ef).2
    · exact (h.low k hk (ownA_no ef)).2
  · have hkk : ¬ oldF w0 k := fun e => absurd e.1 (by omega)
    simp only [if_neg hkk, γoutN] at hk
    cases hg : γ k with
    | none => simp [hg] at hk
    | some n =>
      simp only [hg] at hk
      obtain ⟨p, hp, rfl⟩ := Option.map_eq_some_iff.1 hk
      have h3 := List.find?_some hp
      have h4 := List.mem_of_find?_eq_some hp
      obtain ⟨i, m⟩ := p
      simp only [beq_iff_eq] at h3
      subst h3
      obtain ⟨q1, q2, _⟩ := h.live k m hg
      refine ⟨q1, q2.imp (fun q2 => ?_) (fun q2 fl e s rows hat => ?_)⟩
      · simp only [hout, (find_own hL h4).2]
        exact q2
      · obtain ⟨vs, hvs, hrv⟩ := Option.map_eq_some_iff.1 hr
        rw [← hrv] at hat
        obtain ⟨m', h5, h6⟩ := compsN_at hvs 0 hat
        have h7 : m' = m := (apart_spec hL (by rw [← hLd]; simpa using h5) h4).2 rfl
        subst h7
        rw [h6] at q2
        exact q2
theorem WL.opM {ops : Array Oper} {r : List Oper} {d f : Nat} {xs : List Operand} {ts : Array TypeId} {ty : TypeId} {pos : String} {after : Array Edge} {m : List Arg → Option Res} {args : List Arg} {res : Res}
    (hf : Has P f) (hs : SoundM P f m) (hN : d < N) (ha : argsO st xs = some args) (hm : m args = some res) (h : WL P γ0 w0 N ops r (impE st d res) Q) :
    WL P γ0 w0 N ops (⟨some d, .call ⟨.value (.func f), xs.toArray, ts⟩, ty, pos, after, none⟩ :: r) st Q := fun a w hR => by
  refine wpList_plain rfl fun K hK => ?_
  obtain ⟨η, γ, hI⟩ := hR
  have hcall := hs args res _ w hI.globw hm (argsO_sound hI ha)
  have hrun := enter_of (P := P) hf (a := a) (w := w) (args := xs) (ts := ts) (dst := some d) (ty := ty) (pos := pos) (after := after) (g := none)
  unfold Oper.wp
  rw [hrun]
  show Calls P f (xs.map a.eval).toArray w _
  refine hcall.mono fun e w' ⟨u, γr, hdr, he, hk, ho, hnew, hr⟩ => ?_
  subst he
  refine hK _ _ (h _ _ (impE_soundH hI hN hk (fun b hb hg => ?_) hnew hr))
  cases hgl : globs b with
  | none => exact absurd hg (ho b ⟨hb, hgl⟩)
  | some cs =>
    obtain ⟨m1, m2, _⟩ := hI.glob b cs hgl
    exact (hI.low b m2 m1).1
end
section
variable {γ0 : Nat → Option Nat} {w0 : World} {N : Nat} {st : St} {Q : Exit → Act → World → Prop}
theorem SoundM.mdl {f : FuncId} {fn : Func} {c : Code} {α : Type} {ok : α → Prop} {enc : α → List Arg} {g : α → Res}
    (hf : (Tryz.prog).funcs[f]? = some fn) (hb : fn.body = some c) (hN : fn.ntmps = N)
    (h : ∀ x w, ok x → (enc x).all scA = true ∧ (enc x).length ≤ N ∧ W Tryz.prog (ownA w) w N (frE (oldF w) w :: initS 0 (enc x)) c (bodyPost Tryz.prog fn (PostM w (g x)))) : SoundM Tryz.prog f (Go.Proofs.YtfgkfcfplodaoaaGreatDoor.mdl ok enc g) :=
  SoundM.of hf hb hN fun args r w hm => by
    unfold Go.Proofs.YtfgkfcfplodaoaaGreatDoor.mdl at hm
    split at hm
    · rename_i he
      cases hm
      obtain ⟨h1, h2⟩ := he.choose_spec
      have := h _ w h1
      rw [h2] at this
      exact this
    · cases hm
theorem At.retMA {fn : Func} {r r' : Res} {l : List ResultVar} (hl : fn.results.toList = l)
    (hfr : getB st 998 = some (.arr (.fr (oldF w0) (fun k => w0.heap[k]?)) 0 1 []) := by exact evcP) (hr : resN Tryz.prog st l = some r' := by simp only [resN, compsN, compN, rlsN, rlN, resV]; exact evsP) (hL : apart (ownC Tryz.prog st 0 l) = true := by simp only [ownC, resV]; exact evsP) (hL9 : ((ownC Tryz.prog st 0 l).all fun p => p.2 != 998) = true := by simp only [ownC, resV]; exact evsP) (he : r' = r) :
    At (ownA w0) w0 N st .ret (bodyPost Tryz.prog fn (PostM w0 r)) := by
  subst hl; subst he
  exact At.retM hfr hr hL hL9
theorem WL.opMA {ops : Array Oper} {r : List Oper} {d f : Nat} {xs : List Operand} {ts : Array TypeId} {ty : TypeId} {pos : String} {after : Array Edge} {m : List Arg → Option Res} {args : List Arg} {res : Res} {st1 : St}
    (hf : Has Tryz.prog f) (hs : SoundM Tryz.prog f m) (hm : m args = some res) (hN : d < N := by decide) (ha : argsO st xs = some args := by exact evsP) (hst : impE st d res = st1 := by exact evsP) (h : WL Tryz.prog γ0 w0 N ops r st1 Q) :
    WL Tryz.prog γ0 w0 N ops (⟨some d, .call ⟨.value (.func f), xs.toArray, ts⟩, ty, pos, after, none⟩ :: r) st Q := WL.opM hf hs hN ha hm (by rw [hst]; exact h)
end
end Go.Proofs.YtfgkfcfplodaoaaGreatDoor

end
