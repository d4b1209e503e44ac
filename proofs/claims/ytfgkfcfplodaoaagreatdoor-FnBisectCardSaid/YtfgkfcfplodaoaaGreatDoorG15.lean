/-
  Put together: PFlatReq PFlatAddr PEvHead PEvValF PEvChg PEvHdOk.
-/
import Derived.Test.YtfgkfcfplodaoaaGreatDoorG9
import Derived.Test.YtfgkfcfplodaoaaGreatDoorG14
import Derived.Test.YtfgkfcfplodaoaaGreatDoorG11
import Derived.Test.YtfgkfcfplodaoaaGreatDoorG13
section
/-!
  Req: its size, copy, equality, mark and held functions, by contracts.
-/
namespace Go.Proofs.YtfgkfcfplodaoaaGreatDoor
set_option maxRecDepth 100000
set_option linter.unusedVariables false
set_option linter.unusedSimpArgs false
open Go.RowKit

end Go.Proofs.YtfgkfcfplodaoaaGreatDoor

end
section
/-!
  Addr: its size, copy, equality, mark and held functions, by contracts.
-/
namespace Go.Proofs.YtfgkfcfplodaoaaGreatDoor
set_option maxRecDepth 100000
set_option linter.unusedVariables false
set_option linter.unusedSimpArgs false
open Go.RowKit

end Go.Proofs.YtfgkfcfplodaoaaGreatDoor

end
section
/-!
  HeaderOk, ShowHeader, ShowReq, AddrsOk of spec and impl.
-/
namespace Go.Proofs.YtfgkfcfplodaoaaGreatDoor
set_option maxRecDepth 100000
set_option linter.unusedVariables false
set_option linter.unusedSimpArgs false
open Go Go.RowKit
set_option maxHeartbeats 4000000

abbrev aHd (h : THeader) : Arg := .val true [.sc (.int .i64 h.1), .sc (.int .i64 h.2.1), .sc (.string h.2.2.1), .sc (.string h.2.2.2.1), .sc (.string h.2.2.2.2.1), .sc (.string h.2.2.2.2.2)]
theorem aHd_inj : ∀ x y : THeader, [aHd x] = [aHd y] → x = y := by
  rintro ⟨a, b, c, d, e, f⟩ ⟨a', b', c', d', e', f'⟩ h
  simpa [aHd] using h
def lastN (h : Int) : Int := if h = 1 then 0 else 8
def headOk (h : THeader) : Prop := (1 ≤ h.1 ∧ h.1 ≤ 1000000) ∧ (0 ≤ h.2.1 ∧ h.2.1 ≤ 1000000) ∧ (h.2.2.2.1.size : Int) = 8 ∧ (h.2.2.2.2.1.size : Int) = 8 ∧ (h.2.2.1.size : Int) = lastN h.1 ∧ (h.2.2.2.2.2.size : Int) ≤ 20
instance (h : THeader) : Decidable (headOk h) := by unfold headOk; infer_instance
theorem cases6 (a b c d e f : Prop) : (a ∧ b ∧ c ∧ d ∧ e ∧ f) ∨ ¬ a ∨ (a ∧ ¬ b) ∨ (a ∧ b ∧ ¬ c) ∨ (a ∧ b ∧ c ∧ ¬ d) ∨ (a ∧ b ∧ c ∧ d ∧ ¬ e) ∨ (a ∧ b ∧ c ∧ d ∧ e ∧ ¬ f) := by
  by_cases ha : a <;> by_cases hb : b <;> by_cases hc : c <;> by_cases hd : d <;> by_cases he : e <;> by_cases hf : f <;> simp_all
theorem cases5 (a b c d e : Prop) : (a ∧ b ∧ c ∧ d ∧ e) ∨ ¬ a ∨ (a ∧ ¬ b) ∨ (a ∧ b ∧ ¬ c) ∨ (a ∧ b ∧ c ∧ ¬ d) ∨ (a ∧ b ∧ c ∧ d ∧ ¬ e) := by
  by_cases ha : a <;> by_cases hb : b <;> by_cases hc : c <;> by_cases hd : d <;> by_cases he : e <;> simp_all
noncomputable def mHead := mdl (fun _ : THeader => True) (fun h => [aHd h]) (fun h => rB (decide (headOk h)))
theorem mHead_eq (h : THeader) : mHead [aHd h] = some (rB (decide (headOk h))) := mdl_eq aHd_inj h trivial
noncomputable def mTime := mdl (fun _ : Int => True) (fun n => [aI n]) (fun n => rB (decide (0 ≤ n ∧ n ≤ 1000000)))
theorem mTime_eq (n : Int) : mTime [aI n] = some (rB (decide (0 ≤ n ∧ n ≤ 1000000))) := mdl_eq (by intro a b h; simpa using h) n trivial
noncomputable def mHeight := mdl (fun _ : Int => True) (fun n => [aI n]) (fun n => rB (decide (1 ≤ n ∧ n ≤ 1000000)))
theorem mHeight_eq (n : Int) : mHeight [aI n] = some (rB (decide (1 ≤ n ∧ n ≤ 1000000))) := mdl_eq (by intro a b h; simpa using h) n trivial
theorem isTime_s : Sound Tryz.prog 125 mTime := by
  refine Sound.mdl Tryz.func125 rfl Tryz.ntmps125 ?_
  rintro n w -
  refine ⟨by simp, ?_⟩
  have hΓ : GSound Tryz.prog (look [(139, mWithin)]) := env_cons (has_of Tryz.func139 rfl rfl) within_s env_nil
  have c1 := mWithin_eq n 0 1000000
  simp only [initS, argPV, List.map_cons, List.map_nil, toPL, Nat.zero_add]
  refine zR ?_
  refine At.retA (by rw [Tryz.results125]) (he := rfl)
theorem isHeight_s : Sound Tryz.prog 213 mHeight := by
  refine Sound.mdl Tryz.func213 rfl Tryz.ntmps213 ?_
  rintro n w -
  refine ⟨by simp, ?_⟩
  have hΓ : GSound Tryz.prog (look [(139, mWithin)]) := env_cons (has_of Tryz.func139 rfl rfl) within_s env_nil
  have c1 := mWithin_eq n 1 1000000
  simp only [initS, argPV, List.map_cons, List.map_nil, toPL, Nat.zero_add]
  refine zR ?_
  refine At.retA (by rw [Tryz.results213]) (he := rfl)
theorem l10Time_s : Sound Tryz.prog 74 mTime := by
  refine Sound.mdl Tryz.func74 rfl Tryz.ntmps74 ?_
  rintro n w -
  refine ⟨by simp, ?_⟩
  have hΓ : GSound Tryz.prog (look [(39, mIn)]) := env_cons (has_of Tryz.func39 rfl rfl) l1In_s env_nil
  have c1 := mIn_eq n 0 1000000
  simp only [initS, argPV, List.map_cons, List.map_nil, toPL, Nat.zero_add]
  refine zR ?_
  refine At.retA (by rw [Tryz.results74]) (he := rfl)

end Go.Proofs.YtfgkfcfplodaoaaGreatDoor

end
section
/-!
  Validators in a law's own functions: copied, compared, measured.
-/
namespace Go.Proofs.YtfgkfcfplodaoaaGreatDoor
set_option maxRecDepth 100000
set_option linter.unusedVariables false
set_option linter.unusedSimpArgs false
open Go Go.RowKit
set_option maxHeartbeats 8000000
set_option linter.unusedVariables false

theorem val_row {l : List TVal} {k : Nat} (h : k < l.length) : (rowsF cVal l)[k]? = some [.sc (.int .i64 l[k].1), .sc (.int .i64 l[k].2)] := rowsF_get cVal l k h
/-! validators -/
/-! rows of validators: equal? -/
def SameK {α : Type} (a b : List α) (k : Nat) : Prop := ∀ j, j < k → a[j]? = b[j]?
theorem SameK.next {α : Type} {a b : List α} {k : Nat} (h : SameK a b k) (h1 : k < a.length) (h2 : k < b.length) (he : a[k] = b[k]) : SameK a b (k + 1) := fun j hj => by
  rcases Nat.lt_succ_iff_lt_or_eq.1 hj with h3 | rfl
  · exact h j h3
  · rw [List.getElem?_eq_getElem h1, List.getElem?_eq_getElem h2, he]
theorem SameK.all {α : Type} {a b : List α} (hl : a.length = b.length) (h : SameK a b a.length) : a = b := List.ext_getElem? fun j => by
  rcases Nat.lt_or_ge j a.length with h1 | h1
  · exact h j h1
  · rw [List.getElem?_eq_none h1, List.getElem?_eq_none (by omega)]
end Go.Proofs.YtfgkfcfplodaoaaGreatDoor

end
section
/-!
  Validators changed by one change; validators' ids; blocks copied.
-/
namespace Go.Proofs.YtfgkfcfplodaoaaGreatDoor
set_option maxRecDepth 100000
set_option linter.unusedVariables false
set_option linter.unusedSimpArgs false
open Go Go.RowKit
set_option maxHeartbeats 8000000
set_option linter.unusedVariables false
set_option linter.unusedSimpArgs false

theorem twoC {α : Type} (a : α) (f : Nat → α) : ∃ J : Nat → α, J 0 = a ∧ ∀ k, J (k + 1) = f k := ⟨fun k => match k with | 0 => a | k + 1 => f k, rfl, fun _ => rfl⟩
/-- what is put out so far, is the new one put, was there one of its id -/
abbrev TCh := List TVal × Bool × Bool
def chS (x : TVal) (s : TCh) (v : TVal) : TCh :=
  ((if s.2.1 = false ∧ x.1 ≤ v.1 then s.1 ++ [x] else s.1) ++ (if v.1 = x.1 then [] else [v]), s.2.1 || decide (x.1 ≤ v.1), s.2.2 || decide (v.1 = x.1))
def chK (x : TVal) (l : List TVal) (k : Nat) : TCh := (l.take k).foldl (chS x) ([], decide (x.2 = 0), false)
def chEnd (x : TVal) (s : TCh) : List TVal := if s.2.1 = false then s.1 ++ [x] else s.1
def chg (l : List TVal) (x : TVal) : List TVal := chEnd x (chK x l l.length)
def chgB (l : List TVal) (x : TVal) : Bool := (chK x l l.length).2.2 || !decide (x.2 = 0)
theorem chK_next (x : TVal) {l : List TVal} {k : Nat} (h : k < l.length) : chK x l (k + 1) = chS x (chK x l k) l[k] := by
  unfold chK
  rw [List.take_succ_eq_append_getElem h, List.foldl_append]
  rfl
theorem chK_len (x : TVal) (l : List TVal) : ∀ k, (chK x l k).1.length ≤ 2 * k
  | 0 => by simp [chK]
  | k + 1 => by
    have ih := chK_len x l k
    by_cases h : k < l.length
    · rw [chK_next x h]
      generalize chK x l k = s at *
      unfold chS
      simp only [List.length_append]
      have h1 : (if s.2.1 = false ∧ x.1 ≤ l[k].1 then s.1 ++ [x] else s.1).length ≤ s.1.length + 1 := by split <;> simp
      have h2 : (if l[k].1 = x.1 then ([] : List TVal) else [l[k]]).length ≤ 1 := by split <;> simp
      omega
    · have : chK x l (k + 1) = chK x l k := by unfold chK; rw [List.take_of_length_le (by omega), List.take_of_length_le (by omega)]
      rw [this]
      omega
theorem chg_len (l : List TVal) (x : TVal) : (chg l x).length ≤ 2 * l.length + 1 := by
  have := chK_len x l l.length
  unfold chg chEnd
  split
  · simp; omega
  · omega
abbrev okChg (x : List TVal × TVal) : Prop := x.1.length ≤ 1048576
abbrev aChg (x : List TVal × TVal) : List Arg := [aL cVal x.1, .val true [.sc (.int .i64 x.2.1), .sc (.int .i64 x.2.2)]]
theorem aChg_inj : ∀ x y, aChg x = aChg y → x = y := by
  rintro ⟨l, a, b⟩ ⟨l', a', b'⟩ h
  simp at h
  simp [h]
abbrev rChg (l : List TVal) (b : Bool) : Res := .tup [(false, [.own .ft 76 2 (rowsF cVal l)]), rSc (.bool b)]
noncomputable def mChg := mdl okChg aChg (fun x => rChg (chg x.1 x.2) (chgB x.1 x.2))
theorem mChg_eq (l : List TVal) (x : TVal) (h : l.length ≤ 1048576) : mChg [aL cVal l, .val true [.sc (.int .i64 x.1), .sc (.int .i64 x.2)]] = some (rChg (chg l x) (chgB l x)) := mdl_eq aChg_inj (l, x) h
theorem chg_s : Sound Tryz.prog 95 mChg := by
  refine Sound.mdl Tryz.func95 rfl Tryz.ntmps95 ?_
  rintro ⟨l, a, p⟩ w hl
  refine ⟨by simp, ?_⟩
  replace hl : l.length ≤ 1048576 := hl
  have hΓ : GSound Tryz.prog (look []) := env_nil
  have hlen := rowsF_len cVal l
  have hnil : rowsF cVal [] = [] := rfl
  simp only [initS, argPV, List.map_cons, List.map_nil, toPL, Nat.zero_add]
  refine zR ?_
  refine W.loopA (fun k => k ≤ l.length) (fun k : Nat => [.slot 0 (vL cVal l), .slot 3 (one (.ptr 3 0)), .blk 3 (.box [.sc (.int .i64 a), .sc (.int .i64 p)]), .slot 6 (one (.all 10)), .blk 10 (.arr .ft 76 2 (rowsF cVal (chK (a, p) l k).1)), .slot 7 (one (.sc (.bool (chK (a, p) l k).2.1))), .slot 8 (one (.sc (.bool (chK (a, p) l k).2.2))), .slot 9 (vI k)]) (fun k => l.length - k) 0 (Nat.zero_le _) (h := ?_)
  rintro k hk
  have hkl := chK_len (a, p) l k
  by_cases hlt : k < l.length
  · have hrow := val_row hlt
    have hn := chK_next (a, p) hlt
    generalize l[k] = v at *
    obtain ⟨i, q⟩ := v
    generalize chK (a, p) l k = s at *
    obtain ⟨o, b1, b2⟩ := s
    dsimp only at hkl ⊢
    have e1 := cVal_app o a p
    have e2 := cVal_app o i q
    have e3 := cVal_app (o ++ [(a, p)]) i q
    have hl1 : o.length ≤ 2097152 := by omega
    have hl2 : (o ++ [(a, p)]).length ≤ 2097153 := by rw [List.length_append]; simp; omega
    by_cases h1 : b1 = false
    · subst h1
      by_cases h2 : a ≤ i
      · by_cases h3 : i = a
        · have e : chS (a, p) (o, false, b2) (i, q) = (o ++ [(a, p)], true, true) := by simp [chS, h2, h3]
          rw [e] at hn
          have hn := Lib.hid hn
          clear e hkl
          subst h3
          refine zR ?_
          refine W.drawB hΓ 12 [[], [0], [0, 1], [0, 1, 2], [0, 1, 2], [0, 1, 2, 3, 4], [0, 1, 2, 3, 4, 5], [0, 1, 2, 3, 4, 5, 6], [0, 1, 2], [0, 1, 2, 8], [0, 1, 2, 3, 4, 5, 6, 7, 8, 9], [0, 1, 2, 3, 4, 5, 6, 7, 8, 9, 10]] (Es := ?Es5) (rest := ?rest5) (st1 := ?st15) ?_
          refine zL ?_
          refine zE ?_
          refine zR ?_
          refine W.drawB hΓ 8 [[], [], [0, 1], [0, 1, 2], [0, 1, 2, 3], [], [5], [0, 1, 2, 3, 4, 5, 6]] (Es := ?Es7) (rest := ?rest7) (st1 := ?st17) ?_
          refine zL ?_
          refine zE ?_
          refine zR ?_
          refine At.roundA (k + 1) (by omega) (by omega) (hs := ?_)
          rw [hn.out]
          exact subP
        · have e : chS (a, p) (o, false, b2) (i, q) = (o ++ [(a, p)] ++ [(i, q)], true, b2) := by simp [chS, h2, h3]
          rw [e] at hn
          have hn := Lib.hid hn
          clear e hkl
          refine zR ?_
          refine W.drawB hΓ 12 [[], [0], [0, 1], [0, 1, 2], [0, 1, 2], [0, 1, 2, 3, 4], [0, 1, 2, 3, 4, 5], [0, 1, 2, 3, 4, 5, 6], [0, 1, 2], [0, 1, 2, 8], [0, 1, 2, 3, 4, 5, 6, 7, 8, 9], [0, 1, 2, 3, 4, 5, 6, 7, 8, 9, 10]] (Es := ?Es10) (rest := ?rest10) (st1 := ?st110) ?_
          refine zL ?_
          refine zE ?_
          refine zR ?_
          refine W.drawB hΓ 8 [[], [], [0, 1], [0, 1, 2], [0, 1, 2, 3], [], [5], [0, 1, 2, 3, 4, 5, 6]] (Es := ?Es12) (rest := ?rest12) (st1 := ?st112) ?_
          refine zL ?_
          refine zE ?_
          refine zR ?_
          refine At.roundA (k + 1) (by omega) (by omega) (hs := ?_)
          rw [hn.out]
          exact subP
      · have h3 : ¬ i = a := by omega
        have e : chS (a, p) (o, false, b2) (i, q) = (o ++ [(i, q)], false, b2) := by simp [chS, h2, h3]
        rw [e] at hn
        have hn := Lib.hid hn
        clear e hkl
        refine zR ?_
        refine W.drawB hΓ 12 [[], [0], [0, 1], [0, 1, 2], [0, 1, 2], [0, 1, 2, 3, 4], [0, 1, 2, 3, 4, 5], [0, 1, 2, 3, 4, 5, 6], [0, 1, 2], [0, 1, 2, 8], [0, 1, 2, 3, 4, 5, 6, 7, 8, 9], [0, 1, 2, 3, 4, 5, 6, 7, 8, 9, 10]] (Es := ?Es15) (rest := ?rest15) (st1 := ?st115) ?_
        refine zL ?_
        refine zE ?_
        refine zR ?_
        refine W.drawB hΓ 8 [[], [], [0, 1], [0, 1, 2], [0, 1, 2, 3], [], [5], [0, 1, 2, 3, 4, 5, 6]] (Es := ?Es17) (rest := ?rest17) (st1 := ?st117) ?_
        refine zL ?_
        refine zE ?_
        refine zR ?_
        refine At.roundA (k + 1) (by omega) (by omega) (hs := ?_)
        rw [hn.out]
        exact subP
    · have h1 : b1 = true := by simpa using h1
      subst h1
      by_cases h3 : i = a
      · have e : chS (a, p) (o, true, b2) (i, q) = (o, true, true) := by simp [chS, h3]
        rw [e] at hn
        have hn := Lib.hid hn
        clear e hkl
        subst h3
        refine zR ?_
        refine W.drawB hΓ 12 [[], [0], [0, 1], [0, 1, 2], [0, 1, 2], [0, 1, 2, 3, 4], [0, 1, 2, 3, 4, 5], [0, 1, 2, 3, 4, 5, 6], [0, 1, 2], [0, 1, 2, 8], [0, 1, 2, 3, 4, 5, 6, 7, 8, 9], [0, 1, 2, 3, 4, 5, 6, 7, 8, 9, 10]] (Es := ?Es20) (rest := ?rest20) (st1 := ?st120) ?_
        refine zL ?_
        refine zE ?_
        refine zR ?_
        refine W.drawB hΓ 8 [[], [], [0, 1], [0, 1, 2], [0, 1, 2, 3], [], [5], [0, 1, 2, 3, 4, 5, 6]] (Es := ?Es22) (rest := ?rest22) (st1 := ?st122) ?_
        refine zL ?_
        refine zE ?_
        refine zR ?_
        refine At.roundA (k + 1) (by omega) (by omega) (hs := ?_)
        rw [hn.out]
        exact subP
      · have e : chS (a, p) (o, true, b2) (i, q) = (o ++ [(i, q)], true, b2) := by simp [chS, h3]
        rw [e] at hn
        have hn := Lib.hid hn
        clear e hkl
        refine zR ?_
        refine W.drawB hΓ 12 [[], [0], [0, 1], [0, 1, 2], [0, 1, 2], [0, 1, 2, 3, 4], [0, 1, 2, 3, 4, 5], [0, 1, 2, 3, 4, 5, 6], [0, 1, 2], [0, 1, 2, 8], [0, 1, 2, 3, 4, 5, 6, 7, 8, 9], [0, 1, 2, 3, 4, 5, 6, 7, 8, 9, 10]] (Es := ?Es25) (rest := ?rest25) (st1 := ?st125) ?_
        refine zL ?_
        refine zE ?_
        refine zR ?_
        refine W.drawB hΓ 8 [[], [], [0, 1], [0, 1, 2], [0, 1, 2, 3], [], [5], [0, 1, 2, 3, 4, 5, 6]] (Es := ?Es27) (rest := ?rest27) (st1 := ?st127) ?_
        refine zL ?_
        refine zE ?_
        refine zR ?_
        refine At.roundA (k + 1) (by omega) (by omega) (hs := ?_)
        rw [hn.out]
        exact subP
  · have hke : k = l.length := by omega
    subst hke
    have hg : chg l (a, p) = chEnd (a, p) (chK (a, p) l l.length) := rfl
    have hb : chgB l (a, p) = ((chK (a, p) l l.length).2.2 || !decide (p = 0)) := rfl
    generalize chK (a, p) l l.length = s at *
    obtain ⟨o, b1, b2⟩ := s
    dsimp only at hkl hg hb ⊢
    have hb := Lib.hid hb
    have e1 := cVal_app o a p
    have hl1 : o.length ≤ 2097152 := by omega
    clear hkl
    cases b1 with
    | false =>
      have eg : chEnd (a, p) (o, false, b2) = o ++ [(a, p)] := rfl
      rw [eg] at hg
      have hg := Lib.hid hg
      cases b2 with
      | true =>
        refine zR ?_
        refine W.drawB hΓ 9 [[], [], [1], [1, 2], [1, 2, 3], [1, 2, 3, 4], [1, 2, 3, 4, 5], [0, 1, 2], [0, 1, 2, 3, 4, 5, 6, 7]] (Es := ?Es30) (rest := ?rest30) (st1 := ?st130) ?_
        refine zL ?_
        refine zE ?_
        refine zR ?_
        refine At.retA (by rw [Tryz.results95]) (he := ?_)
        rw [hg.out, hb.out]
        rfl
      | false =>
        by_cases h0 : p = 0
        · subst h0
          refine zR ?_
          refine W.drawB hΓ 9 [[], [], [1], [1, 2], [1, 2, 3], [1, 2, 3, 4], [1, 2, 3, 4, 5], [0, 1, 2], [0, 1, 2, 3, 4, 5, 6, 7]] (Es := ?Es34) (rest := ?rest34) (st1 := ?st134) ?_
          refine zL ?_
          refine zE ?_
          refine zR ?_
          refine At.retA (by rw [Tryz.results95]) (he := ?_)
          rw [hg.out, hb.out]
          rfl
        · refine zR ?_
          refine W.drawB hΓ 9 [[], [], [1], [1, 2], [1, 2, 3], [1, 2, 3, 4], [1, 2, 3, 4, 5], [0, 1, 2], [0, 1, 2, 3, 4, 5, 6, 7]] (Es := ?Es38) (rest := ?rest38) (st1 := ?st138) ?_
          refine zL ?_
          refine zE ?_
          refine zR ?_
          refine At.retA (by rw [Tryz.results95]) (he := ?_)
          rw [hg.out, hb.out]
          simp [h0]
    | true =>
      have eg : chEnd (a, p) (o, true, b2) = o := rfl
      rw [eg] at hg
      have hg := Lib.hid hg
      cases b2 with
      | true =>
        refine zR ?_
        refine W.drawB hΓ 9 [[], [], [1], [1, 2], [1, 2, 3], [1, 2, 3, 4], [1, 2, 3, 4, 5], [0, 1, 2], [0, 1, 2, 3, 4, 5, 6, 7]] (Es := ?Es42) (rest := ?rest42) (st1 := ?st142) ?_
        refine zL ?_
        refine zE ?_
        refine zR ?_
        refine At.retA (by rw [Tryz.results95]) (he := ?_)
        rw [hg.out, hb.out]
        rfl
      | false =>
        by_cases h0 : p = 0
        · subst h0
          refine zR ?_
          refine W.drawB hΓ 9 [[], [], [1], [1, 2], [1, 2, 3], [1, 2, 3, 4], [1, 2, 3, 4, 5], [0, 1, 2], [0, 1, 2, 3, 4, 5, 6, 7]] (Es := ?Es46) (rest := ?rest46) (st1 := ?st146) ?_
          refine zL ?_
          refine zE ?_
          refine zR ?_
          refine At.retA (by rw [Tryz.results95]) (he := ?_)
          rw [hg.out, hb.out]
          rfl
        · refine zR ?_
          refine W.drawB hΓ 9 [[], [], [1], [1, 2], [1, 2, 3], [1, 2, 3, 4], [1, 2, 3, 4, 5], [0, 1, 2], [0, 1, 2, 3, 4, 5, 6, 7]] (Es := ?Es50) (rest := ?rest50) (st1 := ?st150) ?_
          refine zL ?_
          refine zE ?_
          refine zR ?_
          refine At.retA (by rw [Tryz.results95]) (he := ?_)
          rw [hg.out, hb.out]
          simp [h0]
/-- the validators behind one change, and does it fit -/
def chV (l : List TVal) (x : TVal) : List TVal × Bool := if valsOk l ∧ chgB l x = true ∧ valsOk (chg l x) then (chg l x, true) else (l, false)
abbrev aChV (x : List TVal × TVal) : List Arg := [aL cVal x.1, aL cVal [x.2]]
theorem aChV_inj : ∀ x y, aChV x = aChV y → x = y := by
  rintro ⟨l, a, b⟩ ⟨l', a', b'⟩ h
  simp at h
  simp [h]
noncomputable def mChV := mdl okChg aChV (fun x => rChg (chV x.1 x.2).1 (chV x.1 x.2).2)
theorem mChV_eq (l : List TVal) (x : TVal) (h : l.length ≤ 1048576) : mChV [aL cVal l, aL cVal [x]] = some (rChg (chV l x).1 (chV l x).2) := mdl_eq aChV_inj (l, x) h
theorem chV_s : Sound Tryz.prog 42 mChV := by
  refine Sound.mdl Tryz.func42 rfl Tryz.ntmps42 ?_
  rintro ⟨l, a, p⟩ w hl
  refine ⟨by simp, ?_⟩
  replace hl : l.length ≤ 1048576 := hl
  have hΓ : GSound Tryz.prog (look [(75, mVals), (95, mChg)]) := env_cons (has_of Tryz.func75 rfl rfl) valsS_s (env_cons (has_of Tryz.func95 rfl rfl) chg_s env_nil)
  have hlen := rowsF_len cVal l
  have c1 := mVals_eq l (by omega)
  have hwid := rowsF_wid (f := cVal) (s := 2) (fun _ => rfl) l
  have hrw : rowsF cVal [(a, p)] = [[.sc (.int .i64 a), .sc (.int .i64 p)]] := rfl
  have hrow : (rowsF cVal [(a, p)])[0]? = some [.sc (.int .i64 a), .sc (.int .i64 p)] := rfl
  by_cases h1 : valsOk l
  · rw [decide_eq_true h1] at c1
    have hl7 : l.length ≤ 7 := h1.1.2
    have c2 := mChg_eq l (a, p) hl
    have hgl := chg_len l (a, p)
    have hv : chV l (a, p) = if chgB l (a, p) = true ∧ valsOk (chg l (a, p)) then (chg l (a, p), true) else (l, false) := by unfold chV; simp only [h1, true_and]
    have c3 := mVals_eq (chg l (a, p)) (by omega)
    dsimp only at c2
    generalize chg l (a, p) = o at *
    generalize chgB l (a, p) = b at *
    obtain ⟨J, hJ0, hJs⟩ := twoC (α := St) [.slot 8 (vI ((0 : Nat) : Int)), .slot 7 (one (.all 11)), .slot 6 (one (.all 11)), .blk 11 (.arr .ft 76 2 (rowsF cVal l)), .slot 0 (vL cVal l), .slot 1 (vL cVal [(a, p)])] (fun k => [.slot 8 (vI ((k + 1 : Nat) : Int)), .slot 7 (one (.all 31)), .blk 31 (.arr .ft 76 2 (rowsF cVal o)), .slot 0 (vL cVal l), .slot 1 (vL cVal [(a, p)])])
    have hj1 := hJs 0
    rw [Nat.zero_add] at hj1
    simp only [initS, argPV, List.map_cons, List.map_nil, toPL, Nat.zero_add]
    refine zR ?_
    refine W.loopA (fun k => k ≤ 1 ∧ (k = 1 → b = true)) J (fun k => 1 - k) 0 ⟨Nat.zero_le _, fun h => by cases h⟩ (hs := ?_) (h := ?_)
    · rw [hJ0]
      exact subP
    rintro k ⟨hk, hkb⟩
    rcases (by omega : k = 0 ∨ k = 1) with rfl | rfl
    · clear hkb
      rw [hJ0]
      cases b with
      | false =>
        rw [if_neg (by simp)] at hv
        refine zR ?_
        refine At.retA (by rw [Tryz.results42]) (he := ?_)
        rw [hv]
      | true =>
        refine zR ?_
        refine At.roundA 1 ⟨by omega, fun _ => rfl⟩ (by omega) (hs := ?_)
        rw [hj1]
        exact subP
    · rw [hj1]
      cases b with
      | false => cases hkb rfl
      | true =>
        clear hkb
        by_cases h2 : valsOk o
        · rw [decide_eq_true h2] at c3
          rw [if_pos ⟨rfl, h2⟩] at hv
          refine zR ?_
          refine At.retA (by rw [Tryz.results42]) (he := ?_)
          rw [hv]
        · rw [decide_eq_false h2] at c3
          rw [if_neg (by simp [h2])] at hv
          refine zR ?_
          refine At.retA (by rw [Tryz.results42]) (he := ?_)
          rw [hv]
  · have hv : chV l (a, p) = (l, false) := if_neg (by simp [h1])
    rw [decide_eq_false h1] at c1
    simp only [initS, argPV, List.map_cons, List.map_nil, toPL, Nat.zero_add]
    refine zR ?_
    refine At.retA (by rw [Tryz.results42]) (he := ?_)
    rw [hv]
end Go.Proofs.YtfgkfcfplodaoaaGreatDoor

end
section
/-!
  HeaderOk of spec and impl.
-/
namespace Go.Proofs.YtfgkfcfplodaoaaGreatDoor
set_option maxRecDepth 100000
set_option linter.unusedVariables false
set_option linter.unusedSimpArgs false
open Go Go.RowKit
set_option maxHeartbeats 4000000

theorem headS_s : Sound Tryz.prog 50 mHead := by
  refine Sound.mdl Tryz.func50 rfl Tryz.ntmps50 ?_
  rintro ⟨h, t, la, va, ne, da⟩ w -
  refine ⟨by simp, ?_⟩
  have hΓ : GSound Tryz.prog (look [(39, mIn)]) := env_cons (has_of Tryz.func39 rfl rfl) l1In_s env_nil
  have c1 := mIn_eq h 1 1000000
  have c2 := mIn_eq t 0 1000000
  simp only [initS, argPV, List.map_cons, List.map_nil, toPL, Nat.zero_add]
  by_cases e1 : h = 1
  · subst e1
    rcases cases5 ((0 : Int) ≤ t ∧ t ≤ 1000000) ((va.size : Int) = 8) ((ne.size : Int) = 8) ((la.size : Int) = 0) ((da.size : Int) ≤ 20) with h | h | h | h | h | h
    all_goals
      refine zR ?_
      refine At.retA (by rw [Tryz.results50]) (he := ?_)
      first
        | (simp [headOk, lastN, h]; done)
        | (simp [headOk, lastN, h]; intro e; subst e; simp at h)
  · rcases cases6 ((1 : Int) ≤ h ∧ h ≤ 1000000) ((0 : Int) ≤ t ∧ t ≤ 1000000) ((va.size : Int) = 8) ((ne.size : Int) = 8) ((la.size : Int) = 8) ((da.size : Int) ≤ 20) with h | h | h | h | h | h | h
    all_goals
      refine zR ?_
      refine At.retA (by rw [Tryz.results50]) (he := ?_)
      simp [headOk, lastN, h, e1]
theorem headI_s : Sound Tryz.prog 165 mHead := by
  refine Sound.mdl Tryz.func165 rfl Tryz.ntmps165 ?_
  rintro ⟨h, t, la, va, ne, da⟩ w -
  refine ⟨by simp, ?_⟩
  have hΓ : GSound Tryz.prog (look [(213, mHeight), (125, mTime)]) := env_cons (has_of Tryz.func213 rfl rfl) isHeight_s (env_cons (has_of Tryz.func125 rfl rfl) isTime_s env_nil)
  have c1 := mHeight_eq h
  have c2 := mTime_eq t
  simp only [initS, argPV, List.map_cons, List.map_nil, toPL, Nat.zero_add]
  by_cases e1 : h = 1
  · subst e1
    rcases cases5 ((0 : Int) ≤ t ∧ t ≤ 1000000) ((va.size : Int) = 8) ((ne.size : Int) = 8) ((la.size : Int) = 0) ((da.size : Int) ≤ 20) with h | h | h | h | h | h
    all_goals
      refine zR ?_
      refine At.retA (by rw [Tryz.results165]) (he := ?_)
      first
        | (simp [headOk, lastN, h]; done)
        | (simp [headOk, lastN, h]; intro e; subst e; simp at h)
  · rcases cases6 ((1 : Int) ≤ h ∧ h ≤ 1000000) ((0 : Int) ≤ t ∧ t ≤ 1000000) ((va.size : Int) = 8) ((ne.size : Int) = 8) ((la.size : Int) = 8) ((da.size : Int) ≤ 20) with h | h | h | h | h | h | h
    all_goals
      refine zR ?_
      refine At.retA (by rw [Tryz.results165]) (he := ?_)
      simp [headOk, lastN, h, e1]


end Go.Proofs.YtfgkfcfplodaoaaGreatDoor

end
