/-
  PMsgOk, Cost of spec and impl.
-/
import Derived.Test.YteaohgacgcjkjaaG15
import Derived.Test.YteaohgacgcjkjaaHEvAddrs
namespace Go.Proofs.Yteaohgacgcjkjaa
set_option maxRecDepth 100000
set_option linter.unusedVariables false
set_option linter.unusedSimpArgs false
open Go Go.RowKit
set_option maxHeartbeats 4000000

abbrev TPMsg := Int × Int × TReq × THeader × List TAddr
abbrev aPM (m : TPMsg) : Arg := .val true [.sc (.int .i64 m.1), .sc (.int .i64 m.2.1), .sc (.int .i64 m.2.2.1.1), .sc (.int .i64 m.2.2.1.2.1), .sc (.int .i64 m.2.2.1.2.2),
  .sc (.int .i64 m.2.2.2.1.1), .sc (.int .i64 m.2.2.2.1.2.1), .sc (.string m.2.2.2.1.2.2.1), .sc (.string m.2.2.2.1.2.2.2.1), .sc (.string m.2.2.2.1.2.2.2.2.1), .sc (.string m.2.2.2.1.2.2.2.2.2), .sl (rowsF cAddr m.2.2.2.2)]
theorem aPM_inj : ∀ x y : TPMsg, [aPM x] = [aPM y] → x = y := by
  rintro ⟨a, b, ⟨c, d, e⟩, ⟨f, g, h, i, j, k⟩, l⟩ ⟨a', b', ⟨c', d', e'⟩, ⟨f', g', h', i', j', k'⟩, l'⟩ h
  simp only [List.cons.injEq, Arg.val.injEq, Leaf.sc.injEq, Leaf.sl.injEq, Value.int.injEq, Value.string.injEq, rowsF_Addr, true_and, and_true] at h
  obtain ⟨rfl, rfl, rfl, rfl, rfl, rfl, rfl, rfl, rfl, rfl, rfl, rfl⟩ := h
  rfl
abbrev okPM (m : TPMsg) : Prop := m.2.2.2.2.length ≤ 8796093022207
abbrev nReq : TReq := (0, 0, 0)
abbrev nHd : THeader := (0, 0, ByteArray.empty, ByteArray.empty, ByteArray.empty, ByteArray.empty)
def msgOk (m : TPMsg) : Prop := (1 ≤ m.1 ∧ m.1 ≤ 4) ∧ (1 ≤ m.2.1 ∧ m.2.1 ≤ 99) ∧ (if m.1 = 2 then reqOk m.2.2.1 else m.2.2.1 = nReq) ∧ (if m.1 = 3 then headOk m.2.2.2.1 else m.2.2.2.1 = nHd) ∧
  (if m.1 = 4 then addrsOk m.2.2.2.2 else m.2.2.2.2.length = 0)
open Classical in
noncomputable def msgB (m : TPMsg) : Bool := decide (msgOk m)
noncomputable def mMsg := mdl okPM (fun m => [aPM m]) (fun m => rB (msgB m))
theorem mMsg_eq (m : TPMsg) (h : okPM m) : mMsg [aPM m] = some (rB (msgB m)) := mdl_eq aPM_inj m h
open Classical in
theorem msgB_yes {m : TPMsg} (h : msgOk m) : msgB m = true := by unfold msgB; exact decide_eq_true h
open Classical in
theorem msgB_no {m : TPMsg} (h : ¬ msgOk m) : msgB m = false := by unfold msgB; exact decide_eq_false h
theorem reqOk_z : ¬ reqOk nReq := fun h => absurd h.1.1 (by decide)
theorem headOk_z : ¬ headOk nHd := fun h => absurd h.1.1 (by decide)
theorem eqReq_b (a b c : Int) : (decide (a = 0) && (decide (b = 0) && decide (c = 0))) = decide ((a, b, c) = nReq) := by
  simp only [nReq, Prod.mk.injEq, Bool.decide_and]
theorem eqHd_b (a b : Int) (c d e f : ByteArray) : (decide (a = 0) && (decide (b = 0) && (decide (c = ByteArray.empty) && (decide (d = ByteArray.empty) && (decide (e = ByteArray.empty) && decide (f = ByteArray.empty)))))) = decide ((a, b, c, d, e, f) = nHd) := by
  simp only [nHd, Prod.mk.injEq, Bool.decide_and]
/-- what the tests of a message come to -/
theorem msg_cases (k f : Int) (r : TReq) (h : THeader) :
    (¬ (1 ≤ k ∧ k ≤ 4)) ∨ ((1 ≤ k ∧ k ≤ 4) ∧ ¬ (1 ≤ f ∧ f ≤ 99)) ∨
    ((1 ≤ k ∧ k ≤ 4) ∧ (1 ≤ f ∧ f ≤ 99) ∧ k = 2 ∧ ¬ r = nReq ∧ ¬ reqOk r) ∨ ((1 ≤ k ∧ k ≤ 4) ∧ (1 ≤ f ∧ f ≤ 99) ∧ k = 2 ∧ r = nReq) ∨
    ((1 ≤ k ∧ k ≤ 4) ∧ (1 ≤ f ∧ f ≤ 99) ∧ k = 2 ∧ ¬ r = nReq ∧ reqOk r ∧ ¬ h = nHd) ∨ ((1 ≤ k ∧ k ≤ 4) ∧ (1 ≤ f ∧ f ≤ 99) ∧ k = 2 ∧ ¬ r = nReq ∧ reqOk r ∧ h = nHd) ∨
    ((1 ≤ k ∧ k ≤ 4) ∧ (1 ≤ f ∧ f ≤ 99) ∧ ¬ k = 2 ∧ ¬ r = nReq) ∨
    ((1 ≤ k ∧ k ≤ 4) ∧ (1 ≤ f ∧ f ≤ 99) ∧ k = 3 ∧ r = nReq ∧ h = nHd) ∨ ((1 ≤ k ∧ k ≤ 4) ∧ (1 ≤ f ∧ f ≤ 99) ∧ k = 3 ∧ r = nReq ∧ ¬ h = nHd ∧ ¬ headOk h) ∨ ((1 ≤ k ∧ k ≤ 4) ∧ (1 ≤ f ∧ f ≤ 99) ∧ k = 3 ∧ r = nReq ∧ ¬ h = nHd ∧ headOk h) ∨
    ((1 ≤ k ∧ k ≤ 4) ∧ (1 ≤ f ∧ f ≤ 99) ∧ ¬ k = 2 ∧ ¬ k = 3 ∧ r = nReq ∧ ¬ h = nHd) ∨ ((1 ≤ k ∧ k ≤ 4) ∧ (1 ≤ f ∧ f ≤ 99) ∧ k = 4 ∧ r = nReq ∧ h = nHd) ∨ ((1 ≤ k ∧ k ≤ 4) ∧ (1 ≤ f ∧ f ≤ 99) ∧ k = 1 ∧ r = nReq ∧ h = nHd) := by
  by_cases a1 : 1 ≤ k ∧ k ≤ 4
  · by_cases a2 : 1 ≤ f ∧ f ≤ 99
    · by_cases k2 : k = 2
      · by_cases hr : r = nReq
        · simp [a1, a2, k2, hr]
        · by_cases ho : reqOk r
          · by_cases hh : h = nHd <;> simp [a1, a2, k2, hr, ho, hh]
          · simp [a1, a2, k2, hr, ho]
      · by_cases hr : r = nReq
        · by_cases k3 : k = 3
          · by_cases hh : h = nHd
            · simp [a1, a2, k3, hr, hh]
            · by_cases ho : headOk h <;> simp [a1, a2, k3, hr, hh, ho]
          · by_cases hh : h = nHd
            · have : k = 1 ∨ k = 4 := by omega
              rcases this with rfl | rfl <;> simp [a2, hr, hh]
            · simp [a1, a2, k2, k3, hr, hh]
        · simp [a1, a2, k2, hr]
    · simp [a1, a2]
  · simp [a1]


end Go.Proofs.Yteaohgacgcjkjaa
