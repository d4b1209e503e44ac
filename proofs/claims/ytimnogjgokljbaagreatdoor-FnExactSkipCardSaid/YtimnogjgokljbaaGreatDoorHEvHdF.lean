/-
  A header in a law's own functions: measured, copied, compared.
-/
import Derived.Test.YtimnogjgokljbaaGreatDoorG10
namespace Go.Proofs.YtimnogjgokljbaaGreatDoor
set_option maxRecDepth 100000
set_option linter.unusedVariables false
set_option linter.unusedSimpArgs false
open Go Go.RowKit
set_option maxHeartbeats 4000000

def szR (tot : Nat) (left : Int) : Int := if (tot : Int) ≤ left then left - tot else -1
theorem szR_yes {tot : Nat} {left : Int} (h : (tot : Int) ≤ left) : szR tot left = left - tot := if_pos h
theorem szR_no {tot : Nat} {left : Int} (h : ¬ (tot : Int) ≤ left) : szR tot left = -1 := if_neg h
abbrev okSz (h : THeader) : Prop := h.2.2.1.size ≤ 9223372036854775807 ∧ h.2.2.2.1.size ≤ 9223372036854775807 ∧ h.2.2.2.2.1.size ≤ 9223372036854775807 ∧ h.2.2.2.2.2.size ≤ 9223372036854775807
abbrev leftOk (n : Int) : Prop := 0 ≤ n ∧ n ≤ 1048576

noncomputable def mSzHd := mdl (fun x : THeader × Int => okSz x.1 ∧ leftOk x.2) (fun x => [aHd x.1, aI x.2]) (fun x => rI (szR (totHeader x.1) x.2))
theorem mSzHd_eq (h : THeader) (n : Int) (h1 : okSz h) (h2 : leftOk n) : mSzHd [aHd h, aI n] = some (rI (szR (totHeader h) n)) := mdl_eq (by
  rintro ⟨⟨a, b, c, d, e, f⟩, n⟩ ⟨⟨a', b', c', d', e', f'⟩, n'⟩ h
  simp at h
  simp [h]) (h, n) ⟨h1, h2⟩
theorem szHd_s : Sound Tryz.prog 35 mSzHd := by
  refine Sound.mdl Tryz.func35 rfl Tryz.ntmps35 ?_
  rintro ⟨⟨h, t, la, va, ne, da⟩, n⟩ w ⟨⟨s1, s2, s3, s4⟩, n1, n2⟩
  refine ⟨by simp, ?_⟩
  dsimp only at s1 s2 s3 s4 n1 n2
  have hΓ : GSound Tryz.prog (look []) := env_nil
  simp only [initS, argPV, List.map_cons, List.map_nil, toPL, Nat.zero_add]
  have ht : totHeader (h, t, la, va, ne, da) = la.size + va.size + ne.size + da.size := rfl
  by_cases b1 : (la.size : Int) ≤ n
  · by_cases b2 : (la.size : Int) + va.size ≤ n
    · by_cases b3 : (la.size : Int) + va.size + ne.size ≤ n
      · by_cases b4 : (la.size : Int) + va.size + ne.size + da.size ≤ n
        · have hr := szR_yes (tot := la.size + va.size + ne.size + da.size) (left := n) (by omega)
          repeat (first | with_reducible (first | apply W.seq | apply W.block | apply W.skip | apply W.exit | apply W.ret | apply At.seqN | apply At.blkN | apply At.blkE | apply At.blkR | apply At.thenX | apply At.thenR | apply At.blkX rfl) | ((with_reducible apply W.ops); (repeat (first | refine WL.opA hΓ (h := ?_) | refine WL.opX hΓ (h := ?_) | refine WL.opY (h := ?_) | refine WL.opZ (h := ?_))); with_reducible apply WL.nil) | refine W.condT (h := ?_) | refine W.condF (h := ?_))
          refine At.retA (by rw [Tryz.results35]) (he := ?_)
          rw [ht, hr]
          congr 5
          omega
        · have hr := szR_no (tot := la.size + va.size + ne.size + da.size) (left := n) (by omega)
          repeat (first | with_reducible (first | apply W.seq | apply W.block | apply W.skip | apply W.exit | apply W.ret | apply At.seqN | apply At.blkN | apply At.blkE | apply At.blkR | apply At.thenX | apply At.thenR | apply At.blkX rfl) | ((with_reducible apply W.ops); (repeat (first | refine WL.opA hΓ (h := ?_) | refine WL.opX hΓ (h := ?_) | refine WL.opY (h := ?_) | refine WL.opZ (h := ?_))); with_reducible apply WL.nil) | refine W.condT (h := ?_) | refine W.condF (h := ?_))
          refine At.retA (by rw [Tryz.results35]) (he := ?_)
          rw [ht, hr]
      · have hr := szR_no (tot := la.size + va.size + ne.size + da.size) (left := n) (by omega)
        repeat (first | with_reducible (first | apply W.seq | apply W.block | apply W.skip | apply W.exit | apply W.ret | apply At.seqN | apply At.blkN | apply At.blkE | apply At.blkR | apply At.thenX | apply At.thenR | apply At.blkX rfl) | ((with_reducible apply W.ops); (repeat (first | refine WL.opA hΓ (h := ?_) | refine WL.opX hΓ (h := ?_) | refine WL.opY (h := ?_) | refine WL.opZ (h := ?_))); with_reducible apply WL.nil) | refine W.condT (h := ?_) | refine W.condF (h := ?_))
        refine At.retA (by rw [Tryz.results35]) (he := ?_)
        rw [ht, hr]
    · have hr := szR_no (tot := la.size + va.size + ne.size + da.size) (left := n) (by omega)
      repeat (first | with_reducible (first | apply W.seq | apply W.block | apply W.skip | apply W.exit | apply W.ret | apply At.seqN | apply At.blkN | apply At.blkE | apply At.blkR | apply At.thenX | apply At.thenR | apply At.blkX rfl) | ((with_reducible apply W.ops); (repeat (first | refine WL.opA hΓ (h := ?_) | refine WL.opX hΓ (h := ?_) | refine WL.opY (h := ?_) | refine WL.opZ (h := ?_))); with_reducible apply WL.nil) | refine W.condT (h := ?_) | refine W.condF (h := ?_))
      refine At.retA (by rw [Tryz.results35]) (he := ?_)
      rw [ht, hr]
  · have hr := szR_no (tot := la.size + va.size + ne.size + da.size) (left := n) (by omega)
    repeat (first | with_reducible (first | apply W.seq | apply W.block | apply W.skip | apply W.exit | apply W.ret | apply At.seqN | apply At.blkN | apply At.blkE | apply At.blkR | apply At.thenX | apply At.thenR | apply At.blkX rfl) | ((with_reducible apply W.ops); (repeat (first | refine WL.opA hΓ (h := ?_) | refine WL.opX hΓ (h := ?_) | refine WL.opY (h := ?_) | refine WL.opZ (h := ?_))); with_reducible apply WL.nil) | refine W.condT (h := ?_) | refine W.condF (h := ?_))
    refine At.retA (by rw [Tryz.results35]) (he := ?_)
    rw [ht, hr]
abbrev roI (n : Int) : RL := .ro (.sc (.int .i64 n))
abbrev roS (s : ByteArray) : RL := .ro (.sc (.string s))
abbrev rHd (h : THeader) : Res := .comp true [roI h.1, roI h.2.1, roS h.2.2.1, roS h.2.2.2.1, roS h.2.2.2.2.1, roS h.2.2.2.2.2]
noncomputable def mToHd := mdl (fun _ : THeader => True) (fun r => [aHd r]) (fun r => rHd r)
theorem mToHd_eq (r : THeader) : mToHd [aHd r] = some (rHd r) := mdl_eq aHd_inj r trivial
theorem toHd_s : Sound Tryz.prog 43 mToHd := by
  refine Sound.mdl Tryz.func43 rfl Tryz.ntmps43 ?_
  rintro ⟨a, b, c, d, e, f⟩ w -
  refine ⟨by simp, ?_⟩
  have hΓ : GSound Tryz.prog (look []) := env_nil
  simp only [initS, argPV, List.map_cons, List.map_nil, toPL, Nat.zero_add]
  repeat (first | with_reducible (first | apply W.seq | apply W.block | apply W.skip | apply W.exit | apply W.ret | apply At.seqN | apply At.blkN | apply At.blkE | apply At.blkR | apply At.thenX | apply At.thenR | apply At.blkX rfl) | ((with_reducible apply W.ops); (repeat (first | refine WL.opA hΓ (h := ?_) | refine WL.opX hΓ (h := ?_) | refine WL.opY (h := ?_) | refine WL.opZ (h := ?_))); with_reducible apply WL.nil) | refine W.condT (h := ?_) | refine W.condF (h := ?_))
  refine At.retA (by rw [Tryz.results43]) (he := rfl)
noncomputable def mEqHd := mdl (fun _ : THeader × THeader => True) (fun x => [aHd x.1, aHd x.2]) (fun x => rB (decide (x.1 = x.2)))
theorem mEqHd_eq (x y : THeader) : mEqHd [aHd x, aHd y] = some (rB (decide (x = y))) := mdl_eq (by
  rintro ⟨⟨a, b, c, d, e, f⟩, a', b', c', d', e', f'⟩ ⟨⟨g, i, j, k, l, m⟩, g', i', j', k', l', m'⟩ h
  simp at h
  simp [h]) (x, y) trivial
theorem eqHd_s : Sound Tryz.prog 49 mEqHd := by
  refine Sound.mdl Tryz.func49 rfl Tryz.ntmps49 ?_
  rintro ⟨⟨a, b, c, d, e, f⟩, a', b', c', d', e', f'⟩ w -
  refine ⟨by simp, ?_⟩
  have hΓ : GSound Tryz.prog (look []) := env_nil
  simp only [initS, argPV, List.map_cons, List.map_nil, toPL, Nat.zero_add]
  rcases cases6 (a = a') (b = b') (c = c') (d = d') (e = e') (f = f') with ⟨rfl, rfl, rfl, rfl, rfl, rfl⟩ | h | h | h | h | h | h
  · repeat (first | with_reducible (first | apply W.seq | apply W.block | apply W.skip | apply W.exit | apply W.ret | apply At.seqN | apply At.blkN | apply At.blkE | apply At.blkR | apply At.thenX | apply At.thenR | apply At.blkX rfl) | ((with_reducible apply W.ops); (repeat (first | refine WL.opA hΓ (h := ?_) | refine WL.opX hΓ (h := ?_) | refine WL.opY (h := ?_) | refine WL.opZ (h := ?_))); with_reducible apply WL.nil) | refine W.condT (h := ?_) | refine W.condF (h := ?_))
    refine At.retA (by rw [Tryz.results49]) (he := ?_)
    simp
  all_goals
    repeat (first | with_reducible (first | apply W.seq | apply W.block | apply W.skip | apply W.exit | apply W.ret | apply At.seqN | apply At.blkN | apply At.blkE | apply At.blkR | apply At.thenX | apply At.thenR | apply At.blkX rfl) | ((with_reducible apply W.ops); (repeat (first | refine WL.opA hΓ (h := ?_) | refine WL.opX hΓ (h := ?_) | refine WL.opY (h := ?_) | refine WL.opZ (h := ?_))); with_reducible apply WL.nil) | refine W.condT (h := ?_) | refine W.condF (h := ?_))
    refine At.retA (by rw [Tryz.results49]) (he := ?_)
    simp [h]
end Go.Proofs.YtimnogjgokljbaaGreatDoor
