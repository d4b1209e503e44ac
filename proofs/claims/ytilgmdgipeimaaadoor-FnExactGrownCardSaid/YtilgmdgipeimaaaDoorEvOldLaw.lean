/-
  The laws of OldRoots and Grown, out of the contracts.
-/
import Derived.Test.YtilgmdgipeimaaaDoorEvStrLaw
namespace Go.Proofs.YtilgmdgipeimaaaDoor
set_option maxRecDepth 100000
set_option linter.unusedVariables false
set_option linter.unusedSimpArgs false
open Go Go.RowKit
set_option maxHeartbeats 4000000

abbrev okLaw (l : List ByteArray) : Prop := l.length ≤ 9223372036854775807 ∧ ∀ y ∈ l, y.size ≤ 9223372036854775807
theorem lawOld_s : Sound Tryd.prog 3 (mdl (fun x : Int × Int × List ByteArray => okLaw x.2.2) encO fun _ => rB true) := by
  refine Sound.mdl Tryd.func3 rfl Tryd.ntmps3 ?_
  rintro ⟨m, n, l⟩ w ⟨hl, hy⟩
  refine ⟨by simp, ?_⟩
  dsimp only at hl hy
  have hΓ : GSound Tryd.prog (look [(11, mSzSS), (13, mToSS), (15, mEqSS), (12, mOld), (14, mOld)]) := env_cons (has_of Tryd.func11 rfl rfl) szSS_s (env_cons (has_of Tryd.func13 rfl rfl) toSS_s (env_cons (has_of Tryd.func15 rfl rfl) eqSS_s (env_cons (has_of Tryd.func12 rfl rfl) oldS_s (env_cons (has_of Tryd.func14 rfl rfl) oldI_s env_nil))))
  have c1 := mSzSS_eq l 1048576 ⟨hl, hy, by dsimp only; omega, by dsimp only; omega⟩
  by_cases hb : strT l ≤ 1048576
  · have hr := szI_yes hb
    have hp := okP_of hb
    have hle : l.length ≤ 1048576 := by have := sum_nonneg (l := l); unfold strT at hb; omega
    have c2 := mToSS_eq l hle
    have c3 := mEqSS_eq l l (by omega) (by omega)
    have e1 : decide (l = l) = true := by simp
    rw [e1] at c3
    have c4 := mOld_eq m n l hp
    clear hp hy hl e1 hle
    generalize strT l = T at *
    generalize oldR m n l = r at c4
    obtain ⟨r1, r2, r3⟩ := r
    dsimp only [rT3] at c4
    have eb : (r3 == r3) = true := by simp
    simp only [initS, argPV, List.map_cons, List.map_nil, toPL, Nat.zero_add]
    repeat (first | with_reducible apply W.seq | with_reducible apply W.block | with_reducible apply W.skip | with_reducible apply W.exit | with_reducible apply W.ret | with_reducible apply At.seqN | with_reducible apply At.blkN | with_reducible apply At.blkE | with_reducible apply At.blkR | with_reducible apply At.thenX | with_reducible apply At.thenR | with_reducible apply At.blkX rfl | ((with_reducible apply W.ops); (repeat (first | refine WL.opA hΓ (h := ?_) | refine WL.opX hΓ (h := ?_) | refine WL.opY (h := ?_) | refine WL.opZ (h := ?_))); with_reducible apply WL.nil) | refine W.condT (h := ?_) | refine W.condF (h := ?_))
    refine At.retA (by rw [Tryd.results3]) (he := rfl)
  · have hr := szI_no hb
    clear hy hl
    generalize strT l = T at *
    simp only [initS, argPV, List.map_cons, List.map_nil, toPL, Nat.zero_add]
    repeat (first | with_reducible apply W.seq | with_reducible apply W.block | with_reducible apply W.skip | with_reducible apply W.exit | with_reducible apply W.ret | with_reducible apply At.seqN | with_reducible apply At.blkN | with_reducible apply At.blkE | with_reducible apply At.blkR | with_reducible apply At.thenX | with_reducible apply At.thenR | with_reducible apply At.blkX rfl | ((with_reducible apply W.ops); (repeat (first | refine WL.opA hΓ (h := ?_) | refine WL.opX hΓ (h := ?_) | refine WL.opY (h := ?_) | refine WL.opZ (h := ?_))); with_reducible apply WL.nil) | refine W.condT (h := ?_) | refine W.condF (h := ?_))
    refine At.retA (by rw [Tryd.results3]) (he := rfl)
theorem lawGrown_s : Sound Tryd.prog 4 (mdl (fun x : ByteArray × Int × ByteArray × Int × List ByteArray => okLaw x.2.2.2.2) encG fun _ => rB true) := by
  refine Sound.mdl Tryd.func4 rfl Tryd.ntmps4 ?_
  rintro ⟨a, m, b, n, l⟩ w ⟨hl, hy⟩
  refine ⟨by simp, ?_⟩
  dsimp only at hl hy
  have hΓ : GSound Tryd.prog (look [(11, mSzSS), (13, mToSS), (15, mEqSS), (16, mGrown), (17, mGrown)]) := env_cons (has_of Tryd.func11 rfl rfl) szSS_s (env_cons (has_of Tryd.func13 rfl rfl) toSS_s (env_cons (has_of Tryd.func15 rfl rfl) eqSS_s (env_cons (has_of Tryd.func16 rfl rfl) grownS_s (env_cons (has_of Tryd.func17 rfl rfl) grownI_s env_nil))))
  have c1 := mSzSS_eq l 1048576 ⟨hl, hy, by dsimp only; omega, by dsimp only; omega⟩
  by_cases ha : (a.size : Int) ≤ 1048576
  · by_cases hb0 : (b.size : Int) ≤ 1048576
    · by_cases hb : strT l ≤ 1048576
      · have hr := szI_yes hb
        have hp := okP_of hb
        have hle : l.length ≤ 1048576 := by have := sum_nonneg (l := l); unfold strT at hb; omega
        have c2 := mToSS_eq l hle
        have c3 := mEqSS_eq l l (by omega) (by omega)
        have e1 : decide (l = l) = true := by simp
        rw [e1] at c3
        have c4 := mGrown_eq a m b n l hp
        clear hp hy hl e1 hle
        generalize strT l = T at *
        generalize grownB a m b n l = r3 at c4
        have eb : (r3 == r3) = true := by simp
        simp only [initS, argPV, List.map_cons, List.map_nil, toPL, Nat.zero_add]
        repeat (first | with_reducible apply W.seq | with_reducible apply W.block | with_reducible apply W.skip | with_reducible apply W.exit | with_reducible apply W.ret | with_reducible apply At.seqN | with_reducible apply At.blkN | with_reducible apply At.blkE | with_reducible apply At.blkR | with_reducible apply At.thenX | with_reducible apply At.thenR | with_reducible apply At.blkX rfl | ((with_reducible apply W.ops); (repeat (first | refine WL.opA hΓ (h := ?_) | refine WL.opX hΓ (h := ?_) | refine WL.opY (h := ?_) | refine WL.opZ (h := ?_))); with_reducible apply WL.nil) | refine W.condT (h := ?_) | refine W.condF (h := ?_))
        refine At.retA (by rw [Tryd.results4]) (he := rfl)
      · have hr := szI_no hb
        clear hy hl
        generalize strT l = T at *
        simp only [initS, argPV, List.map_cons, List.map_nil, toPL, Nat.zero_add]
        repeat (first | with_reducible apply W.seq | with_reducible apply W.block | with_reducible apply W.skip | with_reducible apply W.exit | with_reducible apply W.ret | with_reducible apply At.seqN | with_reducible apply At.blkN | with_reducible apply At.blkE | with_reducible apply At.blkR | with_reducible apply At.thenX | with_reducible apply At.thenR | with_reducible apply At.blkX rfl | ((with_reducible apply W.ops); (repeat (first | refine WL.opA hΓ (h := ?_) | refine WL.opX hΓ (h := ?_) | refine WL.opY (h := ?_) | refine WL.opZ (h := ?_))); with_reducible apply WL.nil) | refine W.condT (h := ?_) | refine W.condF (h := ?_))
        refine At.retA (by rw [Tryd.results4]) (he := rfl)
    · clear hy hl
      simp only [initS, argPV, List.map_cons, List.map_nil, toPL, Nat.zero_add]
      repeat (first | with_reducible apply W.seq | with_reducible apply W.block | with_reducible apply W.skip | with_reducible apply W.exit | with_reducible apply W.ret | with_reducible apply At.seqN | with_reducible apply At.blkN | with_reducible apply At.blkE | with_reducible apply At.blkR | with_reducible apply At.thenX | with_reducible apply At.thenR | with_reducible apply At.blkX rfl | ((with_reducible apply W.ops); (repeat (first | refine WL.opA hΓ (h := ?_) | refine WL.opX hΓ (h := ?_) | refine WL.opY (h := ?_) | refine WL.opZ (h := ?_))); with_reducible apply WL.nil) | refine W.condT (h := ?_) | refine W.condF (h := ?_))
      refine At.retA (by rw [Tryd.results4]) (he := rfl)
  · clear hy hl
    simp only [initS, argPV, List.map_cons, List.map_nil, toPL, Nat.zero_add]
    repeat (first | with_reducible apply W.seq | with_reducible apply W.block | with_reducible apply W.skip | with_reducible apply W.exit | with_reducible apply W.ret | with_reducible apply At.seqN | with_reducible apply At.blkN | with_reducible apply At.blkE | with_reducible apply At.blkR | with_reducible apply At.thenX | with_reducible apply At.thenR | with_reducible apply At.blkX rfl | ((with_reducible apply W.ops); (repeat (first | refine WL.opA hΓ (h := ?_) | refine WL.opX hΓ (h := ?_) | refine WL.opY (h := ?_) | refine WL.opZ (h := ?_))); with_reducible apply WL.nil) | refine W.condT (h := ?_) | refine W.condF (h := ?_))
    refine At.retA (by rw [Tryd.results4]) (he := rfl)

theorem rd_lawS {w : World} {v : Value} {l : List ByteArray} (h : RdS w w.heap.size 1 cStr v l) (hk : ∀ x ∈ l, x.size ≤ maxLen) : okLaw l := by
  obtain ⟨A, c, _, h1, h2, _⟩ := h
  unfold maxLen at h2
  refine ⟨by omega, fun y hy => ?_⟩
  have := hk y hy
  unfold maxLen at this
  exact this
theorem law_OldRoots {m n : Int} {v : Value} {l : List ByteArray} {W : World} (gl : GlobOk none0 W) (h : RdS W W.heap.size 1 cStr v l) (hk : ∀ x ∈ l, x.size ≤ maxLen) :
    Calls Tryd.prog 3 #[.int .i64 m, .int .i64 n, v] W fun e w' => e = .returned (.bool true) ∧ Below W.heap.size W w' :=
  calls_says (args := [aI m, aI n, aL cStr l]) (vs := [_, _, _]) lawOld_s (mdl_eq encO_inj (m, n, l) (rd_lawS h hk)) (old_args m n h) gl
theorem law_Grown {a b : ByteArray} {m n : Int} {v : Value} {l : List ByteArray} {W : World} (gl : GlobOk none0 W) (h : RdS W W.heap.size 1 cStr v l) (hk : ∀ x ∈ l, x.size ≤ maxLen) :
    Calls Tryd.prog 4 #[.string a, .int .i64 m, .string b, .int .i64 n, v] W fun e w' => e = .returned (.bool true) ∧ Below W.heap.size W w' :=
  calls_says (args := [aS a, aI m, aS b, aI n, aL cStr l]) (vs := [_, _, _, _, _]) lawGrown_s (mdl_eq encG_inj (a, m, b, n, l) (rd_lawS h hk)) (grown_args a b m n h) gl

end Go.Proofs.YtilgmdgipeimaaaDoor
