/-
  FnTxs: what is drawn.
-/
import Derived.Test.YtlchfjjoendimaaEvRen
import Derived.Test.YtlchfjjoendimaaEvPAddS
import Derived.Test.YtlchfjjoendimaaEvPickI
namespace Go.Proofs.Ytlchfjjoendimaa
set_option maxRecDepth 100000
set_option linter.unusedVariables false
set_option linter.unusedSimpArgs false
open Go Go.RowKit
set_option maxHeartbeats 4000000
set_option linter.unusedVariables false

theorem cIntT_app (l : List Int) (t : Int) : rowsF cInt l ++ [[.sc (.int .i64 t)]] = rowsF cInt (l ++ [t]) := by rw [← rowsF_app]; rfl
abbrev lTx (t : TTx) : List RL := [.ro (.sc (.int .i64 t.1)), .ro (.sc (.int .i64 t.2.1)), .ro (.sc (.int .i64 t.2.2))]
theorem mPAs_eq (l : List TTx) (t : TTx) (h : l.length ≤ 8796093022207) : mPAs [aL cTx l, aTx t] = some (rTL 44 3 cTx (pAddL l t) [rSc (.bool (pAddB l t))]) := mdl_eq encPA_inj (l, t) h
theorem pAddL_le2 (l : List TTx) (t : TTx) : (pAddL l t).length ≤ 14 := by
  unfold pAddL
  split
  · rename_i h
    simp only [pAddB, Bool.and_eq_true, decide_eq_true_eq] at h
    exact h.2.1
  · split
    · rename_i h
      exact h.1
    · simp
theorem l30Tx_s : SoundCu Try.prog 93 (fun _ : Unit => True) (fun _ => []) (fun _ (_ : TTx) => True) (fun _ t => .comp true (lTx t)) := by
  refine SoundCu.of Try.func93 rfl Try.ntmps93 ?_
  rintro k0 - b w hc - hB
  refine ⟨by simp, ?_⟩
  simp only [initC]
  have hΓ : GSound Try.prog (look []) := env_nil
  have hBe : Has Try.prog 90 := has_of Try.func90 rfl rfl
  have hOn : Has Try.prog 68 := has_of Try.func68 rfl rfl
  have hPi : Has Try.prog 78 := has_of Try.func78 rfl rfl
  have hcu := lsNms_cu
  have hck := kill_cu
  simp only [initS, argPV, List.map_cons, List.map_nil, toPL, Nat.zero_add]
  repeat (first | with_reducible apply W.seq | with_reducible apply W.block | with_reducible apply W.skip | with_reducible apply W.exit | with_reducible apply W.ret | with_reducible apply At.seqN | with_reducible apply At.blkN | with_reducible apply At.blkE | with_reducible apply At.blkR | with_reducible apply At.thenX | with_reducible apply At.thenR | with_reducible apply At.blkX rfl | ((with_reducible apply W.ops); (repeat (first | refine WL.opA hΓ (h := ?_) | refine WL.opX hΓ (h := ?_) | refine WL.opY (h := ?_) | refine WL.opZ (h := ?_))); with_reducible apply WL.nil) | refine W.condT (h := ?_) | refine W.condF (h := ?_))
  with_reducible apply W.ops
  repeat (first | refine WL.opA hΓ (h := ?_) | refine WL.opX hΓ (h := ?_) | refine WL.opY (h := ?_) | refine WL.opZ (h := ?_))
  refine WL.opCu hBe l1Below_s k0 hc 3 (by decide) (h := ?_)
  rintro k1 x hk1 ⟨hx0, hx1, -⟩
  replace hx1 : x < 3 := hx1 (by decide)
  repeat (first | refine WL.opA hΓ (h := ?_) | refine WL.opX hΓ (h := ?_) | refine WL.opY (h := ?_) | refine WL.opZ (h := ?_))
  refine WL.opCu hBe l1Below_s k1 hk1.ok 5 (by decide) (h := ?_)
  rintro k2 y hk2 ⟨hy0, hy1, -⟩
  replace hy1 : y < 5 := hy1 (by decide)
  repeat (first | refine WL.opA hΓ (h := ?_) | refine WL.opX hΓ (h := ?_) | refine WL.opY (h := ?_) | refine WL.opZ (h := ?_))
  refine WL.opCu hBe l1Below_s k2 hk2.ok 8 (by decide) (h := ?_)
  rintro k3 z hk3 ⟨hz0, hz1, -⟩
  replace hz1 : z < 8 := hz1 (by decide)
  (repeat (first | refine WL.opA hΓ (h := ?_) | refine WL.opX hΓ (h := ?_) | refine WL.opY (h := ?_) | refine WL.opZ (h := ?_)))
  with_reducible apply WL.nil
  repeat (first | with_reducible apply W.seq | with_reducible apply W.block | with_reducible apply W.skip | with_reducible apply W.exit | with_reducible apply W.ret | with_reducible apply At.seqN | with_reducible apply At.blkN | with_reducible apply At.blkE | with_reducible apply At.blkR | with_reducible apply At.thenX | with_reducible apply At.thenR | with_reducible apply At.blkX rfl | ((with_reducible apply W.ops); (repeat (first | refine WL.opA hΓ (h := ?_) | refine WL.opX hΓ (h := ?_) | refine WL.opY (h := ?_) | refine WL.opZ (h := ?_))); with_reducible apply WL.nil) | refine W.condT (h := ?_) | refine W.condF (h := ?_))
  with_reducible apply W.ops
  repeat (first | refine WL.opA hΓ (h := ?_) | refine WL.opX hΓ (h := ?_) | refine WL.opY (h := ?_) | refine WL.opZ (h := ?_))
  refine WL.opCu hOn l1Once_s k3 hk3.ok 15 (by decide) (h := ?_)
  rintro k4 o hk4 -
  have hk40 := ((hk1.trans hk2).trans hk3).trans hk4
  (repeat (first | refine WL.opA hΓ (h := ?_) | refine WL.opX hΓ (h := ?_) | refine WL.opY (h := ?_) | refine WL.opZ (h := ?_)))
  with_reducible apply WL.nil
  cases o with
  | false =>
    repeat (first | with_reducible apply W.seq | with_reducible apply W.block | with_reducible apply W.skip | with_reducible apply W.exit | with_reducible apply W.ret | with_reducible apply At.seqN | with_reducible apply At.blkN | with_reducible apply At.blkE | with_reducible apply At.blkR | with_reducible apply At.thenX | with_reducible apply At.thenR | with_reducible apply At.blkX rfl | ((with_reducible apply W.ops); (repeat (first | refine WL.opA hΓ (h := ?_) | refine WL.opX hΓ (h := ?_) | refine WL.opY (h := ?_) | refine WL.opZ (h := ?_))); with_reducible apply WL.nil) | refine W.condT (h := ?_) | refine W.condF (h := ?_))
    refine At.retCu (by rw [Try.results93]) hB (hls := ?_) (he := ?_) k4 (1 + x, 1 + y, z) hk40 trivial
    · rfl
    · rfl
  | true =>
    repeat (first | with_reducible apply W.seq | with_reducible apply W.block | with_reducible apply W.skip | with_reducible apply W.exit | with_reducible apply W.ret | with_reducible apply At.seqN | with_reducible apply At.blkN | with_reducible apply At.blkE | with_reducible apply At.blkR | with_reducible apply At.thenX | with_reducible apply At.thenR | with_reducible apply At.blkX rfl | ((with_reducible apply W.ops); (repeat (first | refine WL.opA hΓ (h := ?_) | refine WL.opX hΓ (h := ?_) | refine WL.opY (h := ?_) | refine WL.opZ (h := ?_))); with_reducible apply WL.nil) | refine W.condT (h := ?_) | refine W.condF (h := ?_))
    with_reducible apply W.ops
    repeat (first | refine WL.opA hΓ (h := ?_) | refine WL.opX hΓ (h := ?_) | refine WL.opY (h := ?_) | refine WL.opZ (h := ?_))
    refine WL.opCu hBe l1Below_s k4 hk4.ok 3 (by decide) (h := ?_)
    rintro k5 q hk5 ⟨hq0, hq1, -⟩
    (repeat (first | refine WL.opA hΓ (h := ?_) | refine WL.opX hΓ (h := ?_) | refine WL.opY (h := ?_) | refine WL.opZ (h := ?_)))
    with_reducible apply WL.nil
    by_cases h0 : q = 0
    · subst h0
      repeat (first | with_reducible apply W.seq | with_reducible apply W.block | with_reducible apply W.skip | with_reducible apply W.exit | with_reducible apply W.ret | with_reducible apply At.seqN | with_reducible apply At.blkN | with_reducible apply At.blkE | with_reducible apply At.blkR | with_reducible apply At.thenX | with_reducible apply At.thenR | with_reducible apply At.blkX rfl | ((with_reducible apply W.ops); (repeat (first | refine WL.opA hΓ (h := ?_) | refine WL.opX hΓ (h := ?_) | refine WL.opY (h := ?_) | refine WL.opZ (h := ?_))); with_reducible apply WL.nil) | refine W.condT (h := ?_) | refine W.condF (h := ?_))
      with_reducible apply W.ops
      repeat (first | refine WL.opA hΓ (h := ?_) | refine WL.opX hΓ (h := ?_) | refine WL.opY (h := ?_) | refine WL.opZ (h := ?_))
      refine WL.opCu hPi l1PickInt_s k5 hk5.ok [0, 9, 10] ⟨by decide, by decide⟩ (h := ?_)
      rintro k6 r hk6 -
      (repeat (first | refine WL.opA hΓ (h := ?_) | refine WL.opX hΓ (h := ?_) | refine WL.opY (h := ?_) | refine WL.opZ (h := ?_)))
      with_reducible apply WL.nil
      repeat (first | with_reducible apply W.seq | with_reducible apply W.block | with_reducible apply W.skip | with_reducible apply W.exit | with_reducible apply W.ret | with_reducible apply At.seqN | with_reducible apply At.blkN | with_reducible apply At.blkE | with_reducible apply At.blkR | with_reducible apply At.thenX | with_reducible apply At.thenR | with_reducible apply At.blkX rfl | ((with_reducible apply W.ops); (repeat (first | refine WL.opA hΓ (h := ?_) | refine WL.opX hΓ (h := ?_) | refine WL.opY (h := ?_) | refine WL.opZ (h := ?_))); with_reducible apply WL.nil) | refine W.condT (h := ?_) | refine W.condF (h := ?_))
      refine At.retCu (by rw [Try.results93]) hB (hls := ?_) (he := ?_) k6 (r, 1 + y, z) ((hk40.trans hk5).trans hk6) trivial
      · rfl
      · rfl
    · by_cases h1 : q = 1
      · subst h1
        repeat (first | with_reducible apply W.seq | with_reducible apply W.block | with_reducible apply W.skip | with_reducible apply W.exit | with_reducible apply W.ret | with_reducible apply At.seqN | with_reducible apply At.blkN | with_reducible apply At.blkE | with_reducible apply At.blkR | with_reducible apply At.thenX | with_reducible apply At.thenR | with_reducible apply At.blkX rfl | ((with_reducible apply W.ops); (repeat (first | refine WL.opA hΓ (h := ?_) | refine WL.opX hΓ (h := ?_) | refine WL.opY (h := ?_) | refine WL.opZ (h := ?_))); with_reducible apply WL.nil) | refine W.condT (h := ?_) | refine W.condF (h := ?_))
        with_reducible apply W.ops
        repeat (first | refine WL.opA hΓ (h := ?_) | refine WL.opX hΓ (h := ?_) | refine WL.opY (h := ?_) | refine WL.opZ (h := ?_))
        refine WL.opCu hPi l1PickInt_s k5 hk5.ok [0, 1000, 1001] ⟨by decide, by decide⟩ (h := ?_)
        rintro k6 r hk6 -
        (repeat (first | refine WL.opA hΓ (h := ?_) | refine WL.opX hΓ (h := ?_) | refine WL.opY (h := ?_) | refine WL.opZ (h := ?_)))
        with_reducible apply WL.nil
        repeat (first | with_reducible apply W.seq | with_reducible apply W.block | with_reducible apply W.skip | with_reducible apply W.exit | with_reducible apply W.ret | with_reducible apply At.seqN | with_reducible apply At.blkN | with_reducible apply At.blkE | with_reducible apply At.blkR | with_reducible apply At.thenX | with_reducible apply At.thenR | with_reducible apply At.blkX rfl | ((with_reducible apply W.ops); (repeat (first | refine WL.opA hΓ (h := ?_) | refine WL.opX hΓ (h := ?_) | refine WL.opY (h := ?_) | refine WL.opZ (h := ?_))); with_reducible apply WL.nil) | refine W.condT (h := ?_) | refine W.condF (h := ?_))
        refine At.retCu (by rw [Try.results93]) hB (hls := ?_) (he := ?_) k6 (1 + x, r, z) ((hk40.trans hk5).trans hk6) trivial
        · rfl
        · rfl
      · repeat (first | with_reducible apply W.seq | with_reducible apply W.block | with_reducible apply W.skip | with_reducible apply W.exit | with_reducible apply W.ret | with_reducible apply At.seqN | with_reducible apply At.blkN | with_reducible apply At.blkE | with_reducible apply At.blkR | with_reducible apply At.thenX | with_reducible apply At.thenR | with_reducible apply At.blkX rfl | ((with_reducible apply W.ops); (repeat (first | refine WL.opA hΓ (h := ?_) | refine WL.opX hΓ (h := ?_) | refine WL.opY (h := ?_) | refine WL.opZ (h := ?_))); with_reducible apply WL.nil) | refine W.condT (h := ?_) | refine W.condF (h := ?_))
        with_reducible apply W.ops
        repeat (first | refine WL.opA hΓ (h := ?_) | refine WL.opX hΓ (h := ?_) | refine WL.opY (h := ?_) | refine WL.opZ (h := ?_))
        refine WL.opCu hPi l1PickInt_s k5 hk5.ok [-1, 1000, 1001] ⟨by decide, by decide⟩ (h := ?_)
        rintro k6 r hk6 -
        (repeat (first | refine WL.opA hΓ (h := ?_) | refine WL.opX hΓ (h := ?_) | refine WL.opY (h := ?_) | refine WL.opZ (h := ?_)))
        with_reducible apply WL.nil
        repeat (first | with_reducible apply W.seq | with_reducible apply W.block | with_reducible apply W.skip | with_reducible apply W.exit | with_reducible apply W.ret | with_reducible apply At.seqN | with_reducible apply At.blkN | with_reducible apply At.blkE | with_reducible apply At.blkR | with_reducible apply At.thenX | with_reducible apply At.thenR | with_reducible apply At.blkX rfl | ((with_reducible apply W.ops); (repeat (first | refine WL.opA hΓ (h := ?_) | refine WL.opX hΓ (h := ?_) | refine WL.opY (h := ?_) | refine WL.opZ (h := ?_))); with_reducible apply WL.nil) | refine W.condT (h := ?_) | refine W.condF (h := ?_))
        refine At.retCu (by rw [Try.results93]) hB (hls := ?_) (he := ?_) k6 (1 + x, 1 + y, r) ((hk40.trans hk5).trans hk6) trivial
        · rfl
        · rfl
def rSomeT (_ : Unit) (l : List TTx) : Prop := l.length ≤ 14
theorem l30Some_s : SoundCu Try.prog 92 (fun _ : Unit => True) (fun _ => []) rSomeT (fun _ l => rL 44 3 cTx l) := by
  refine SoundCu.of Try.func92 rfl Try.ntmps92 ?_
  rintro k0 - b w hc - hB
  refine ⟨by simp, ?_⟩
  simp only [initC]
  have hΓ : GSound Try.prog (look [(28, mPAs)]) := env_cons (has_of Try.func28 rfl rfl) pAddS_s env_nil
  have hBe : Has Try.prog 90 := has_of Try.func90 rfl rfl
  have hOn : Has Try.prog 68 := has_of Try.func68 rfl rfl
  have hTx : Has Try.prog 93 := has_of Try.func93 rfl rfl
  have hcu := lsNms_cu
  have hck := kill_cu
  simp only [initS, argPV, List.map_cons, List.map_nil, toPL, Nat.zero_add]
  repeat (first | with_reducible apply W.seq | with_reducible apply W.block | with_reducible apply W.skip | with_reducible apply W.exit | with_reducible apply W.ret | with_reducible apply At.seqN | with_reducible apply At.blkN | with_reducible apply At.blkE | with_reducible apply At.blkR | with_reducible apply At.thenX | with_reducible apply At.thenR | with_reducible apply At.blkX rfl | ((with_reducible apply W.ops); (repeat (first | refine WL.opA hΓ (h := ?_) | refine WL.opX hΓ (h := ?_) | refine WL.opY (h := ?_) | refine WL.opZ (h := ?_))); with_reducible apply WL.nil) | refine W.condT (h := ?_) | refine W.condF (h := ?_))
  with_reducible apply W.ops
  repeat (first | refine WL.opA hΓ (h := ?_) | refine WL.opX hΓ (h := ?_) | refine WL.opY (h := ?_) | refine WL.opZ (h := ?_))
  refine WL.opCu hBe l1Below_s k0 hc 18 (by decide) (h := ?_)
  rintro k1 n0 hk1 ⟨hn0, hn1, -⟩
  replace hn1 : n0 < 18 := hn1 (by decide)
  have hnil : rowsF cTx [] = [] := rfl
  (repeat (first | refine WL.opA hΓ (h := ?_) | refine WL.opX hΓ (h := ?_) | refine WL.opY (h := ?_) | refine WL.opZ (h := ?_)))
  with_reducible apply WL.nil
  repeat (first | with_reducible apply W.seq | with_reducible apply W.block | with_reducible apply W.skip | with_reducible apply W.exit | with_reducible apply W.ret | with_reducible apply At.seqN | with_reducible apply At.blkN | with_reducible apply At.blkE | with_reducible apply At.blkR | with_reducible apply At.thenX | with_reducible apply At.thenR | with_reducible apply At.blkX rfl | ((with_reducible apply W.ops); (repeat (first | refine WL.opA hΓ (h := ?_) | refine WL.opX hΓ (h := ?_) | refine WL.opY (h := ?_) | refine WL.opZ (h := ?_))); with_reducible apply WL.nil) | refine W.condT (h := ?_) | refine W.condF (h := ?_))
  refine W.loopA (fun x : List TTx × Int × Cu => CuTo k0 x.2.2 ∧ x.1.length ≤ 14 ∧ 0 ≤ x.2.1 ∧ x.2.1 ≤ 18) (fun x => [.slot 0 (one (.ptr 999 0)), .blk 999 (.box (cuL x.2.2)), .slot 3 (one (.all 7)), .blk 7 (.arr true 44 3 (rowsF cTx x.1)), .slot 4 (vI x.2.1)]) (fun x => x.2.1.toNat) ([], n0, k1) ⟨hk1, by simp, by dsimp only; omega, by dsimp only; omega⟩ (h := ?_)
  rintro ⟨l, n, k⟩ ⟨hk, hl, hn, hn18⟩
  dsimp only at hk hl hn hn18 ⊢
  clear hnil
  by_cases hp : 0 < n
  · repeat (first | with_reducible apply W.seq | with_reducible apply W.block | with_reducible apply W.skip | with_reducible apply W.exit | with_reducible apply W.ret | with_reducible apply At.seqN | with_reducible apply At.blkN | with_reducible apply At.blkE | with_reducible apply At.blkR | with_reducible apply At.thenX | with_reducible apply At.thenR | with_reducible apply At.blkX rfl | ((with_reducible apply W.ops); (repeat (first | refine WL.opA hΓ (h := ?_) | refine WL.opX hΓ (h := ?_) | refine WL.opY (h := ?_) | refine WL.opZ (h := ?_))); with_reducible apply WL.nil) | refine W.condT (h := ?_) | refine W.condF (h := ?_))
    with_reducible apply W.ops
    repeat (first | refine WL.opA hΓ (h := ?_) | refine WL.opX hΓ (h := ?_) | refine WL.opY (h := ?_) | refine WL.opZ (h := ?_))
    refine WL.opCu hTx l30Tx_s k hk.ok () trivial (h := ?_)
    rintro k2 t hk2 -
    have c := mPAs_eq l t (by omega)
    have hle := pAddL_le2 l t
    cases hB : pAddB l t with
    | true =>
      rw [hB] at c
      (repeat (first | refine WL.opA hΓ (h := ?_) | refine WL.opX hΓ (h := ?_) | refine WL.opY (h := ?_) | refine WL.opZ (h := ?_)))
      with_reducible apply WL.nil
      repeat (first | with_reducible apply W.seq | with_reducible apply W.block | with_reducible apply W.skip | with_reducible apply W.exit | with_reducible apply W.ret | with_reducible apply At.seqN | with_reducible apply At.blkN | with_reducible apply At.blkE | with_reducible apply At.blkR | with_reducible apply At.thenX | with_reducible apply At.thenR | with_reducible apply At.blkX rfl | ((with_reducible apply W.ops); (repeat (first | refine WL.opA hΓ (h := ?_) | refine WL.opX hΓ (h := ?_) | refine WL.opY (h := ?_) | refine WL.opZ (h := ?_))); with_reducible apply WL.nil) | refine W.condT (h := ?_) | refine W.condF (h := ?_))
      refine At.ren 3 18 7 (h := ?_)
      exact At.roundA (pAddL l t, n - 1, k2) ⟨hk.trans hk2, by dsimp only; omega, by dsimp only; omega, by dsimp only; omega⟩ (by dsimp only; omega)
    | false =>
      rw [hB] at c
      (repeat (first | refine WL.opA hΓ (h := ?_) | refine WL.opX hΓ (h := ?_) | refine WL.opY (h := ?_) | refine WL.opZ (h := ?_)))
      with_reducible apply WL.nil
      repeat (first | with_reducible apply W.seq | with_reducible apply W.block | with_reducible apply W.skip | with_reducible apply W.exit | with_reducible apply W.ret | with_reducible apply At.seqN | with_reducible apply At.blkN | with_reducible apply At.blkE | with_reducible apply At.blkR | with_reducible apply At.thenX | with_reducible apply At.thenR | with_reducible apply At.blkX rfl | ((with_reducible apply W.ops); (repeat (first | refine WL.opA hΓ (h := ?_) | refine WL.opX hΓ (h := ?_) | refine WL.opY (h := ?_) | refine WL.opZ (h := ?_))); with_reducible apply WL.nil) | refine W.condT (h := ?_) | refine W.condF (h := ?_))
      exact At.roundA (l, n - 1, k2) ⟨hk.trans hk2, by dsimp only; omega, by dsimp only; omega, by dsimp only; omega⟩ (by dsimp only; omega)
  · by_cases hl0 : 0 < l.length
    · repeat (first | with_reducible apply W.seq | with_reducible apply W.block | with_reducible apply W.skip | with_reducible apply W.exit | with_reducible apply W.ret | with_reducible apply At.seqN | with_reducible apply At.blkN | with_reducible apply At.blkE | with_reducible apply At.blkR | with_reducible apply At.thenX | with_reducible apply At.thenR | with_reducible apply At.blkX rfl | ((with_reducible apply W.ops); (repeat (first | refine WL.opA hΓ (h := ?_) | refine WL.opX hΓ (h := ?_) | refine WL.opY (h := ?_) | refine WL.opZ (h := ?_))); with_reducible apply WL.nil) | refine W.condT (h := ?_) | refine W.condF (h := ?_))
      with_reducible apply W.ops
      repeat (first | refine WL.opA hΓ (h := ?_) | refine WL.opX hΓ (h := ?_) | refine WL.opY (h := ?_) | refine WL.opZ (h := ?_))
      refine WL.unG (h := ?_)
      refine WL.opCu hOn l1Once_s k hk.ok 12 (by decide) (h := ?_)
      rintro k2 o hk2 -
      (repeat (first | refine WL.opA hΓ (h := ?_) | refine WL.opX hΓ (h := ?_) | refine WL.opY (h := ?_) | refine WL.opZ (h := ?_)))
      with_reducible apply WL.nil
      cases o with
      | false =>
        repeat (first | with_reducible apply W.seq | with_reducible apply W.block | with_reducible apply W.skip | with_reducible apply W.exit | with_reducible apply W.ret | with_reducible apply At.seqN | with_reducible apply At.blkN | with_reducible apply At.blkE | with_reducible apply At.blkR | with_reducible apply At.thenX | with_reducible apply At.thenR | with_reducible apply At.blkX rfl | ((with_reducible apply W.ops); (repeat (first | refine WL.opA hΓ (h := ?_) | refine WL.opX hΓ (h := ?_) | refine WL.opY (h := ?_) | refine WL.opZ (h := ?_))); with_reducible apply WL.nil) | refine W.condT (h := ?_) | refine W.condF (h := ?_))
        refine At.retCu (by rw [Try.results92]) hB (hls := ?_) (he := ?_) k2 l (hk.trans hk2) hl
        · rfl
        · rfl
      | true =>
        repeat (first | with_reducible apply W.seq | with_reducible apply W.block | with_reducible apply W.skip | with_reducible apply W.exit | with_reducible apply W.ret | with_reducible apply At.seqN | with_reducible apply At.blkN | with_reducible apply At.blkE | with_reducible apply At.blkR | with_reducible apply At.thenX | with_reducible apply At.thenR | with_reducible apply At.blkX rfl | ((with_reducible apply W.ops); (repeat (first | refine WL.opA hΓ (h := ?_) | refine WL.opX hΓ (h := ?_) | refine WL.opY (h := ?_) | refine WL.opZ (h := ?_))); with_reducible apply WL.nil) | refine W.condT (h := ?_) | refine W.condF (h := ?_))
        with_reducible apply W.ops
        repeat (first | refine WL.opA hΓ (h := ?_) | refine WL.opX hΓ (h := ?_) | refine WL.opY (h := ?_) | refine WL.opZ (h := ?_))
        refine WL.opCu hBe l1Below_s k2 hk2.ok (l.length : Int) ⟨by omega, by omega⟩ (h := ?_)
        rintro k3 i hk3 ⟨hi0, hi1, -⟩
        replace hi1 : i < l.length := hi1 (by omega)
        have hlt : i.toNat < l.length := by omega
        repeat (first | refine WL.opA hΓ (h := ?_) | refine WL.opX hΓ (h := ?_) | refine WL.opY (h := ?_) | refine WL.opZ (h := ?_))
        refine WL.opCu hTx l30Tx_s k3 hk3.ok () trivial (h := ?_)
        rintro k4 t hk4 -
        have e := rowsF_set cTx l i.toNat t
        have hrow := tx_row hlt
        dsimp only [bTx] at hrow
        obtain ⟨ta, tb, tc⟩ := t
        (repeat (first | refine WL.opA hΓ (h := ?_) | refine WL.opX hΓ (h := ?_) | refine WL.opY (h := ?_) | refine WL.opZ (h := ?_)))
        with_reducible apply WL.nil
        repeat (first | with_reducible apply W.seq | with_reducible apply W.block | with_reducible apply W.skip | with_reducible apply W.exit | with_reducible apply W.ret | with_reducible apply At.seqN | with_reducible apply At.blkN | with_reducible apply At.blkE | with_reducible apply At.blkR | with_reducible apply At.thenX | with_reducible apply At.thenR | with_reducible apply At.blkX rfl | ((with_reducible apply W.ops); (repeat (first | refine WL.opA hΓ (h := ?_) | refine WL.opX hΓ (h := ?_) | refine WL.opY (h := ?_) | refine WL.opZ (h := ?_))); with_reducible apply WL.nil) | refine W.condT (h := ?_) | refine W.condF (h := ?_))
        refine At.retCu (by rw [Try.results92]) hB (hls := ?_) (he := ?_) k4 (l.set i.toNat (ta, tb, tc)) (((hk.trans hk2).trans hk3).trans hk4) (show (l.set i.toNat _).length ≤ 14 by simp; omega)
        · rfl
        · exact congrArg (fun x => Res.comp false [RL.own true 44 3 x]) e
    · repeat (first | with_reducible apply W.seq | with_reducible apply W.block | with_reducible apply W.skip | with_reducible apply W.exit | with_reducible apply W.ret | with_reducible apply At.seqN | with_reducible apply At.blkN | with_reducible apply At.blkE | with_reducible apply At.blkR | with_reducible apply At.thenX | with_reducible apply At.thenR | with_reducible apply At.blkX rfl | ((with_reducible apply W.ops); (repeat (first | refine WL.opA hΓ (h := ?_) | refine WL.opX hΓ (h := ?_) | refine WL.opY (h := ?_) | refine WL.opZ (h := ?_))); with_reducible apply WL.nil) | refine W.condT (h := ?_) | refine W.condF (h := ?_))
      refine At.retCu (by rw [Try.results92]) hB (hls := ?_) (he := ?_) k l hk hl
      · rfl
      · rfl
def rDrPA (_ : List Nat) (y : List TTx × TTx) : Prop := y.1.length ≤ 14
abbrev resPA (_ : List Nat) (y : List TTx × TTx) : Res := .tup [(false, [.own true 44 3 (rowsF cTx y.1)]), (true, lTx y.2)]
theorem DrawPoolAdd_s : SoundR Try.prog 26 CodeOk (fun bs => [aL cU8 bs]) rDrPA resPA := by
  refine SoundR.ofXA Try.func26 rfl Try.ntmps26 (by decide) ?_
  rintro bs v w hcode
  simp only [initX]
  have hΓ : GSound Try.prog (look []) := env_nil
  have hNw : Has Try.prog 66 := has_of Try.func66 rfl rfl
  have hSo : Has Try.prog 92 := has_of Try.func92 rfl rfl
  have hTx : Has Try.prog 93 := has_of Try.func93 rfl rfl
  have hcu := lsNms_cu
  have hck := kill_cu
  repeat (first | with_reducible apply W.seq | with_reducible apply W.block | with_reducible apply W.skip | with_reducible apply W.exit | with_reducible apply W.ret | with_reducible apply At.seqN | with_reducible apply At.blkN | with_reducible apply At.blkE | with_reducible apply At.blkR | with_reducible apply At.thenX | with_reducible apply At.thenR | with_reducible apply At.blkX rfl | ((with_reducible apply W.ops); (repeat (first | refine WL.opA hΓ (h := ?_) | refine WL.opX hΓ (h := ?_) | refine WL.opY (h := ?_) | refine WL.opZ (h := ?_))); with_reducible apply WL.nil) | refine W.condT (h := ?_) | refine W.condF (h := ?_))
  with_reducible apply W.ops
  repeat (first | refine WL.opA hΓ (h := ?_) | refine WL.opX hΓ (h := ?_) | refine WL.opY (h := ?_) | refine WL.opZ (h := ?_))
  refine WL.opNew hNw l1New_s v bs hcode (h := ?_)
  intro k0 hk0
  (repeat (first | refine WL.opA hΓ (h := ?_) | refine WL.opX hΓ (h := ?_) | refine WL.opY (h := ?_) | refine WL.opZ (h := ?_)))
  with_reducible apply WL.nil
  repeat (first | with_reducible apply W.seq | with_reducible apply W.block | with_reducible apply W.skip | with_reducible apply W.exit | with_reducible apply W.ret | with_reducible apply At.seqN | with_reducible apply At.blkN | with_reducible apply At.blkE | with_reducible apply At.blkR | with_reducible apply At.thenX | with_reducible apply At.thenR | with_reducible apply At.blkX rfl | ((with_reducible apply W.ops); (repeat (first | refine WL.opA hΓ (h := ?_) | refine WL.opX hΓ (h := ?_) | refine WL.opY (h := ?_) | refine WL.opZ (h := ?_))); with_reducible apply WL.nil) | refine W.condT (h := ?_) | refine W.condF (h := ?_))
  with_reducible apply W.ops
  repeat (first | refine WL.opA hΓ (h := ?_) | refine WL.opX hΓ (h := ?_) | refine WL.opY (h := ?_) | refine WL.opZ (h := ?_))
  refine WL.opCu hSo l30Some_s k0 hk0 () trivial (h := ?_)
  rintro k1 l hk1 hl
  replace hl : l.length ≤ 14 := hl
  (repeat (first | refine WL.opA hΓ (h := ?_) | refine WL.opX hΓ (h := ?_) | refine WL.opY (h := ?_) | refine WL.opZ (h := ?_)))
  with_reducible apply WL.nil
  repeat (first | with_reducible apply W.seq | with_reducible apply W.block | with_reducible apply W.skip | with_reducible apply W.exit | with_reducible apply W.ret | with_reducible apply At.seqN | with_reducible apply At.blkN | with_reducible apply At.blkE | with_reducible apply At.blkR | with_reducible apply At.thenX | with_reducible apply At.thenR | with_reducible apply At.blkX rfl | ((with_reducible apply W.ops); (repeat (first | refine WL.opA hΓ (h := ?_) | refine WL.opX hΓ (h := ?_) | refine WL.opY (h := ?_) | refine WL.opZ (h := ?_))); with_reducible apply WL.nil) | refine W.condT (h := ?_) | refine W.condF (h := ?_))
  with_reducible apply W.ops
  repeat (first | refine WL.opA hΓ (h := ?_) | refine WL.opX hΓ (h := ?_) | refine WL.opY (h := ?_) | refine WL.opZ (h := ?_))
  refine WL.opCu hTx l30Tx_s k1 hk1.ok () trivial (h := ?_)
  rintro k2 t hk2 -
  (repeat (first | refine WL.opA hΓ (h := ?_) | refine WL.opX hΓ (h := ?_) | refine WL.opY (h := ?_) | refine WL.opZ (h := ?_)))
  with_reducible apply WL.nil
  repeat (first | with_reducible apply W.seq | with_reducible apply W.block | with_reducible apply W.skip | with_reducible apply W.exit | with_reducible apply W.ret | with_reducible apply At.seqN | with_reducible apply At.blkN | with_reducible apply At.blkE | with_reducible apply At.blkR | with_reducible apply At.thenX | with_reducible apply At.thenR | with_reducible apply At.blkX rfl | ((with_reducible apply W.ops); (repeat (first | refine WL.opA hΓ (h := ?_) | refine WL.opX hΓ (h := ?_) | refine WL.opY (h := ?_) | refine WL.opZ (h := ?_))); with_reducible apply WL.nil) | refine W.condT (h := ?_) | refine W.condF (h := ?_))
  refine At.retRA (by rw [Try.results26]) (he := ?_) (l, t) (show l.length ≤ 14 by omega)
  rfl
def rDrPP (_ : List Nat) (y : List TTx × List Int × Int) : Prop := y.1.length ≤ 14 ∧ y.2.1.length ≤ 4
abbrev resPP (_ : List Nat) (y : List TTx × List Int × Int) : Res := .tup [(false, [.own true 44 3 (rowsF cTx y.1)]), (false, [.own true 3 1 (rowsF cInt y.2.1)]), rSc (.int .i64 y.2.2)]
theorem DrawPoolPick_s : SoundR Try.prog 33 CodeOk (fun bs => [aL cU8 bs]) rDrPP resPP := by
  refine SoundR.ofXA Try.func33 rfl Try.ntmps33 (by decide) ?_
  rintro bs v w hcode
  simp only [initX]
  have hΓ : GSound Try.prog (look []) := env_nil
  have hNw : Has Try.prog 66 := has_of Try.func66 rfl rfl
  have hSo : Has Try.prog 92 := has_of Try.func92 rfl rfl
  have hBe : Has Try.prog 90 := has_of Try.func90 rfl rfl
  have hPi : Has Try.prog 78 := has_of Try.func78 rfl rfl
  have hnil : rowsF cInt [] = [] := rfl
  have hcu := lsNms_cu
  have hck := kill_cu
  repeat (first | with_reducible apply W.seq | with_reducible apply W.block | with_reducible apply W.skip | with_reducible apply W.exit | with_reducible apply W.ret | with_reducible apply At.seqN | with_reducible apply At.blkN | with_reducible apply At.blkE | with_reducible apply At.blkR | with_reducible apply At.thenX | with_reducible apply At.thenR | with_reducible apply At.blkX rfl | ((with_reducible apply W.ops); (repeat (first | refine WL.opA hΓ (h := ?_) | refine WL.opX hΓ (h := ?_) | refine WL.opY (h := ?_) | refine WL.opZ (h := ?_))); with_reducible apply WL.nil) | refine W.condT (h := ?_) | refine W.condF (h := ?_))
  with_reducible apply W.ops
  repeat (first | refine WL.opA hΓ (h := ?_) | refine WL.opX hΓ (h := ?_) | refine WL.opY (h := ?_) | refine WL.opZ (h := ?_))
  refine WL.opNew hNw l1New_s v bs hcode (h := ?_)
  intro k0 hk0
  (repeat (first | refine WL.opA hΓ (h := ?_) | refine WL.opX hΓ (h := ?_) | refine WL.opY (h := ?_) | refine WL.opZ (h := ?_)))
  with_reducible apply WL.nil
  repeat (first | with_reducible apply W.seq | with_reducible apply W.block | with_reducible apply W.skip | with_reducible apply W.exit | with_reducible apply W.ret | with_reducible apply At.seqN | with_reducible apply At.blkN | with_reducible apply At.blkE | with_reducible apply At.blkR | with_reducible apply At.thenX | with_reducible apply At.thenR | with_reducible apply At.blkX rfl | ((with_reducible apply W.ops); (repeat (first | refine WL.opA hΓ (h := ?_) | refine WL.opX hΓ (h := ?_) | refine WL.opY (h := ?_) | refine WL.opZ (h := ?_))); with_reducible apply WL.nil) | refine W.condT (h := ?_) | refine W.condF (h := ?_))
  with_reducible apply W.ops
  repeat (first | refine WL.opA hΓ (h := ?_) | refine WL.opX hΓ (h := ?_) | refine WL.opY (h := ?_) | refine WL.opZ (h := ?_))
  refine WL.opCu hSo l30Some_s k0 hk0 () trivial (h := ?_)
  rintro k1 l hk1 hl
  replace hl : l.length ≤ 14 := hl
  (repeat (first | refine WL.opA hΓ (h := ?_) | refine WL.opX hΓ (h := ?_) | refine WL.opY (h := ?_) | refine WL.opZ (h := ?_)))
  with_reducible apply WL.nil
  repeat (first | with_reducible apply W.seq | with_reducible apply W.block | with_reducible apply W.skip | with_reducible apply W.exit | with_reducible apply W.ret | with_reducible apply At.seqN | with_reducible apply At.blkN | with_reducible apply At.blkE | with_reducible apply At.blkR | with_reducible apply At.thenX | with_reducible apply At.thenR | with_reducible apply At.blkX rfl | ((with_reducible apply W.ops); (repeat (first | refine WL.opA hΓ (h := ?_) | refine WL.opX hΓ (h := ?_) | refine WL.opY (h := ?_) | refine WL.opZ (h := ?_))); with_reducible apply WL.nil) | refine W.condT (h := ?_) | refine W.condF (h := ?_))
  with_reducible apply W.ops
  repeat (first | refine WL.opA hΓ (h := ?_) | refine WL.opX hΓ (h := ?_) | refine WL.opY (h := ?_) | refine WL.opZ (h := ?_))
  refine WL.opCu hBe l1Below_s k1 hk1.ok 4 (by decide) (h := ?_)
  rintro k2 n0 hk2 ⟨hn0, hn1, -⟩
  replace hn1 : n0 < 4 := hn1 (by decide)
  (repeat (first | refine WL.opA hΓ (h := ?_) | refine WL.opX hΓ (h := ?_) | refine WL.opY (h := ?_) | refine WL.opZ (h := ?_)))
  with_reducible apply WL.nil
  repeat (first | with_reducible apply W.seq | with_reducible apply W.block | with_reducible apply W.skip | with_reducible apply W.exit | with_reducible apply W.ret | with_reducible apply At.seqN | with_reducible apply At.blkN | with_reducible apply At.blkE | with_reducible apply At.blkR | with_reducible apply At.thenX | with_reducible apply At.thenR | with_reducible apply At.blkX rfl | ((with_reducible apply W.ops); (repeat (first | refine WL.opA hΓ (h := ?_) | refine WL.opX hΓ (h := ?_) | refine WL.opY (h := ?_) | refine WL.opZ (h := ?_))); with_reducible apply WL.nil) | refine W.condT (h := ?_) | refine W.condF (h := ?_))
  refine W.loopA (fun x : List Int × Int × Cu => CuOk x.2.2 ∧ 0 ≤ x.2.1 ∧ x.1.length + x.2.1 ≤ 4) (fun x => [.slot 5 (one (.ptr 10 0)), .blk 10 (.box (cuL x.2.2)), .slot 6 (one (.all 12)), .blk 12 (.arr true 44 3 (rowsF cTx l)), .slot 7 (one (.all 13)), .blk 13 (.arr true 3 1 (rowsF cInt x.1)), .slot 8 (vI x.2.1)]) (fun x => x.2.1.toNat) ([], n0, k2) ⟨hk2.ok, by dsimp only; omega, by simp; omega⟩ (h := ?_)
  rintro ⟨next, n, k⟩ ⟨hk, hn, hln⟩
  dsimp only at hk hn hln ⊢
  by_cases hp : 0 < n
  · repeat (first | with_reducible apply W.seq | with_reducible apply W.block | with_reducible apply W.skip | with_reducible apply W.exit | with_reducible apply W.ret | with_reducible apply At.seqN | with_reducible apply At.blkN | with_reducible apply At.blkE | with_reducible apply At.blkR | with_reducible apply At.thenX | with_reducible apply At.thenR | with_reducible apply At.blkX rfl | ((with_reducible apply W.ops); (repeat (first | refine WL.opA hΓ (h := ?_) | refine WL.opX hΓ (h := ?_) | refine WL.opY (h := ?_) | refine WL.opZ (h := ?_))); with_reducible apply WL.nil) | refine W.condT (h := ?_) | refine W.condF (h := ?_))
    with_reducible apply W.ops
    repeat (first | refine WL.opA hΓ (h := ?_) | refine WL.opX hΓ (h := ?_) | refine WL.opY (h := ?_) | refine WL.opZ (h := ?_))
    refine WL.opCu hBe l1Below_s k hk 3 (by decide) (h := ?_)
    rintro k3 r hk3 ⟨hr0, hr1, -⟩
    replace hr1 : r < 3 := hr1 (by decide)
    have e := cIntT_app next (1 + r)
    (repeat (first | refine WL.opA hΓ (h := ?_) | refine WL.opX hΓ (h := ?_) | refine WL.opY (h := ?_) | refine WL.opZ (h := ?_)))
    with_reducible apply WL.nil
    repeat (first | with_reducible apply W.seq | with_reducible apply W.block | with_reducible apply W.skip | with_reducible apply W.exit | with_reducible apply W.ret | with_reducible apply At.seqN | with_reducible apply At.blkN | with_reducible apply At.blkE | with_reducible apply At.blkR | with_reducible apply At.thenX | with_reducible apply At.thenR | with_reducible apply At.blkX rfl | ((with_reducible apply W.ops); (repeat (first | refine WL.opA hΓ (h := ?_) | refine WL.opX hΓ (h := ?_) | refine WL.opY (h := ?_) | refine WL.opZ (h := ?_))); with_reducible apply WL.nil) | refine W.condT (h := ?_) | refine W.condF (h := ?_))
    exact At.roundA (next ++ [1 + r], n - 1, k3) ⟨hk3.ok, by dsimp only; omega, by simp; omega⟩ (by dsimp only; omega)
  · repeat (first | with_reducible apply W.seq | with_reducible apply W.block | with_reducible apply W.skip | with_reducible apply W.exit | with_reducible apply W.ret | with_reducible apply At.seqN | with_reducible apply At.blkN | with_reducible apply At.blkE | with_reducible apply At.blkR | with_reducible apply At.thenX | with_reducible apply At.thenR | with_reducible apply At.blkX rfl | ((with_reducible apply W.ops); (repeat (first | refine WL.opA hΓ (h := ?_) | refine WL.opX hΓ (h := ?_) | refine WL.opY (h := ?_) | refine WL.opZ (h := ?_))); with_reducible apply WL.nil) | refine W.condT (h := ?_) | refine W.condF (h := ?_))
    with_reducible apply W.ops
    repeat (first | refine WL.opA hΓ (h := ?_) | refine WL.opX hΓ (h := ?_) | refine WL.opY (h := ?_) | refine WL.opZ (h := ?_))
    refine WL.opCu hPi l1PickInt_s k hk [20, 3, 1, 0, -1] ⟨by decide, by decide⟩ (h := ?_)
    rintro k3 r hk3 -
    (repeat (first | refine WL.opA hΓ (h := ?_) | refine WL.opX hΓ (h := ?_) | refine WL.opY (h := ?_) | refine WL.opZ (h := ?_)))
    with_reducible apply WL.nil
    repeat (first | with_reducible apply W.seq | with_reducible apply W.block | with_reducible apply W.skip | with_reducible apply W.exit | with_reducible apply W.ret | with_reducible apply At.seqN | with_reducible apply At.blkN | with_reducible apply At.blkE | with_reducible apply At.blkR | with_reducible apply At.thenX | with_reducible apply At.thenR | with_reducible apply At.blkX rfl | ((with_reducible apply W.ops); (repeat (first | refine WL.opA hΓ (h := ?_) | refine WL.opX hΓ (h := ?_) | refine WL.opY (h := ?_) | refine WL.opZ (h := ?_))); with_reducible apply WL.nil) | refine W.condT (h := ?_) | refine W.condF (h := ?_))
    refine At.retRA (by rw [Try.results33]) (he := ?_) (l, next, r) ⟨by dsimp only; omega, by dsimp only; omega⟩
    rfl
noncomputable def mPkS := mdl okPick ePick fun x => rL 44 3 cTx (if poolOk x.1 then pickF x.1 x.2.2 x.1.length (dueT x.2.1 1) [] else [])
noncomputable def mPkI := mdl okPick ePick fun x => if poolOk x.1 then rL 44 3 cTx (pickF x.1 x.2.2 x.1.length (dueT x.2.1 1) []) else rN
theorem mPkS_eq (l : List TTx) (next : List Int) (most : Int) (h : okPick (l, next, most)) : mPkS [aL cTx l, aL cInt next, aI most] = some (rL 44 3 cTx (pickL l next most)) := mdl_eq ePick_inj (l, next, most) h
theorem mPkI_eq (l : List TTx) (next : List Int) (most : Int) (h : okPick (l, next, most)) : mPkI [aL cTx l, aL cInt next, aI most] = some (if poolOk l then rL 44 3 cTx (pickL l next most) else rN) := by
  refine (mdl_eq ePick_inj (l, next, most) h).trans ?_
  unfold pickL
  dsimp only
  split <;> rfl
def rDrPD (_ : List Nat) (y : List TTx × List TTx) : Prop := y.1.length ≤ 14 ∧ y.2.length ≤ 14
abbrev resPD (_ : List Nat) (y : List TTx × List TTx) : Res := .tup [(false, [.own true 44 3 (rowsF cTx y.1)]), (false, [.own true 44 3 (rowsF cTx y.2)])]
theorem DrawPoolDone_s : SoundR Try.prog 37 CodeOk (fun bs => [aL cU8 bs]) rDrPD resPD := by
  refine SoundR.ofXA Try.func37 rfl Try.ntmps37 (by decide) ?_
  rintro bs v w hcode
  simp only [initX]
  have hΓ : GSound Try.prog (look [(35, mPkS)]) := env_cons (has_of Try.func35 rfl rfl) pickS_s env_nil
  have hNw : Has Try.prog 66 := has_of Try.func66 rfl rfl
  have hSo : Has Try.prog 92 := has_of Try.func92 rfl rfl
  have hBe : Has Try.prog 90 := has_of Try.func90 rfl rfl
  have hnil : rowsF cInt [] = [] := rfl
  have hcu := lsNms_cu
  have hck := kill_cu
  repeat (first | with_reducible apply W.seq | with_reducible apply W.block | with_reducible apply W.skip | with_reducible apply W.exit | with_reducible apply W.ret | with_reducible apply At.seqN | with_reducible apply At.blkN | with_reducible apply At.blkE | with_reducible apply At.blkR | with_reducible apply At.thenX | with_reducible apply At.thenR | with_reducible apply At.blkX rfl | ((with_reducible apply W.ops); (repeat (first | refine WL.opA hΓ (h := ?_) | refine WL.opX hΓ (h := ?_) | refine WL.opY (h := ?_) | refine WL.opZ (h := ?_))); with_reducible apply WL.nil) | refine W.condT (h := ?_) | refine W.condF (h := ?_))
  with_reducible apply W.ops
  repeat (first | refine WL.opA hΓ (h := ?_) | refine WL.opX hΓ (h := ?_) | refine WL.opY (h := ?_) | refine WL.opZ (h := ?_))
  refine WL.opNew hNw l1New_s v bs hcode (h := ?_)
  intro k0 hk0
  (repeat (first | refine WL.opA hΓ (h := ?_) | refine WL.opX hΓ (h := ?_) | refine WL.opY (h := ?_) | refine WL.opZ (h := ?_)))
  with_reducible apply WL.nil
  repeat (first | with_reducible apply W.seq | with_reducible apply W.block | with_reducible apply W.skip | with_reducible apply W.exit | with_reducible apply W.ret | with_reducible apply At.seqN | with_reducible apply At.blkN | with_reducible apply At.blkE | with_reducible apply At.blkR | with_reducible apply At.thenX | with_reducible apply At.thenR | with_reducible apply At.blkX rfl | ((with_reducible apply W.ops); (repeat (first | refine WL.opA hΓ (h := ?_) | refine WL.opX hΓ (h := ?_) | refine WL.opY (h := ?_) | refine WL.opZ (h := ?_))); with_reducible apply WL.nil) | refine W.condT (h := ?_) | refine W.condF (h := ?_))
  with_reducible apply W.ops
  repeat (first | refine WL.opA hΓ (h := ?_) | refine WL.opX hΓ (h := ?_) | refine WL.opY (h := ?_) | refine WL.opZ (h := ?_))
  refine WL.opCu hSo l30Some_s k0 hk0 () trivial (h := ?_)
  rintro k1 l hk1 hl
  replace hl : l.length ≤ 14 := hl
  (repeat (first | refine WL.opA hΓ (h := ?_) | refine WL.opX hΓ (h := ?_) | refine WL.opY (h := ?_) | refine WL.opZ (h := ?_)))
  with_reducible apply WL.nil
  repeat (first | with_reducible apply W.seq | with_reducible apply W.block | with_reducible apply W.skip | with_reducible apply W.exit | with_reducible apply W.ret | with_reducible apply At.seqN | with_reducible apply At.blkN | with_reducible apply At.blkE | with_reducible apply At.blkR | with_reducible apply At.thenX | with_reducible apply At.thenR | with_reducible apply At.blkX rfl | ((with_reducible apply W.ops); (repeat (first | refine WL.opA hΓ (h := ?_) | refine WL.opX hΓ (h := ?_) | refine WL.opY (h := ?_) | refine WL.opZ (h := ?_))); with_reducible apply WL.nil) | refine W.condT (h := ?_) | refine W.condF (h := ?_))
  with_reducible apply W.ops
  repeat (first | refine WL.opA hΓ (h := ?_) | refine WL.opX hΓ (h := ?_) | refine WL.opY (h := ?_) | refine WL.opZ (h := ?_))
  refine WL.opCu hBe l1Below_s k1 hk1.ok 5 (by decide) (h := ?_)
  rintro k2 r hk2 -
  have c := mPkS_eq l [] r ⟨by dsimp only; omega, by simp⟩
  have hpl := pickL_le l [] r
  simp only [aL, hnil] at c
  (repeat (first | refine WL.opA hΓ (h := ?_) | refine WL.opX hΓ (h := ?_) | refine WL.opY (h := ?_) | refine WL.opZ (h := ?_)))
  with_reducible apply WL.nil
  repeat (first | with_reducible apply W.seq | with_reducible apply W.block | with_reducible apply W.skip | with_reducible apply W.exit | with_reducible apply W.ret | with_reducible apply At.seqN | with_reducible apply At.blkN | with_reducible apply At.blkE | with_reducible apply At.blkR | with_reducible apply At.thenX | with_reducible apply At.thenR | with_reducible apply At.blkX rfl | ((with_reducible apply W.ops); (repeat (first | refine WL.opA hΓ (h := ?_) | refine WL.opX hΓ (h := ?_) | refine WL.opY (h := ?_) | refine WL.opZ (h := ?_))); with_reducible apply WL.nil) | refine W.condT (h := ?_) | refine W.condF (h := ?_))
  refine At.retRA (by rw [Try.results37]) (he := ?_) (l, pickL l [] r) ⟨by dsimp only; omega, by dsimp only; omega⟩
  rfl
end Go.Proofs.Ytlchfjjoendimaa
