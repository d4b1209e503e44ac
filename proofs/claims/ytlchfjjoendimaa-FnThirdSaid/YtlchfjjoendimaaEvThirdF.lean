/-
  FnThird: what is drawn, and the law.
-/
import Derived.Test.YtlchfjjoendimaaEvDrV
namespace Go.Proofs.Ytlchfjjoendimaa
set_option maxRecDepth 100000
set_option linter.unusedVariables false
set_option linter.unusedSimpArgs false
open Go Go.RowKit
set_option maxHeartbeats 4000000

def rDrawT (_ : List Nat) (y : List TVal × List Int) : Prop := y.1.length ≤ 8 ∧ y.2.length ≤ 16
abbrev resT (_ : List Nat) (y : List TVal × List Int) : Res := .tup [(false, [.own true 95 2 (rowsF cVal y.1)]), (false, [.own true 3 1 (rowsF cInt y.2)])]
theorem DrawThird_s : SoundR Try.prog 10 CodeOk (fun bs => [aL cU8 bs]) rDrawT resT := by
  refine SoundR.ofXA Try.func10 rfl Try.ntmps10 (by decide) ?_
  rintro bs v w hcode
  simp only [initX]
  have hΓ : GSound Try.prog (look []) := env_nil
  have hNw : Has Try.prog 66 := has_of Try.func66 rfl rfl
  have hAn : Has Try.prog 67 := has_of Try.func67 rfl rfl
  have hOn : Has Try.prog 68 := has_of Try.func68 rfl rfl
  have hnil : rowsF cInt [] = [] := rfl
  have hcu := lsNms_cu
  have hck := kill_cu
  repeat (first | with_reducible apply W.seq | with_reducible apply W.block | with_reducible apply W.skip | with_reducible apply W.exit | with_reducible apply W.ret | with_reducible apply At.seqN | with_reducible apply At.blkN | with_reducible apply At.blkE | with_reducible apply At.blkR | with_reducible apply At.thenX | with_reducible apply At.thenR | with_reducible apply At.blkX rfl | ((with_reducible apply W.ops); (repeat (first | refine WL.opA hΓ (h := ?_) | refine WL.opX hΓ (h := ?_) | refine WL.opY (h := ?_) | refine WL.opZ (h := ?_))); with_reducible apply WL.nil) | refine W.condT (h := ?_) | refine W.condF (h := ?_))
  with_reducible apply W.ops
  repeat (first | refine WL.opA hΓ (h := ?_) | refine WL.opX hΓ (h := ?_) | refine WL.opY (h := ?_) | refine WL.opZ (h := ?_))
  refine WL.opNew hNw l1New_s v bs hcode (h := ?_)
  intro k0 hk0
  (repeat (first | refine WL.opA hΓ (h := ?_) | refine WL.opX hΓ (h := ?_) | refine WL.opY (h := ?_) | refine WL.opZ (h := ?_)))
  with_reducible apply WL.nil
  repeat (first | with_reducible apply W.seq | with_reducible apply W.block | with_reducible apply W.skip | with_reducible apply W.exit | with_reducible apply W.ret | with_reducible apply At.seqN | with_reducible apply At.blkN | with_reducible apply At.blkE | with_reducible apply At.blkR | with_reducible apply At.thenX | with_reducible apply At.thenR | with_reducible apply At.blkX rfl | ((with_reducible apply W.ops); (repeat (first | refine WL.opA hΓ (h := ?_) | refine WL.opX hΓ (h := ?_) | refine WL.opY (h := ?_) | refine WL.opZ (h := ?_))); with_reducible apply WL.nil) | refine W.condT (h := ?_) | refine W.condF (h := ?_))
  with_reducible apply W.ops
  repeat (first | refine WL.opA hΓ (h := ?_) | refine WL.opX hΓ (h := ?_) | refine WL.opY (h := ?_) | refine WL.opZ (h := ?_))
  refine WL.opCu hAn l6Any_s k0 hk0 () trivial (h := ?_)
  rintro k1 l hk1 hl
  replace hl : l.length ≤ 8 := hl
  (repeat (first | refine WL.opA hΓ (h := ?_) | refine WL.opX hΓ (h := ?_) | refine WL.opY (h := ?_) | refine WL.opZ (h := ?_)))
  with_reducible apply WL.nil
  repeat (first | with_reducible apply W.seq | with_reducible apply W.block | with_reducible apply W.skip | with_reducible apply W.exit | with_reducible apply W.ret | with_reducible apply At.seqN | with_reducible apply At.blkN | with_reducible apply At.blkE | with_reducible apply At.blkR | with_reducible apply At.thenX | with_reducible apply At.thenR | with_reducible apply At.blkX rfl | ((with_reducible apply W.ops); (repeat (first | refine WL.opA hΓ (h := ?_) | refine WL.opX hΓ (h := ?_) | refine WL.opY (h := ?_) | refine WL.opZ (h := ?_))); with_reducible apply WL.nil) | refine W.condT (h := ?_) | refine W.condF (h := ?_))
  refine W.loopA (fun x : Nat × List Int × Cu => CuOk x.2.2 ∧ x.1 ≤ l.length ∧ x.2.1.length ≤ x.1) (fun x => [.slot 4 (one (.ptr 9 0)), .blk 9 (.box (cuL x.2.2)), .slot 5 (one (.all 11)), .blk 11 (.arr true 95 2 (rowsF cVal l)), .slot 6 (one (.all 12)), .blk 12 (.arr true 3 1 (rowsF cInt x.2.1)), .slot 7 (vI x.1)]) (fun x => l.length - x.1) (0, [], k1) ⟨hk1.ok, Nat.zero_le _, by simp⟩ (h := ?_)
  rintro ⟨i, ids, k⟩ ⟨hk, hi, hids⟩
  dsimp only at hk hi hids ⊢
  by_cases hlt : i < l.length
  · have hrow : (rowsF cVal l)[i]? = some [.sc (.int .i64 l[i].1), .sc (.int .i64 l[i].2)] := rowsF_get cVal l i hlt
    repeat (first | with_reducible apply W.seq | with_reducible apply W.block | with_reducible apply W.skip | with_reducible apply W.exit | with_reducible apply W.ret | with_reducible apply At.seqN | with_reducible apply At.blkN | with_reducible apply At.blkE | with_reducible apply At.blkR | with_reducible apply At.thenX | with_reducible apply At.thenR | with_reducible apply At.blkX rfl | ((with_reducible apply W.ops); (repeat (first | refine WL.opA hΓ (h := ?_) | refine WL.opX hΓ (h := ?_) | refine WL.opY (h := ?_) | refine WL.opZ (h := ?_))); with_reducible apply WL.nil) | refine W.condT (h := ?_) | refine W.condF (h := ?_))
    with_reducible apply W.ops
    repeat (first | refine WL.opA hΓ (h := ?_) | refine WL.opX hΓ (h := ?_) | refine WL.opY (h := ?_) | refine WL.opZ (h := ?_))
    refine WL.opCu hOn l1Once_s k hk 3 (by decide) (h := ?_)
    rintro k2 o hk2 -
    (repeat (first | refine WL.opA hΓ (h := ?_) | refine WL.opX hΓ (h := ?_) | refine WL.opY (h := ?_) | refine WL.opZ (h := ?_)))
    with_reducible apply WL.nil
    cases o with
    | true =>
      have e := cInt_app ids l[i].1
      repeat (first | with_reducible apply W.seq | with_reducible apply W.block | with_reducible apply W.skip | with_reducible apply W.exit | with_reducible apply W.ret | with_reducible apply At.seqN | with_reducible apply At.blkN | with_reducible apply At.blkE | with_reducible apply At.blkR | with_reducible apply At.thenX | with_reducible apply At.thenR | with_reducible apply At.blkX rfl | ((with_reducible apply W.ops); (repeat (first | refine WL.opA hΓ (h := ?_) | refine WL.opX hΓ (h := ?_) | refine WL.opY (h := ?_) | refine WL.opZ (h := ?_))); with_reducible apply WL.nil) | refine W.condT (h := ?_) | refine W.condF (h := ?_))
      exact At.roundA (i + 1, ids ++ [l[i].1], k2) ⟨hk2.ok, by dsimp only; omega, by simp; omega⟩ (by dsimp only; omega)
    | false =>
      repeat (first | with_reducible apply W.seq | with_reducible apply W.block | with_reducible apply W.skip | with_reducible apply W.exit | with_reducible apply W.ret | with_reducible apply At.seqN | with_reducible apply At.blkN | with_reducible apply At.blkE | with_reducible apply At.blkR | with_reducible apply At.thenX | with_reducible apply At.thenR | with_reducible apply At.blkX rfl | ((with_reducible apply W.ops); (repeat (first | refine WL.opA hΓ (h := ?_) | refine WL.opX hΓ (h := ?_) | refine WL.opY (h := ?_) | refine WL.opZ (h := ?_))); with_reducible apply WL.nil) | refine W.condT (h := ?_) | refine W.condF (h := ?_))
      exact At.roundA (i + 1, ids, k2) ⟨hk2.ok, by dsimp only; omega, by dsimp only; omega⟩ (by dsimp only; omega)
  · repeat (first | with_reducible apply W.seq | with_reducible apply W.block | with_reducible apply W.skip | with_reducible apply W.exit | with_reducible apply W.ret | with_reducible apply At.seqN | with_reducible apply At.blkN | with_reducible apply At.blkE | with_reducible apply At.blkR | with_reducible apply At.thenX | with_reducible apply At.thenR | with_reducible apply At.blkX rfl | ((with_reducible apply W.ops); (repeat (first | refine WL.opA hΓ (h := ?_) | refine WL.opX hΓ (h := ?_) | refine WL.opY (h := ?_) | refine WL.opZ (h := ?_))); with_reducible apply WL.nil) | refine W.condT (h := ?_) | refine W.condF (h := ?_))
    with_reducible apply W.ops
    repeat (first | refine WL.opA hΓ (h := ?_) | refine WL.opX hΓ (h := ?_) | refine WL.opY (h := ?_) | refine WL.opZ (h := ?_))
    refine WL.opCu hOn l1Once_s k hk 4 (by decide) (h := ?_)
    rintro k2 o hk2 -
    (repeat (first | refine WL.opA hΓ (h := ?_) | refine WL.opX hΓ (h := ?_) | refine WL.opY (h := ?_) | refine WL.opZ (h := ?_)))
    with_reducible apply WL.nil
    cases o with
    | true =>
      have e : rowsF cInt ids ++ [[.sc (.int .i64 1)], [.sc (.int .i64 1)]] = rowsF cInt (ids ++ [1, 1]) := by rw [← rowsF_app]; rfl
      repeat (first | with_reducible apply W.seq | with_reducible apply W.block | with_reducible apply W.skip | with_reducible apply W.exit | with_reducible apply W.ret | with_reducible apply At.seqN | with_reducible apply At.blkN | with_reducible apply At.blkE | with_reducible apply At.blkR | with_reducible apply At.thenX | with_reducible apply At.thenR | with_reducible apply At.blkX rfl | ((with_reducible apply W.ops); (repeat (first | refine WL.opA hΓ (h := ?_) | refine WL.opX hΓ (h := ?_) | refine WL.opY (h := ?_) | refine WL.opZ (h := ?_))); with_reducible apply WL.nil) | refine W.condT (h := ?_) | refine W.condF (h := ?_))
      refine At.retRA (by rw [Try.results10]) (he := ?_) (l, ids ++ [1, 1]) ⟨by dsimp only; omega, by simp; omega⟩
      rfl
    | false =>
      repeat (first | with_reducible apply W.seq | with_reducible apply W.block | with_reducible apply W.skip | with_reducible apply W.exit | with_reducible apply W.ret | with_reducible apply At.seqN | with_reducible apply At.blkN | with_reducible apply At.blkE | with_reducible apply At.blkR | with_reducible apply At.thenX | with_reducible apply At.thenR | with_reducible apply At.blkX rfl | ((with_reducible apply W.ops); (repeat (first | refine WL.opA hΓ (h := ?_) | refine WL.opX hΓ (h := ?_) | refine WL.opY (h := ?_) | refine WL.opZ (h := ?_))); with_reducible apply WL.nil) | refine W.condT (h := ?_) | refine W.condF (h := ?_))
      refine At.retRA (by rw [Try.results10]) (he := ?_) (l, ids) ⟨by dsimp only; omega, by dsimp only; omega⟩
      rfl
theorem DrawEnough_s : SoundR Try.prog 11 CodeOk (fun bs => [aL cU8 bs]) rDrawT resT := by
  refine SoundR.ofXA Try.func11 rfl Try.ntmps11 (by decide) ?_
  rintro bs v w hcode
  simp only [initX]
  have hΓ : GSound Try.prog (look []) := env_nil
  have hNw : Has Try.prog 66 := has_of Try.func66 rfl rfl
  have hAn : Has Try.prog 67 := has_of Try.func67 rfl rfl
  have hOn : Has Try.prog 68 := has_of Try.func68 rfl rfl
  have hnil : rowsF cInt [] = [] := rfl
  have hcu := lsNms_cu
  have hck := kill_cu
  repeat (first | with_reducible apply W.seq | with_reducible apply W.block | with_reducible apply W.skip | with_reducible apply W.exit | with_reducible apply W.ret | with_reducible apply At.seqN | with_reducible apply At.blkN | with_reducible apply At.blkE | with_reducible apply At.blkR | with_reducible apply At.thenX | with_reducible apply At.thenR | with_reducible apply At.blkX rfl | ((with_reducible apply W.ops); (repeat (first | refine WL.opA hΓ (h := ?_) | refine WL.opX hΓ (h := ?_) | refine WL.opY (h := ?_) | refine WL.opZ (h := ?_))); with_reducible apply WL.nil) | refine W.condT (h := ?_) | refine W.condF (h := ?_))
  with_reducible apply W.ops
  repeat (first | refine WL.opA hΓ (h := ?_) | refine WL.opX hΓ (h := ?_) | refine WL.opY (h := ?_) | refine WL.opZ (h := ?_))
  refine WL.opNew hNw l1New_s v bs hcode (h := ?_)
  intro k0 hk0
  (repeat (first | refine WL.opA hΓ (h := ?_) | refine WL.opX hΓ (h := ?_) | refine WL.opY (h := ?_) | refine WL.opZ (h := ?_)))
  with_reducible apply WL.nil
  repeat (first | with_reducible apply W.seq | with_reducible apply W.block | with_reducible apply W.skip | with_reducible apply W.exit | with_reducible apply W.ret | with_reducible apply At.seqN | with_reducible apply At.blkN | with_reducible apply At.blkE | with_reducible apply At.blkR | with_reducible apply At.thenX | with_reducible apply At.thenR | with_reducible apply At.blkX rfl | ((with_reducible apply W.ops); (repeat (first | refine WL.opA hΓ (h := ?_) | refine WL.opX hΓ (h := ?_) | refine WL.opY (h := ?_) | refine WL.opZ (h := ?_))); with_reducible apply WL.nil) | refine W.condT (h := ?_) | refine W.condF (h := ?_))
  with_reducible apply W.ops
  repeat (first | refine WL.opA hΓ (h := ?_) | refine WL.opX hΓ (h := ?_) | refine WL.opY (h := ?_) | refine WL.opZ (h := ?_))
  refine WL.opCu hAn l6Any_s k0 hk0 () trivial (h := ?_)
  rintro k1 l hk1 hl
  replace hl : l.length ≤ 8 := hl
  (repeat (first | refine WL.opA hΓ (h := ?_) | refine WL.opX hΓ (h := ?_) | refine WL.opY (h := ?_) | refine WL.opZ (h := ?_)))
  with_reducible apply WL.nil
  repeat (first | with_reducible apply W.seq | with_reducible apply W.block | with_reducible apply W.skip | with_reducible apply W.exit | with_reducible apply W.ret | with_reducible apply At.seqN | with_reducible apply At.blkN | with_reducible apply At.blkE | with_reducible apply At.blkR | with_reducible apply At.thenX | with_reducible apply At.thenR | with_reducible apply At.blkX rfl | ((with_reducible apply W.ops); (repeat (first | refine WL.opA hΓ (h := ?_) | refine WL.opX hΓ (h := ?_) | refine WL.opY (h := ?_) | refine WL.opZ (h := ?_))); with_reducible apply WL.nil) | refine W.condT (h := ?_) | refine W.condF (h := ?_))
  refine W.loopA (fun x : Nat × List Int × Cu => CuOk x.2.2 ∧ x.1 ≤ l.length ∧ x.2.1.length ≤ x.1) (fun x => [.slot 4 (one (.ptr 9 0)), .blk 9 (.box (cuL x.2.2)), .slot 5 (one (.all 11)), .blk 11 (.arr true 95 2 (rowsF cVal l)), .slot 6 (one (.all 12)), .blk 12 (.arr true 3 1 (rowsF cInt x.2.1)), .slot 7 (vI x.1)]) (fun x => l.length - x.1) (0, [], k1) ⟨hk1.ok, Nat.zero_le _, by simp⟩ (h := ?_)
  rintro ⟨i, ids, k⟩ ⟨hk, hi, hids⟩
  dsimp only at hk hi hids ⊢
  by_cases hlt : i < l.length
  · have hrow : (rowsF cVal l)[i]? = some [.sc (.int .i64 l[i].1), .sc (.int .i64 l[i].2)] := rowsF_get cVal l i hlt
    repeat (first | with_reducible apply W.seq | with_reducible apply W.block | with_reducible apply W.skip | with_reducible apply W.exit | with_reducible apply W.ret | with_reducible apply At.seqN | with_reducible apply At.blkN | with_reducible apply At.blkE | with_reducible apply At.blkR | with_reducible apply At.thenX | with_reducible apply At.thenR | with_reducible apply At.blkX rfl | ((with_reducible apply W.ops); (repeat (first | refine WL.opA hΓ (h := ?_) | refine WL.opX hΓ (h := ?_) | refine WL.opY (h := ?_) | refine WL.opZ (h := ?_))); with_reducible apply WL.nil) | refine W.condT (h := ?_) | refine W.condF (h := ?_))
    with_reducible apply W.ops
    repeat (first | refine WL.opA hΓ (h := ?_) | refine WL.opX hΓ (h := ?_) | refine WL.opY (h := ?_) | refine WL.opZ (h := ?_))
    refine WL.opCu hOn l1Once_s k hk 4 (by decide) (h := ?_)
    rintro k2 o hk2 -
    (repeat (first | refine WL.opA hΓ (h := ?_) | refine WL.opX hΓ (h := ?_) | refine WL.opY (h := ?_) | refine WL.opZ (h := ?_)))
    with_reducible apply WL.nil
    cases o with
    | false =>
      have e := cInt_app ids l[i].1
      repeat (first | with_reducible apply W.seq | with_reducible apply W.block | with_reducible apply W.skip | with_reducible apply W.exit | with_reducible apply W.ret | with_reducible apply At.seqN | with_reducible apply At.blkN | with_reducible apply At.blkE | with_reducible apply At.blkR | with_reducible apply At.thenX | with_reducible apply At.thenR | with_reducible apply At.blkX rfl | ((with_reducible apply W.ops); (repeat (first | refine WL.opA hΓ (h := ?_) | refine WL.opX hΓ (h := ?_) | refine WL.opY (h := ?_) | refine WL.opZ (h := ?_))); with_reducible apply WL.nil) | refine W.condT (h := ?_) | refine W.condF (h := ?_))
      exact At.roundA (i + 1, ids ++ [l[i].1], k2) ⟨hk2.ok, by dsimp only; omega, by simp; omega⟩ (by dsimp only; omega)
    | true =>
      repeat (first | with_reducible apply W.seq | with_reducible apply W.block | with_reducible apply W.skip | with_reducible apply W.exit | with_reducible apply W.ret | with_reducible apply At.seqN | with_reducible apply At.blkN | with_reducible apply At.blkE | with_reducible apply At.blkR | with_reducible apply At.thenX | with_reducible apply At.thenR | with_reducible apply At.blkX rfl | ((with_reducible apply W.ops); (repeat (first | refine WL.opA hΓ (h := ?_) | refine WL.opX hΓ (h := ?_) | refine WL.opY (h := ?_) | refine WL.opZ (h := ?_))); with_reducible apply WL.nil) | refine W.condT (h := ?_) | refine W.condF (h := ?_))
      exact At.roundA (i + 1, ids, k2) ⟨hk2.ok, by dsimp only; omega, by dsimp only; omega⟩ (by dsimp only; omega)
  · repeat (first | with_reducible apply W.seq | with_reducible apply W.block | with_reducible apply W.skip | with_reducible apply W.exit | with_reducible apply W.ret | with_reducible apply At.seqN | with_reducible apply At.blkN | with_reducible apply At.blkE | with_reducible apply At.blkR | with_reducible apply At.thenX | with_reducible apply At.thenR | with_reducible apply At.blkX rfl | ((with_reducible apply W.ops); (repeat (first | refine WL.opA hΓ (h := ?_) | refine WL.opX hΓ (h := ?_) | refine WL.opY (h := ?_) | refine WL.opZ (h := ?_))); with_reducible apply WL.nil) | refine W.condT (h := ?_) | refine W.condF (h := ?_))
    with_reducible apply W.ops
    repeat (first | refine WL.opA hΓ (h := ?_) | refine WL.opX hΓ (h := ?_) | refine WL.opY (h := ?_) | refine WL.opZ (h := ?_))
    refine WL.opCu hOn l1Once_s k hk 4 (by decide) (h := ?_)
    rintro k2 o hk2 -
    (repeat (first | refine WL.opA hΓ (h := ?_) | refine WL.opX hΓ (h := ?_) | refine WL.opY (h := ?_) | refine WL.opZ (h := ?_)))
    with_reducible apply WL.nil
    cases o with
    | true =>
      have e : rowsF cInt ids ++ [[.sc (.int .i64 1)], [.sc (.int .i64 1)], [.sc (.int .i64 50)]] = rowsF cInt (ids ++ [1, 1, 50]) := by rw [← rowsF_app]; rfl
      repeat (first | with_reducible apply W.seq | with_reducible apply W.block | with_reducible apply W.skip | with_reducible apply W.exit | with_reducible apply W.ret | with_reducible apply At.seqN | with_reducible apply At.blkN | with_reducible apply At.blkE | with_reducible apply At.blkR | with_reducible apply At.thenX | with_reducible apply At.thenR | with_reducible apply At.blkX rfl | ((with_reducible apply W.ops); (repeat (first | refine WL.opA hΓ (h := ?_) | refine WL.opX hΓ (h := ?_) | refine WL.opY (h := ?_) | refine WL.opZ (h := ?_))); with_reducible apply WL.nil) | refine W.condT (h := ?_) | refine W.condF (h := ?_))
      refine At.retRA (by rw [Try.results11]) (he := ?_) (l, ids ++ [1, 1, 50]) ⟨by dsimp only; omega, by simp; omega⟩
      rfl
    | false =>
      repeat (first | with_reducible apply W.seq | with_reducible apply W.block | with_reducible apply W.skip | with_reducible apply W.exit | with_reducible apply W.ret | with_reducible apply At.seqN | with_reducible apply At.blkN | with_reducible apply At.blkE | with_reducible apply At.blkR | with_reducible apply At.thenX | with_reducible apply At.thenR | with_reducible apply At.blkX rfl | ((with_reducible apply W.ops); (repeat (first | refine WL.opA hΓ (h := ?_) | refine WL.opX hΓ (h := ?_) | refine WL.opY (h := ?_) | refine WL.opZ (h := ?_))); with_reducible apply WL.nil) | refine W.condT (h := ?_) | refine W.condF (h := ?_))
      refine At.retRA (by rw [Try.results11]) (he := ?_) (l, ids) ⟨by dsimp only; omega, by dsimp only; omega⟩
      rfl

def enoughB (l : List TVal) (ids : List Int) : Bool := decide (valsOk l) && decide (2 * powerOf l < 3 * powSum (fun x => decide (x ∈ ids)) l)
theorem enough1_s : Sound Try.prog 76 mIn2 := by
  refine Sound.mdl Try.func76 rfl Try.ntmps76 ?_
  rintro ⟨ids, x⟩ w hi
  refine ⟨by simp, ?_⟩
  replace hi : ids.length ≤ 8796093022207 := hi
  have hΓ : GSound Try.prog (look [(72, mCont)]) := env_cons (has_of Try.func72 rfl rfl) cont_s env_nil
  have c1 := mCont_eq ids x hi
  simp only [initS, argPV, List.map_cons, List.map_nil, toPL, Nat.zero_add]
  repeat (first | with_reducible apply W.seq | with_reducible apply W.block | with_reducible apply W.skip | with_reducible apply W.exit | with_reducible apply W.ret | with_reducible apply At.seqN | with_reducible apply At.blkN | with_reducible apply At.blkE | with_reducible apply At.blkR | with_reducible apply At.thenX | with_reducible apply At.thenR | with_reducible apply At.blkX rfl | ((with_reducible apply W.ops); (repeat (first | refine WL.opA hΓ (h := ?_) | refine WL.opX hΓ (h := ?_) | refine WL.opY (h := ?_) | refine WL.opZ (h := ?_))); with_reducible apply WL.nil) | refine W.condT (h := ?_) | refine W.condF (h := ?_))
  refine At.retA (by rw [Try.results76]) (he := rfl)
abbrev okEnough (x : List TVal × List Int) : Prop := x.1.length ≤ 8796093022207 ∧ x.2.length ≤ 8796093022207
noncomputable def mEnough := mdl okEnough (fun x => [aL cVal x.1, aL cInt x.2]) (fun x => rB (enoughB x.1 x.2))
theorem mEnough_eq (l : List TVal) (ids : List Int) (h1 : l.length ≤ 8796093022207) (h2 : ids.length ≤ 8796093022207) : mEnough [aL cVal l, aL cInt ids] = some (rB (enoughB l ids)) := mdl_eq (by rintro ⟨a, b⟩ ⟨d, e⟩ h; simpa using h) (l, ids) ⟨h1, h2⟩
theorem enoughI_s : Sound Try.prog 15 mEnough := by
  refine Sound.mdl Try.func15 rfl Try.ntmps15 ?_
  rintro ⟨l, ids⟩ w ⟨hl, hi⟩
  refine ⟨by simp, ?_⟩
  replace hl : l.length ≤ 8796093022207 := hl
  replace hi : ids.length ≤ 8796093022207 := hi
  have hΓ : GSound Try.prog (look [(69, mVals), (73, mPower), (70, mPow 76 [[.sl (rowsF cInt ids)]] fun x => decide (x ∈ ids))]) := env_cons (has_of Try.func69 rfl rfl) valsI_s (env_cons (has_of Try.func73 rfl rfl) powerI_s (env_cons (has_of Try.func70 rfl rfl) (pow_s (has_of Try.func76 rfl rfl) enough1_s (mIn2_eq ids hi)) env_nil))
  have c1 := mVals_eq l hl
  have c3 := mPower_eq l hl
  obtain ⟨p1, p2⟩ := powerOf_in l
  simp only [initS, argPV, List.map_cons, List.map_nil, toPL, Nat.zero_add]
  by_cases hv : valsOk l
  · have c2 := mPow_eq 76 [[.sl (rowsF cInt ids)]] (fun x => decide (x ∈ ids)) l hv
    obtain ⟨q1, q2⟩ := powSum_in (fun x => decide (x ∈ ids)) hv
    repeat (first | with_reducible apply W.seq | with_reducible apply W.block | with_reducible apply W.skip | with_reducible apply W.exit | with_reducible apply W.ret | with_reducible apply At.seqN | with_reducible apply At.blkN | with_reducible apply At.blkE | with_reducible apply At.blkR | with_reducible apply At.thenX | with_reducible apply At.thenR | with_reducible apply At.blkX rfl | ((with_reducible apply W.ops); (repeat (first | refine WL.opA hΓ (h := ?_) | refine WL.opX hΓ (h := ?_) | refine WL.opY (h := ?_) | refine WL.opZ (h := ?_))); with_reducible apply WL.nil) | refine W.condT (h := ?_) | refine W.condF (h := ?_))
    refine At.retA (by rw [Try.results15]) (he := ?_)
    simp [enoughB, hv]
  · repeat (first | with_reducible apply W.seq | with_reducible apply W.block | with_reducible apply W.skip | with_reducible apply W.exit | with_reducible apply W.ret | with_reducible apply At.seqN | with_reducible apply At.blkN | with_reducible apply At.blkE | with_reducible apply At.blkR | with_reducible apply At.thenX | with_reducible apply At.thenR | with_reducible apply At.blkX rfl | ((with_reducible apply W.ops); (repeat (first | refine WL.opA hΓ (h := ?_) | refine WL.opX hΓ (h := ?_) | refine WL.opY (h := ?_) | refine WL.opZ (h := ?_))); with_reducible apply WL.nil) | refine W.condT (h := ?_) | refine W.condF (h := ?_))
    refine At.retA (by rw [Try.results15]) (he := ?_)
    simp [enoughB, hv]
theorem enoughS_s : Sound Try.prog 16 mEnough := by
  refine Sound.mdl Try.func16 rfl Try.ntmps16 ?_
  rintro ⟨l, ids⟩ w ⟨hl, hi⟩
  refine ⟨by simp, ?_⟩
  replace hl : l.length ≤ 8796093022207 := hl
  replace hi : ids.length ≤ 8796093022207 := hi
  have hΓ : GSound Try.prog (look [(52, mVals), (75, mPower), (74, mHas)]) := env_cons (has_of Try.func52 rfl rfl) valsS_s (env_cons (has_of Try.func75 rfl rfl) powerS_s (env_cons (has_of Try.func74 rfl rfl) has_s env_nil))
  have c1 := mVals_eq l hl
  have c2 := fun x => mHas_eq ids x hi
  have c3 := mPower_eq l hl
  obtain ⟨p1, p2⟩ := powerOf_in l
  simp only [initS, argPV, List.map_cons, List.map_nil, toPL, Nat.zero_add]
  by_cases hv : valsOk l
  · have hz := sumK_zero (powC fun x => decide (x ∈ ids)) l
    repeat (first | with_reducible apply W.seq | with_reducible apply W.block | with_reducible apply W.skip | with_reducible apply W.exit | with_reducible apply W.ret | with_reducible apply At.seqN | with_reducible apply At.blkN | with_reducible apply At.blkE | with_reducible apply At.blkR | with_reducible apply At.thenX | with_reducible apply At.thenR | with_reducible apply At.blkX rfl | ((with_reducible apply W.ops); (repeat (first | refine WL.opA hΓ (h := ?_) | refine WL.opX hΓ (h := ?_) | refine WL.opY (h := ?_) | refine WL.opZ (h := ?_))); with_reducible apply WL.nil) | refine W.condT (h := ?_) | refine W.condF (h := ?_))
    refine W.loopA (fun k => k ≤ l.length) (fun k : Nat => [.slot 6 (vI k), .slot 5 (vI (sumK (powC fun x => decide (x ∈ ids)) l k)), .slot 0 (vL cVal l), .slot 1 (vL cInt ids)]) (fun k => l.length - k) 0 (Nat.zero_le _) (h := ?_)
    rintro k hk
    obtain ⟨s0, s1⟩ := pow_in (p := fun x => decide (x ∈ ids)) hv k hk
    have h7 := hv.1.2
    by_cases hlt : k < l.length
    · have hrow := row_at cVal l hlt
      simp only [cVal, List.map_cons, List.map_nil] at hrow
      obtain ⟨b1, b2, b3, b4⟩ := vals_at hv hlt
      by_cases hm : l[k].1 ∈ ids
      · have hs : sumK (powC fun x => decide (x ∈ ids)) l (k + 1) = sumK (powC fun x => decide (x ∈ ids)) l k + l[k].2 := by rw [sumK_succ _ hlt]; simp [powC, hm]
        repeat (first | with_reducible apply W.seq | with_reducible apply W.block | with_reducible apply W.skip | with_reducible apply W.exit | with_reducible apply W.ret | with_reducible apply At.seqN | with_reducible apply At.blkN | with_reducible apply At.blkE | with_reducible apply At.blkR | with_reducible apply At.thenX | with_reducible apply At.thenR | with_reducible apply At.blkX rfl | ((with_reducible apply W.ops); (repeat (first | refine WL.opA hΓ (h := ?_) | refine WL.opX hΓ (h := ?_) | refine WL.opY (h := ?_) | refine WL.opZ (h := ?_))); with_reducible apply WL.nil) | refine W.condT (h := ?_) | refine W.condF (h := ?_))
        exact At.roundA (k + 1) (by omega) (by omega)
      · have hs : sumK (powC fun x => decide (x ∈ ids)) l (k + 1) = sumK (powC fun x => decide (x ∈ ids)) l k := by rw [sumK_succ _ hlt]; simp [powC, hm]
        repeat (first | with_reducible apply W.seq | with_reducible apply W.block | with_reducible apply W.skip | with_reducible apply W.exit | with_reducible apply W.ret | with_reducible apply At.seqN | with_reducible apply At.blkN | with_reducible apply At.blkE | with_reducible apply At.blkR | with_reducible apply At.thenX | with_reducible apply At.thenR | with_reducible apply At.blkX rfl | ((with_reducible apply W.ops); (repeat (first | refine WL.opA hΓ (h := ?_) | refine WL.opX hΓ (h := ?_) | refine WL.opY (h := ?_) | refine WL.opZ (h := ?_))); with_reducible apply WL.nil) | refine W.condT (h := ?_) | refine W.condF (h := ?_))
        exact At.roundA (k + 1) (by omega) (by omega)
    · repeat (first | with_reducible apply W.seq | with_reducible apply W.block | with_reducible apply W.skip | with_reducible apply W.exit | with_reducible apply W.ret | with_reducible apply At.seqN | with_reducible apply At.blkN | with_reducible apply At.blkE | with_reducible apply At.blkR | with_reducible apply At.thenX | with_reducible apply At.thenR | with_reducible apply At.blkX rfl | ((with_reducible apply W.ops); (repeat (first | refine WL.opA hΓ (h := ?_) | refine WL.opX hΓ (h := ?_) | refine WL.opY (h := ?_) | refine WL.opZ (h := ?_))); with_reducible apply WL.nil) | refine W.condT (h := ?_) | refine W.condF (h := ?_))
      refine At.retA (by rw [Try.results16]) (he := ?_)
      rw [sumK_all _ (by omega)]
      simp only [enoughB, hv, decide_true, Bool.true_and, powSum]
      first | rfl | congr
  · repeat (first | with_reducible apply W.seq | with_reducible apply W.block | with_reducible apply W.skip | with_reducible apply W.exit | with_reducible apply W.ret | with_reducible apply At.seqN | with_reducible apply At.blkN | with_reducible apply At.blkE | with_reducible apply At.blkR | with_reducible apply At.thenX | with_reducible apply At.thenR | with_reducible apply At.blkX rfl | ((with_reducible apply W.ops); (repeat (first | refine WL.opA hΓ (h := ?_) | refine WL.opX hΓ (h := ?_) | refine WL.opY (h := ?_) | refine WL.opZ (h := ?_))); with_reducible apply WL.nil) | refine W.condT (h := ?_) | refine W.condF (h := ?_))
    refine W.loopA (fun _ => True) (fun _ : Nat => [.slot 6 (vI 0), .slot 5 (vI 0), .slot 0 (vL cVal l), .slot 1 (vL cInt ids)]) (fun _ => 0) 0 trivial (h := ?_)
    rintro k -
    by_cases hlt : 0 < l.length
    · repeat (first | with_reducible apply W.seq | with_reducible apply W.block | with_reducible apply W.skip | with_reducible apply W.exit | with_reducible apply W.ret | with_reducible apply At.seqN | with_reducible apply At.blkN | with_reducible apply At.blkE | with_reducible apply At.blkR | with_reducible apply At.thenX | with_reducible apply At.thenR | with_reducible apply At.blkX rfl | ((with_reducible apply W.ops); (repeat (first | refine WL.opA hΓ (h := ?_) | refine WL.opX hΓ (h := ?_) | refine WL.opY (h := ?_) | refine WL.opZ (h := ?_))); with_reducible apply WL.nil) | refine W.condT (h := ?_) | refine W.condF (h := ?_))
      refine At.retA (by rw [Try.results16]) (he := ?_)
      simp [enoughB, hv]
    · repeat (first | with_reducible apply W.seq | with_reducible apply W.block | with_reducible apply W.skip | with_reducible apply W.exit | with_reducible apply W.ret | with_reducible apply At.seqN | with_reducible apply At.blkN | with_reducible apply At.blkE | with_reducible apply At.blkR | with_reducible apply At.thenX | with_reducible apply At.thenR | with_reducible apply At.blkX rfl | ((with_reducible apply W.ops); (repeat (first | refine WL.opA hΓ (h := ?_) | refine WL.opX hΓ (h := ?_) | refine WL.opY (h := ?_) | refine WL.opZ (h := ?_))); with_reducible apply WL.nil) | refine W.condT (h := ?_) | refine W.condF (h := ?_))
      refine At.retA (by rw [Try.results16]) (he := ?_)
      simp [enoughB, hv]
end Go.Proofs.Ytlchfjjoendimaa
