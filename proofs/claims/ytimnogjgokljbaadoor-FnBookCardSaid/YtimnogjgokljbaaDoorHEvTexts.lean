/-
  Drawn texts and leaves.
-/
import Derived.Test.YtimnogjgokljbaaDoorG26
import Derived.Test.YtimnogjgokljbaaDoorG7
namespace Go.Proofs.YtimnogjgokljbaaDoor
set_option maxRecDepth 100000
set_option linter.unusedVariables false
set_option linter.unusedSimpArgs false
open Go Go.RowKit
set_option maxHeartbeats 4000000

theorem cStr_appT (l : List ByteArray) (x : ByteArray) : rowsF cStr l ++ [[.sc (.string x)]] = rowsF cStr (l ++ [x]) := by rw [← rowsF_app]; rfl
def rText (m : Int) (s : ByteArray) : Prop := (s.size : Int) ≤ m
theorem l1Text_s : SoundCu Tryd.prog 62 (fun m : Int => 0 ≤ m ∧ m ≤ 1000) (fun m => [aI m]) rText (fun _ s => rS s) := by
  refine SoundCu.of Tryd.func62 rfl Tryd.ntmps62 ?_
  rintro k0 m b w hc ⟨hm0, hm1⟩ hB
  refine ⟨by simp, ?_⟩
  simp only [initC]
  have hΓ : GSound Tryd.prog (look []) := env_nil
  have hBe : Has Tryd.prog 40 := has_of Tryd.func40 rfl rfl
  have hBy : Has Tryd.prog 61 := has_of Tryd.func61 rfl rfl
  obtain ⟨g, hg, hg2⟩ := wrap_u8_ex
  have hcu := lsNms_cu
  have hck := kill_cu
  simp only [initS, argPV, List.map_cons, List.map_nil, toPL, Nat.zero_add]
  repeat (first | with_reducible apply W.seq | with_reducible apply W.block | with_reducible apply W.skip | with_reducible apply W.exit | with_reducible apply W.ret | with_reducible apply At.seqN | with_reducible apply At.blkN | with_reducible apply At.blkE | with_reducible apply At.blkR | with_reducible apply At.thenX | with_reducible apply At.thenR | with_reducible apply At.blkX rfl | ((with_reducible apply W.ops); (repeat (first | refine WL.opA hΓ (h := ?_) | refine WL.opX hΓ (h := ?_) | refine WL.opY (h := ?_) | refine WL.opZ (h := ?_))); with_reducible apply WL.nil) | refine W.condT (h := ?_) | refine W.condF (h := ?_))
  with_reducible apply W.ops
  repeat (first | refine WL.opA hΓ (h := ?_) | refine WL.opX hΓ (h := ?_) | refine WL.opY (h := ?_) | refine WL.opZ (h := ?_))
  refine WL.opCu hBe l1Below_s k0 hc 4 (by decide) (h := ?_)
  rintro k1 s0 hk1 ⟨hs0, hs1, -⟩
  replace hs1 : s0 < 4 := hs1 (by decide)
  (repeat (first | refine WL.opA hΓ (h := ?_) | refine WL.opX hΓ (h := ?_) | refine WL.opY (h := ?_) | refine WL.opZ (h := ?_)))
  with_reducible apply WL.nil
  repeat (first | with_reducible apply W.seq | with_reducible apply W.block | with_reducible apply W.skip | with_reducible apply W.exit | with_reducible apply W.ret | with_reducible apply At.seqN | with_reducible apply At.blkN | with_reducible apply At.blkE | with_reducible apply At.blkR | with_reducible apply At.thenX | with_reducible apply At.thenR | with_reducible apply At.blkX rfl | ((with_reducible apply W.ops); (repeat (first | refine WL.opA hΓ (h := ?_) | refine WL.opX hΓ (h := ?_) | refine WL.opY (h := ?_) | refine WL.opZ (h := ?_))); with_reducible apply WL.nil) | refine W.condT (h := ?_) | refine W.condF (h := ?_))
  with_reducible apply W.ops
  repeat (first | refine WL.opA hΓ (h := ?_) | refine WL.opX hΓ (h := ?_) | refine WL.opY (h := ?_) | refine WL.opZ (h := ?_))
  refine WL.opCu hBe l1Below_s k1 hk1.ok (m + 1) ⟨by omega, by omega⟩ (h := ?_)
  rintro k2 n0 hk2 ⟨hn0, hn1, -⟩
  replace hn1 : n0 < m + 1 := hn1 (by omega)
  have hnil : rowsF cU8 [] = [] := rfl
  (repeat (first | refine WL.opA hΓ (h := ?_) | refine WL.opX hΓ (h := ?_) | refine WL.opY (h := ?_) | refine WL.opZ (h := ?_)))
  with_reducible apply WL.nil
  repeat (first | with_reducible apply W.seq | with_reducible apply W.block | with_reducible apply W.skip | with_reducible apply W.exit | with_reducible apply W.ret | with_reducible apply At.seqN | with_reducible apply At.blkN | with_reducible apply At.blkE | with_reducible apply At.blkR | with_reducible apply At.thenX | with_reducible apply At.thenR | with_reducible apply At.blkX rfl | ((with_reducible apply W.ops); (repeat (first | refine WL.opA hΓ (h := ?_) | refine WL.opX hΓ (h := ?_) | refine WL.opY (h := ?_) | refine WL.opZ (h := ?_))); with_reducible apply WL.nil) | refine W.condT (h := ?_) | refine W.condF (h := ?_))
  refine W.loopA (fun x : List Nat × Int × Cu => CuTo k0 x.2.2 ∧ 0 ≤ x.2.1 ∧ x.1.length + x.2.1 = n0) (fun x => [.slot 0 (one (.ptr 999 0)), .blk 999 (.box (cuL x.2.2)), .slot 5 (one (.all 9)), .blk 9 (.arr true 5 1 (rowsF cU8 x.1)), .slot 6 (vI s0), .slot 7 (vI x.2.1)]) (fun x => x.2.1.toNat) ([], n0, k2) ⟨hk1.trans hk2, hn0, by simp⟩ (h := ?_)
  rintro ⟨l, n, k⟩ ⟨hk, hn, hl⟩
  dsimp only at hk hn hl ⊢
  by_cases hp : 0 < n
  · have hlen : l.length ≤ 1000 := by omega
    repeat (first | with_reducible apply W.seq | with_reducible apply W.block | with_reducible apply W.skip | with_reducible apply W.exit | with_reducible apply W.ret | with_reducible apply At.seqN | with_reducible apply At.blkN | with_reducible apply At.blkE | with_reducible apply At.blkR | with_reducible apply At.thenX | with_reducible apply At.thenR | with_reducible apply At.blkX rfl | ((with_reducible apply W.ops); (repeat (first | refine WL.opA hΓ (h := ?_) | refine WL.opX hΓ (h := ?_) | refine WL.opY (h := ?_) | refine WL.opZ (h := ?_))); with_reducible apply WL.nil) | refine W.condT (h := ?_) | refine W.condF (h := ?_))
    with_reducible apply W.ops
    repeat (first | refine WL.opA hΓ (h := ?_) | refine WL.opX hΓ (h := ?_) | refine WL.opY (h := ?_) | refine WL.opZ (h := ?_))
    refine WL.opCu hBy l1Byte_s k hk.ok () trivial (h := ?_)
    rintro k3 r hk3 ⟨hr0, hr1⟩
    (repeat (first | refine WL.opA hΓ (h := ?_) | refine WL.opX hΓ (h := ?_) | refine WL.opY (h := ?_) | refine WL.opZ (h := ?_)))
    with_reducible apply WL.nil
    by_cases h1 : s0 = 1
    · subst h1
      have e := cU8_app l (g (r.tmod 2))
      have hnz : ((2 : Int) = 0) = False := by simp
      have t0 : 0 ≤ r.tmod 2 := Int.tmod_nonneg _ hr0
      have t1 : r.tmod 2 < 2 := Int.tmod_lt_of_pos _ (by decide)
      repeat (first | with_reducible apply W.seq | with_reducible apply W.block | with_reducible apply W.skip | with_reducible apply W.exit | with_reducible apply W.ret | with_reducible apply At.seqN | with_reducible apply At.blkN | with_reducible apply At.blkE | with_reducible apply At.blkR | with_reducible apply At.thenX | with_reducible apply At.thenR | with_reducible apply At.blkX rfl | ((with_reducible apply W.ops); (repeat (first | refine WL.opA hΓ (h := ?_) | refine WL.opX hΓ (h := ?_) | refine WL.opY (h := ?_) | refine WL.opZ (h := ?_))); with_reducible apply WL.nil) | refine W.condT (h := ?_) | refine W.condF (h := ?_))
      exact At.roundA (l ++ [g (r.tmod 2)], n - 1, k3) ⟨hk.trans hk3, by dsimp only; omega, by simp; omega⟩ (by dsimp only; omega)
    · by_cases h2 : s0 = 2
      · subst h2
        have e := cU8_app l (g (97 + r.tmod 4))
        have hnz : ((4 : Int) = 0) = False := by simp
        have t0 : 0 ≤ r.tmod 4 := Int.tmod_nonneg _ hr0
        have t1 : r.tmod 4 < 4 := Int.tmod_lt_of_pos _ (by decide)
        repeat (first | with_reducible apply W.seq | with_reducible apply W.block | with_reducible apply W.skip | with_reducible apply W.exit | with_reducible apply W.ret | with_reducible apply At.seqN | with_reducible apply At.blkN | with_reducible apply At.blkE | with_reducible apply At.blkR | with_reducible apply At.thenX | with_reducible apply At.thenR | with_reducible apply At.blkX rfl | ((with_reducible apply W.ops); (repeat (first | refine WL.opA hΓ (h := ?_) | refine WL.opX hΓ (h := ?_) | refine WL.opY (h := ?_) | refine WL.opZ (h := ?_))); with_reducible apply WL.nil) | refine W.condT (h := ?_) | refine W.condF (h := ?_))
        exact At.roundA (l ++ [g (97 + r.tmod 4)], n - 1, k3) ⟨hk.trans hk3, by dsimp only; omega, by simp; omega⟩ (by dsimp only; omega)
      · have e := cU8_app l (g r)
        repeat (first | with_reducible apply W.seq | with_reducible apply W.block | with_reducible apply W.skip | with_reducible apply W.exit | with_reducible apply W.ret | with_reducible apply At.seqN | with_reducible apply At.blkN | with_reducible apply At.blkE | with_reducible apply At.blkR | with_reducible apply At.thenX | with_reducible apply At.thenR | with_reducible apply At.blkX rfl | ((with_reducible apply W.ops); (repeat (first | refine WL.opA hΓ (h := ?_) | refine WL.opX hΓ (h := ?_) | refine WL.opY (h := ?_) | refine WL.opZ (h := ?_))); with_reducible apply WL.nil) | refine W.condT (h := ?_) | refine W.condF (h := ?_))
        exact At.roundA (l ++ [g r], n - 1, k3) ⟨hk.trans hk3, by dsimp only; omega, by simp; omega⟩ (by dsimp only; omega)
  · have hb := bytes_rows l
    repeat (first | with_reducible apply W.seq | with_reducible apply W.block | with_reducible apply W.skip | with_reducible apply W.exit | with_reducible apply W.ret | with_reducible apply At.seqN | with_reducible apply At.blkN | with_reducible apply At.blkE | with_reducible apply At.blkR | with_reducible apply At.thenX | with_reducible apply At.thenR | with_reducible apply At.blkX rfl | ((with_reducible apply W.ops); (repeat (first | refine WL.opA hΓ (h := ?_) | refine WL.opX hΓ (h := ?_) | refine WL.opY (h := ?_) | refine WL.opZ (h := ?_))); with_reducible apply WL.nil) | refine W.condT (h := ?_) | refine W.condF (h := ?_))
    refine At.retCu (by rw [Tryd.results62]) hB (hls := ?_) (he := ?_) k (bsS l) hk (show ((bsS l).size : Int) ≤ m by rw [bsS_size]; omega)
    · rfl
    · rfl
end Go.Proofs.YtimnogjgokljbaaDoor
