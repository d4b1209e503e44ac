/-
  Drawn texts and leaves.
-/
import Derived.Test.YteaohgacgcjkjaaDoorEvFresh
import Derived.Test.YteaohgacgcjkjaaDoorEvVar
namespace Go.Proofs.YteaohgacgcjkjaaDoor
set_option maxRecDepth 100000
set_option linter.unusedVariables false
set_option linter.unusedSimpArgs false
open Go Go.RowKit
set_option maxHeartbeats 4000000

theorem cStr_appT (l : List ByteArray) (x : ByteArray) : rowsF cStr l ++ [[.sc (.string x)]] = rowsF cStr (l ++ [x]) := by rw [← rowsF_app]; rfl
def rText (m : Int) (s : ByteArray) : Prop := (s.size : Int) ≤ m
theorem l1Text_s : SoundCu Tryd.prog 44 (fun m : Int => 0 ≤ m ∧ m ≤ 1000) (fun m => [aI m]) rText (fun _ s => rS s) := by
  refine SoundCu.of Tryd.func44 rfl Tryd.ntmps44 ?_
  rintro k0 m b w hc ⟨hm0, hm1⟩ hB
  refine ⟨by simp, ?_⟩
  simp only [initC]
  have hΓ : GSound Tryd.prog (look []) := env_nil
  have hBe : Has Tryd.prog 40 := has_of Tryd.func40 rfl rfl
  have hBy : Has Tryd.prog 61 := has_of Tryd.func61 rfl rfl
  obtain ⟨g, hg, hg2⟩ := wrap_u8_ex
  have hcu := lsNms_cu
  have hck := kill_cu
  simp only [initS, argPV, List.map_cons, List.map_nil, toPL, Nat.zero_add]
  repeat (first | with_reducible apply W.seq | with_reducible apply W.block | with_reducible apply W.skip | with_reducible apply W.exit | with_reducible apply W.ret | with_reducible apply At.seqN | with_reducible apply At.blkN | with_reducible apply At.blkE | with_reducible apply At.blkR | with_reducible apply At.thenX | with_reducible apply At.thenR | with_reducible apply At.blkX rfl | ((with_reducible apply W.ops); (repeat (first | refine WL.opA hΓ (h := ?_) | refine WL.opX hΓ (h := ?_) | refine WL.opY (h := ?_) | refine WL.opZ (h := ?_))); with_reducible apply WL.nil) | refine W.condT (h := ?_) | refine W.condF (h := ?_))
  with_reducible apply W.ops
  repeat (first | refine WL.opA hΓ (h := ?_) | refine WL.opX hΓ (h := ?_) | refine WL.opY (h := ?_) | refine WL.opZ (h := ?_))
  refine WL.opCu hBe l1Below_s k0 hc 4 (by decide) (h := ?_)
  rintro k1 s0 hk1 ⟨hs0, hs1, -⟩
  replace hs1 : s0 < 4 := hs1 (by decide)
  (repeat (first | refine WL.opA hΓ (h := ?_) | refine WL.opX hΓ (h := ?_) | refine WL.opY (h := ?_) | refine WL.opZ (h := ?_)))
  with_reducible apply WL.nil
  repeat (first | with_reducible apply W.seq | with_reducible apply W.block | with_reducible apply W.skip | with_reducible apply W.exit | with_reducible apply W.ret | with_reducible apply At.seqN | with_reducible apply At.blkN | with_reducible apply At.blkE | with_reducible apply At.blkR | with_reducible apply At.thenX | with_reducible apply At.thenR | with_reducible apply At.blkX rfl | ((with_reducible apply W.ops); (repeat (first | refine WL.opA hΓ (h := ?_) | refine WL.opX hΓ (h := ?_) | refine WL.opY (h := ?_) | refine WL.opZ (h := ?_))); with_reducible apply WL.nil) | refine W.condT (h := ?_) | refine W.condF (h := ?_))
  with_reducible apply W.ops
  repeat (first | refine WL.opA hΓ (h := ?_) | refine WL.opX hΓ (h := ?_) | refine WL.opY (h := ?_) | refine WL.opZ (h := ?_))
  refine WL.opCu hBe l1Below_s k1 hk1.ok (m + 1) ⟨by omega, by omega⟩ (h := ?_)
  rintro k2 n0 hk2 ⟨hn0, hn1, -⟩
  replace hn1 : n0 < m + 1 := hn1 (by omega)
  have hnil : rowsF cU8 [] = [] := rfl
  (repeat (first | refine WL.opA hΓ (h := ?_) | refine WL.opX hΓ (h := ?_) | refine WL.opY (h := ?_) | refine WL.opZ (h := ?_)))
  with_reducible apply WL.nil
  repeat (first | with_reducible apply W.seq | with_reducible apply W.block | with_reducible apply W.skip | with_reducible apply W.exit | with_reducible apply W.ret | with_reducible apply At.seqN | with_reducible apply At.blkN | with_reducible apply At.blkE | with_reducible apply At.blkR | with_reducible apply At.thenX | with_reducible apply At.thenR | with_reducible apply At.blkX rfl | ((with_reducible apply W.ops); (repeat (first | refine WL.opA hΓ (h := ?_) | refine WL.opX hΓ (h := ?_) | refine WL.opY (h := ?_) | refine WL.opZ (h := ?_))); with_reducible apply WL.nil) | refine W.condT (h := ?_) | refine W.condF (h := ?_))
  refine W.loopA (fun x : List Nat × Int × Cu => CuTo k0 x.2.2 ∧ 0 ≤ x.2.1 ∧ x.1.length + x.2.1 = n0) (fun x => [.slot 0 (one (.ptr 999 0)), .blk 999 (.box (cuL x.2.2)), .slot 5 (one (.all 9)), .blk 9 (.arr true 5 1 (rowsF cU8 x.1)), .slot 6 (vI s0), .slot 7 (vI x.2.1)]) (fun x => x.2.1.toNat) ([], n0, k2) ⟨hk1.trans hk2, hn0, by simp⟩ (h := ?_)
  rintro ⟨l, n, k⟩ ⟨hk, hn, hl⟩
  dsimp only at hk hn hl ⊢
  by_cases hp : 0 < n
  · have hlen : l.length ≤ 1000 := by omega
    repeat (first | with_reducible apply W.seq | with_reducible apply W.block | with_reducible apply W.skip | with_reducible apply W.exit | with_reducible apply W.ret | with_reducible apply At.seqN | with_reducible apply At.blkN | with_reducible apply At.blkE | with_reducible apply At.blkR | with_reducible apply At.thenX | with_reducible apply At.thenR | with_reducible apply At.blkX rfl | ((with_reducible apply W.ops); (repeat (first | refine WL.opA hΓ (h := ?_) | refine WL.opX hΓ (h := ?_) | refine WL.opY (h := ?_) | refine WL.opZ (h := ?_))); with_reducible apply WL.nil) | refine W.condT (h := ?_) | refine W.condF (h := ?_))
    with_reducible apply W.ops
    repeat (first | refine WL.opA hΓ (h := ?_) | refine WL.opX hΓ (h := ?_) | refine WL.opY (h := ?_) | refine WL.opZ (h := ?_))
    refine WL.opCu hBy l1Byte_s k hk.ok () trivial (h := ?_)
    rintro k3 r hk3 ⟨hr0, hr1⟩
    (repeat (first | refine WL.opA hΓ (h := ?_) | refine WL.opX hΓ (h := ?_) | refine WL.opY (h := ?_) | refine WL.opZ (h := ?_)))
    with_reducible apply WL.nil
    by_cases h1 : s0 = 1
    · subst h1
      have e := cU8_app l (g (r.tmod 2))
      have hnz : ((2 : Int) = 0) = False := by simp
      have t0 : 0 ≤ r.tmod 2 := Int.tmod_nonneg _ hr0
      have t1 : r.tmod 2 < 2 := Int.tmod_lt_of_pos _ (by decide)
      repeat (first | with_reducible apply W.seq | with_reducible apply W.block | with_reducible apply W.skip | with_reducible apply W.exit | with_reducible apply W.ret | with_reducible apply At.seqN | with_reducible apply At.blkN | with_reducible apply At.blkE | with_reducible apply At.blkR | with_reducible apply At.thenX | with_reducible apply At.thenR | with_reducible apply At.blkX rfl | ((with_reducible apply W.ops); (repeat (first | refine WL.opA hΓ (h := ?_) | refine WL.opX hΓ (h := ?_) | refine WL.opY (h := ?_) | refine WL.opZ (h := ?_))); with_reducible apply WL.nil) | refine W.condT (h := ?_) | refine W.condF (h := ?_))
      exact At.roundA (l ++ [g (r.tmod 2)], n - 1, k3) ⟨hk.trans hk3, by dsimp only; omega, by simp; omega⟩ (by dsimp only; omega)
    · by_cases h2 : s0 = 2
      · subst h2
        have e := cU8_app l (g (97 + r.tmod 4))
        have hnz : ((4 : Int) = 0) = False := by simp
        have t0 : 0 ≤ r.tmod 4 := Int.tmod_nonneg _ hr0
        have t1 : r.tmod 4 < 4 := Int.tmod_lt_of_pos _ (by decide)
        repeat (first | with_reducible apply W.seq | with_reducible apply W.block | with_reducible apply W.skip | with_reducible apply W.exit | with_reducible apply W.ret | with_reducible apply At.seqN | with_reducible apply At.blkN | with_reducible apply At.blkE | with_reducible apply At.blkR | with_reducible apply At.thenX | with_reducible apply At.thenR | with_reducible apply At.blkX rfl | ((with_reducible apply W.ops); (repeat (first | refine WL.opA hΓ (h := ?_) | refine WL.opX hΓ (h := ?_) | refine WL.opY (h := ?_) | refine WL.opZ (h := ?_))); with_reducible apply WL.nil) | refine W.condT (h := ?_) | refine W.condF (h := ?_))
        exact At.roundA (l ++ [g (97 + r.tmod 4)], n - 1, k3) ⟨hk.trans hk3, by dsimp only; omega, by simp; omega⟩ (by dsimp only; omega)
      · have e := cU8_app l (g r)
        repeat (first | with_reducible apply W.seq | with_reducible apply W.block | with_reducible apply W.skip | with_reducible apply W.exit | with_reducible apply W.ret | with_reducible apply At.seqN | with_reducible apply At.blkN | with_reducible apply At.blkE | with_reducible apply At.blkR | with_reducible apply At.thenX | with_reducible apply At.thenR | with_reducible apply At.blkX rfl | ((with_reducible apply W.ops); (repeat (first | refine WL.opA hΓ (h := ?_) | refine WL.opX hΓ (h := ?_) | refine WL.opY (h := ?_) | refine WL.opZ (h := ?_))); with_reducible apply WL.nil) | refine W.condT (h := ?_) | refine W.condF (h := ?_))
        exact At.roundA (l ++ [g r], n - 1, k3) ⟨hk.trans hk3, by dsimp only; omega, by simp; omega⟩ (by dsimp only; omega)
  · have hb := bytes_rows l
    repeat (first | with_reducible apply W.seq | with_reducible apply W.block | with_reducible apply W.skip | with_reducible apply W.exit | with_reducible apply W.ret | with_reducible apply At.seqN | with_reducible apply At.blkN | with_reducible apply At.blkE | with_reducible apply At.blkR | with_reducible apply At.thenX | with_reducible apply At.thenR | with_reducible apply At.blkX rfl | ((with_reducible apply W.ops); (repeat (first | refine WL.opA hΓ (h := ?_) | refine WL.opX hΓ (h := ?_) | refine WL.opY (h := ?_) | refine WL.opZ (h := ?_))); with_reducible apply WL.nil) | refine W.condT (h := ?_) | refine W.condF (h := ?_))
    refine At.retCu (by rw [Tryd.results44]) hB (hls := ?_) (he := ?_) k (bsS l) hk (show ((bsS l).size : Int) ≤ m by rw [bsS_size]; omega)
    · rfl
    · rfl
def rLeaves (l : List ByteArray) : Prop := l.length ≤ 41 ∧ ∀ x ∈ l, x.size ≤ 4
theorem l4Leaves_s : SoundCu Tryd.prog 42 (fun _ : Unit => True) (fun _ => []) (fun _ l => rLeaves l) (fun _ l => rL 9 1 cStr l) := by
  refine SoundCu.of Tryd.func42 rfl Tryd.ntmps42 ?_
  rintro k0 - b w hc - hB
  refine ⟨by simp, ?_⟩
  simp only [initC]
  have hΓ : GSound Tryd.prog (look []) := env_nil
  have hBe : Has Tryd.prog 40 := has_of Tryd.func40 rfl rfl
  have hOn : Has Tryd.prog 43 := has_of Tryd.func43 rfl rfl
  have hTe : Has Tryd.prog 44 := has_of Tryd.func44 rfl rfl
  have hnil : rowsF cStr [] = [] := rfl
  have hcu := lsNms_cu
  have hck := kill_cu
  simp only [initS, argPV, List.map_cons, List.map_nil, toPL, Nat.zero_add]
  repeat (first | with_reducible apply W.seq | with_reducible apply W.block | with_reducible apply W.skip | with_reducible apply W.exit | with_reducible apply W.ret | with_reducible apply At.seqN | with_reducible apply At.blkN | with_reducible apply At.blkE | with_reducible apply At.blkR | with_reducible apply At.thenX | with_reducible apply At.thenR | with_reducible apply At.blkX rfl | ((with_reducible apply W.ops); (repeat (first | refine WL.opA hΓ (h := ?_) | refine WL.opX hΓ (h := ?_) | refine WL.opY (h := ?_) | refine WL.opZ (h := ?_))); with_reducible apply WL.nil) | refine W.condT (h := ?_) | refine W.condF (h := ?_))
  with_reducible apply W.ops
  repeat (first | refine WL.opA hΓ (h := ?_) | refine WL.opX hΓ (h := ?_) | refine WL.opY (h := ?_) | refine WL.opZ (h := ?_))
  refine WL.opCu hBe l1Below_s k0 hc 9 (by decide) (h := ?_)
  rintro k1 n0 hk1 ⟨hn0, hn1, -⟩
  replace hn1 : n0 < 9 := hn1 (by decide)
  (repeat (first | refine WL.opA hΓ (h := ?_) | refine WL.opX hΓ (h := ?_) | refine WL.opY (h := ?_) | refine WL.opZ (h := ?_)))
  with_reducible apply WL.nil
  repeat (first | with_reducible apply W.seq | with_reducible apply W.block | with_reducible apply W.skip | with_reducible apply W.exit | with_reducible apply W.ret | with_reducible apply At.seqN | with_reducible apply At.blkN | with_reducible apply At.blkE | with_reducible apply At.blkR | with_reducible apply At.thenX | with_reducible apply At.thenR | with_reducible apply At.blkX rfl | ((with_reducible apply W.ops); (repeat (first | refine WL.opA hΓ (h := ?_) | refine WL.opX hΓ (h := ?_) | refine WL.opY (h := ?_) | refine WL.opZ (h := ?_))); with_reducible apply WL.nil) | refine W.condT (h := ?_) | refine W.condF (h := ?_))
  refine W.loopA (fun x : List ByteArray × Int × Cu => CuTo k0 x.2.2 ∧ 0 ≤ x.2.1 ∧ x.1.length + x.2.1 = n0 ∧ ∀ s ∈ x.1, s.size ≤ 4) (fun x => [.slot 0 (one (.ptr 999 0)), .blk 999 (.box (cuL x.2.2)), .slot 3 (one (.all 6)), .blk 6 (.arr true 9 1 (rowsF cStr x.1)), .slot 4 (vI x.2.1)]) (fun x => x.2.1.toNat) ([], n0, k1) ⟨hk1, hn0, by simp, by simp⟩ (h := ?_)
  rintro ⟨l, n, k⟩ ⟨hk, hn, hl, hsz⟩
  dsimp only at hk hn hl hsz ⊢
  have hlen : l.length ≤ 8 := by omega
  by_cases hp : 0 < n
  · repeat (first | with_reducible apply W.seq | with_reducible apply W.block | with_reducible apply W.skip | with_reducible apply W.exit | with_reducible apply W.ret | with_reducible apply At.seqN | with_reducible apply At.blkN | with_reducible apply At.blkE | with_reducible apply At.blkR | with_reducible apply At.thenX | with_reducible apply At.thenR | with_reducible apply At.blkX rfl | ((with_reducible apply W.ops); (repeat (first | refine WL.opA hΓ (h := ?_) | refine WL.opX hΓ (h := ?_) | refine WL.opY (h := ?_) | refine WL.opZ (h := ?_))); with_reducible apply WL.nil) | refine W.condT (h := ?_) | refine W.condF (h := ?_))
    with_reducible apply W.ops
    repeat (first | refine WL.opA hΓ (h := ?_) | refine WL.opX hΓ (h := ?_) | refine WL.opY (h := ?_) | refine WL.opZ (h := ?_))
    refine WL.opCu hTe l1Text_s k hk.ok 4 (by decide) (h := ?_)
    rintro k3 s hk3 hs
    have e := cStr_appT l s
    (repeat (first | refine WL.opA hΓ (h := ?_) | refine WL.opX hΓ (h := ?_) | refine WL.opY (h := ?_) | refine WL.opZ (h := ?_)))
    with_reducible apply WL.nil
    repeat (first | with_reducible apply W.seq | with_reducible apply W.block | with_reducible apply W.skip | with_reducible apply W.exit | with_reducible apply W.ret | with_reducible apply At.seqN | with_reducible apply At.blkN | with_reducible apply At.blkE | with_reducible apply At.blkR | with_reducible apply At.thenX | with_reducible apply At.thenR | with_reducible apply At.blkX rfl | ((with_reducible apply W.ops); (repeat (first | refine WL.opA hΓ (h := ?_) | refine WL.opX hΓ (h := ?_) | refine WL.opY (h := ?_) | refine WL.opZ (h := ?_))); with_reducible apply WL.nil) | refine W.condT (h := ?_) | refine W.condF (h := ?_))
    refine At.roundA (l ++ [s], n - 1, k3) ⟨hk.trans hk3, by dsimp only; omega, by simp; omega, fun x hx => ?_⟩ (by dsimp only; omega)
    rcases List.mem_append.1 hx with h | h
    · exact hsz x h
    · rw [List.mem_singleton.1 h]
      have : (s.size : Int) ≤ 4 := hs
      omega
  · clear hnil
    repeat (first | with_reducible apply W.seq | with_reducible apply W.block | with_reducible apply W.skip | with_reducible apply W.exit | with_reducible apply W.ret | with_reducible apply At.seqN | with_reducible apply At.blkN | with_reducible apply At.blkE | with_reducible apply At.blkR | with_reducible apply At.thenX | with_reducible apply At.thenR | with_reducible apply At.blkX rfl | ((with_reducible apply W.ops); (repeat (first | refine WL.opA hΓ (h := ?_) | refine WL.opX hΓ (h := ?_) | refine WL.opY (h := ?_) | refine WL.opZ (h := ?_))); with_reducible apply WL.nil) | refine W.condT (h := ?_) | refine W.condF (h := ?_))
    with_reducible apply W.ops
    repeat (first | refine WL.opA hΓ (h := ?_) | refine WL.opX hΓ (h := ?_) | refine WL.opY (h := ?_) | refine WL.opZ (h := ?_))
    refine WL.opCu hOn l1Once_s k hk.ok 60 (by decide) (h := ?_)
    rintro k2 o hk2 -
    (repeat (first | refine WL.opA hΓ (h := ?_) | refine WL.opX hΓ (h := ?_) | refine WL.opY (h := ?_) | refine WL.opZ (h := ?_)))
    with_reducible apply WL.nil
    cases o with
    | false =>
      repeat (first | with_reducible apply W.seq | with_reducible apply W.block | with_reducible apply W.skip | with_reducible apply W.exit | with_reducible apply W.ret | with_reducible apply At.seqN | with_reducible apply At.blkN | with_reducible apply At.blkE | with_reducible apply At.blkR | with_reducible apply At.thenX | with_reducible apply At.thenR | with_reducible apply At.blkX rfl | ((with_reducible apply W.ops); (repeat (first | refine WL.opA hΓ (h := ?_) | refine WL.opX hΓ (h := ?_) | refine WL.opY (h := ?_) | refine WL.opZ (h := ?_))); with_reducible apply WL.nil) | refine W.condT (h := ?_) | refine W.condF (h := ?_))
      refine At.retCu (by rw [Tryd.results42]) hB (hls := ?_) (he := ?_) k2 l (hk.trans hk2) ⟨by omega, hsz⟩
      · rfl
      · rfl
    | true =>
      repeat (first | with_reducible apply W.seq | with_reducible apply W.block | with_reducible apply W.skip | with_reducible apply W.exit | with_reducible apply W.ret | with_reducible apply At.seqN | with_reducible apply At.blkN | with_reducible apply At.blkE | with_reducible apply At.blkR | with_reducible apply At.thenX | with_reducible apply At.thenR | with_reducible apply At.blkX rfl | ((with_reducible apply W.ops); (repeat (first | refine WL.opA hΓ (h := ?_) | refine WL.opX hΓ (h := ?_) | refine WL.opY (h := ?_) | refine WL.opZ (h := ?_))); with_reducible apply WL.nil) | refine W.condT (h := ?_) | refine W.condF (h := ?_))
      with_reducible apply W.ops
      repeat (first | refine WL.opA hΓ (h := ?_) | refine WL.opX hΓ (h := ?_) | refine WL.opY (h := ?_) | refine WL.opZ (h := ?_))
      refine WL.opCu hBe l1Below_s k2 hk2.ok 2 (by decide) (h := ?_)
      rintro k3 q hk3 ⟨hq0, hq1, -⟩
      replace hq1 : q < 2 := hq1 (by decide)
      (repeat (first | refine WL.opA hΓ (h := ?_) | refine WL.opX hΓ (h := ?_) | refine WL.opY (h := ?_) | refine WL.opZ (h := ?_)))
      with_reducible apply WL.nil
      repeat (first | with_reducible apply W.seq | with_reducible apply W.block | with_reducible apply W.skip | with_reducible apply W.exit | with_reducible apply W.ret | with_reducible apply At.seqN | with_reducible apply At.blkN | with_reducible apply At.blkE | with_reducible apply At.blkR | with_reducible apply At.thenX | with_reducible apply At.thenR | with_reducible apply At.blkX rfl | ((with_reducible apply W.ops); (repeat (first | refine WL.opA hΓ (h := ?_) | refine WL.opX hΓ (h := ?_) | refine WL.opY (h := ?_) | refine WL.opZ (h := ?_))); with_reducible apply WL.nil) | refine W.condT (h := ?_) | refine W.condF (h := ?_))
      refine W.loopA (fun x : List ByteArray => x.length ≤ 41 ∧ ∀ s ∈ x, s.size ≤ 4) (fun x => [.slot 0 (one (.ptr 999 0)), .blk 999 (.box (cuL k3)), .slot 3 (one (.all 6)), .blk 6 (.arr true 9 1 (rowsF cStr x)), .slot 5 (vI (40 + q))]) (fun x => 41 - x.length) l ⟨by omega, hsz⟩ (h := ?_)
      rintro y ⟨hy, hys⟩
      have hylen := rowsF_len cStr y
      have hem : (⟨#[]⟩ : ByteArray) = ByteArray.empty := rfl
      by_cases hlt : (y.length : Int) < 40 + q
      · have e := cStr_appT y ByteArray.empty
        repeat (first | with_reducible apply W.seq | with_reducible apply W.block | with_reducible apply W.skip | with_reducible apply W.exit | with_reducible apply W.ret | with_reducible apply At.seqN | with_reducible apply At.blkN | with_reducible apply At.blkE | with_reducible apply At.blkR | with_reducible apply At.thenX | with_reducible apply At.thenR | with_reducible apply At.blkX rfl | ((with_reducible apply W.ops); (repeat (first | refine WL.opA hΓ (h := ?_) | refine WL.opX hΓ (h := ?_) | refine WL.opY (h := ?_) | refine WL.opZ (h := ?_))); with_reducible apply WL.nil) | refine W.condT (h := ?_) | refine W.condF (h := ?_))
        refine At.roundA (y ++ [ByteArray.empty]) ⟨by simp; omega, fun x hx => ?_⟩ (by simp; omega)
        rcases List.mem_append.1 hx with h | h
        · exact hys x h
        · rw [List.mem_singleton.1 h]
          simp
      · repeat (first | with_reducible apply W.seq | with_reducible apply W.block | with_reducible apply W.skip | with_reducible apply W.exit | with_reducible apply W.ret | with_reducible apply At.seqN | with_reducible apply At.blkN | with_reducible apply At.blkE | with_reducible apply At.blkR | with_reducible apply At.thenX | with_reducible apply At.thenR | with_reducible apply At.blkX rfl | ((with_reducible apply W.ops); (repeat (first | refine WL.opA hΓ (h := ?_) | refine WL.opX hΓ (h := ?_) | refine WL.opY (h := ?_) | refine WL.opZ (h := ?_))); with_reducible apply WL.nil) | refine W.condT (h := ?_) | refine W.condF (h := ?_))
        refine At.retCu (by rw [Tryd.results42]) hB (hls := ?_) (he := ?_) k3 y ((hk.trans hk2).trans hk3) ⟨hy, hys⟩
        · rfl
        · rfl
def rLeavesX (l : List ByteArray) : Prop := 1 ≤ l.length ∧ l.length ≤ 42 ∧ ∀ x ∈ l, x.size ≤ 4
theorem l34Leaves_s : SoundCu Tryd.prog 39 (fun _ : Unit => True) (fun _ => []) (fun _ l => rLeavesX l) (fun _ l => rL 9 1 cStr l) := by
  refine SoundCu.of Tryd.func39 rfl Tryd.ntmps39 ?_
  rintro k0 - b w hc - hB
  refine ⟨by simp, ?_⟩
  simp only [initC]
  have hΓ : GSound Tryd.prog (look []) := env_nil
  have hLe : Has Tryd.prog 42 := has_of Tryd.func42 rfl rfl
  have hcu := lsNms_cu
  have hck := kill_cu
  simp only [initS, argPV, List.map_cons, List.map_nil, toPL, Nat.zero_add]
  repeat (first | with_reducible apply W.seq | with_reducible apply W.block | with_reducible apply W.skip | with_reducible apply W.exit | with_reducible apply W.ret | with_reducible apply At.seqN | with_reducible apply At.blkN | with_reducible apply At.blkE | with_reducible apply At.blkR | with_reducible apply At.thenX | with_reducible apply At.thenR | with_reducible apply At.blkX rfl | ((with_reducible apply W.ops); (repeat (first | refine WL.opA hΓ (h := ?_) | refine WL.opX hΓ (h := ?_) | refine WL.opY (h := ?_) | refine WL.opZ (h := ?_))); with_reducible apply WL.nil) | refine W.condT (h := ?_) | refine W.condF (h := ?_))
  with_reducible apply W.ops
  repeat (first | refine WL.opA hΓ (h := ?_) | refine WL.opX hΓ (h := ?_) | refine WL.opY (h := ?_) | refine WL.opZ (h := ?_))
  refine WL.opCu hLe l4Leaves_s k0 hc () trivial (h := ?_)
  rintro k1 l hk1 ⟨hl, hsz⟩
  have e := cStr_appT l ⟨#[120]⟩
  (repeat (first | refine WL.opA hΓ (h := ?_) | refine WL.opX hΓ (h := ?_) | refine WL.opY (h := ?_) | refine WL.opZ (h := ?_)))
  with_reducible apply WL.nil
  repeat (first | with_reducible apply W.seq | with_reducible apply W.block | with_reducible apply W.skip | with_reducible apply W.exit | with_reducible apply W.ret | with_reducible apply At.seqN | with_reducible apply At.blkN | with_reducible apply At.blkE | with_reducible apply At.blkR | with_reducible apply At.thenX | with_reducible apply At.thenR | with_reducible apply At.blkX rfl | ((with_reducible apply W.ops); (repeat (first | refine WL.opA hΓ (h := ?_) | refine WL.opX hΓ (h := ?_) | refine WL.opY (h := ?_) | refine WL.opZ (h := ?_))); with_reducible apply WL.nil) | refine W.condT (h := ?_) | refine W.condF (h := ?_))
  refine At.retCu (by rw [Tryd.results39]) hB (hls := ?_) (he := ?_) k1 (l ++ [⟨#[120]⟩]) hk1 ⟨by simp, by simp; omega, fun x hx => ?_⟩
  · rcases List.mem_append.1 hx with h | h
    · exact hsz x h
    · rw [List.mem_singleton.1 h]
      decide
  · rfl
  · rfl
end Go.Proofs.YteaohgacgcjkjaaDoor
