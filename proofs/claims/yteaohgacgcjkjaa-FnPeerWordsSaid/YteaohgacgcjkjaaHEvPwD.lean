/-
  What the law of peers' words draws.
-/
import Derived.Test.YteaohgacgcjkjaaG26
import Derived.Test.YteaohgacgcjkjaaHEvSpoil
import Derived.Test.YteaohgacgcjkjaaHEvShaT
namespace Go.Proofs.Yteaohgacgcjkjaa
set_option maxRecDepth 100000
set_option linter.unusedVariables false
set_option linter.unusedSimpArgs false
open Go Go.RowKit
set_option maxHeartbeats 8000000

/-- what several ways come to, walked once -/
theorem W.key {P : Program} {γ0 : Nat → Option Nat} {w0 : World} {N : Nat} {st : St} {c0 c : Code} {Q0 Q : Exit → Act → World → Prop} {ι : Type} (I : ι → Prop) (J : ι → St) (main : (∀ i, I i → W P γ0 w0 N (J i) c Q) → W P γ0 w0 N st c0 Q0) (part : ∀ i, I i → W P γ0 w0 N (J i) c Q) : W P γ0 w0 N st c0 Q0 := main part
def shortS (s : ByteArray) : ByteArray := (shaS s).extract 0 8
theorem shortS_size (s : ByteArray) : (shortS s).size = 8 := by unfold shortS; rw [ByteArray.size_extract, shaS_size]; rfl
noncomputable def mShort := mdl (fun s : ByteArray => s.size ≤ 16777216) (fun s => [aS s]) (fun s => rS (shortS s))
theorem mShort_eq (s : ByteArray) (h : s.size ≤ 16777216) : mShort [aS s] = some (rS (shortS s)) := mdl_eq (by intro a b h; simpa using h) s h
theorem short_s : Sound Try.prog 99 mShort := by
  refine Sound.mdl Try.func99 rfl Try.ntmps99 ?_
  rintro s w hs
  refine ⟨by simp, ?_⟩
  replace hs : s.size ≤ 16777216 := hs
  have hΓ : GSound Try.prog (look [(101, mSha)]) := env_cons (has_of Try.func101 rfl rfl) shaSpec_s env_nil
  have c1 := mSha_eq s hs
  have hz := shaS_size s
  simp only [initS, argPV, List.map_cons, List.map_nil, toPL, Nat.zero_add]
  repeat (first | with_reducible (first | apply W.seq | apply W.block | apply W.skip | apply W.exit | apply W.ret | apply At.seqN | apply At.blkN | apply At.blkE | apply At.blkR | apply At.thenX | apply At.thenR | apply At.blkX rfl) | ((with_reducible apply W.ops); (repeat (first | refine WL.opA hΓ (h := ?_) | refine WL.opX hΓ (h := ?_) | refine WL.opY (h := ?_) | refine WL.opZ (h := ?_))); with_reducible apply WL.nil) | refine W.condT (h := ?_) | refine W.condF (h := ?_))
  refine At.retA (by rw [Try.results99]) (he := rfl)
abbrev bxR (r : TReq) : Blk := .box [.sc (.int .i64 r.1), .sc (.int .i64 r.2.1), .sc (.int .i64 r.2.2)]
abbrev rRq' (r : TReq) : Res := .comp true [.ro (.sc (.int .i64 r.1)), .ro (.sc (.int .i64 r.2.1)), .ro (.sc (.int .i64 r.2.2))]
theorem l23Req_s : SoundCu Try.prog 86 (fun _ : Unit => True) (fun _ => []) (fun _ (_ : TReq) => True) (fun _ r => rRq' r) := by
  refine SoundCu.of Try.func86 rfl Try.ntmps86 ?_
  rintro k0 - b w hc - hB
  refine ⟨by simp, ?_⟩
  simp only [initC]
  have hΓ : GSound Try.prog (look []) := env_nil
  have hBe : Has Try.prog 51 := has_of Try.func51 rfl rfl
  have hOn : Has Try.prog 45 := has_of Try.func45 rfl rfl
  have hPi : Has Try.prog 44 := has_of Try.func44 rfl rfl
  have hcu := lsNms_cu
  have hck := kill_cu
  simp only [initS, argPV, List.map_cons, List.map_nil, toPL, Nat.zero_add]
  repeat (first | with_reducible (first | apply W.seq | apply W.block | apply W.skip | apply W.exit | apply W.ret | apply At.seqN | apply At.blkN | apply At.blkE | apply At.blkR | apply At.thenX | apply At.thenR | apply At.blkX rfl) | ((with_reducible apply W.ops); (repeat (first | refine WL.opA hΓ (h := ?_) | refine WL.opX hΓ (h := ?_) | refine WL.opY (h := ?_) | refine WL.opZ (h := ?_))); with_reducible apply WL.nil) | refine W.condT (h := ?_) | refine W.condF (h := ?_))
  with_reducible apply W.ops
  repeat (first | refine WL.opA hΓ (h := ?_) | refine WL.opX hΓ (h := ?_) | refine WL.opY (h := ?_) | refine WL.opZ (h := ?_))
  refine WL.opCu hBe l1Below_s k0 hc 3 (by decide) (h := ?_)
  rintro k1 r hk1 ⟨hr0, hr1, -⟩
  replace hr1 : r < 3 := hr1 (by decide)
  (repeat (first | refine WL.opA hΓ (h := ?_) | refine WL.opX hΓ (h := ?_) | refine WL.opY (h := ?_) | refine WL.opZ (h := ?_)))
  with_reducible apply WL.nil
  refine W.key (c := ?codeK) (Q := ?postK) (fun x : Cu × TReq => CuTo k0 x.1) (fun x => [.slot 0 (one (.ptr 999 0)), .blk 999 (.box (cuL x.1)), .slot 2 (one (.ptr 2 0)), .blk 2 (bxR (0, 0, 0)), .slot 3 (one (.ptr 3 0)), .blk 3 (bxR x.2)]) ?main ?part
  case main =>
    intro key
    by_cases q3 : 1 + r = 3
    · have e1 : decide (1 + r = 3) = true := decide_eq_true q3
      have e2 : decide (1 + r = 2) = false := decide_eq_false (by omega)
      clear q3
      repeat (first | with_reducible (first | apply W.seq | apply W.block | apply W.skip | apply W.exit | apply W.ret | apply At.seqN | apply At.blkN | apply At.blkE | apply At.blkR | apply At.thenX | apply At.thenR | apply At.blkX rfl) | ((with_reducible apply W.ops); (repeat (first | refine WL.opA hΓ (h := ?_) | refine WL.opX hΓ (h := ?_) | refine WL.opY (h := ?_) | refine WL.opZ (h := ?_))); with_reducible apply WL.nil) | refine W.condT (h := ?_) | refine W.condF (h := ?_))
      refine W.subA [.slot 0 (one (.ptr 999 0)), .blk 999 (.box (cuL k1)), .slot 2 (one (.ptr 2 0)), .blk 2 (bxR (0, 0, 0)), .slot 3 (one (.ptr 3 0)), .blk 3 (bxR (1 + r, 0, 0))] (h := ?_)
      exact key (k1, (1 + r, 0, 0)) hk1
    · have e1 : decide (1 + r = 3) = false := decide_eq_false q3
      repeat (first | with_reducible (first | apply W.seq | apply W.block | apply W.skip | apply W.exit | apply W.ret | apply At.seqN | apply At.blkN | apply At.blkE | apply At.blkR | apply At.thenX | apply At.thenR | apply At.blkX rfl) | ((with_reducible apply W.ops); (repeat (first | refine WL.opA hΓ (h := ?_) | refine WL.opX hΓ (h := ?_) | refine WL.opY (h := ?_) | refine WL.opZ (h := ?_))); with_reducible apply WL.nil) | refine W.condT (h := ?_) | refine W.condF (h := ?_))
      with_reducible apply W.ops
      repeat (first | refine WL.opA hΓ (h := ?_) | refine WL.opX hΓ (h := ?_) | refine WL.opY (h := ?_) | refine WL.opZ (h := ?_))
      refine WL.opCu hBe l1Below_s k1 hk1.ok 8 (by decide) (h := ?_)
      rintro k2 f hk2 -
      (repeat (first | refine WL.opA hΓ (h := ?_) | refine WL.opX hΓ (h := ?_) | refine WL.opY (h := ?_) | refine WL.opZ (h := ?_)))
      with_reducible apply WL.nil
      by_cases q2 : 1 + r = 2
      · have e2 : decide (1 + r = 2) = true := decide_eq_true q2
        clear q2 q3
        repeat (first | with_reducible (first | apply W.seq | apply W.block | apply W.skip | apply W.exit | apply W.ret | apply At.seqN | apply At.blkN | apply At.blkE | apply At.blkR | apply At.thenX | apply At.thenR | apply At.blkX rfl) | ((with_reducible apply W.ops); (repeat (first | refine WL.opA hΓ (h := ?_) | refine WL.opX hΓ (h := ?_) | refine WL.opY (h := ?_) | refine WL.opZ (h := ?_))); with_reducible apply WL.nil) | refine W.condT (h := ?_) | refine W.condF (h := ?_))
        with_reducible apply W.ops
        repeat (first | refine WL.opA hΓ (h := ?_) | refine WL.opX hΓ (h := ?_) | refine WL.opY (h := ?_) | refine WL.opZ (h := ?_))
        refine WL.opCu hBe l1Below_s k2 hk2.ok 8 (by decide) (h := ?_)
        rintro k3 m hk3 -
        (repeat (first | refine WL.opA hΓ (h := ?_) | refine WL.opX hΓ (h := ?_) | refine WL.opY (h := ?_) | refine WL.opZ (h := ?_)))
        with_reducible apply WL.nil
        repeat (first | with_reducible (first | apply W.seq | apply W.block | apply W.skip | apply W.exit | apply W.ret | apply At.seqN | apply At.blkN | apply At.blkE | apply At.blkR | apply At.thenX | apply At.thenR | apply At.blkX rfl) | ((with_reducible apply W.ops); (repeat (first | refine WL.opA hΓ (h := ?_) | refine WL.opX hΓ (h := ?_) | refine WL.opY (h := ?_) | refine WL.opZ (h := ?_))); with_reducible apply WL.nil) | refine W.condT (h := ?_) | refine W.condF (h := ?_))
        refine W.subA [.slot 0 (one (.ptr 999 0)), .blk 999 (.box (cuL k3)), .slot 2 (one (.ptr 2 0)), .blk 2 (bxR (0, 0, 0)), .slot 3 (one (.ptr 3 0)), .blk 3 (bxR (1 + r, f, m))] (h := ?_)
        exact key (k3, (1 + r, f, m)) ((hk1.trans hk2).trans hk3)
      · have e2 : decide (1 + r = 2) = false := decide_eq_false q2
        clear q2 q3
        repeat (first | with_reducible (first | apply W.seq | apply W.block | apply W.skip | apply W.exit | apply W.ret | apply At.seqN | apply At.blkN | apply At.blkE | apply At.blkR | apply At.thenX | apply At.thenR | apply At.blkX rfl) | ((with_reducible apply W.ops); (repeat (first | refine WL.opA hΓ (h := ?_) | refine WL.opX hΓ (h := ?_) | refine WL.opY (h := ?_) | refine WL.opZ (h := ?_))); with_reducible apply WL.nil) | refine W.condT (h := ?_) | refine W.condF (h := ?_))
        refine W.subA [.slot 0 (one (.ptr 999 0)), .blk 999 (.box (cuL k2)), .slot 2 (one (.ptr 2 0)), .blk 2 (bxR (0, 0, 0)), .slot 3 (one (.ptr 3 0)), .blk 3 (bxR (1 + r, f, 0))] (h := ?_)
        exact key (k2, (1 + r, f, 0)) (hk1.trans hk2)
  case part =>
    rintro ⟨k4, a, f, m⟩ hk4
    dsimp only at hk4 ⊢
    repeat (first | with_reducible (first | apply W.seq | apply W.block | apply W.skip | apply W.exit | apply W.ret | apply At.seqN | apply At.blkN | apply At.blkE | apply At.blkR | apply At.thenX | apply At.thenR | apply At.blkX rfl) | ((with_reducible apply W.ops); (repeat (first | refine WL.opA hΓ (h := ?_) | refine WL.opX hΓ (h := ?_) | refine WL.opY (h := ?_) | refine WL.opZ (h := ?_))); with_reducible apply WL.nil) | refine W.condT (h := ?_) | refine W.condF (h := ?_))
    with_reducible apply W.ops
    repeat (first | refine WL.opA hΓ (h := ?_) | refine WL.opX hΓ (h := ?_) | refine WL.opY (h := ?_) | refine WL.opZ (h := ?_))
    refine WL.opCu hOn l1Once_s k4 hk4.ok 10 (by decide) (h := ?_)
    rintro k5 o hk5 -
    have hk50 := hk4.trans hk5
    (repeat (first | refine WL.opA hΓ (h := ?_) | refine WL.opX hΓ (h := ?_) | refine WL.opY (h := ?_) | refine WL.opZ (h := ?_)))
    with_reducible apply WL.nil
    cases o with
    | false =>
      repeat (first | with_reducible (first | apply W.seq | apply W.block | apply W.skip | apply W.exit | apply W.ret | apply At.seqN | apply At.blkN | apply At.blkE | apply At.blkR | apply At.thenX | apply At.thenR | apply At.blkX rfl) | ((with_reducible apply W.ops); (repeat (first | refine WL.opA hΓ (h := ?_) | refine WL.opX hΓ (h := ?_) | refine WL.opY (h := ?_) | refine WL.opZ (h := ?_))); with_reducible apply WL.nil) | refine W.condT (h := ?_) | refine W.condF (h := ?_))
      refine At.retCu (by rw [Try.results86]) hB (hls := ?_) (he := ?_) k5 (a, f, m) hk50 trivial
      · rfl
      · rfl
    | true =>
      repeat (first | with_reducible (first | apply W.seq | apply W.block | apply W.skip | apply W.exit | apply W.ret | apply At.seqN | apply At.blkN | apply At.blkE | apply At.blkR | apply At.thenX | apply At.thenR | apply At.blkX rfl) | ((with_reducible apply W.ops); (repeat (first | refine WL.opA hΓ (h := ?_) | refine WL.opX hΓ (h := ?_) | refine WL.opY (h := ?_) | refine WL.opZ (h := ?_))); with_reducible apply WL.nil) | refine W.condT (h := ?_) | refine W.condF (h := ?_))
      with_reducible apply W.ops
      repeat (first | refine WL.opA hΓ (h := ?_) | refine WL.opX hΓ (h := ?_) | refine WL.opY (h := ?_) | refine WL.opZ (h := ?_))
      refine WL.opCu hBe l1Below_s k5 hk5.ok 3 (by decide) (h := ?_)
      rintro k6 q hk6 -
      have hk60 := hk50.trans hk6
      (repeat (first | refine WL.opA hΓ (h := ?_) | refine WL.opX hΓ (h := ?_) | refine WL.opY (h := ?_) | refine WL.opZ (h := ?_)))
      with_reducible apply WL.nil
      by_cases q0 : q = 0
      · subst q0
        repeat (first | with_reducible (first | apply W.seq | apply W.block | apply W.skip | apply W.exit | apply W.ret | apply At.seqN | apply At.blkN | apply At.blkE | apply At.blkR | apply At.thenX | apply At.thenR | apply At.blkX rfl) | ((with_reducible apply W.ops); (repeat (first | refine WL.opA hΓ (h := ?_) | refine WL.opX hΓ (h := ?_) | refine WL.opY (h := ?_) | refine WL.opZ (h := ?_))); with_reducible apply WL.nil) | refine W.condT (h := ?_) | refine W.condF (h := ?_))
        with_reducible apply W.ops
        repeat (first | refine WL.opA hΓ (h := ?_) | refine WL.opX hΓ (h := ?_) | refine WL.opY (h := ?_) | refine WL.opZ (h := ?_))
        refine WL.opCu hPi l1PickInt_s k6 hk6.ok [0, 4] ⟨by decide, by decide⟩ (h := ?_)
        rintro k7 v hk7 -
        (repeat (first | refine WL.opA hΓ (h := ?_) | refine WL.opX hΓ (h := ?_) | refine WL.opY (h := ?_) | refine WL.opZ (h := ?_)))
        with_reducible apply WL.nil
        repeat (first | with_reducible (first | apply W.seq | apply W.block | apply W.skip | apply W.exit | apply W.ret | apply At.seqN | apply At.blkN | apply At.blkE | apply At.blkR | apply At.thenX | apply At.thenR | apply At.blkX rfl) | ((with_reducible apply W.ops); (repeat (first | refine WL.opA hΓ (h := ?_) | refine WL.opX hΓ (h := ?_) | refine WL.opY (h := ?_) | refine WL.opZ (h := ?_))); with_reducible apply WL.nil) | refine W.condT (h := ?_) | refine W.condF (h := ?_))
        refine At.retCu (by rw [Try.results86]) hB (hls := ?_) (he := ?_) k7 (v, f, m) (hk60.trans hk7) trivial
        · rfl
        · rfl
      · by_cases q1 : q = 1
        · subst q1
          repeat (first | with_reducible (first | apply W.seq | apply W.block | apply W.skip | apply W.exit | apply W.ret | apply At.seqN | apply At.blkN | apply At.blkE | apply At.blkR | apply At.thenX | apply At.thenR | apply At.blkX rfl) | ((with_reducible apply W.ops); (repeat (first | refine WL.opA hΓ (h := ?_) | refine WL.opX hΓ (h := ?_) | refine WL.opY (h := ?_) | refine WL.opZ (h := ?_))); with_reducible apply WL.nil) | refine W.condT (h := ?_) | refine W.condF (h := ?_))
          with_reducible apply W.ops
          repeat (first | refine WL.opA hΓ (h := ?_) | refine WL.opX hΓ (h := ?_) | refine WL.opY (h := ?_) | refine WL.opZ (h := ?_))
          refine WL.opCu hPi l1PickInt_s k6 hk6.ok [-1, 1000000, 1000001] ⟨by decide, by decide⟩ (h := ?_)
          rintro k7 v hk7 -
          (repeat (first | refine WL.opA hΓ (h := ?_) | refine WL.opX hΓ (h := ?_) | refine WL.opY (h := ?_) | refine WL.opZ (h := ?_)))
          with_reducible apply WL.nil
          repeat (first | with_reducible (first | apply W.seq | apply W.block | apply W.skip | apply W.exit | apply W.ret | apply At.seqN | apply At.blkN | apply At.blkE | apply At.blkR | apply At.thenX | apply At.thenR | apply At.blkX rfl) | ((with_reducible apply W.ops); (repeat (first | refine WL.opA hΓ (h := ?_) | refine WL.opX hΓ (h := ?_) | refine WL.opY (h := ?_) | refine WL.opZ (h := ?_))); with_reducible apply WL.nil) | refine W.condT (h := ?_) | refine W.condF (h := ?_))
          refine At.retCu (by rw [Try.results86]) hB (hls := ?_) (he := ?_) k7 (a, v, m) (hk60.trans hk7) trivial
          · rfl
          · rfl
        · repeat (first | with_reducible (first | apply W.seq | apply W.block | apply W.skip | apply W.exit | apply W.ret | apply At.seqN | apply At.blkN | apply At.blkE | apply At.blkR | apply At.thenX | apply At.thenR | apply At.blkX rfl) | ((with_reducible apply W.ops); (repeat (first | refine WL.opA hΓ (h := ?_) | refine WL.opX hΓ (h := ?_) | refine WL.opY (h := ?_) | refine WL.opZ (h := ?_))); with_reducible apply WL.nil) | refine W.condT (h := ?_) | refine W.condF (h := ?_))
          with_reducible apply W.ops
          repeat (first | refine WL.opA hΓ (h := ?_) | refine WL.opX hΓ (h := ?_) | refine WL.opY (h := ?_) | refine WL.opZ (h := ?_))
          refine WL.opCu hPi l1PickInt_s k6 hk6.ok [-1, 100, 101] ⟨by decide, by decide⟩ (h := ?_)
          rintro k7 v hk7 -
          (repeat (first | refine WL.opA hΓ (h := ?_) | refine WL.opX hΓ (h := ?_) | refine WL.opY (h := ?_) | refine WL.opZ (h := ?_)))
          with_reducible apply WL.nil
          repeat (first | with_reducible (first | apply W.seq | apply W.block | apply W.skip | apply W.exit | apply W.ret | apply At.seqN | apply At.blkN | apply At.blkE | apply At.blkR | apply At.thenX | apply At.thenR | apply At.blkX rfl) | ((with_reducible apply W.ops); (repeat (first | refine WL.opA hΓ (h := ?_) | refine WL.opX hΓ (h := ?_) | refine WL.opY (h := ?_) | refine WL.opZ (h := ?_))); with_reducible apply WL.nil) | refine W.condT (h := ?_) | refine W.condF (h := ?_))
          refine At.retCu (by rw [Try.results86]) hB (hls := ?_) (he := ?_) k7 (a, f, v) (hk60.trans hk7) trivial
          · rfl
          · rfl
abbrev bxH (h : THeader) : Blk := .box [.sc (.int .i64 h.1), .sc (.int .i64 h.2.1), .sc (.string h.2.2.1), .sc (.string h.2.2.2.1), .sc (.string h.2.2.2.2.1), .sc (.string h.2.2.2.2.2)]
abbrev rHd' (h : THeader) : Res := .comp true [.ro (.sc (.int .i64 h.1)), .ro (.sc (.int .i64 h.2.1)), .ro (.sc (.string h.2.2.1)), .ro (.sc (.string h.2.2.2.1)), .ro (.sc (.string h.2.2.2.2.1)), .ro (.sc (.string h.2.2.2.2.2))]
theorem l7Head_s : SoundCu Try.prog 87 (fun _ : Unit => True) (fun _ => []) (fun _ (_ : THeader) => True) (fun _ h => rHd' h) := by
  refine SoundCu.of Try.func87 rfl Try.ntmps87 ?_
  rintro k0 - b w hc - hB
  refine ⟨by simp, ?_⟩
  simp only [initC]
  have hΓ : GSound Try.prog (look [(99, mShort)]) := env_cons (has_of Try.func99 rfl rfl) short_s env_nil
  have hBe : Has Try.prog 51 := has_of Try.func51 rfl rfl
  have hOn : Has Try.prog 45 := has_of Try.func45 rfl rfl
  have hPi : Has Try.prog 44 := has_of Try.func44 rfl rfl
  have hTe : Has Try.prog 92 := has_of Try.func92 rfl rfl
  have hcu := lsNms_cu
  have hck := kill_cu
  have hem : (⟨#[]⟩ : ByteArray) = ByteArray.empty := rfl
  simp only [initS, argPV, List.map_cons, List.map_nil, toPL, Nat.zero_add]
  repeat (first | with_reducible (first | apply W.seq | apply W.block | apply W.skip | apply W.exit | apply W.ret | apply At.seqN | apply At.blkN | apply At.blkE | apply At.blkR | apply At.thenX | apply At.thenR | apply At.blkX rfl) | ((with_reducible apply W.ops); (repeat (first | refine WL.opA hΓ (h := ?_) | refine WL.opX hΓ (h := ?_) | refine WL.opY (h := ?_) | refine WL.opZ (h := ?_))); with_reducible apply WL.nil) | refine W.condT (h := ?_) | refine W.condF (h := ?_))
  with_reducible apply W.ops
  repeat (first | refine WL.opA hΓ (h := ?_) | refine WL.opX hΓ (h := ?_) | refine WL.opY (h := ?_) | refine WL.opZ (h := ?_))
  refine WL.opCu hBe l1Below_s k0 hc 4 (by decide) (h := ?_)
  rintro k1 r hk1 ⟨hr0, hr1, -⟩
  replace hr1 : r < 4 := hr1 (by decide)
  repeat (first | refine WL.opA hΓ (h := ?_) | refine WL.opX hΓ (h := ?_) | refine WL.opY (h := ?_) | refine WL.opZ (h := ?_))
  refine WL.opCu hBe l1Below_s k1 hk1.ok 100 (by decide) (h := ?_)
  rintro k2 t hk2 -
  repeat (first | refine WL.opA hΓ (h := ?_) | refine WL.opX hΓ (h := ?_) | refine WL.opY (h := ?_) | refine WL.opZ (h := ?_))
  refine WL.opCu hTe l1Text_s k2 hk2.ok 1 (by decide) (h := ?_)
  rintro k3 va hk3 hva
  replace hva : (va.size : Int) ≤ 1 := hva
  have c1 := mShort_eq va (by omega)
  repeat (first | refine WL.opA hΓ (h := ?_) | refine WL.opX hΓ (h := ?_) | refine WL.opY (h := ?_) | refine WL.opZ (h := ?_))
  refine WL.opCu hTe l1Text_s k3 hk3.ok 1 (by decide) (h := ?_)
  rintro k4 ne hk4 hne
  replace hne : (ne.size : Int) ≤ 1 := hne
  have c2 := mShort_eq ne (by omega)
  repeat (first | refine WL.opA hΓ (h := ?_) | refine WL.opX hΓ (h := ?_) | refine WL.opY (h := ?_) | refine WL.opZ (h := ?_))
  refine WL.opCu hTe l1Text_s k4 hk4.ok 4 (by decide) (h := ?_)
  rintro k5 da hk5 -
  have hk50 := (((hk1.trans hk2).trans hk3).trans hk4).trans hk5
  (repeat (first | refine WL.opA hΓ (h := ?_) | refine WL.opX hΓ (h := ?_) | refine WL.opY (h := ?_) | refine WL.opZ (h := ?_)))
  with_reducible apply WL.nil
  generalize shortS va = sva at *
  generalize shortS ne = sne at *
  have c3 := mShort_eq ⟨#[97]⟩ (by decide)
  generalize shortS ⟨#[97]⟩ = sla at *
  refine W.key (c := ?codeK) (Q := ?postK) (fun x : ByteArray => True) (fun x => [.slot 0 (one (.ptr 999 0)), .blk 999 (.box (cuL k5)), .slot 2 (one (.ptr 2 0)), .blk 2 (bxH (0, 0, ByteArray.empty, ByteArray.empty, ByteArray.empty, ByteArray.empty)), .slot 3 (one (.ptr 3 0)), .blk 3 (bxH (1 + r, t, x, sva, sne, da))]) ?main ?part
  case main =>
    intro key
    by_cases q : 1 < 1 + r
    · repeat (first | with_reducible (first | apply W.seq | apply W.block | apply W.skip | apply W.exit | apply W.ret | apply At.seqN | apply At.blkN | apply At.blkE | apply At.blkR | apply At.thenX | apply At.thenR | apply At.blkX rfl) | ((with_reducible apply W.ops); (repeat (first | refine WL.opA hΓ (h := ?_) | refine WL.opX hΓ (h := ?_) | refine WL.opY (h := ?_) | refine WL.opZ (h := ?_))); with_reducible apply WL.nil) | refine W.condT (h := ?_) | refine W.condF (h := ?_))
      refine W.subA [.slot 0 (one (.ptr 999 0)), .blk 999 (.box (cuL k5)), .slot 2 (one (.ptr 2 0)), .blk 2 (bxH (0, 0, ByteArray.empty, ByteArray.empty, ByteArray.empty, ByteArray.empty)), .slot 3 (one (.ptr 3 0)), .blk 3 (bxH (1 + r, t, sla, sva, sne, da))] (h := ?_)
      exact key sla trivial
    · repeat (first | with_reducible (first | apply W.seq | apply W.block | apply W.skip | apply W.exit | apply W.ret | apply At.seqN | apply At.blkN | apply At.blkE | apply At.blkR | apply At.thenX | apply At.thenR | apply At.blkX rfl) | ((with_reducible apply W.ops); (repeat (first | refine WL.opA hΓ (h := ?_) | refine WL.opX hΓ (h := ?_) | refine WL.opY (h := ?_) | refine WL.opZ (h := ?_))); with_reducible apply WL.nil) | refine W.condT (h := ?_) | refine W.condF (h := ?_))
      refine W.subA [.slot 0 (one (.ptr 999 0)), .blk 999 (.box (cuL k5)), .slot 2 (one (.ptr 2 0)), .blk 2 (bxH (0, 0, ByteArray.empty, ByteArray.empty, ByteArray.empty, ByteArray.empty)), .slot 3 (one (.ptr 3 0)), .blk 3 (bxH (1 + r, t, ByteArray.empty, sva, sne, da))] (h := ?_)
      exact key ByteArray.empty trivial
  case part =>
    rintro la -
    clear c1 c2 c3 hem hne hva
    generalize 1 + r = hh
    repeat (first | with_reducible (first | apply W.seq | apply W.block | apply W.skip | apply W.exit | apply W.ret | apply At.seqN | apply At.blkN | apply At.blkE | apply At.blkR | apply At.thenX | apply At.thenR | apply At.blkX rfl) | ((with_reducible apply W.ops); (repeat (first | refine WL.opA hΓ (h := ?_) | refine WL.opX hΓ (h := ?_) | refine WL.opY (h := ?_) | refine WL.opZ (h := ?_))); with_reducible apply WL.nil) | refine W.condT (h := ?_) | refine W.condF (h := ?_))
    with_reducible apply W.ops
    repeat (first | refine WL.opA hΓ (h := ?_) | refine WL.opX hΓ (h := ?_) | refine WL.opY (h := ?_) | refine WL.opZ (h := ?_))
    refine WL.opCu hOn l1Once_s k5 hk5.ok 8 (by decide) (h := ?_)
    rintro k6 o hk6 -
    have hk60 := hk50.trans hk6
    (repeat (first | refine WL.opA hΓ (h := ?_) | refine WL.opX hΓ (h := ?_) | refine WL.opY (h := ?_) | refine WL.opZ (h := ?_)))
    with_reducible apply WL.nil
    cases o with
    | false =>
      repeat (first | with_reducible (first | apply W.seq | apply W.block | apply W.skip | apply W.exit | apply W.ret | apply At.seqN | apply At.blkN | apply At.blkE | apply At.blkR | apply At.thenX | apply At.thenR | apply At.blkX rfl) | ((with_reducible apply W.ops); (repeat (first | refine WL.opA hΓ (h := ?_) | refine WL.opX hΓ (h := ?_) | refine WL.opY (h := ?_) | refine WL.opZ (h := ?_))); with_reducible apply WL.nil) | refine W.condT (h := ?_) | refine W.condF (h := ?_))
      refine At.retCu (by rw [Try.results87]) hB (hls := ?_) (he := ?_) k6 (hh, t, la, sva, sne, da) hk60 trivial
      · rfl
      · rfl
    | true =>
      repeat (first | with_reducible (first | apply W.seq | apply W.block | apply W.skip | apply W.exit | apply W.ret | apply At.seqN | apply At.blkN | apply At.blkE | apply At.blkR | apply At.thenX | apply At.thenR | apply At.blkX rfl) | ((with_reducible apply W.ops); (repeat (first | refine WL.opA hΓ (h := ?_) | refine WL.opX hΓ (h := ?_) | refine WL.opY (h := ?_) | refine WL.opZ (h := ?_))); with_reducible apply WL.nil) | refine W.condT (h := ?_) | refine W.condF (h := ?_))
      with_reducible apply W.ops
      repeat (first | refine WL.opA hΓ (h := ?_) | refine WL.opX hΓ (h := ?_) | refine WL.opY (h := ?_) | refine WL.opZ (h := ?_))
      refine WL.opCu hBe l1Below_s k6 hk6.ok 5 (by decide) (h := ?_)
      rintro k7 q hk7 -
      have hk70 := hk60.trans hk7
      (repeat (first | refine WL.opA hΓ (h := ?_) | refine WL.opX hΓ (h := ?_) | refine WL.opY (h := ?_) | refine WL.opZ (h := ?_)))
      with_reducible apply WL.nil
      by_cases q0 : q = 0
      · subst q0
        repeat (first | with_reducible (first | apply W.seq | apply W.block | apply W.skip | apply W.exit | apply W.ret | apply At.seqN | apply At.blkN | apply At.blkE | apply At.blkR | apply At.thenX | apply At.thenR | apply At.blkX rfl) | ((with_reducible apply W.ops); (repeat (first | refine WL.opA hΓ (h := ?_) | refine WL.opX hΓ (h := ?_) | refine WL.opY (h := ?_) | refine WL.opZ (h := ?_))); with_reducible apply WL.nil) | refine W.condT (h := ?_) | refine W.condF (h := ?_))
        with_reducible apply W.ops
        repeat (first | refine WL.opA hΓ (h := ?_) | refine WL.opX hΓ (h := ?_) | refine WL.opY (h := ?_) | refine WL.opZ (h := ?_))
        refine WL.opCu hPi l1PickInt_s k7 hk7.ok [0, 1, 1000000, 1000001] ⟨by decide, by decide⟩ (h := ?_)
        rintro k8 v hk8 -
        (repeat (first | refine WL.opA hΓ (h := ?_) | refine WL.opX hΓ (h := ?_) | refine WL.opY (h := ?_) | refine WL.opZ (h := ?_)))
        with_reducible apply WL.nil
        repeat (first | with_reducible (first | apply W.seq | apply W.block | apply W.skip | apply W.exit | apply W.ret | apply At.seqN | apply At.blkN | apply At.blkE | apply At.blkR | apply At.thenX | apply At.thenR | apply At.blkX rfl) | ((with_reducible apply W.ops); (repeat (first | refine WL.opA hΓ (h := ?_) | refine WL.opX hΓ (h := ?_) | refine WL.opY (h := ?_) | refine WL.opZ (h := ?_))); with_reducible apply WL.nil) | refine W.condT (h := ?_) | refine W.condF (h := ?_))
        refine At.retCu (by rw [Try.results87]) hB (hls := ?_) (he := ?_) k8 (v, t, la, sva, sne, da) (hk70.trans hk8) trivial
        · rfl
        · rfl
      · by_cases q1 : q = 1
        · subst q1
          repeat (first | with_reducible (first | apply W.seq | apply W.block | apply W.skip | apply W.exit | apply W.ret | apply At.seqN | apply At.blkN | apply At.blkE | apply At.blkR | apply At.thenX | apply At.thenR | apply At.blkX rfl) | ((with_reducible apply W.ops); (repeat (first | refine WL.opA hΓ (h := ?_) | refine WL.opX hΓ (h := ?_) | refine WL.opY (h := ?_) | refine WL.opZ (h := ?_))); with_reducible apply WL.nil) | refine W.condT (h := ?_) | refine W.condF (h := ?_))
          with_reducible apply W.ops
          repeat (first | refine WL.opA hΓ (h := ?_) | refine WL.opX hΓ (h := ?_) | refine WL.opY (h := ?_) | refine WL.opZ (h := ?_))
          refine WL.opCu hPi l1PickInt_s k7 hk7.ok [-1, 1000000, 1000001] ⟨by decide, by decide⟩ (h := ?_)
          rintro k8 v hk8 -
          (repeat (first | refine WL.opA hΓ (h := ?_) | refine WL.opX hΓ (h := ?_) | refine WL.opY (h := ?_) | refine WL.opZ (h := ?_)))
          with_reducible apply WL.nil
          repeat (first | with_reducible (first | apply W.seq | apply W.block | apply W.skip | apply W.exit | apply W.ret | apply At.seqN | apply At.blkN | apply At.blkE | apply At.blkR | apply At.thenX | apply At.thenR | apply At.blkX rfl) | ((with_reducible apply W.ops); (repeat (first | refine WL.opA hΓ (h := ?_) | refine WL.opX hΓ (h := ?_) | refine WL.opY (h := ?_) | refine WL.opZ (h := ?_))); with_reducible apply WL.nil) | refine W.condT (h := ?_) | refine W.condF (h := ?_))
          refine At.retCu (by rw [Try.results87]) hB (hls := ?_) (he := ?_) k8 (hh, v, la, sva, sne, da) (hk70.trans hk8) trivial
          · rfl
          · rfl
        · by_cases q2 : q = 2
          · subst q2
            repeat (first | with_reducible (first | apply W.seq | apply W.block | apply W.skip | apply W.exit | apply W.ret | apply At.seqN | apply At.blkN | apply At.blkE | apply At.blkR | apply At.thenX | apply At.thenR | apply At.blkX rfl) | ((with_reducible apply W.ops); (repeat (first | refine WL.opA hΓ (h := ?_) | refine WL.opX hΓ (h := ?_) | refine WL.opY (h := ?_) | refine WL.opZ (h := ?_))); with_reducible apply WL.nil) | refine W.condT (h := ?_) | refine W.condF (h := ?_))
            with_reducible apply W.ops
            repeat (first | refine WL.opA hΓ (h := ?_) | refine WL.opX hΓ (h := ?_) | refine WL.opY (h := ?_) | refine WL.opZ (h := ?_))
            refine WL.opCu hTe l1Text_s k7 hk7.ok 9 (by decide) (h := ?_)
            rintro k8 v hk8 -
            (repeat (first | refine WL.opA hΓ (h := ?_) | refine WL.opX hΓ (h := ?_) | refine WL.opY (h := ?_) | refine WL.opZ (h := ?_)))
            with_reducible apply WL.nil
            repeat (first | with_reducible (first | apply W.seq | apply W.block | apply W.skip | apply W.exit | apply W.ret | apply At.seqN | apply At.blkN | apply At.blkE | apply At.blkR | apply At.thenX | apply At.thenR | apply At.blkX rfl) | ((with_reducible apply W.ops); (repeat (first | refine WL.opA hΓ (h := ?_) | refine WL.opX hΓ (h := ?_) | refine WL.opY (h := ?_) | refine WL.opZ (h := ?_))); with_reducible apply WL.nil) | refine W.condT (h := ?_) | refine W.condF (h := ?_))
            refine At.retCu (by rw [Try.results87]) hB (hls := ?_) (he := ?_) k8 (hh, t, v, sva, sne, da) (hk70.trans hk8) trivial
            · rfl
            · rfl
          · by_cases q3 : q = 3
            · subst q3
              repeat (first | with_reducible (first | apply W.seq | apply W.block | apply W.skip | apply W.exit | apply W.ret | apply At.seqN | apply At.blkN | apply At.blkE | apply At.blkR | apply At.thenX | apply At.thenR | apply At.blkX rfl) | ((with_reducible apply W.ops); (repeat (first | refine WL.opA hΓ (h := ?_) | refine WL.opX hΓ (h := ?_) | refine WL.opY (h := ?_) | refine WL.opZ (h := ?_))); with_reducible apply WL.nil) | refine W.condT (h := ?_) | refine W.condF (h := ?_))
              with_reducible apply W.ops
              repeat (first | refine WL.opA hΓ (h := ?_) | refine WL.opX hΓ (h := ?_) | refine WL.opY (h := ?_) | refine WL.opZ (h := ?_))
              refine WL.opCu hTe l1Text_s k7 hk7.ok 9 (by decide) (h := ?_)
              rintro k8 v hk8 -
              (repeat (first | refine WL.opA hΓ (h := ?_) | refine WL.opX hΓ (h := ?_) | refine WL.opY (h := ?_) | refine WL.opZ (h := ?_)))
              with_reducible apply WL.nil
              repeat (first | with_reducible (first | apply W.seq | apply W.block | apply W.skip | apply W.exit | apply W.ret | apply At.seqN | apply At.blkN | apply At.blkE | apply At.blkR | apply At.thenX | apply At.thenR | apply At.blkX rfl) | ((with_reducible apply W.ops); (repeat (first | refine WL.opA hΓ (h := ?_) | refine WL.opX hΓ (h := ?_) | refine WL.opY (h := ?_) | refine WL.opZ (h := ?_))); with_reducible apply WL.nil) | refine W.condT (h := ?_) | refine W.condF (h := ?_))
              refine At.retCu (by rw [Try.results87]) hB (hls := ?_) (he := ?_) k8 (hh, t, la, sva, v, da) (hk70.trans hk8) trivial
              · rfl
              · rfl
            · have hps : (⟨#[97, 97, 97, 97, 97, 97, 97, 97, 97, 97, 97, 97, 97, 97, 97, 97, 97, 97, 97, 97]⟩ : ByteArray).size = 20 := rfl
              repeat (first | with_reducible (first | apply W.seq | apply W.block | apply W.skip | apply W.exit | apply W.ret | apply At.seqN | apply At.blkN | apply At.blkE | apply At.blkR | apply At.thenX | apply At.thenR | apply At.blkX rfl) | ((with_reducible apply W.ops); (repeat (first | refine WL.opA hΓ (h := ?_) | refine WL.opX hΓ (h := ?_) | refine WL.opY (h := ?_) | refine WL.opZ (h := ?_))); with_reducible apply WL.nil) | refine W.condT (h := ?_) | refine W.condF (h := ?_))
              with_reducible apply W.ops
              repeat (first | refine WL.opA hΓ (h := ?_) | refine WL.opX hΓ (h := ?_) | refine WL.opY (h := ?_) | refine WL.opZ (h := ?_))
              refine WL.opCu hTe l1Text_s k7 hk7.ok 1 (by decide) (h := ?_)
              rintro k8 v hk8 hv
              replace hv : (v.size : Int) ≤ 1 := hv
              (repeat (first | refine WL.opA hΓ (h := ?_) | refine WL.opX hΓ (h := ?_) | refine WL.opY (h := ?_) | refine WL.opZ (h := ?_)))
              with_reducible apply WL.nil
              repeat (first | with_reducible (first | apply W.seq | apply W.block | apply W.skip | apply W.exit | apply W.ret | apply At.seqN | apply At.blkN | apply At.blkE | apply At.blkR | apply At.thenX | apply At.thenR | apply At.blkX rfl) | ((with_reducible apply W.ops); (repeat (first | refine WL.opA hΓ (h := ?_) | refine WL.opX hΓ (h := ?_) | refine WL.opY (h := ?_) | refine WL.opZ (h := ?_))); with_reducible apply WL.nil) | refine W.condT (h := ?_) | refine W.condF (h := ?_))
              refine At.retCu (by rw [Try.results87]) hB (hls := ?_) (he := ?_) k8 (hh, t, la, sva, sne, ⟨#[97, 97, 97, 97, 97, 97, 97, 97, 97, 97, 97, 97, 97, 97, 97, 97, 97, 97, 97, 97]⟩ ++ v) (hk70.trans hk8) trivial
              · rfl
              · rfl
end Go.Proofs.Yteaohgacgcjkjaa
