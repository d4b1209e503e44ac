/-
  A peer's message is drawn. Printed by gen_pwm.py.
-/
import Derived.Test.YteaohgacgcjkjaaHEvPwD
import Derived.Test.YteaohgacgcjkjaaG34
namespace Go.Proofs.Yteaohgacgcjkjaa
set_option maxRecDepth 100000
set_option linter.unusedVariables false
set_option linter.unusedSimpArgs false
open Go Go.RowKit
set_option maxHeartbeats 8000000

def rAdrs (_ : Unit) (l : List TAddr) : Prop := l.length ≤ 9
theorem l27Addrs_s : SoundCu Try.prog 88 (fun _ : Unit => True) (fun _ => []) rAdrs (fun _ l => rL 90 2 cAddr l) := by
  refine SoundCu.of Try.func88 rfl Try.ntmps88 ?_
  rintro k0 - b w hc - hB
  refine ⟨by simp, ?_⟩
  simp only [initC]
  have hΓ : GSound Try.prog (look []) := env_nil
  have hBe : Has Try.prog 51 := has_of Try.func51 rfl rfl
  have hOn : Has Try.prog 45 := has_of Try.func45 rfl rfl
  have hPi : Has Try.prog 44 := has_of Try.func44 rfl rfl
  have hcu := lsNms_cu
  have hck := kill_cu
  simp only [initS, argPV, List.map_cons, List.map_nil, toPL, Nat.zero_add]
  repeat (first | with_reducible (first | apply W.seq | apply W.block | apply W.skip | apply W.exit | apply W.ret | apply At.seqN | apply At.blkN | apply At.blkE | apply At.blkR | apply At.thenX | apply At.thenR | apply At.blkX rfl) | ((with_reducible apply W.ops); (repeat (first | refine WL.opA hΓ (h := ?_) | refine WL.opX hΓ (h := ?_) | refine WL.opY (h := ?_) | refine WL.opZ (h := ?_))); with_reducible apply WL.nil) | refine W.condT (h := ?_) | refine W.condF (h := ?_))
  with_reducible apply W.ops
  repeat (first | refine WL.opA hΓ (h := ?_) | refine WL.opX hΓ (h := ?_) | refine WL.opY (h := ?_) | refine WL.opZ (h := ?_))
  refine WL.opCu hBe l1Below_s k0 hc 9 (by decide) (h := ?_)
  rintro k1 n0 hk1 ⟨hn0, hn1, -⟩
  replace hn1 : n0 < 9 := hn1 (by decide)
  have hnil : rowsF cAddr [] = [] := rfl
  (repeat (first | refine WL.opA hΓ (h := ?_) | refine WL.opX hΓ (h := ?_) | refine WL.opY (h := ?_) | refine WL.opZ (h := ?_)))
  with_reducible apply WL.nil
  repeat (first | with_reducible (first | apply W.seq | apply W.block | apply W.skip | apply W.exit | apply W.ret | apply At.seqN | apply At.blkN | apply At.blkE | apply At.blkR | apply At.thenX | apply At.thenR | apply At.blkX rfl) | ((with_reducible apply W.ops); (repeat (first | refine WL.opA hΓ (h := ?_) | refine WL.opX hΓ (h := ?_) | refine WL.opY (h := ?_) | refine WL.opZ (h := ?_))); with_reducible apply WL.nil) | refine W.condT (h := ?_) | refine W.condF (h := ?_))
  refine W.loopA (fun x : List TAddr × Int × Int × Cu => CuTo k0 x.2.2.2 ∧ 0 ≤ x.2.2.1 ∧ x.1.length + x.2.2.1 = n0 ∧ 0 ≤ x.2.1 ∧ x.2.1 ≤ 3 * x.1.length) (fun x => [.slot 0 (one (.ptr 999 0)), .blk 999 (.box (cuL x.2.2.2)), .slot 3 (one (.all 7)), .blk 7 (.arr true 90 2 (rowsF cAddr x.1)), .slot 4 (vI x.2.1), .slot 5 (vI x.2.2.1)]) (fun x => x.2.2.1.toNat) ([], 0, n0, k1) ⟨hk1, by dsimp only; omega, by simp, by simp, by simp⟩ (h := ?_)
  rintro ⟨l, id, n, k⟩ ⟨hk, hn, hl, hi0, hi1⟩
  dsimp only at hk hn hl hi0 hi1 ⊢
  clear hnil
  by_cases hp : 0 < n
  · repeat (first | with_reducible (first | apply W.seq | apply W.block | apply W.skip | apply W.exit | apply W.ret | apply At.seqN | apply At.blkN | apply At.blkE | apply At.blkR | apply At.thenX | apply At.thenR | apply At.blkX rfl) | ((with_reducible apply W.ops); (repeat (first | refine WL.opA hΓ (h := ?_) | refine WL.opX hΓ (h := ?_) | refine WL.opY (h := ?_) | refine WL.opZ (h := ?_))); with_reducible apply WL.nil) | refine W.condT (h := ?_) | refine W.condF (h := ?_))
    with_reducible apply W.ops
    repeat (first | refine WL.opA hΓ (h := ?_) | refine WL.opX hΓ (h := ?_) | refine WL.opY (h := ?_) | refine WL.opZ (h := ?_))
    refine WL.opCu hBe l1Below_s k hk.ok 3 (by decide) (h := ?_)
    rintro k2 r hk2 ⟨hr0, hr1, -⟩
    replace hr1 : r < 3 := hr1 (by decide)
    (repeat (first | refine WL.opA hΓ (h := ?_) | refine WL.opX hΓ (h := ?_) | refine WL.opY (h := ?_) | refine WL.opZ (h := ?_)))
    with_reducible apply WL.nil
    repeat (first | with_reducible (first | apply W.seq | apply W.block | apply W.skip | apply W.exit | apply W.ret | apply At.seqN | apply At.blkN | apply At.blkE | apply At.blkR | apply At.thenX | apply At.thenR | apply At.blkX rfl) | ((with_reducible apply W.ops); (repeat (first | refine WL.opA hΓ (h := ?_) | refine WL.opX hΓ (h := ?_) | refine WL.opY (h := ?_) | refine WL.opZ (h := ?_))); with_reducible apply WL.nil) | refine W.condT (h := ?_) | refine W.condF (h := ?_))
    with_reducible apply W.ops
    repeat (first | refine WL.opA hΓ (h := ?_) | refine WL.opX hΓ (h := ?_) | refine WL.opY (h := ?_) | refine WL.opZ (h := ?_))
    refine WL.opCu hBe l1Below_s k2 hk2.ok 12 (by decide) (h := ?_)
    rintro k3 r2 hk3 ⟨hs0, hs1, -⟩
    replace hs1 : r2 < 12 := hs1 (by decide)
    have e := cAddr_app l (id + 1 + r) r2
    (repeat (first | refine WL.opA hΓ (h := ?_) | refine WL.opX hΓ (h := ?_) | refine WL.opY (h := ?_) | refine WL.opZ (h := ?_)))
    with_reducible apply WL.nil
    repeat (first | with_reducible (first | apply W.seq | apply W.block | apply W.skip | apply W.exit | apply W.ret | apply At.seqN | apply At.blkN | apply At.blkE | apply At.blkR | apply At.thenX | apply At.thenR | apply At.blkX rfl) | ((with_reducible apply W.ops); (repeat (first | refine WL.opA hΓ (h := ?_) | refine WL.opX hΓ (h := ?_) | refine WL.opY (h := ?_) | refine WL.opZ (h := ?_))); with_reducible apply WL.nil) | refine W.condT (h := ?_) | refine W.condF (h := ?_))
    exact At.roundA (l ++ [(id + 1 + r, r2)], id + 1 + r, n - 1, k3) ⟨(hk.trans hk2).trans hk3, by dsimp only; omega, by simp; omega, by dsimp only; omega, by simp; omega⟩ (by dsimp only; omega)
  · have hl9 : l.length ≤ 8 := by omega
    by_cases hl0 : 0 < l.length
    · repeat (first | with_reducible (first | apply W.seq | apply W.block | apply W.skip | apply W.exit | apply W.ret | apply At.seqN | apply At.blkN | apply At.blkE | apply At.blkR | apply At.thenX | apply At.thenR | apply At.blkX rfl) | ((with_reducible apply W.ops); (repeat (first | refine WL.opA hΓ (h := ?_) | refine WL.opX hΓ (h := ?_) | refine WL.opY (h := ?_) | refine WL.opZ (h := ?_))); with_reducible apply WL.nil) | refine W.condT (h := ?_) | refine W.condF (h := ?_))
      with_reducible apply W.ops
      repeat (first | refine WL.opA hΓ (h := ?_) | refine WL.opX hΓ (h := ?_) | refine WL.opY (h := ?_) | refine WL.opZ (h := ?_))
      refine WL.unG (h := ?_)
      refine WL.opCu hOn l1Once_s k hk.ok 10 (by decide) (h := ?_)
      rintro k2 o hk2 -
      (repeat (first | refine WL.opA hΓ (h := ?_) | refine WL.opX hΓ (h := ?_) | refine WL.opY (h := ?_) | refine WL.opZ (h := ?_)))
      with_reducible apply WL.nil
      cases o with
      | false =>
        repeat (first | with_reducible (first | apply W.seq | apply W.block | apply W.skip | apply W.exit | apply W.ret | apply At.seqN | apply At.blkN | apply At.blkE | apply At.blkR | apply At.thenX | apply At.thenR | apply At.blkX rfl) | ((with_reducible apply W.ops); (repeat (first | refine WL.opA hΓ (h := ?_) | refine WL.opX hΓ (h := ?_) | refine WL.opY (h := ?_) | refine WL.opZ (h := ?_))); with_reducible apply WL.nil) | refine W.condT (h := ?_) | refine W.condF (h := ?_))
        refine At.retCu (by rw [Try.results88]) hB (hls := ?_) (he := ?_) k2 l (hk.trans hk2) (show l.length ≤ 9 by omega)
        · rfl
        · rfl
      | true =>
        repeat (first | with_reducible (first | apply W.seq | apply W.block | apply W.skip | apply W.exit | apply W.ret | apply At.seqN | apply At.blkN | apply At.blkE | apply At.blkR | apply At.thenX | apply At.thenR | apply At.blkX rfl) | ((with_reducible apply W.ops); (repeat (first | refine WL.opA hΓ (h := ?_) | refine WL.opX hΓ (h := ?_) | refine WL.opY (h := ?_) | refine WL.opZ (h := ?_))); with_reducible apply WL.nil) | refine W.condT (h := ?_) | refine W.condF (h := ?_))
        with_reducible apply W.ops
        repeat (first | refine WL.opA hΓ (h := ?_) | refine WL.opX hΓ (h := ?_) | refine WL.opY (h := ?_) | refine WL.opZ (h := ?_))
        refine WL.opCu hBe l1Below_s k2 hk2.ok (l.length : Int) ⟨by omega, by omega⟩ (h := ?_)
        rintro k3 i hk3 ⟨hi0, hi1, -⟩
        replace hi1 : i < l.length := hi1 (by omega)
        have hlt : i.toNat < l.length := by omega
        (repeat (first | refine WL.opA hΓ (h := ?_) | refine WL.opX hΓ (h := ?_) | refine WL.opY (h := ?_) | refine WL.opZ (h := ?_)))
        with_reducible apply WL.nil
        repeat (first | with_reducible (first | apply W.seq | apply W.block | apply W.skip | apply W.exit | apply W.ret | apply At.seqN | apply At.blkN | apply At.blkE | apply At.blkR | apply At.thenX | apply At.thenR | apply At.blkX rfl) | ((with_reducible apply W.ops); (repeat (first | refine WL.opA hΓ (h := ?_) | refine WL.opX hΓ (h := ?_) | refine WL.opY (h := ?_) | refine WL.opZ (h := ?_))); with_reducible apply WL.nil) | refine W.condT (h := ?_) | refine W.condF (h := ?_))
        with_reducible apply W.ops
        repeat (first | refine WL.opA hΓ (h := ?_) | refine WL.opX hΓ (h := ?_) | refine WL.opY (h := ?_) | refine WL.opZ (h := ?_))
        refine WL.opCu hPi l1PickInt_s k3 hk3.ok [0, 5, 100] ⟨by decide, by decide⟩ (h := ?_)
        rintro k4 r4 hk4 -
        repeat (first | refine WL.opA hΓ (h := ?_) | refine WL.opX hΓ (h := ?_) | refine WL.opY (h := ?_) | refine WL.opZ (h := ?_))
        refine WL.opCu hPi l1PickInt_s k4 hk4.ok [-1, 3, 1000000, 1000001] ⟨by decide, by decide⟩ (h := ?_)
        rintro k5 r5 hk5 -
        have e := rowsF_set cAddr l i.toNat (r4, r5)
        have hrow := addr_row hlt
        (repeat (first | refine WL.opA hΓ (h := ?_) | refine WL.opX hΓ (h := ?_) | refine WL.opY (h := ?_) | refine WL.opZ (h := ?_)))
        with_reducible apply WL.nil
        repeat (first | with_reducible (first | apply W.seq | apply W.block | apply W.skip | apply W.exit | apply W.ret | apply At.seqN | apply At.blkN | apply At.blkE | apply At.blkR | apply At.thenX | apply At.thenR | apply At.blkX rfl) | ((with_reducible apply W.ops); (repeat (first | refine WL.opA hΓ (h := ?_) | refine WL.opX hΓ (h := ?_) | refine WL.opY (h := ?_) | refine WL.opZ (h := ?_))); with_reducible apply WL.nil) | refine W.condT (h := ?_) | refine W.condF (h := ?_))
        refine At.retCu (by rw [Try.results88]) hB (hls := ?_) (he := ?_) k5 (l.set i.toNat (r4, r5)) ((((hk.trans hk2).trans hk3).trans hk4).trans hk5) (show (l.set i.toNat _).length ≤ 9 by simp; omega)
        · rfl
        · first | rfl | exact congrArg (fun x => Res.comp false [RL.own true 90 2 x]) e
    · repeat (first | with_reducible (first | apply W.seq | apply W.block | apply W.skip | apply W.exit | apply W.ret | apply At.seqN | apply At.blkN | apply At.blkE | apply At.blkR | apply At.thenX | apply At.thenR | apply At.blkX rfl) | ((with_reducible apply W.ops); (repeat (first | refine WL.opA hΓ (h := ?_) | refine WL.opX hΓ (h := ?_) | refine WL.opY (h := ?_) | refine WL.opZ (h := ?_))); with_reducible apply WL.nil) | refine W.condT (h := ?_) | refine W.condF (h := ?_))
      refine At.retCu (by rw [Try.results88]) hB (hls := ?_) (he := ?_) k l hk (show l.length ≤ 9 by omega)
      · rfl
      · rfl
abbrev TPQ := Int × Int × TReq × THeader
abbrev bxP (m : TPQ) (a : PL) : Blk := .box [.sc (.int .i64 m.1), .sc (.int .i64 m.2.1), .sc (.int .i64 m.2.2.1.1), .sc (.int .i64 m.2.2.1.2.1), .sc (.int .i64 m.2.2.1.2.2), .sc (.int .i64 m.2.2.2.1), .sc (.int .i64 m.2.2.2.2.1), .sc (.string m.2.2.2.2.2.1), .sc (.string m.2.2.2.2.2.2.1), .sc (.string m.2.2.2.2.2.2.2.1), .sc (.string m.2.2.2.2.2.2.2.2), a]
def adQ (b : Bool) (l : List TAddr) : RL := match b with
  | true => .own true 90 2 (rowsF cAddr l)
  | false => .ro (.sl [])
abbrev rMg (y : TPMsg × Bool) : Res := .comp true [roI' y.1.1, roI' y.1.2.1, roI' y.1.2.2.1.1, roI' y.1.2.2.1.2.1, roI' y.1.2.2.1.2.2, roI' y.1.2.2.2.1.1, roI' y.1.2.2.2.1.2.1, roS' y.1.2.2.2.1.2.2.1, roS' y.1.2.2.2.1.2.2.2.1, roS' y.1.2.2.2.1.2.2.2.2.1, roS' y.1.2.2.2.1.2.2.2.2.2, adQ y.2 y.1.2.2.2.2]
abbrev rlMg (y : TPMsg × Bool) : Prop := y.1.2.2.2.2.length ≤ 10 ∧ (y.2 = false → y.1.2.2.2.2 = [])
theorem l35Msg_s : SoundCu Try.prog 64 (fun _ : Unit => True) (fun _ => []) (fun _ (y : TPMsg × Bool) => rlMg y) (fun _ y => rMg y) := by
  refine SoundCu.of Try.func64 rfl Try.ntmps64 ?_
  rintro k0 - b w hc - hB
  refine ⟨by simp, ?_⟩
  simp only [initC]
  have hΓ : GSound Try.prog (look []) := env_nil
  have hBe : Has Try.prog 51 := has_of Try.func51 rfl rfl
  have hOn : Has Try.prog 45 := has_of Try.func45 rfl rfl
  have hPi : Has Try.prog 44 := has_of Try.func44 rfl rfl
  have hRq : Has Try.prog 86 := has_of Try.func86 rfl rfl
  have hHd : Has Try.prog 87 := has_of Try.func87 rfl rfl
  have hAd : Has Try.prog 88 := has_of Try.func88 rfl rfl
  have hcu := lsNms_cu
  have hck := kill_cu
  have hem : (⟨#[]⟩ : ByteArray) = ByteArray.empty := rfl
  simp only [initS, argPV, List.map_cons, List.map_nil, toPL, Nat.zero_add]
  repeat (first | with_reducible (first | apply W.seq | apply W.block | apply W.skip | apply W.exit | apply W.ret | apply At.seqN | apply At.blkN | apply At.blkE | apply At.blkR | apply At.thenX | apply At.thenR | apply At.blkX rfl) | ((with_reducible apply W.ops); (repeat (first | refine WL.opA hΓ (h := ?_) | refine WL.opX hΓ (h := ?_) | refine WL.opY (h := ?_) | refine WL.opZ (h := ?_))); with_reducible apply WL.nil) | refine W.condT (h := ?_) | refine W.condF (h := ?_))
  with_reducible apply W.ops
  repeat (first | refine WL.opA hΓ (h := ?_) | refine WL.opX hΓ (h := ?_) | refine WL.opY (h := ?_) | refine WL.opZ (h := ?_))
  refine WL.opCu hBe l1Below_s k0 hc 4 (by decide) (h := ?_)
  rintro k1 r hk1 ⟨hr0, hr1, -⟩
  replace hr1 : r < 4 := hr1 (by decide)
  repeat (first | refine WL.opA hΓ (h := ?_) | refine WL.opX hΓ (h := ?_) | refine WL.opY (h := ?_) | refine WL.opZ (h := ?_))
  refine WL.opCu hBe l1Below_s k1 hk1.ok 9 (by decide) (h := ?_)
  rintro k2 f hk2 ⟨hf0, hf1, -⟩
  replace hf1 : f < 9 := hf1 (by decide)
  have hk20 := hk1.trans hk2
  (repeat (first | refine WL.opA hΓ (h := ?_) | refine WL.opX hΓ (h := ?_) | refine WL.opY (h := ?_) | refine WL.opZ (h := ?_)))
  with_reducible apply WL.nil
  generalize 1 + r = kk at *
  clear hr0 hr1
  refine W.key (c := ?codeK) (Q := ?postK) (fun x : Cu × TPQ => CuTo k0 x.1) (fun x => [.slot 0 (one (.ptr 999 0)), .blk 999 (.box (cuL x.1)), .slot 2 (one (.ptr 2 0)), .blk 2 (bxP (0, 0, nReq, nHd) .nil), .slot 3 (one (.ptr 3 0)), .blk 3 (bxP x.2 .nil)]) ?main ?part
  case main =>
    intro key
    by_cases q2 : kk = 2
    · subst q2
      repeat (first | with_reducible (first | apply W.seq | apply W.block | apply W.skip | apply W.exit | apply W.ret | apply At.seqN | apply At.blkN | apply At.blkE | apply At.blkR | apply At.thenX | apply At.thenR | apply At.blkX rfl) | ((with_reducible apply W.ops); (repeat (first | refine WL.opA hΓ (h := ?_) | refine WL.opX hΓ (h := ?_) | refine WL.opY (h := ?_) | refine WL.opZ (h := ?_))); with_reducible apply WL.nil) | refine W.condT (h := ?_) | refine W.condF (h := ?_))
      with_reducible apply W.ops
      repeat (first | refine WL.opA hΓ (h := ?_) | refine WL.opX hΓ (h := ?_) | refine WL.opY (h := ?_) | refine WL.opZ (h := ?_))
      refine WL.opCu hRq l23Req_s k2 hk2.ok () trivial (h := ?_)
      rintro k3 q hk3 -
      (repeat (first | refine WL.opA hΓ (h := ?_) | refine WL.opX hΓ (h := ?_) | refine WL.opY (h := ?_) | refine WL.opZ (h := ?_)))
      with_reducible apply WL.nil
      repeat (first | with_reducible (first | apply W.seq | apply W.block | apply W.skip | apply W.exit | apply W.ret | apply At.seqN | apply At.blkN | apply At.blkE | apply At.blkR | apply At.thenX | apply At.thenR | apply At.blkX rfl) | ((with_reducible apply W.ops); (repeat (first | refine WL.opA hΓ (h := ?_) | refine WL.opX hΓ (h := ?_) | refine WL.opY (h := ?_) | refine WL.opZ (h := ?_))); with_reducible apply WL.nil) | refine W.condT (h := ?_) | refine W.condF (h := ?_))
      refine W.subA [.slot 0 (one (.ptr 999 0)), .blk 999 (.box (cuL k3)), .slot 2 (one (.ptr 2 0)), .blk 2 (bxP (0, 0, nReq, nHd) .nil), .slot 3 (one (.ptr 3 0)), .blk 3 (bxP (2, 1 + f, q, nHd) .nil)] (h := ?_)
      exact key (k3, (2, 1 + f, q, nHd)) (hk20.trans hk3)
    · by_cases q3 : kk = 3
      · subst q3
        clear q2
        repeat (first | with_reducible (first | apply W.seq | apply W.block | apply W.skip | apply W.exit | apply W.ret | apply At.seqN | apply At.blkN | apply At.blkE | apply At.blkR | apply At.thenX | apply At.thenR | apply At.blkX rfl) | ((with_reducible apply W.ops); (repeat (first | refine WL.opA hΓ (h := ?_) | refine WL.opX hΓ (h := ?_) | refine WL.opY (h := ?_) | refine WL.opZ (h := ?_))); with_reducible apply WL.nil) | refine W.condT (h := ?_) | refine W.condF (h := ?_))
        with_reducible apply W.ops
        repeat (first | refine WL.opA hΓ (h := ?_) | refine WL.opX hΓ (h := ?_) | refine WL.opY (h := ?_) | refine WL.opZ (h := ?_))
        refine WL.opCu hHd l7Head_s k2 hk2.ok () trivial (h := ?_)
        rintro k3 h hk3 -
        (repeat (first | refine WL.opA hΓ (h := ?_) | refine WL.opX hΓ (h := ?_) | refine WL.opY (h := ?_) | refine WL.opZ (h := ?_)))
        with_reducible apply WL.nil
        repeat (first | with_reducible (first | apply W.seq | apply W.block | apply W.skip | apply W.exit | apply W.ret | apply At.seqN | apply At.blkN | apply At.blkE | apply At.blkR | apply At.thenX | apply At.thenR | apply At.blkX rfl) | ((with_reducible apply W.ops); (repeat (first | refine WL.opA hΓ (h := ?_) | refine WL.opX hΓ (h := ?_) | refine WL.opY (h := ?_) | refine WL.opZ (h := ?_))); with_reducible apply WL.nil) | refine W.condT (h := ?_) | refine W.condF (h := ?_))
        refine W.subA [.slot 0 (one (.ptr 999 0)), .blk 999 (.box (cuL k3)), .slot 2 (one (.ptr 2 0)), .blk 2 (bxP (0, 0, nReq, nHd) .nil), .slot 3 (one (.ptr 3 0)), .blk 3 (bxP (3, 1 + f, nReq, h) .nil)] (h := ?_)
        exact key (k3, (3, 1 + f, nReq, h)) (hk20.trans hk3)
      · by_cases q4 : kk = 4
        · subst q4
          clear q2 q3
          repeat (first | with_reducible (first | apply W.seq | apply W.block | apply W.skip | apply W.exit | apply W.ret | apply At.seqN | apply At.blkN | apply At.blkE | apply At.blkR | apply At.thenX | apply At.thenR | apply At.blkX rfl) | ((with_reducible apply W.ops); (repeat (first | refine WL.opA hΓ (h := ?_) | refine WL.opX hΓ (h := ?_) | refine WL.opY (h := ?_) | refine WL.opZ (h := ?_))); with_reducible apply WL.nil) | refine W.condT (h := ?_) | refine W.condF (h := ?_))
          with_reducible apply W.ops
          repeat (first | refine WL.opA hΓ (h := ?_) | refine WL.opX hΓ (h := ?_) | refine WL.opY (h := ?_) | refine WL.opZ (h := ?_))
          refine WL.opCu hAd l27Addrs_s k2 hk2.ok () trivial (h := ?_)
          rintro k3 l hk3a hl
          replace hl : l.length ≤ 9 := hl
          have hk3 := hk20.trans hk3a
          have eapp := cAddr_app l 3 0
          (repeat (first | refine WL.opA hΓ (h := ?_) | refine WL.opX hΓ (h := ?_) | refine WL.opY (h := ?_) | refine WL.opZ (h := ?_)))
          with_reducible apply WL.nil
          generalize 1 + f = f at *
          obtain ⟨k, hk⟩ : ∃ k : Int, k = 4 := ⟨4, rfl⟩
          obtain ⟨q, hq⟩ : ∃ q : TReq, q = nReq := ⟨_, rfl⟩
          obtain ⟨h, hh⟩ : ∃ h : THeader, h = nHd := ⟨_, rfl⟩
          repeat (first | with_reducible (first | apply W.seq | apply W.block | apply W.skip | apply W.exit | apply W.ret | apply At.seqN | apply At.blkN | apply At.blkE | apply At.blkR | apply At.thenX | apply At.thenR | apply At.blkX rfl) | ((with_reducible apply W.ops); (repeat (first | refine WL.opA hΓ (h := ?_) | refine WL.opX hΓ (h := ?_) | refine WL.opY (h := ?_) | refine WL.opZ (h := ?_))); with_reducible apply WL.nil) | refine W.condT (h := ?_) | refine W.condF (h := ?_))
          refine W.subA [.slot 0 (one (.ptr 999 0)), .blk 999 (.box (cuL k3)), .slot 2 (one (.ptr 2 0)), .blk 2 (bxP (0, 0, nReq, nHd) .nil), .slot 3 (one (.ptr 3 0)), .blk 3 (bxP (4, f, nReq, nHd) (.all 26)), .blk 26 (.arr true 90 2 (rowsF cAddr l))] (h := ?_)
          rw [← hk, ← hq, ← hh]
          clear hk hq hh
          repeat (first | with_reducible (first | apply W.seq | apply W.block | apply W.skip | apply W.exit | apply W.ret | apply At.seqN | apply At.blkN | apply At.blkE | apply At.blkR | apply At.thenX | apply At.thenR | apply At.blkX rfl) | ((with_reducible apply W.ops); (repeat (first | refine WL.opA hΓ (h := ?_) | refine WL.opX hΓ (h := ?_) | refine WL.opY (h := ?_) | refine WL.opZ (h := ?_))); with_reducible apply WL.nil) | refine W.condT (h := ?_) | refine W.condF (h := ?_))
          with_reducible apply W.ops
          repeat (first | refine WL.opA hΓ (h := ?_) | refine WL.opX hΓ (h := ?_) | refine WL.opY (h := ?_) | refine WL.opZ (h := ?_))
          refine WL.opCu hOn l1Once_s k3 hk3.ok 10 (by decide) (h := ?_)
          rintro k4 o hk4 -
          have hk40 := hk3.trans hk4
          (repeat (first | refine WL.opA hΓ (h := ?_) | refine WL.opX hΓ (h := ?_) | refine WL.opY (h := ?_) | refine WL.opZ (h := ?_)))
          with_reducible apply WL.nil
          cases o with
          | false =>
            repeat (first | with_reducible (first | apply W.seq | apply W.block | apply W.skip | apply W.exit | apply W.ret | apply At.seqN | apply At.blkN | apply At.blkE | apply At.blkR | apply At.thenX | apply At.thenR | apply At.blkX rfl) | ((with_reducible apply W.ops); (repeat (first | refine WL.opA hΓ (h := ?_) | refine WL.opX hΓ (h := ?_) | refine WL.opY (h := ?_) | refine WL.opZ (h := ?_))); with_reducible apply WL.nil) | refine W.condT (h := ?_) | refine W.condF (h := ?_))
            refine At.retCu (by rw [Try.results64]) hB (hls := ?_) (he := ?_) k4 ((k, f, q, h, l), true) hk40 ⟨show List.length (l : List TAddr) ≤ 10 by omega, fun e => by cases e⟩
            · rfl
            · rfl
          | true =>
            repeat (first | with_reducible (first | apply W.seq | apply W.block | apply W.skip | apply W.exit | apply W.ret | apply At.seqN | apply At.blkN | apply At.blkE | apply At.blkR | apply At.thenX | apply At.thenR | apply At.blkX rfl) | ((with_reducible apply W.ops); (repeat (first | refine WL.opA hΓ (h := ?_) | refine WL.opX hΓ (h := ?_) | refine WL.opY (h := ?_) | refine WL.opZ (h := ?_))); with_reducible apply WL.nil) | refine W.condT (h := ?_) | refine W.condF (h := ?_))
            with_reducible apply W.ops
            repeat (first | refine WL.opA hΓ (h := ?_) | refine WL.opX hΓ (h := ?_) | refine WL.opY (h := ?_) | refine WL.opZ (h := ?_))
            refine WL.opCu hBe l1Below_s k4 hk4.ok 3 (by decide) (h := ?_)
            rintro k5 c hk5 -
            have hk50 := hk40.trans hk5
            (repeat (first | refine WL.opA hΓ (h := ?_) | refine WL.opX hΓ (h := ?_) | refine WL.opY (h := ?_) | refine WL.opZ (h := ?_)))
            with_reducible apply WL.nil
            by_cases c0 : c = 0
            · subst c0
              repeat (first | with_reducible (first | apply W.seq | apply W.block | apply W.skip | apply W.exit | apply W.ret | apply At.seqN | apply At.blkN | apply At.blkE | apply At.blkR | apply At.thenX | apply At.thenR | apply At.blkX rfl) | ((with_reducible apply W.ops); (repeat (first | refine WL.opA hΓ (h := ?_) | refine WL.opX hΓ (h := ?_) | refine WL.opY (h := ?_) | refine WL.opZ (h := ?_))); with_reducible apply WL.nil) | refine W.condT (h := ?_) | refine W.condF (h := ?_))
              with_reducible apply W.ops
              repeat (first | refine WL.opA hΓ (h := ?_) | refine WL.opX hΓ (h := ?_) | refine WL.opY (h := ?_) | refine WL.opZ (h := ?_))
              refine WL.opCu hBe l1Below_s k5 hk5.ok 6 (by decide) (h := ?_)
              rintro k6 v hk6 -
              (repeat (first | refine WL.opA hΓ (h := ?_) | refine WL.opX hΓ (h := ?_) | refine WL.opY (h := ?_) | refine WL.opZ (h := ?_)))
              with_reducible apply WL.nil
              repeat (first | with_reducible (first | apply W.seq | apply W.block | apply W.skip | apply W.exit | apply W.ret | apply At.seqN | apply At.blkN | apply At.blkE | apply At.blkR | apply At.thenX | apply At.thenR | apply At.blkX rfl) | ((with_reducible apply W.ops); (repeat (first | refine WL.opA hΓ (h := ?_) | refine WL.opX hΓ (h := ?_) | refine WL.opY (h := ?_) | refine WL.opZ (h := ?_))); with_reducible apply WL.nil) | refine W.condT (h := ?_) | refine W.condF (h := ?_))
              refine At.retCu (by rw [Try.results64]) hB (hls := ?_) (he := ?_) k6 ((v, f, q, h, l), true) (hk50.trans hk6) ⟨show List.length (l : List TAddr) ≤ 10 by omega, fun e => by cases e⟩
              · rfl
              · rfl
            · by_cases c1 : c = 1
              · subst c1
                repeat (first | with_reducible (first | apply W.seq | apply W.block | apply W.skip | apply W.exit | apply W.ret | apply At.seqN | apply At.blkN | apply At.blkE | apply At.blkR | apply At.thenX | apply At.thenR | apply At.blkX rfl) | ((with_reducible apply W.ops); (repeat (first | refine WL.opA hΓ (h := ?_) | refine WL.opX hΓ (h := ?_) | refine WL.opY (h := ?_) | refine WL.opZ (h := ?_))); with_reducible apply WL.nil) | refine W.condT (h := ?_) | refine W.condF (h := ?_))
                with_reducible apply W.ops
                repeat (first | refine WL.opA hΓ (h := ?_) | refine WL.opX hΓ (h := ?_) | refine WL.opY (h := ?_) | refine WL.opZ (h := ?_))
                refine WL.opCu hPi l1PickInt_s k5 hk5.ok [0, 99, 100] ⟨by decide, by decide⟩ (h := ?_)
                rintro k6 v hk6 -
                (repeat (first | refine WL.opA hΓ (h := ?_) | refine WL.opX hΓ (h := ?_) | refine WL.opY (h := ?_) | refine WL.opZ (h := ?_)))
                with_reducible apply WL.nil
                repeat (first | with_reducible (first | apply W.seq | apply W.block | apply W.skip | apply W.exit | apply W.ret | apply At.seqN | apply At.blkN | apply At.blkE | apply At.blkR | apply At.thenX | apply At.thenR | apply At.blkX rfl) | ((with_reducible apply W.ops); (repeat (first | refine WL.opA hΓ (h := ?_) | refine WL.opX hΓ (h := ?_) | refine WL.opY (h := ?_) | refine WL.opZ (h := ?_))); with_reducible apply WL.nil) | refine W.condT (h := ?_) | refine W.condF (h := ?_))
                refine At.retCu (by rw [Try.results64]) hB (hls := ?_) (he := ?_) k6 ((k, v, q, h, l), true) (hk50.trans hk6) ⟨show List.length (l : List TAddr) ≤ 10 by omega, fun e => by cases e⟩
                · rfl
                · rfl
              · repeat (first | with_reducible (first | apply W.seq | apply W.block | apply W.skip | apply W.exit | apply W.ret | apply At.seqN | apply At.blkN | apply At.blkE | apply At.blkR | apply At.thenX | apply At.thenR | apply At.blkX rfl) | ((with_reducible apply W.ops); (repeat (first | refine WL.opA hΓ (h := ?_) | refine WL.opX hΓ (h := ?_) | refine WL.opY (h := ?_) | refine WL.opZ (h := ?_))); with_reducible apply WL.nil) | refine W.condT (h := ?_) | refine W.condF (h := ?_))
                refine At.retCu (by rw [Try.results64]) hB (hls := ?_) (he := ?_) k5 ((k, f, q, h, l ++ [(3, 0)]), true) hk50 ⟨show List.length (l ++ [(3, 0)]) ≤ 10 by simp; try omega, fun e => by cases e⟩
                · rfl
                · first | rfl | exact congrArg (fun x => Res.comp true [roI' k, roI' f, roI' q.1, roI' q.2.1, roI' q.2.2, roI' h.1, roI' h.2.1, roS' h.2.2.1, roS' h.2.2.2.1, roS' h.2.2.2.2.1, roS' h.2.2.2.2.2, RL.own true 90 2 x]) eapp
        · have e2 : decide (kk = 2) = false := decide_eq_false q2
          have e3 : decide (kk = 3) = false := decide_eq_false q3
          have e4 : decide (kk = 4) = false := decide_eq_false q4
          clear q2 q3 q4
          repeat (first | with_reducible (first | apply W.seq | apply W.block | apply W.skip | apply W.exit | apply W.ret | apply At.seqN | apply At.blkN | apply At.blkE | apply At.blkR | apply At.thenX | apply At.thenR | apply At.blkX rfl) | ((with_reducible apply W.ops); (repeat (first | refine WL.opA hΓ (h := ?_) | refine WL.opX hΓ (h := ?_) | refine WL.opY (h := ?_) | refine WL.opZ (h := ?_))); with_reducible apply WL.nil) | refine W.condT (h := ?_) | refine W.condF (h := ?_))
          refine W.subA [.slot 0 (one (.ptr 999 0)), .blk 999 (.box (cuL k2)), .slot 2 (one (.ptr 2 0)), .blk 2 (bxP (0, 0, nReq, nHd) .nil), .slot 3 (one (.ptr 3 0)), .blk 3 (bxP (kk, 1 + f, nReq, nHd) .nil)] (h := ?_)
          exact key (k2, (kk, 1 + f, nReq, nHd)) hk20
  case part =>
    rintro ⟨k3, k, f, q, h⟩ hk3
    replace hk3 : CuTo k0 k3 := hk3
    dsimp only
    have eapp : rowsF cAddr [] ++ [[.sc (.int .i64 3), .sc (.int .i64 0)]] = rowsF cAddr [(3, 0)] := rfl
    repeat (first | with_reducible (first | apply W.seq | apply W.block | apply W.skip | apply W.exit | apply W.ret | apply At.seqN | apply At.blkN | apply At.blkE | apply At.blkR | apply At.thenX | apply At.thenR | apply At.blkX rfl) | ((with_reducible apply W.ops); (repeat (first | refine WL.opA hΓ (h := ?_) | refine WL.opX hΓ (h := ?_) | refine WL.opY (h := ?_) | refine WL.opZ (h := ?_))); with_reducible apply WL.nil) | refine W.condT (h := ?_) | refine W.condF (h := ?_))
    with_reducible apply W.ops
    repeat (first | refine WL.opA hΓ (h := ?_) | refine WL.opX hΓ (h := ?_) | refine WL.opY (h := ?_) | refine WL.opZ (h := ?_))
    refine WL.opCu hOn l1Once_s k3 hk3.ok 10 (by decide) (h := ?_)
    rintro k4 o hk4 -
    have hk40 := hk3.trans hk4
    (repeat (first | refine WL.opA hΓ (h := ?_) | refine WL.opX hΓ (h := ?_) | refine WL.opY (h := ?_) | refine WL.opZ (h := ?_)))
    with_reducible apply WL.nil
    cases o with
    | false =>
      repeat (first | with_reducible (first | apply W.seq | apply W.block | apply W.skip | apply W.exit | apply W.ret | apply At.seqN | apply At.blkN | apply At.blkE | apply At.blkR | apply At.thenX | apply At.thenR | apply At.blkX rfl) | ((with_reducible apply W.ops); (repeat (first | refine WL.opA hΓ (h := ?_) | refine WL.opX hΓ (h := ?_) | refine WL.opY (h := ?_) | refine WL.opZ (h := ?_))); with_reducible apply WL.nil) | refine W.condT (h := ?_) | refine W.condF (h := ?_))
      refine At.retCu (by rw [Try.results64]) hB (hls := ?_) (he := ?_) k4 ((k, f, q, h, []), false) hk40 ⟨show List.length ([] : List TAddr) ≤ 10 by simp, fun e => by rfl⟩
      · rfl
      · rfl
    | true =>
      repeat (first | with_reducible (first | apply W.seq | apply W.block | apply W.skip | apply W.exit | apply W.ret | apply At.seqN | apply At.blkN | apply At.blkE | apply At.blkR | apply At.thenX | apply At.thenR | apply At.blkX rfl) | ((with_reducible apply W.ops); (repeat (first | refine WL.opA hΓ (h := ?_) | refine WL.opX hΓ (h := ?_) | refine WL.opY (h := ?_) | refine WL.opZ (h := ?_))); with_reducible apply WL.nil) | refine W.condT (h := ?_) | refine W.condF (h := ?_))
      with_reducible apply W.ops
      repeat (first | refine WL.opA hΓ (h := ?_) | refine WL.opX hΓ (h := ?_) | refine WL.opY (h := ?_) | refine WL.opZ (h := ?_))
      refine WL.opCu hBe l1Below_s k4 hk4.ok 3 (by decide) (h := ?_)
      rintro k5 c hk5 -
      have hk50 := hk40.trans hk5
      (repeat (first | refine WL.opA hΓ (h := ?_) | refine WL.opX hΓ (h := ?_) | refine WL.opY (h := ?_) | refine WL.opZ (h := ?_)))
      with_reducible apply WL.nil
      by_cases c0 : c = 0
      · subst c0
        repeat (first | with_reducible (first | apply W.seq | apply W.block | apply W.skip | apply W.exit | apply W.ret | apply At.seqN | apply At.blkN | apply At.blkE | apply At.blkR | apply At.thenX | apply At.thenR | apply At.blkX rfl) | ((with_reducible apply W.ops); (repeat (first | refine WL.opA hΓ (h := ?_) | refine WL.opX hΓ (h := ?_) | refine WL.opY (h := ?_) | refine WL.opZ (h := ?_))); with_reducible apply WL.nil) | refine W.condT (h := ?_) | refine W.condF (h := ?_))
        with_reducible apply W.ops
        repeat (first | refine WL.opA hΓ (h := ?_) | refine WL.opX hΓ (h := ?_) | refine WL.opY (h := ?_) | refine WL.opZ (h := ?_))
        refine WL.opCu hBe l1Below_s k5 hk5.ok 6 (by decide) (h := ?_)
        rintro k6 v hk6 -
        (repeat (first | refine WL.opA hΓ (h := ?_) | refine WL.opX hΓ (h := ?_) | refine WL.opY (h := ?_) | refine WL.opZ (h := ?_)))
        with_reducible apply WL.nil
        repeat (first | with_reducible (first | apply W.seq | apply W.block | apply W.skip | apply W.exit | apply W.ret | apply At.seqN | apply At.blkN | apply At.blkE | apply At.blkR | apply At.thenX | apply At.thenR | apply At.blkX rfl) | ((with_reducible apply W.ops); (repeat (first | refine WL.opA hΓ (h := ?_) | refine WL.opX hΓ (h := ?_) | refine WL.opY (h := ?_) | refine WL.opZ (h := ?_))); with_reducible apply WL.nil) | refine W.condT (h := ?_) | refine W.condF (h := ?_))
        refine At.retCu (by rw [Try.results64]) hB (hls := ?_) (he := ?_) k6 ((v, f, q, h, []), false) (hk50.trans hk6) ⟨show List.length ([] : List TAddr) ≤ 10 by simp, fun e => by rfl⟩
        · rfl
        · rfl
      · by_cases c1 : c = 1
        · subst c1
          repeat (first | with_reducible (first | apply W.seq | apply W.block | apply W.skip | apply W.exit | apply W.ret | apply At.seqN | apply At.blkN | apply At.blkE | apply At.blkR | apply At.thenX | apply At.thenR | apply At.blkX rfl) | ((with_reducible apply W.ops); (repeat (first | refine WL.opA hΓ (h := ?_) | refine WL.opX hΓ (h := ?_) | refine WL.opY (h := ?_) | refine WL.opZ (h := ?_))); with_reducible apply WL.nil) | refine W.condT (h := ?_) | refine W.condF (h := ?_))
          with_reducible apply W.ops
          repeat (first | refine WL.opA hΓ (h := ?_) | refine WL.opX hΓ (h := ?_) | refine WL.opY (h := ?_) | refine WL.opZ (h := ?_))
          refine WL.opCu hPi l1PickInt_s k5 hk5.ok [0, 99, 100] ⟨by decide, by decide⟩ (h := ?_)
          rintro k6 v hk6 -
          (repeat (first | refine WL.opA hΓ (h := ?_) | refine WL.opX hΓ (h := ?_) | refine WL.opY (h := ?_) | refine WL.opZ (h := ?_)))
          with_reducible apply WL.nil
          repeat (first | with_reducible (first | apply W.seq | apply W.block | apply W.skip | apply W.exit | apply W.ret | apply At.seqN | apply At.blkN | apply At.blkE | apply At.blkR | apply At.thenX | apply At.thenR | apply At.blkX rfl) | ((with_reducible apply W.ops); (repeat (first | refine WL.opA hΓ (h := ?_) | refine WL.opX hΓ (h := ?_) | refine WL.opY (h := ?_) | refine WL.opZ (h := ?_))); with_reducible apply WL.nil) | refine W.condT (h := ?_) | refine W.condF (h := ?_))
          refine At.retCu (by rw [Try.results64]) hB (hls := ?_) (he := ?_) k6 ((k, v, q, h, []), false) (hk50.trans hk6) ⟨show List.length ([] : List TAddr) ≤ 10 by simp, fun e => by rfl⟩
          · rfl
          · rfl
        · repeat (first | with_reducible (first | apply W.seq | apply W.block | apply W.skip | apply W.exit | apply W.ret | apply At.seqN | apply At.blkN | apply At.blkE | apply At.blkR | apply At.thenX | apply At.thenR | apply At.blkX rfl) | ((with_reducible apply W.ops); (repeat (first | refine WL.opA hΓ (h := ?_) | refine WL.opX hΓ (h := ?_) | refine WL.opY (h := ?_) | refine WL.opZ (h := ?_))); with_reducible apply WL.nil) | refine W.condT (h := ?_) | refine W.condF (h := ?_))
          refine At.retCu (by rw [Try.results64]) hB (hls := ?_) (he := ?_) k5 ((k, f, q, h, [(3, 0)]), true) hk50 ⟨show List.length ([(3, 0)]) ≤ 10 by simp; try omega, fun e => by cases e⟩
          · rfl
          · first | rfl | exact congrArg (fun x => Res.comp true [roI' k, roI' f, roI' q.1, roI' q.2.1, roI' q.2.2, roI' h.1, roI' h.2.1, roS' h.2.2.1, roS' h.2.2.2.1, roS' h.2.2.2.2.1, roS' h.2.2.2.2.2, RL.own true 90 2 x]) eapp
end Go.Proofs.Yteaohgacgcjkjaa
