/-
  A code that follows from another one; small functions of the laws.
-/
import Derived.Test.YtimnogjgokljbaaEvCu
namespace Go.Proofs.Ytimnogjgokljbaa
set_option maxRecDepth 100000
set_option linter.unusedVariables false
set_option linter.unusedSimpArgs false
open Go Go.RowKit
set_option maxHeartbeats 4000000

theorem wrap_u8_ex : ∃ g : Int → Nat, (∀ n, IntKind.u8.wrap n = ((g n : Nat) : Int)) ∧ ∀ n, g n < 256 := by
  refine ⟨fun n => (n % 256).toNat, fun n => ?_, fun n => ?_⟩
  · have : IntKind.u8.wrap n = n % 256 := by simp [IntKind.wrap, IntKind.bits, IntKind.signed]
    rw [this]
    show n % 256 = (((n % 256).toNat : Nat) : Int)
    omega
  · show (n % 256).toNat < 256
    omega
theorem CodeOk.le {bs : List Nat} (h : bs.length ≤ 1048576) (hb : ∀ n ∈ bs, n < 256) : CodeOk bs := ⟨hb, by omega⟩
noncomputable def mBig := mdl (fun bs : List Nat => bs.length ≤ 9223372036854775807) (fun bs => [aL cU8 bs]) (fun bs => rB (decide (1048576 < bs.length)))
theorem rowsF_U8 {a b : List Nat} : rowsF cU8 a = rowsF cU8 b ↔ a = b := rowsF_iff fun x y h => by
  simp only [cU8, List.cons.injEq, Value.int.injEq, and_true, true_and] at h
  omega
theorem mBig_eq (bs : List Nat) (h : bs.length ≤ 9223372036854775807) : mBig [aL cU8 bs] = some (rB (decide (1048576 < bs.length))) := mdl_eq (by intro a b h; simpa [rowsF_U8] using h) bs h
theorem big_s : Sound Try.prog 23 mBig := by
  refine Sound.mdl Try.func23 rfl Try.ntmps23 ?_
  rintro bs w hl
  refine ⟨by simp, ?_⟩
  replace hl : bs.length ≤ 9223372036854775807 := hl
  have hΓ : GSound Try.prog (look []) := env_nil
  simp only [initS, argPV, List.map_cons, List.map_nil, toPL, Nat.zero_add]
  repeat (first | with_reducible apply W.seq | with_reducible apply W.block | with_reducible apply W.skip | with_reducible apply W.exit | with_reducible apply W.ret | with_reducible apply At.seqN | with_reducible apply At.blkN | with_reducible apply At.blkE | with_reducible apply At.blkR | with_reducible apply At.thenX | with_reducible apply At.thenR | with_reducible apply At.blkX rfl | ((with_reducible apply W.ops); (repeat (first | refine WL.opA hΓ (h := ?_) | refine WL.opX hΓ (h := ?_) | refine WL.opY (h := ?_) | refine WL.opZ (h := ?_))); with_reducible apply WL.nil) | refine W.condT (h := ?_) | refine W.condF (h := ?_))
  refine At.retA (by rw [Try.results23]) (he := ?_)
  by_cases h : 1048576 < bs.length
  · have h2 : (1048576 : Int) < bs.length := by omega
    simp [h, h2]
  · have h2 : ¬ (1048576 : Int) < bs.length := by omega
    simp [h, h2]
end Go.Proofs.Ytimnogjgokljbaa
