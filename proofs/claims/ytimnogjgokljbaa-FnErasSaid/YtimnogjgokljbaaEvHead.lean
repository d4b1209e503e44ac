/-
  HeaderOk, ShowHeader, ShowReq, AddrsOk of spec and impl.
-/
import Derived.Test.YtimnogjgokljbaaEvVar
import Derived.Test.YtimnogjgokljbaaFlatHeader
import Derived.Test.YtimnogjgokljbaaFlatReq
import Derived.Test.YtimnogjgokljbaaFlatAddr
namespace Go.Proofs.Ytimnogjgokljbaa
set_option maxRecDepth 100000
set_option linter.unusedVariables false
set_option linter.unusedSimpArgs false
open Go Go.RowKit
set_option maxHeartbeats 4000000

abbrev aHd (h : THeader) : Arg := .val true [.sc (.int .i64 h.1), .sc (.int .i64 h.2.1), .sc (.string h.2.2.1), .sc (.string h.2.2.2.1), .sc (.string h.2.2.2.2.1), .sc (.string h.2.2.2.2.2)]
abbrev aRq (r : TReq) : Arg := .val true [.sc (.int .i64 r.1), .sc (.int .i64 r.2.1), .sc (.int .i64 r.2.2)]
theorem aHd_inj : ∀ x y : THeader, [aHd x] = [aHd y] → x = y := by
  rintro ⟨a, b, c, d, e, f⟩ ⟨a', b', c', d', e', f'⟩ h
  simpa [aHd] using h
theorem aRq_inj : ∀ x y : TReq, [aRq x] = [aRq y] → x = y := by
  rintro ⟨a, b, c⟩ ⟨a', b', c'⟩ h
  simpa [aRq] using h
def lastN (h : Int) : Int := if h = 1 then 0 else 8
def headOk (h : THeader) : Prop := (1 ≤ h.1 ∧ h.1 ≤ 1000000) ∧ (0 ≤ h.2.1 ∧ h.2.1 ≤ 1000000) ∧ (h.2.2.2.1.size : Int) = 8 ∧ (h.2.2.2.2.1.size : Int) = 8 ∧ (h.2.2.1.size : Int) = lastN h.1 ∧ (h.2.2.2.2.2.size : Int) ≤ 20
instance (h : THeader) : Decidable (headOk h) := by unfold headOk; infer_instance
theorem cases6 (a b c d e f : Prop) : (a ∧ b ∧ c ∧ d ∧ e ∧ f) ∨ ¬ a ∨ (a ∧ ¬ b) ∨ (a ∧ b ∧ ¬ c) ∨ (a ∧ b ∧ c ∧ ¬ d) ∨ (a ∧ b ∧ c ∧ d ∧ ¬ e) ∨ (a ∧ b ∧ c ∧ d ∧ e ∧ ¬ f) := by
  by_cases ha : a <;> by_cases hb : b <;> by_cases hc : c <;> by_cases hd : d <;> by_cases he : e <;> by_cases hf : f <;> simp_all
theorem cases5 (a b c d e : Prop) : (a ∧ b ∧ c ∧ d ∧ e) ∨ ¬ a ∨ (a ∧ ¬ b) ∨ (a ∧ b ∧ ¬ c) ∨ (a ∧ b ∧ c ∧ ¬ d) ∨ (a ∧ b ∧ c ∧ d ∧ ¬ e) := by
  by_cases ha : a <;> by_cases hb : b <;> by_cases hc : c <;> by_cases hd : d <;> by_cases he : e <;> simp_all
theorem cases3 (a b c : Prop) : (a ∧ b ∧ c) ∨ ¬ a ∨ (a ∧ ¬ b) ∨ (a ∧ b ∧ ¬ c) := by
  by_cases ha : a <;> by_cases hb : b <;> by_cases hc : c <;> simp_all
noncomputable def mHead := mdl (fun _ : THeader => True) (fun h => [aHd h]) (fun h => rB (decide (headOk h)))
theorem mHead_eq (h : THeader) : mHead [aHd h] = some (rB (decide (headOk h))) := mdl_eq aHd_inj h trivial
noncomputable def mTime := mdl (fun _ : Int => True) (fun n => [aI n]) (fun n => rB (decide (0 ≤ n ∧ n ≤ 1000000)))
theorem mTime_eq (n : Int) : mTime [aI n] = some (rB (decide (0 ≤ n ∧ n ≤ 1000000))) := mdl_eq (by intro a b h; simpa using h) n trivial
noncomputable def mHeight := mdl (fun _ : Int => True) (fun n => [aI n]) (fun n => rB (decide (1 ≤ n ∧ n ≤ 1000000)))
theorem mHeight_eq (n : Int) : mHeight [aI n] = some (rB (decide (1 ≤ n ∧ n ≤ 1000000))) := mdl_eq (by intro a b h; simpa using h) n trivial
theorem isHeight_s : Sound Try.prog 49 mHeight := by
  refine Sound.mdl Try.func49 rfl Try.ntmps49 ?_
  rintro n w -
  refine ⟨by simp, ?_⟩
  have hΓ : GSound Try.prog (look [(53, mWithin)]) := env_cons (has_of Try.func53 rfl rfl) within_s env_nil
  have c1 := mWithin_eq n 1 1000000
  simp only [initS, argPV, List.map_cons, List.map_nil, toPL, Nat.zero_add]
  repeat (first | with_reducible apply W.seq | with_reducible apply W.block | with_reducible apply W.skip | with_reducible apply W.exit | with_reducible apply W.ret | with_reducible apply At.seqN | with_reducible apply At.blkN | with_reducible apply At.blkE | with_reducible apply At.blkR | with_reducible apply At.thenX | with_reducible apply At.thenR | with_reducible apply At.blkX rfl | ((with_reducible apply W.ops); (repeat (first | refine WL.opA hΓ (h := ?_) | refine WL.opX hΓ (h := ?_) | refine WL.opY (h := ?_) | refine WL.opZ (h := ?_))); with_reducible apply WL.nil) | refine W.condT (h := ?_) | refine W.condF (h := ?_))
  refine At.retA (by rw [Try.results49]) (he := rfl)

end Go.Proofs.Ytimnogjgokljbaa
