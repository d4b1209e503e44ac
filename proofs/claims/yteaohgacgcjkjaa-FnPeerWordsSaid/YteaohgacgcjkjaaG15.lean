/-
  Put together: EvReq EvHdOk.
-/
import Derived.Test.YteaohgacgcjkjaaG14
section
/-!
  ShowReq of spec and impl.
-/
namespace Go.Proofs.Yteaohgacgcjkjaa
set_option maxRecDepth 100000
set_option linter.unusedVariables false
set_option linter.unusedSimpArgs false
open Go Go.RowKit
set_option maxHeartbeats 4000000

def reqOk (r : TReq) : Prop := (1 ≤ r.1 ∧ r.1 ≤ 3) ∧ (0 ≤ r.2.1 ∧ r.2.1 ≤ 1000000) ∧ (0 ≤ r.2.2 ∧ r.2.2 ≤ 100) ∧ (r.1 = 2 ∨ r.2.2 = 0) ∧ (¬ r.1 = 3 ∨ r.2.1 = 0)
instance (r : TReq) : Decidable (reqOk r) := by unfold reqOk; infer_instance
noncomputable def mReqOk := mdl (fun _ : TReq => True) (fun r => [aRq r]) (fun r => rB (decide (reqOk r)))
theorem mReqOk_eq (r : TReq) : mReqOk [aRq r] = some (rB (decide (reqOk r))) := mdl_eq aRq_inj r trivial
def showReq (r : TReq) : ByteArray := if reqOk r then varS r.1 ++ varS r.2.1 ++ varS r.2.2 else ByteArray.empty
noncomputable def mShowReq := mdl (fun _ : TReq => True) (fun r => [aRq r]) (fun r => rS (showReq r))
theorem mShowReq_eq (r : TReq) : mShowReq [aRq r] = some (rS (showReq r)) := mdl_eq aRq_inj r trivial
theorem showReq_no {r : TReq} (h : ¬ reqOk r) : showReq r = ByteArray.empty := if_neg h
theorem showReq_yes {r : TReq} (h : reqOk r) : showReq r = varS r.1 ++ varS r.2.1 ++ varS r.2.2 := if_pos h
theorem showReq_ne {r : TReq} (h : reqOk r) : ¬ showReq r = ByteArray.empty := by
  intro e
  have h1 := congrArg ByteArray.size e
  rw [showReq_yes h, ByteArray.size_append, ByteArray.size_append, ByteArray.size_empty] at h1
  have h2 := varS_pos (n := r.1) (by have := h.1; omega) (by have := h.1; omega)
  omega
theorem showReq_size (r : TReq) : (showReq r).size ≤ 21 := by
  by_cases h : reqOk r
  · rw [showReq_yes h, ByteArray.size_append, ByteArray.size_append]
    have h1 := varS_size r.1
    have h2 := varS_size r.2.1
    have h3 := varS_size r.2.2
    omega
  · rw [showReq_no h]; simp
theorem l23Ok_s : Sound Try.prog 93 mReqOk := by
  refine Sound.mdl Try.func93 rfl Try.ntmps93 ?_
  rintro ⟨k, f, m⟩ w -
  refine ⟨by simp, ?_⟩
  have hΓ : GSound Try.prog (look [(34, mIn)]) := env_cons (has_of Try.func34 rfl rfl) l1In_s env_nil
  have c1 := mIn_eq k 1 3
  have c2 := mIn_eq f 0 1000000
  have c3 := mIn_eq m 0 100
  simp only [initS, argPV, List.map_cons, List.map_nil, toPL, Nat.zero_add]
  rcases cases3 ((1 : Int) ≤ k ∧ k ≤ 3) ((0 : Int) ≤ f ∧ f ≤ 1000000) ((0 : Int) ≤ m ∧ m ≤ 100) with ⟨h1, h2, h3⟩ | h | h | h
  · by_cases k2 : k = 2
    · subst k2
      repeat (first | with_reducible (first | apply W.seq | apply W.block | apply W.skip | apply W.exit | apply W.ret | apply At.seqN | apply At.blkN | apply At.blkE | apply At.blkR | apply At.thenX | apply At.thenR | apply At.blkX rfl) | ((with_reducible apply W.ops); (repeat (first | refine WL.opA hΓ (h := ?_) | refine WL.opX hΓ (h := ?_) | refine WL.opY (h := ?_) | refine WL.opZ (h := ?_))); with_reducible apply WL.nil) | refine W.condT (h := ?_) | refine W.condF (h := ?_))
      refine At.retA (by rw [Try.results93]) (he := ?_)
      simp [reqOk, h2, h3]
    · by_cases m0 : m = 0
      · subst m0
        by_cases k3 : k = 3
        · subst k3
          by_cases f0 : f = 0
          · subst f0
            repeat (first | with_reducible (first | apply W.seq | apply W.block | apply W.skip | apply W.exit | apply W.ret | apply At.seqN | apply At.blkN | apply At.blkE | apply At.blkR | apply At.thenX | apply At.thenR | apply At.blkX rfl) | ((with_reducible apply W.ops); (repeat (first | refine WL.opA hΓ (h := ?_) | refine WL.opX hΓ (h := ?_) | refine WL.opY (h := ?_) | refine WL.opZ (h := ?_))); with_reducible apply WL.nil) | refine W.condT (h := ?_) | refine W.condF (h := ?_))
            refine At.retA (by rw [Try.results93]) (he := ?_)
            simp [reqOk]
          · repeat (first | with_reducible (first | apply W.seq | apply W.block | apply W.skip | apply W.exit | apply W.ret | apply At.seqN | apply At.blkN | apply At.blkE | apply At.blkR | apply At.thenX | apply At.thenR | apply At.blkX rfl) | ((with_reducible apply W.ops); (repeat (first | refine WL.opA hΓ (h := ?_) | refine WL.opX hΓ (h := ?_) | refine WL.opY (h := ?_) | refine WL.opZ (h := ?_))); with_reducible apply WL.nil) | refine W.condT (h := ?_) | refine W.condF (h := ?_))
            refine At.retA (by rw [Try.results93]) (he := ?_)
            simp [reqOk, f0]
        · repeat (first | with_reducible (first | apply W.seq | apply W.block | apply W.skip | apply W.exit | apply W.ret | apply At.seqN | apply At.blkN | apply At.blkE | apply At.blkR | apply At.thenX | apply At.thenR | apply At.blkX rfl) | ((with_reducible apply W.ops); (repeat (first | refine WL.opA hΓ (h := ?_) | refine WL.opX hΓ (h := ?_) | refine WL.opY (h := ?_) | refine WL.opZ (h := ?_))); with_reducible apply WL.nil) | refine W.condT (h := ?_) | refine W.condF (h := ?_))
          refine At.retA (by rw [Try.results93]) (he := ?_)
          simp [reqOk, h1, h2, k2, k3]
      · repeat (first | with_reducible (first | apply W.seq | apply W.block | apply W.skip | apply W.exit | apply W.ret | apply At.seqN | apply At.blkN | apply At.blkE | apply At.blkR | apply At.thenX | apply At.thenR | apply At.blkX rfl) | ((with_reducible apply W.ops); (repeat (first | refine WL.opA hΓ (h := ?_) | refine WL.opX hΓ (h := ?_) | refine WL.opY (h := ?_) | refine WL.opZ (h := ?_))); with_reducible apply WL.nil) | refine W.condT (h := ?_) | refine W.condF (h := ?_))
        refine At.retA (by rw [Try.results93]) (he := ?_)
        simp [reqOk, h1, h2, h3, k2, m0]
  all_goals
    repeat (first | with_reducible (first | apply W.seq | apply W.block | apply W.skip | apply W.exit | apply W.ret | apply At.seqN | apply At.blkN | apply At.blkE | apply At.blkR | apply At.thenX | apply At.thenR | apply At.blkX rfl) | ((with_reducible apply W.ops); (repeat (first | refine WL.opA hΓ (h := ?_) | refine WL.opX hΓ (h := ?_) | refine WL.opY (h := ?_) | refine WL.opZ (h := ?_))); with_reducible apply WL.nil) | refine W.condT (h := ?_) | refine W.condF (h := ?_))
    refine At.retA (by rw [Try.results93]) (he := ?_)
    simp [reqOk, h]
theorem showReqS_s : Sound Try.prog 71 mShowReq := by
  refine Sound.mdl Try.func71 rfl Try.ntmps71 ?_
  rintro ⟨k, f, m⟩ w -
  refine ⟨by simp, ?_⟩
  have hΓ : GSound Try.prog (look [(93, mReqOk), (70, mVar)]) := env_cons (has_of Try.func93 rfl rfl) l23Ok_s (env_cons (has_of Try.func70 rfl rfl) varSpec_s env_nil)
  have c1 := mReqOk_eq (k, f, m)
  dsimp only [aRq] at c1
  have c2 := mVar_eq
  have s1 := varS_size k
  have s2 := varS_size f
  have s3 := varS_size m
  have s4 := ByteArray.size_append (a := varS k) (b := varS f)
  simp only [initS, argPV, List.map_cons, List.map_nil, toPL, Nat.zero_add]
  by_cases h : reqOk (k, f, m)
  · repeat (first | with_reducible (first | apply W.seq | apply W.block | apply W.skip | apply W.exit | apply W.ret | apply At.seqN | apply At.blkN | apply At.blkE | apply At.blkR | apply At.thenX | apply At.thenR | apply At.blkX rfl) | ((with_reducible apply W.ops); (repeat (first | refine WL.opA hΓ (h := ?_) | refine WL.opX hΓ (h := ?_) | refine WL.opY (h := ?_) | refine WL.opZ (h := ?_))); with_reducible apply WL.nil) | refine W.condT (h := ?_) | refine W.condF (h := ?_))
    refine W.drawsA hΓ 12 [[], [0], [0, 1], [], [3], [0, 1, 2, 3, 4], [0, 1, 2, 3, 4, 5], [], [7], [0, 1, 2, 3, 4, 5, 7, 8], [0, 1, 2, 3, 4, 5, 6, 7, 8, 9], [0, 1, 2, 3, 4, 5, 6, 7, 8, 9, 10]] (rest := ?rest18) (Es := ?Es18) (st1 := ?st118) (h := ?h18) (hf := ?hf18) (hp := ?hp18) (hd := ?hd18) (hfr := ?hfr18) (hst := ?hst18) (hT := ?hT18)
    case h18 => kernel_rfl
    case hf18 =>
      repeat (first | refine FlowT.opA (h := ?_) | refine FlowT.opX (h := ?_) | refine FlowT.opY (h := ?_) | refine FlowT.opZ (h := ?_))
      exact FlowT.done
    case hp18 => rfl
    case hd18 => rfl
    case hfr18 => rfl
    case hst18 =>
      simp only [pick_nil, pick_all, List.cons_append, List.nil_append]
      rfl
    (repeat (first | refine WL.opA hΓ (h := ?_) | refine WL.opX hΓ (h := ?_) | refine WL.opY (h := ?_) | refine WL.opZ (h := ?_)))
    with_reducible apply WL.nil
    repeat (first | with_reducible (first | apply W.seq | apply W.block | apply W.skip | apply W.exit | apply W.ret | apply At.seqN | apply At.blkN | apply At.blkE | apply At.blkR | apply At.thenX | apply At.thenR | apply At.blkX rfl) | ((with_reducible apply W.ops); (repeat (first | refine WL.opA hΓ (h := ?_) | refine WL.opX hΓ (h := ?_) | refine WL.opY (h := ?_) | refine WL.opZ (h := ?_))); with_reducible apply WL.nil) | refine W.condT (h := ?_) | refine W.condF (h := ?_))
    refine At.retA (by rw [Try.results71]) (he := ?_)
    rw [showReq_yes h]
  · repeat (first | with_reducible (first | apply W.seq | apply W.block | apply W.skip | apply W.exit | apply W.ret | apply At.seqN | apply At.blkN | apply At.blkE | apply At.blkR | apply At.thenX | apply At.thenR | apply At.blkX rfl) | ((with_reducible apply W.ops); (repeat (first | refine WL.opA hΓ (h := ?_) | refine WL.opX hΓ (h := ?_) | refine WL.opY (h := ?_) | refine WL.opZ (h := ?_))); with_reducible apply WL.nil) | refine W.condT (h := ?_) | refine W.condF (h := ?_))
    refine At.retA (by rw [Try.results71]) (he := ?_)
    rw [showReq_no h]
    rfl
theorem showReqI_s : Sound Try.prog 67 mShowReq := by
  refine Sound.mdl Try.func67 rfl Try.ntmps67 ?_
  rintro ⟨k, f, m⟩ w -
  refine ⟨by simp, ?_⟩
  have hΓ : GSound Try.prog (look [(77, mWithin), (66, mVar)]) := env_cons (has_of Try.func77 rfl rfl) within_s (env_cons (has_of Try.func66 rfl rfl) varImpl_s env_nil)
  have c1 := mWithin_eq
  have c2 := mVar_eq
  have s1 := varS_size k
  have s2 := varS_size f
  have s3 := varS_size m
  have s4 := ByteArray.size_append (a := varS k) (b := varS f)
  simp only [initS, argPV, List.map_cons, List.map_nil, toPL, Nat.zero_add]
  by_cases k2 : k = 2
  · subst k2
    by_cases h2 : 0 ≤ f ∧ f ≤ 1000000
    · by_cases h3 : 0 ≤ m ∧ m ≤ 100
      · have h : reqOk (2, f, m) := ⟨⟨by omega, by omega⟩, h2, h3, .inl rfl, .inl (by omega)⟩
        repeat (first | with_reducible (first | apply W.seq | apply W.block | apply W.skip | apply W.exit | apply W.ret | apply At.seqN | apply At.blkN | apply At.blkE | apply At.blkR | apply At.thenX | apply At.thenR | apply At.blkX rfl) | ((with_reducible apply W.ops); (repeat (first | refine WL.opA hΓ (h := ?_) | refine WL.opX hΓ (h := ?_) | refine WL.opY (h := ?_) | refine WL.opZ (h := ?_))); with_reducible apply WL.nil) | refine W.condT (h := ?_) | refine W.condF (h := ?_))
        refine W.drawsA hΓ 12 [[], [0], [0, 1], [], [3], [0, 1, 2, 3, 4], [0, 1, 2, 3, 4, 5], [], [7], [0, 1, 2, 3, 4, 5, 7, 8], [0, 1, 2, 3, 4, 5, 6, 7, 8, 9], [0, 1, 2, 3, 4, 5, 6, 7, 8, 9, 10]] (rest := ?rest26) (Es := ?Es26) (st1 := ?st126) (h := ?h26) (hf := ?hf26) (hp := ?hp26) (hd := ?hd26) (hfr := ?hfr26) (hst := ?hst26) (hT := ?hT26)
        case h26 => kernel_rfl
        case hf26 =>
          repeat (first | refine FlowT.opA (h := ?_) | refine FlowT.opX (h := ?_) | refine FlowT.opY (h := ?_) | refine FlowT.opZ (h := ?_))
          exact FlowT.done
        case hp26 => rfl
        case hd26 => rfl
        case hfr26 => rfl
        case hst26 =>
          simp only [pick_nil, pick_all, List.cons_append, List.nil_append]
          rfl
        (repeat (first | refine WL.opA hΓ (h := ?_) | refine WL.opX hΓ (h := ?_) | refine WL.opY (h := ?_) | refine WL.opZ (h := ?_)))
        with_reducible apply WL.nil
        repeat (first | with_reducible (first | apply W.seq | apply W.block | apply W.skip | apply W.exit | apply W.ret | apply At.seqN | apply At.blkN | apply At.blkE | apply At.blkR | apply At.thenX | apply At.thenR | apply At.blkX rfl) | ((with_reducible apply W.ops); (repeat (first | refine WL.opA hΓ (h := ?_) | refine WL.opX hΓ (h := ?_) | refine WL.opY (h := ?_) | refine WL.opZ (h := ?_))); with_reducible apply WL.nil) | refine W.condT (h := ?_) | refine W.condF (h := ?_))
        refine At.retA (by rw [Try.results67]) (he := ?_)
        rw [showReq_yes h]
      · have h : ¬ reqOk (2, f, m) := fun h => h3 h.2.2.1
        repeat (first | with_reducible (first | apply W.seq | apply W.block | apply W.skip | apply W.exit | apply W.ret | apply At.seqN | apply At.blkN | apply At.blkE | apply At.blkR | apply At.thenX | apply At.thenR | apply At.blkX rfl) | ((with_reducible apply W.ops); (repeat (first | refine WL.opA hΓ (h := ?_) | refine WL.opX hΓ (h := ?_) | refine WL.opY (h := ?_) | refine WL.opZ (h := ?_))); with_reducible apply WL.nil) | refine W.condT (h := ?_) | refine W.condF (h := ?_))
        refine At.retA (by rw [Try.results67]) (he := ?_)
        rw [showReq_no h]
        rfl
    · have h : ¬ reqOk (2, f, m) := fun h => h2 h.2.1
      repeat (first | with_reducible (first | apply W.seq | apply W.block | apply W.skip | apply W.exit | apply W.ret | apply At.seqN | apply At.blkN | apply At.blkE | apply At.blkR | apply At.thenX | apply At.thenR | apply At.blkX rfl) | ((with_reducible apply W.ops); (repeat (first | refine WL.opA hΓ (h := ?_) | refine WL.opX hΓ (h := ?_) | refine WL.opY (h := ?_) | refine WL.opZ (h := ?_))); with_reducible apply WL.nil) | refine W.condT (h := ?_) | refine W.condF (h := ?_))
      refine At.retA (by rw [Try.results67]) (he := ?_)
      rw [showReq_no h]
      rfl
  · by_cases k3 : k = 3
    · subst k3
      by_cases h2 : 0 ≤ f ∧ f ≤ 0
      · by_cases h3 : 0 ≤ m ∧ m ≤ 0
        · have h : reqOk (3, f, m) := ⟨⟨by omega, by omega⟩, ⟨h2.1, by dsimp only; omega⟩, ⟨h3.1, by dsimp only; omega⟩, .inr (by dsimp only; omega), .inr (by dsimp only; omega)⟩
          repeat (first | with_reducible (first | apply W.seq | apply W.block | apply W.skip | apply W.exit | apply W.ret | apply At.seqN | apply At.blkN | apply At.blkE | apply At.blkR | apply At.thenX | apply At.thenR | apply At.blkX rfl) | ((with_reducible apply W.ops); (repeat (first | refine WL.opA hΓ (h := ?_) | refine WL.opX hΓ (h := ?_) | refine WL.opY (h := ?_) | refine WL.opZ (h := ?_))); with_reducible apply WL.nil) | refine W.condT (h := ?_) | refine W.condF (h := ?_))
          refine W.drawsA hΓ 12 [[], [0], [0, 1], [], [3], [0, 1, 2, 3, 4], [0, 1, 2, 3, 4, 5], [], [7], [0, 1, 2, 3, 4, 5, 7, 8], [0, 1, 2, 3, 4, 5, 6, 7, 8, 9], [0, 1, 2, 3, 4, 5, 6, 7, 8, 9, 10]] (rest := ?rest34) (Es := ?Es34) (st1 := ?st134) (h := ?h34) (hf := ?hf34) (hp := ?hp34) (hd := ?hd34) (hfr := ?hfr34) (hst := ?hst34) (hT := ?hT34)
          case h34 => kernel_rfl
          case hf34 =>
            repeat (first | refine FlowT.opA (h := ?_) | refine FlowT.opX (h := ?_) | refine FlowT.opY (h := ?_) | refine FlowT.opZ (h := ?_))
            exact FlowT.done
          case hp34 => rfl
          case hd34 => rfl
          case hfr34 => rfl
          case hst34 =>
            simp only [pick_nil, pick_all, List.cons_append, List.nil_append]
            rfl
          (repeat (first | refine WL.opA hΓ (h := ?_) | refine WL.opX hΓ (h := ?_) | refine WL.opY (h := ?_) | refine WL.opZ (h := ?_)))
          with_reducible apply WL.nil
          repeat (first | with_reducible (first | apply W.seq | apply W.block | apply W.skip | apply W.exit | apply W.ret | apply At.seqN | apply At.blkN | apply At.blkE | apply At.blkR | apply At.thenX | apply At.thenR | apply At.blkX rfl) | ((with_reducible apply W.ops); (repeat (first | refine WL.opA hΓ (h := ?_) | refine WL.opX hΓ (h := ?_) | refine WL.opY (h := ?_) | refine WL.opZ (h := ?_))); with_reducible apply WL.nil) | refine W.condT (h := ?_) | refine W.condF (h := ?_))
          refine At.retA (by rw [Try.results67]) (he := ?_)
          rw [showReq_yes h]
        · have h : ¬ reqOk (3, f, m) := fun ⟨a, b, c, d, e⟩ => by dsimp only at *; omega
          repeat (first | with_reducible (first | apply W.seq | apply W.block | apply W.skip | apply W.exit | apply W.ret | apply At.seqN | apply At.blkN | apply At.blkE | apply At.blkR | apply At.thenX | apply At.thenR | apply At.blkX rfl) | ((with_reducible apply W.ops); (repeat (first | refine WL.opA hΓ (h := ?_) | refine WL.opX hΓ (h := ?_) | refine WL.opY (h := ?_) | refine WL.opZ (h := ?_))); with_reducible apply WL.nil) | refine W.condT (h := ?_) | refine W.condF (h := ?_))
          refine At.retA (by rw [Try.results67]) (he := ?_)
          rw [showReq_no h]
          rfl
      · have h : ¬ reqOk (3, f, m) := fun ⟨a, b, c, d, e⟩ => by dsimp only at *; omega
        repeat (first | with_reducible (first | apply W.seq | apply W.block | apply W.skip | apply W.exit | apply W.ret | apply At.seqN | apply At.blkN | apply At.blkE | apply At.blkR | apply At.thenX | apply At.thenR | apply At.blkX rfl) | ((with_reducible apply W.ops); (repeat (first | refine WL.opA hΓ (h := ?_) | refine WL.opX hΓ (h := ?_) | refine WL.opY (h := ?_) | refine WL.opZ (h := ?_))); with_reducible apply WL.nil) | refine W.condT (h := ?_) | refine W.condF (h := ?_))
        refine At.retA (by rw [Try.results67]) (he := ?_)
        rw [showReq_no h]
        rfl
    · by_cases k1 : k = 1
      · subst k1
        by_cases h2 : 0 ≤ f ∧ f ≤ 1000000
        · by_cases h3 : 0 ≤ m ∧ m ≤ 0
          · have h : reqOk (1, f, m) := ⟨⟨by omega, by omega⟩, h2, ⟨h3.1, by dsimp only; omega⟩, .inr (by dsimp only; omega), .inl (by dsimp only; omega)⟩
            repeat (first | with_reducible (first | apply W.seq | apply W.block | apply W.skip | apply W.exit | apply W.ret | apply At.seqN | apply At.blkN | apply At.blkE | apply At.blkR | apply At.thenX | apply At.thenR | apply At.blkX rfl) | ((with_reducible apply W.ops); (repeat (first | refine WL.opA hΓ (h := ?_) | refine WL.opX hΓ (h := ?_) | refine WL.opY (h := ?_) | refine WL.opZ (h := ?_))); with_reducible apply WL.nil) | refine W.condT (h := ?_) | refine W.condF (h := ?_))
            refine W.drawsA hΓ 12 [[], [0], [0, 1], [], [3], [0, 1, 2, 3, 4], [0, 1, 2, 3, 4, 5], [], [7], [0, 1, 2, 3, 4, 5, 7, 8], [0, 1, 2, 3, 4, 5, 6, 7, 8, 9], [0, 1, 2, 3, 4, 5, 6, 7, 8, 9, 10]] (rest := ?rest42) (Es := ?Es42) (st1 := ?st142) (h := ?h42) (hf := ?hf42) (hp := ?hp42) (hd := ?hd42) (hfr := ?hfr42) (hst := ?hst42) (hT := ?hT42)
            case h42 => kernel_rfl
            case hf42 =>
              repeat (first | refine FlowT.opA (h := ?_) | refine FlowT.opX (h := ?_) | refine FlowT.opY (h := ?_) | refine FlowT.opZ (h := ?_))
              exact FlowT.done
            case hp42 => rfl
            case hd42 => rfl
            case hfr42 => rfl
            case hst42 =>
              simp only [pick_nil, pick_all, List.cons_append, List.nil_append]
              rfl
            (repeat (first | refine WL.opA hΓ (h := ?_) | refine WL.opX hΓ (h := ?_) | refine WL.opY (h := ?_) | refine WL.opZ (h := ?_)))
            with_reducible apply WL.nil
            repeat (first | with_reducible (first | apply W.seq | apply W.block | apply W.skip | apply W.exit | apply W.ret | apply At.seqN | apply At.blkN | apply At.blkE | apply At.blkR | apply At.thenX | apply At.thenR | apply At.blkX rfl) | ((with_reducible apply W.ops); (repeat (first | refine WL.opA hΓ (h := ?_) | refine WL.opX hΓ (h := ?_) | refine WL.opY (h := ?_) | refine WL.opZ (h := ?_))); with_reducible apply WL.nil) | refine W.condT (h := ?_) | refine W.condF (h := ?_))
            refine At.retA (by rw [Try.results67]) (he := ?_)
            rw [showReq_yes h]
          · have h : ¬ reqOk (1, f, m) := fun ⟨a, b, c, d, e⟩ => by dsimp only at *; omega
            repeat (first | with_reducible (first | apply W.seq | apply W.block | apply W.skip | apply W.exit | apply W.ret | apply At.seqN | apply At.blkN | apply At.blkE | apply At.blkR | apply At.thenX | apply At.thenR | apply At.blkX rfl) | ((with_reducible apply W.ops); (repeat (first | refine WL.opA hΓ (h := ?_) | refine WL.opX hΓ (h := ?_) | refine WL.opY (h := ?_) | refine WL.opZ (h := ?_))); with_reducible apply WL.nil) | refine W.condT (h := ?_) | refine W.condF (h := ?_))
            refine At.retA (by rw [Try.results67]) (he := ?_)
            rw [showReq_no h]
            rfl
        · have h : ¬ reqOk (1, f, m) := fun h => h2 h.2.1
          repeat (first | with_reducible (first | apply W.seq | apply W.block | apply W.skip | apply W.exit | apply W.ret | apply At.seqN | apply At.blkN | apply At.blkE | apply At.blkR | apply At.thenX | apply At.thenR | apply At.blkX rfl) | ((with_reducible apply W.ops); (repeat (first | refine WL.opA hΓ (h := ?_) | refine WL.opX hΓ (h := ?_) | refine WL.opY (h := ?_) | refine WL.opZ (h := ?_))); with_reducible apply WL.nil) | refine W.condT (h := ?_) | refine W.condF (h := ?_))
          refine At.retA (by rw [Try.results67]) (he := ?_)
          rw [showReq_no h]
          rfl
      · have h : ¬ reqOk (k, f, m) := fun ⟨a, b, c, d, e⟩ => by dsimp only at *; omega
        repeat (first | with_reducible (first | apply W.seq | apply W.block | apply W.skip | apply W.exit | apply W.ret | apply At.seqN | apply At.blkN | apply At.blkE | apply At.blkR | apply At.thenX | apply At.thenR | apply At.blkX rfl) | ((with_reducible apply W.ops); (repeat (first | refine WL.opA hΓ (h := ?_) | refine WL.opX hΓ (h := ?_) | refine WL.opY (h := ?_) | refine WL.opZ (h := ?_))); with_reducible apply WL.nil) | refine W.condT (h := ?_) | refine W.condF (h := ?_))
        refine At.retA (by rw [Try.results67]) (he := ?_)
        rw [showReq_no h]
        rfl


end Go.Proofs.Yteaohgacgcjkjaa

end
section
/-!
  HeaderOk of spec and impl.
-/
namespace Go.Proofs.Yteaohgacgcjkjaa
set_option maxRecDepth 100000
set_option linter.unusedVariables false
set_option linter.unusedSimpArgs false
open Go Go.RowKit
set_option maxHeartbeats 4000000

theorem headS_s : Sound Try.prog 73 mHead := by
  refine Sound.mdl Try.func73 rfl Try.ntmps73 ?_
  rintro ⟨h, t, la, va, ne, da⟩ w -
  refine ⟨by simp, ?_⟩
  have hΓ : GSound Try.prog (look [(34, mIn)]) := env_cons (has_of Try.func34 rfl rfl) l1In_s env_nil
  have c1 := mIn_eq h 1 1000000
  have c2 := mIn_eq t 0 1000000
  simp only [initS, argPV, List.map_cons, List.map_nil, toPL, Nat.zero_add]
  by_cases e1 : h = 1
  · subst e1
    rcases cases5 ((0 : Int) ≤ t ∧ t ≤ 1000000) ((va.size : Int) = 8) ((ne.size : Int) = 8) ((la.size : Int) = 0) ((da.size : Int) ≤ 20) with h | h | h | h | h | h
    all_goals
      repeat (first | with_reducible (first | apply W.seq | apply W.block | apply W.skip | apply W.exit | apply W.ret | apply At.seqN | apply At.blkN | apply At.blkE | apply At.blkR | apply At.thenX | apply At.thenR | apply At.blkX rfl) | ((with_reducible apply W.ops); (repeat (first | refine WL.opA hΓ (h := ?_) | refine WL.opX hΓ (h := ?_) | refine WL.opY (h := ?_) | refine WL.opZ (h := ?_))); with_reducible apply WL.nil) | refine W.condT (h := ?_) | refine W.condF (h := ?_))
      refine At.retA (by rw [Try.results73]) (he := ?_)
      first
        | (simp [headOk, lastN, h]; done)
        | (simp [headOk, lastN, h]; intro e; subst e; simp at h)
  · rcases cases6 ((1 : Int) ≤ h ∧ h ≤ 1000000) ((0 : Int) ≤ t ∧ t ≤ 1000000) ((va.size : Int) = 8) ((ne.size : Int) = 8) ((la.size : Int) = 8) ((da.size : Int) ≤ 20) with h | h | h | h | h | h | h
    all_goals
      repeat (first | with_reducible (first | apply W.seq | apply W.block | apply W.skip | apply W.exit | apply W.ret | apply At.seqN | apply At.blkN | apply At.blkE | apply At.blkR | apply At.thenX | apply At.thenR | apply At.blkX rfl) | ((with_reducible apply W.ops); (repeat (first | refine WL.opA hΓ (h := ?_) | refine WL.opX hΓ (h := ?_) | refine WL.opY (h := ?_) | refine WL.opZ (h := ?_))); with_reducible apply WL.nil) | refine W.condT (h := ?_) | refine W.condF (h := ?_))
      refine At.retA (by rw [Try.results73]) (he := ?_)
      simp [headOk, lastN, h, e1]
theorem headI_s : Sound Try.prog 89 mHead := by
  refine Sound.mdl Try.func89 rfl Try.ntmps89 ?_
  rintro ⟨h, t, la, va, ne, da⟩ w -
  refine ⟨by simp, ?_⟩
  have hΓ : GSound Try.prog (look [(38, mHeight), (100, mTime)]) := env_cons (has_of Try.func38 rfl rfl) isHeight_s (env_cons (has_of Try.func100 rfl rfl) isTime_s env_nil)
  have c1 := mHeight_eq h
  have c2 := mTime_eq t
  simp only [initS, argPV, List.map_cons, List.map_nil, toPL, Nat.zero_add]
  by_cases e1 : h = 1
  · subst e1
    rcases cases5 ((0 : Int) ≤ t ∧ t ≤ 1000000) ((va.size : Int) = 8) ((ne.size : Int) = 8) ((la.size : Int) = 0) ((da.size : Int) ≤ 20) with h | h | h | h | h | h
    all_goals
      repeat (first | with_reducible (first | apply W.seq | apply W.block | apply W.skip | apply W.exit | apply W.ret | apply At.seqN | apply At.blkN | apply At.blkE | apply At.blkR | apply At.thenX | apply At.thenR | apply At.blkX rfl) | ((with_reducible apply W.ops); (repeat (first | refine WL.opA hΓ (h := ?_) | refine WL.opX hΓ (h := ?_) | refine WL.opY (h := ?_) | refine WL.opZ (h := ?_))); with_reducible apply WL.nil) | refine W.condT (h := ?_) | refine W.condF (h := ?_))
      refine At.retA (by rw [Try.results89]) (he := ?_)
      first
        | (simp [headOk, lastN, h]; done)
        | (simp [headOk, lastN, h]; intro e; subst e; simp at h)
  · rcases cases6 ((1 : Int) ≤ h ∧ h ≤ 1000000) ((0 : Int) ≤ t ∧ t ≤ 1000000) ((va.size : Int) = 8) ((ne.size : Int) = 8) ((la.size : Int) = 8) ((da.size : Int) ≤ 20) with h | h | h | h | h | h | h
    all_goals
      repeat (first | with_reducible (first | apply W.seq | apply W.block | apply W.skip | apply W.exit | apply W.ret | apply At.seqN | apply At.blkN | apply At.blkE | apply At.blkR | apply At.thenX | apply At.thenR | apply At.blkX rfl) | ((with_reducible apply W.ops); (repeat (first | refine WL.opA hΓ (h := ?_) | refine WL.opX hΓ (h := ?_) | refine WL.opY (h := ?_) | refine WL.opZ (h := ?_))); with_reducible apply WL.nil) | refine W.condT (h := ?_) | refine W.condF (h := ?_))
      refine At.retA (by rw [Try.results89]) (he := ?_)
      simp [headOk, lastN, h, e1]


end Go.Proofs.Yteaohgacgcjkjaa

end
