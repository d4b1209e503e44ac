/-
  Small functions of the law of Grown: at, sameTexts, MuchAlike.
-/
import Derived.Test.YteaohgacgcjkjaaDoorEvFresh
import Derived.Test.YteaohgacgcjkjaaDoorEvStrLaw
namespace Go.Proofs.YteaohgacgcjkjaaDoor
set_option maxRecDepth 100000
set_option linter.unusedVariables false
set_option linter.unusedSimpArgs false
open Go Go.RowKit
set_option maxHeartbeats 4000000

/-- byte i of a code, or one that follows from it -/
def atC (bs : List Nat) (i : Int) : Int := if i < bs.length then ((bs.getD i.toNat 0 : Nat) : Int) else (i * 37 + bs.length * 11).tmod 256
abbrev okAt (x : List Nat × Int) : Prop := ((∀ n ∈ x.1, n < 256) ∧ x.1.length ≤ 1048576) ∧ 0 ≤ x.2 ∧ x.2 ≤ 1000
noncomputable def mAt := mdl okAt (fun x => [aL cU8 x.1, aI x.2]) (fun x => rI (atC x.1 x.2))
theorem encAt_inj : ∀ x y : List Nat × Int, ([aL cU8 x.1, aI x.2] : List Arg) = [aL cU8 y.1, aI y.2] → x = y := by
  rintro ⟨a, b⟩ ⟨d, e⟩ h
  simpa [rowsF_U8] using h
theorem mAt_eq (bs : List Nat) (i : Int) (h : okAt (bs, i)) : mAt [aL cU8 bs, aI i] = some (rI (atC bs i)) := mdl_eq encAt_inj (bs, i) h
theorem atC_range {bs : List Nat} {i : Int} (h : okAt (bs, i)) : 0 ≤ atC bs i ∧ atC bs i < 256 := by
  obtain ⟨⟨h1, h2⟩, h3, h4⟩ := h
  dsimp only at h1 h2 h3 h4
  unfold atC
  split
  · rename_i hl
    rw [List.getD_eq_getElem?_getD, List.getElem?_eq_getElem (by omega)]
    have := h1 (bs[i.toNat]'(by omega)) (List.getElem_mem _)
    simp only [Option.getD_some]
    omega
  · rw [Int.tmod_eq_emod_of_nonneg (by omega)]
    omega
theorem at_s : Sound Tryd.prog 6 mAt := by
  refine Sound.mdl Tryd.func6 rfl Tryd.ntmps6 ?_
  rintro ⟨bs, i⟩ w ⟨⟨hb, hl⟩, h0, h1⟩
  refine ⟨by simp, ?_⟩
  dsimp only at hb hl h0 h1
  have hΓ : GSound Tryd.prog (look []) := env_nil
  have hlen := rowsF_len cU8 bs
  simp only [initS, argPV, List.map_cons, List.map_nil, toPL, Nat.zero_add]
  by_cases hi : i < bs.length
  · have hrow : (rowsF cU8 bs)[i.toNat]? = some [.sc (.int .u8 ((bs[i.toNat]'(by omega) : Nat) : Int))] := rowsF_get cU8 bs i.toNat (by omega)
    have hn := hb (bs[i.toNat]'(by omega)) (List.getElem_mem _)
    have hv : atC bs i = ((bs[i.toNat]'(by omega) : Nat) : Int) := by
      unfold atC
      rw [if_pos hi, List.getD_eq_getElem?_getD, List.getElem?_eq_getElem (by omega)]
      rfl
    clear hb
    generalize bs[i.toNat]'(by omega) = n at hrow hn hv
    repeat (first | with_reducible apply W.seq | with_reducible apply W.block | with_reducible apply W.skip | with_reducible apply W.exit | with_reducible apply W.ret | with_reducible apply At.seqN | with_reducible apply At.blkN | with_reducible apply At.blkE | with_reducible apply At.blkR | with_reducible apply At.thenX | with_reducible apply At.thenR | with_reducible apply At.blkX rfl | ((with_reducible apply W.ops); (repeat (first | refine WL.opA hΓ (h := ?_) | refine WL.opX hΓ (h := ?_) | refine WL.opY (h := ?_) | refine WL.opZ (h := ?_))); with_reducible apply WL.nil) | refine W.condT (h := ?_) | refine W.condF (h := ?_))
    refine At.retA (by rw [Tryd.results6]) (he := ?_)
    rw [hv]
  · have hv : atC bs i = (i * 37 + bs.length * 11).tmod 256 := by unfold atC; rw [if_neg hi]
    have hnz : ((256 : Int) = 0) = False := by simp
    clear hb
    repeat (first | with_reducible apply W.seq | with_reducible apply W.block | with_reducible apply W.skip | with_reducible apply W.exit | with_reducible apply W.ret | with_reducible apply At.seqN | with_reducible apply At.blkN | with_reducible apply At.blkE | with_reducible apply At.blkR | with_reducible apply At.thenX | with_reducible apply At.thenR | with_reducible apply At.blkX rfl | ((with_reducible apply W.ops); (repeat (first | refine WL.opA hΓ (h := ?_) | refine WL.opX hΓ (h := ?_) | refine WL.opY (h := ?_) | refine WL.opZ (h := ?_))); with_reducible apply WL.nil) | refine W.condT (h := ?_) | refine W.condF (h := ?_))
    refine At.retA (by rw [Tryd.results6]) (he := ?_)
    rw [hv]
theorem sameT_s : Sound Tryd.prog 10 mEqSS := by
  refine Sound.mdl Tryd.func10 rfl Tryd.ntmps10 ?_
  rintro ⟨a, b⟩ w ⟨ha, hb⟩
  refine ⟨by simp, ?_⟩
  dsimp only at ha hb
  have hΓ : GSound Tryd.prog (look []) := env_nil
  have hl1 := rowsF_len cStr a
  have hl2 := rowsF_len cStr b
  simp only [initS, argPV, List.map_cons, List.map_nil, toPL, Nat.zero_add]
  by_cases hl : a.length = b.length
  · have hln : decide ((a.length : Int) = (b.length : Int)) = true := by simp [hl]
    repeat (first | with_reducible apply W.seq | with_reducible apply W.block | with_reducible apply W.skip | with_reducible apply W.exit | with_reducible apply W.ret | with_reducible apply At.seqN | with_reducible apply At.blkN | with_reducible apply At.blkE | with_reducible apply At.blkR | with_reducible apply At.thenX | with_reducible apply At.thenR | with_reducible apply At.blkX rfl | ((with_reducible apply W.ops); (repeat (first | refine WL.opA hΓ (h := ?_) | refine WL.opX hΓ (h := ?_) | refine WL.opY (h := ?_) | refine WL.opZ (h := ?_))); with_reducible apply WL.nil) | refine W.condT (h := ?_) | refine W.condF (h := ?_))
    refine W.loopA (fun k => k ≤ a.length ∧ ∀ j, j < k → a.getD j ByteArray.empty = b.getD j ByteArray.empty) (fun k : Nat => [.slot 5 (vI k), .slot 0 (vL cStr a), .slot 1 (vL cStr b)]) (fun k => a.length - k) 0 ⟨Nat.zero_le _, fun j hj => by omega⟩ (h := ?_)
    rintro k ⟨hk, hI⟩
    by_cases hlt : k < a.length
    · have hr1 := row_s (l := a) hlt
      have hr2 := row_s (l := b) (k := k) (by omega)
      by_cases he : a.getD k ByteArray.empty = b.getD k ByteArray.empty
      · have hnx : ∀ j, j < k + 1 → a.getD j ByteArray.empty = b.getD j ByteArray.empty := fun j hj => by
          rcases Nat.lt_succ_iff_lt_or_eq.1 hj with h1 | rfl
          · exact hI j h1
          · exact he
        clear hI
        generalize a.getD k ByteArray.empty = x at hr1 he
        generalize b.getD k ByteArray.empty = y at hr2 he
        subst he
        have hd : decide (x = x) = true := by simp
        repeat (first | with_reducible apply W.seq | with_reducible apply W.block | with_reducible apply W.skip | with_reducible apply W.exit | with_reducible apply W.ret | with_reducible apply At.seqN | with_reducible apply At.blkN | with_reducible apply At.blkE | with_reducible apply At.blkR | with_reducible apply At.thenX | with_reducible apply At.thenR | with_reducible apply At.blkX rfl | ((with_reducible apply W.ops); (repeat (first | refine WL.opA hΓ (h := ?_) | refine WL.opX hΓ (h := ?_) | refine WL.opY (h := ?_) | refine WL.opZ (h := ?_))); with_reducible apply WL.nil) | refine W.condT (h := ?_) | refine W.condF (h := ?_))
        refine W.drawsA hΓ 9 [[], [], [0, 1], [0, 1, 2], [], [], [4, 5], [4, 5, 6], [0, 1, 2, 3, 4, 5, 6, 7]] (rest := ?rest11) (Es := ?Es11) (st1 := ?st111) (h := ?h11) (hf := ?hf11) (hp := ?hp11) (hd := ?hd11) (hfr := ?hfr11) (hst := ?hst11) (hT := ?hT11)
        case h11 => kernel_rfl
        case hf11 =>
          repeat (first | refine FlowT.opA (h := ?_) | refine FlowT.opX (h := ?_) | refine FlowT.opY (h := ?_) | refine FlowT.opZ (h := ?_))
          exact FlowT.done
        case hp11 => rfl
        case hd11 => rfl
        case hfr11 => rfl
        case hst11 =>
          simp only [pick_nil, pick_all, List.cons_append, List.nil_append]
          rfl
        (repeat (first | refine WL.opA hΓ (h := ?_) | refine WL.opX hΓ (h := ?_) | refine WL.opY (h := ?_) | refine WL.opZ (h := ?_)))
        with_reducible apply WL.nil
        repeat (first | with_reducible apply W.seq | with_reducible apply W.block | with_reducible apply W.skip | with_reducible apply W.exit | with_reducible apply W.ret | with_reducible apply At.seqN | with_reducible apply At.blkN | with_reducible apply At.blkE | with_reducible apply At.blkR | with_reducible apply At.thenX | with_reducible apply At.thenR | with_reducible apply At.blkX rfl | ((with_reducible apply W.ops); (repeat (first | refine WL.opA hΓ (h := ?_) | refine WL.opX hΓ (h := ?_) | refine WL.opY (h := ?_) | refine WL.opZ (h := ?_))); with_reducible apply WL.nil) | refine W.condT (h := ?_) | refine W.condF (h := ?_))
        exact At.roundA (k + 1) ⟨by omega, hnx⟩ (by omega)
      · have hne : a ≠ b := fun e => he (by rw [e])
        have hd : decide (a.getD k ByteArray.empty = b.getD k ByteArray.empty) = false := decide_eq_false he
        clear hI
        generalize a.getD k ByteArray.empty = x at hr1 hd
        generalize b.getD k ByteArray.empty = y at hr2 hd
        clear he
        repeat (first | with_reducible apply W.seq | with_reducible apply W.block | with_reducible apply W.skip | with_reducible apply W.exit | with_reducible apply W.ret | with_reducible apply At.seqN | with_reducible apply At.blkN | with_reducible apply At.blkE | with_reducible apply At.blkR | with_reducible apply At.thenX | with_reducible apply At.thenR | with_reducible apply At.blkX rfl | ((with_reducible apply W.ops); (repeat (first | refine WL.opA hΓ (h := ?_) | refine WL.opX hΓ (h := ?_) | refine WL.opY (h := ?_) | refine WL.opZ (h := ?_))); with_reducible apply WL.nil) | refine W.condT (h := ?_) | refine W.condF (h := ?_))
        refine W.drawsA hΓ 9 [[], [], [0, 1], [0, 1, 2], [], [], [4, 5], [4, 5, 6], [0, 1, 2, 3, 4, 5, 6, 7]] (rest := ?rest14) (Es := ?Es14) (st1 := ?st114) (h := ?h14) (hf := ?hf14) (hp := ?hp14) (hd := ?hd14) (hfr := ?hfr14) (hst := ?hst14) (hT := ?hT14)
        case h14 => kernel_rfl
        case hf14 =>
          repeat (first | refine FlowT.opA (h := ?_) | refine FlowT.opX (h := ?_) | refine FlowT.opY (h := ?_) | refine FlowT.opZ (h := ?_))
          exact FlowT.done
        case hp14 => rfl
        case hd14 => rfl
        case hfr14 => rfl
        case hst14 =>
          simp only [pick_nil, pick_all, List.cons_append, List.nil_append]
          rfl
        (repeat (first | refine WL.opA hΓ (h := ?_) | refine WL.opX hΓ (h := ?_) | refine WL.opY (h := ?_) | refine WL.opZ (h := ?_)))
        with_reducible apply WL.nil
        repeat (first | with_reducible apply W.seq | with_reducible apply W.block | with_reducible apply W.skip | with_reducible apply W.exit | with_reducible apply W.ret | with_reducible apply At.seqN | with_reducible apply At.blkN | with_reducible apply At.blkE | with_reducible apply At.blkR | with_reducible apply At.thenX | with_reducible apply At.thenR | with_reducible apply At.blkX rfl | ((with_reducible apply W.ops); (repeat (first | refine WL.opA hΓ (h := ?_) | refine WL.opX hΓ (h := ?_) | refine WL.opY (h := ?_) | refine WL.opZ (h := ?_))); with_reducible apply WL.nil) | refine W.condT (h := ?_) | refine W.condF (h := ?_))
        refine At.retA (by rw [Tryd.results10]) (he := ?_)
        simp [hne]
    · have heq : a = b := list_eqS hl (fun j hj => hI j (by omega))
      clear hI
      repeat (first | with_reducible apply W.seq | with_reducible apply W.block | with_reducible apply W.skip | with_reducible apply W.exit | with_reducible apply W.ret | with_reducible apply At.seqN | with_reducible apply At.blkN | with_reducible apply At.blkE | with_reducible apply At.blkR | with_reducible apply At.thenX | with_reducible apply At.thenR | with_reducible apply At.blkX rfl | ((with_reducible apply W.ops); (repeat (first | refine WL.opA hΓ (h := ?_) | refine WL.opX hΓ (h := ?_) | refine WL.opY (h := ?_) | refine WL.opZ (h := ?_))); with_reducible apply WL.nil) | refine W.condT (h := ?_) | refine W.condF (h := ?_))
      refine At.retA (by rw [Tryd.results10]) (he := ?_)
      simp [heq]
  · have hln : decide ((a.length : Int) = (b.length : Int)) = false := by simp; omega
    have hne : a ≠ b := fun e => hl (by rw [e])
    repeat (first | with_reducible apply W.seq | with_reducible apply W.block | with_reducible apply W.skip | with_reducible apply W.exit | with_reducible apply W.ret | with_reducible apply At.seqN | with_reducible apply At.blkN | with_reducible apply At.blkE | with_reducible apply At.blkR | with_reducible apply At.thenX | with_reducible apply At.thenR | with_reducible apply At.blkX rfl | ((with_reducible apply W.ops); (repeat (first | refine WL.opA hΓ (h := ?_) | refine WL.opX hΓ (h := ?_) | refine WL.opY (h := ?_) | refine WL.opZ (h := ?_))); with_reducible apply WL.nil) | refine W.condT (h := ?_) | refine W.condF (h := ?_))
    refine At.retA (by rw [Tryd.results10]) (he := ?_)
    simp [hne]
end Go.Proofs.YteaohgacgcjkjaaDoor
