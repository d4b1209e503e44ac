/-
  ReadVar of both programs: a number is read from its bytes.
-/
import Derived.Test.YteaohgacgcjkjaaHEvVar
namespace Go.Proofs.Yteaohgacgcjkjaa
set_option maxRecDepth 100000
set_option linter.unusedVariables false
set_option linter.unusedSimpArgs false
open Go Go.RowKit
set_option maxHeartbeats 4000000

/-- the number of some bytes, seven bits each -/
def vF : List Nat → Nat
  | [] => 0
  | b :: r => b % 128 + 128 * vF r
theorem vF_lt : ∀ l, vF l < 128 ^ l.length
  | [] => by simp [vF]
  | b :: r => by
    have := vF_lt r
    rw [List.length_cons, Nat.pow_succ]
    unfold vF
    have := Nat.mod_lt b (show 0 < 128 by omega)
    omega
theorem vF_app (b : Nat) : ∀ l, vF (l ++ [b]) = vF l + b % 128 * 2 ^ (7 * l.length)
  | [] => by simp [vF]
  | c :: r => by
    rw [List.cons_append, vF, vF, vF_app b r, List.length_cons, show 7 * (r.length + 1) = 7 * r.length + 7 by omega, Nat.pow_add]
    generalize 2 ^ (7 * r.length) = p
    rw [Nat.mul_add, show (2 : Nat) ^ 7 = 128 from rfl, ← Nat.mul_assoc (b % 128), Nat.mul_comm 128 (b % 128 * p)]
    omega
theorem varF_form : ∀ k n, n < 128 ^ (k + 1) → ∃ init x, varF k n = init ++ [x] ∧ x < 128 ∧ ∀ y ∈ init, 128 ≤ y
  | 0, n, h => ⟨[], n, rfl, by simpa using h, by simp⟩
  | k + 1, n, h => by
    by_cases hn : n < 128
    · exact ⟨[], n, by rw [varF_lo _ hn]; rfl, hn, by simp⟩
    · obtain ⟨init, x, h1, h2, h3⟩ := varF_form k (n / 128) (by rw [Nat.pow_succ] at h; omega)
      refine ⟨(n % 128 + 128) :: init, x, by rw [varF_hi _ hn, h1]; rfl, h2, fun y hy => ?_⟩
      rcases List.mem_cons.1 hy with rfl | hy
      · omega
      · exact h3 y hy
theorem varF_byte : ∀ k n, n < 128 ^ (k + 1) → ∀ y ∈ varF k n, y < 256
  | 0, n, h, y, hy => by
    have : y = n := by simpa [varF] using hy
    simp at h; omega
  | k + 1, n, h, y, hy => by
    by_cases hn : n < 128
    · rw [varF_lo _ hn] at hy
      have : y = n := by simpa using hy
      omega
    · rw [varF_hi _ hn] at hy
      rcases List.mem_cons.1 hy with rfl | hy
      · omega
      · exact varF_byte k (n / 128) (by rw [Nat.pow_succ] at h; omega) y hy
theorem vF_varF : ∀ k n, n < 128 ^ (k + 1) → vF (varF k n) = n
  | 0, n, h => by simp [varF, vF]; simpa using h
  | k + 1, n, h => by
    by_cases hn : n < 128
    · rw [varF_lo _ hn]
      simp [vF]; omega
    · rw [varF_hi _ hn, vF, vF_varF k (n / 128) (by rw [Nat.pow_succ] at h; omega)]
      omega
/-- the bytes of a string -/
def bts (s : ByteArray) : List Nat := s.data.toList.map UInt8.toNat
theorem bts_len (s : ByteArray) : (bts s).length = s.size := by
  unfold bts
  rw [List.length_map, Array.length_toList]
  rfl
theorem bts_inj {a b : ByteArray} (h : bts a = bts b) : a = b := by
  have h1 : a.data.toList = b.data.toList := List.map_inj_right (fun x y h => UInt8.toNat_inj.1 h) |>.1 h
  cases a; cases b
  simp only at h1
  congr 1
  exact Array.toList_inj.1 h1
theorem bts_lt {s : ByteArray} {b : Nat} (h : b ∈ bts s) : b < 256 := by
  obtain ⟨u, _, rfl⟩ := List.mem_map.1 h
  exact u.toNat_lt
theorem bts_take (s : ByteArray) (k : Nat) : bts (s.extract 0 k) = (bts s).take k := by
  simp [bts, ByteArray.data_extract, List.map_take, List.extract_eq_take_drop]
theorem bts_drop (s : ByteArray) (k : Nat) : bts (s.extract k s.size) = (bts s).drop k := by
  unfold bts
  rw [ByteArray.data_extract, Array.toList_extract, List.extract_eq_take_drop, List.map_take, List.map_drop]
  apply List.take_of_length_le
  rw [List.length_drop, List.length_map, Array.length_toList]
  exact Nat.le_refl _
theorem bts_app (a b : ByteArray) : bts (a ++ b) = bts a ++ bts b := by simp [bts]
theorem bts_bsS {l : List Nat} (h : ∀ x ∈ l, x < 256) : bts (bsS l) = l := by
  unfold bts bsS
  simp only [List.map_map]
  conv => rhs; rw [← List.map_id l]
  apply List.map_congr_left
  intro x hx
  have := h x hx
  simp [Function.comp, Nat.mod_eq_of_lt this]
theorem bts_at {s : ByteArray} {i : Nat} (h : i < s.size) : ∃ B : UInt8, s.data.toList[i]? = some B ∧ (bts s)[i]? = some B.toNat := by
  have h1 : i < s.data.toList.length := by rw [Array.length_toList]; exact h
  refine ⟨s.data.toList[i], List.getElem?_eq_getElem h1, ?_⟩
  unfold bts
  rw [List.getElem?_map, List.getElem?_eq_getElem h1]
  rfl
theorem varS_bts {n : Nat} (h : n < 562949953421312) : bts (varS n) = varL n := by
  rw [varS_of (by omega)]
  exact bts_bsS (varF_byte 6 n (by omega))

/-- the number of the first k bytes has just these bytes -/
def rvK (s : ByteArray) (k : Nat) : Prop := (1 ≤ k ∧ k ≤ 7 ∧ k ≤ s.size) ∧ varS ((vF ((bts s).take k) : Nat) : Int) = s.extract 0 k
instance (s : ByteArray) (k : Nat) : Decidable (rvK s k) := by unfold rvK; infer_instance
theorem vF_take_lt (s : ByteArray) {k : Nat} (h : k ≤ 7) : vF ((bts s).take k) < 562949953421312 := by
  have h1 := vF_lt ((bts s).take k)
  have h2 : 128 ^ ((bts s).take k).length ≤ 128 ^ 7 := Nat.pow_le_pow_right (by omega) (by rw [List.length_take]; omega)
  have h3 : (128 : Nat) ^ 7 = 562949953421312 := by decide
  omega
theorem rvK_form {s : ByteArray} {k : Nat} (h : rvK s k) : ∃ j, k = j + 1 ∧ (∃ x, (bts s)[j]? = some x ∧ x < 128) ∧ ∀ i x, i < j → (bts s)[i]? = some x → 128 ≤ x := by
  obtain ⟨⟨h1, h2, h3⟩, h4⟩ := h
  have hlt := vF_take_lt s h2
  have h5 := congrArg bts h4
  rw [varS_bts hlt, bts_take] at h5
  obtain ⟨init, x, h6, h7, h8⟩ := varF_form 6 _ (show vF ((bts s).take k) < 128 ^ 7 from Nat.lt_of_lt_of_eq hlt (by decide))
  have h9 : (bts s).take k = init ++ [x] := by rw [← h5]; exact h6
  have hl := congrArg List.length h9
  rw [List.length_take, bts_len, List.length_append] at hl
  simp only [List.length_cons, List.length_nil] at hl
  refine ⟨init.length, by omega, ⟨x, ?_, h7⟩, fun i y hi hy => ?_⟩
  · have : ((bts s).take k)[init.length]? = some x := by rw [h9, List.getElem?_append_right (Nat.le_refl _)]; simp
    rw [List.getElem?_take] at this
    rwa [if_pos (by omega)] at this
  · have : ((bts s).take k)[i]? = some y := by rw [List.getElem?_take, if_pos (by omega)]; exact hy
    rw [h9, List.getElem?_append_left hi] at this
    exact h8 y (List.mem_of_getElem? this)
theorem rvK_uniq {s : ByteArray} {k k' : Nat} (h : rvK s k) (h' : rvK s k') : k = k' := by
  obtain ⟨j, rfl, ⟨x, h1, h2⟩, h3⟩ := rvK_form h
  obtain ⟨j', rfl, ⟨x', h1', h2'⟩, h3'⟩ := rvK_form h'
  by_cases e : j < j'
  · have := h3' j x e h1; omega
  · by_cases e' : j' < j
    · have := h3 j' x' e' h1'; omega
    · omega
def rv (s : ByteArray) : Nat × Nat := match (List.range 8).find? (fun k => decide (rvK s k)) with
  | some k => (vF ((bts s).take k), k)
  | none => (0, 0)
theorem rv_yes {s : ByteArray} {k : Nat} (h : rvK s k) : rv s = (vF ((bts s).take k), k) := by
  unfold rv
  cases hf : (List.range 8).find? (fun k => decide (rvK s k)) with
  | none =>
    have := List.find?_eq_none.1 hf k (List.mem_range.2 (by have := h.1.2.1; omega))
    simp [h] at this
  | some k' =>
    have := List.find?_some hf
    have e : k' = k := rvK_uniq (of_decide_eq_true this) h
    rw [e]
theorem rv_no {s : ByteArray} (h : ∀ k, ¬ rvK s k) : rv s = (0, 0) := by
  unfold rv
  cases hf : (List.range 8).find? (fun k => decide (rvK s k)) with
  | none => rfl
  | some k' =>
    have := List.find?_some hf
    exact absurd (of_decide_eq_true this) (h k')
theorem rv_cases (s : ByteArray) : rv s = (0, 0) ∨ ∃ k, rvK s k ∧ rv s = (vF ((bts s).take k), k) := by
  by_cases h : ∃ k, rvK s k
  · obtain ⟨k, h⟩ := h
    exact .inr ⟨k, h, rv_yes h⟩
  · exact .inl (rv_no fun k hk => h ⟨k, hk⟩)
theorem rv_bnd (s : ByteArray) : (rv s).1 < 562949953421312 ∧ (rv s).2 ≤ 7 ∧ (rv s).2 ≤ s.size := by
  rcases rv_cases s with h | ⟨k, h1, h2⟩
  · rw [h]; simp
  · rw [h2]
    exact ⟨vF_take_lt s h1.1.2.1, h1.1.2.1, h1.1.2.2⟩
abbrev rII (x y : Int) : Res := .tup [(false, [.ro (.sc (.int .i64 x))]), (false, [.ro (.sc (.int .i64 y))])]
noncomputable def mRV := mdl (fun s : ByteArray => s.size ≤ 9223372036854775807) (fun s => [aS s]) (fun s => rII ((rv s).1 : Int) ((rv s).2 : Int))
theorem mRV_eq (s : ByteArray) (h : s.size ≤ 9223372036854775807) : mRV [aS s] = some (rII ((rv s).1 : Int) ((rv s).2 : Int)) := mdl_eq (by intro a b h; simpa using h) s h
theorem readVarS_s : Sound Try.prog 81 mRV := by
  refine Sound.mdl Try.func81 rfl Try.ntmps81 ?_
  rintro s w hs
  refine ⟨by simp, ?_⟩
  replace hs : s.size ≤ 9223372036854775807 := hs
  have hΓ : GSound Try.prog (look [(70, mVar)]) := env_cons (has_of Try.func70 rfl rfl) varSpec_s env_nil
  simp only [initS, argPV, List.map_cons, List.map_nil, toPL, Nat.zero_add]
  repeat (first | with_reducible (first | apply W.seq | apply W.block | apply W.skip | apply W.exit | apply W.ret | apply At.seqN | apply At.blkN | apply At.blkE | apply At.blkR | apply At.thenX | apply At.thenR | apply At.blkX rfl) | ((with_reducible apply W.ops); (repeat (first | refine WL.opA hΓ (h := ?_) | refine WL.opX hΓ (h := ?_) | refine WL.opY (h := ?_) | refine WL.opZ (h := ?_))); with_reducible apply WL.nil) | refine W.condT (h := ?_) | refine W.condF (h := ?_))
  refine W.loopA (fun k : Nat => (1 ≤ k ∧ k ≤ 8) ∧ ∀ j, j < k → ¬ rvK s j) (fun k => [.slot 0 (vS s), .slot 4 (vI k)]) (fun k => 9 - k) 1 ⟨by omega, fun j hj h => by have := h.1.1; omega⟩ (h := ?_)
  rintro k ⟨⟨hk1, hk8⟩, hno⟩
  have HN := Lib.hid hno
  clear hno
  by_cases h7 : k ≤ 7
  · by_cases hz : k ≤ s.size
    · repeat (first | with_reducible (first | apply W.seq | apply W.block | apply W.skip | apply W.exit | apply W.ret | apply At.seqN | apply At.blkN | apply At.blkE | apply At.blkR | apply At.thenX | apply At.thenR | apply At.blkX rfl) | ((with_reducible apply W.ops); (repeat (first | refine WL.opA hΓ (h := ?_) | refine WL.opX hΓ (h := ?_) | refine WL.opY (h := ?_) | refine WL.opZ (h := ?_))); with_reducible apply WL.nil) | refine W.condT (h := ?_) | refine W.condF (h := ?_))
      refine W.loopA (fun j : Nat => j ≤ k) (fun j => [.slot 0 (vS s), .slot 4 (vI k), .slot 5 (vI (vF (((bts s).take k).drop j))), .slot 6 (vI ((j : Int) - 1))]) (fun j => j) k (Nat.le_refl _) (hs := ?hsub) (h := ?_)
      case hsub =>
        have e : vF (((bts s).take k).drop k) = 0 := by rw [List.drop_of_length_le (by rw [List.length_take]; omega)]; rfl
        rw [e]
        simp (disch := omega) only [Sub, SubL, getS_hit, getS_miss, getS_blk, getS_kill, getS_nil, getB_nil, getB_slot, getB_hit, getB_miss, getB_kill0, getB_kill1, lsNms, vsNms, PL.nms, PV.nms, Blk.nms, bound, PV.kill, PL.kill, PL.names, List.append_nil, List.nil_append, List.cons_append, and_true, true_and, and_self] <;> (repeat' apply And.intro) <;> rfl
      rintro j hj
      cases j with
      | succ j =>
        obtain ⟨B, hB1, hB2⟩ := bts_at (s := s) (i := j) (by omega)
        have e1 : ((j + 1 : Nat) : Int) - 1 = (j : Int) := by omega
        have t1 : ((B.toNat : Nat) : Int).tmod 128 = ((B.toNat % 128 : Nat) : Int) := by rw [Int.tmod_eq_emod_of_nonneg (by omega)]; omega
        have hd : ((bts s).take k).drop j = B.toNat :: ((bts s).take k).drop (j + 1) := by
          have hl : j < ((bts s).take k).length := by rw [List.length_take, bts_len]; omega
          rw [List.drop_eq_getElem_cons hl]
          congr 1
          have : ((bts s).take k)[j]? = some B.toNat := by rw [List.getElem?_take, if_pos (by omega)]; exact hB2
          rw [List.getElem?_eq_getElem hl] at this
          exact Option.some.inj this
        have hv : vF (((bts s).take k).drop j) = B.toNat % 128 + 128 * vF (((bts s).take k).drop (j + 1)) := by rw [hd, vF]
        have hlt : vF (((bts s).take k).drop j) < 562949953421312 := by
          have h1 := vF_lt (((bts s).take k).drop j)
          have h2 : 128 ^ (((bts s).take k).drop j).length ≤ 128 ^ 7 := Nat.pow_le_pow_right (by omega) (by rw [List.length_drop, List.length_take]; omega)
          have h3 : (128 : Nat) ^ 7 = 562949953421312 := by decide
          omega
        have hBl := B.toNat_lt
        have hnz : ((128 : Int) = 0) = False := by simp
        have e2 : ((vF (((bts s).take k).drop (j + 1)) : Nat) : Int) * 128 + ((B.toNat % 128 : Nat) : Int) = ((vF (((bts s).take k).drop j) : Nat) : Int) := by omega
        generalize hg : vF (((bts s).take k).drop j) = v0 at *
        generalize vF (((bts s).take k).drop (j + 1)) = v1 at *
        have HG := Lib.hid hg
        clear hd hB2 hv hg
        repeat (first | with_reducible (first | apply W.seq | apply W.block | apply W.skip | apply W.exit | apply W.ret | apply At.seqN | apply At.blkN | apply At.blkE | apply At.blkR | apply At.thenX | apply At.thenR | apply At.blkX rfl) | ((with_reducible apply W.ops); (repeat (first | refine WL.opA hΓ (h := ?_) | refine WL.opX hΓ (h := ?_) | refine WL.opY (h := ?_) | refine WL.opZ (h := ?_))); with_reducible apply WL.nil) | refine W.condT (h := ?_) | refine W.condF (h := ?_))
        rw [← HG.out]
        exact At.roundA j (by omega) (by omega)
      | zero =>
        have hlt := vF_take_lt s h7
        have e1 : ((0 : Nat) : Int) - 1 = -1 := rfl
        have hd : ((bts s).take k).drop 0 = (bts s).take k := rfl
        rw [hd]
        by_cases hv : varS ((vF ((bts s).take k) : Nat) : Int) = s.extract 0 k
        · have hr := rv_yes (s := s) (k := k) ⟨⟨hk1, h7, hz⟩, hv⟩
          have hdec := decide_eq_true hv
          have c1 := mVar_eq ((vF ((bts s).take k) : Nat) : Int)
          generalize vF ((bts s).take k) = v at *
          clear hv
          repeat (first | with_reducible (first | apply W.seq | apply W.block | apply W.skip | apply W.exit | apply W.ret | apply At.seqN | apply At.blkN | apply At.blkE | apply At.blkR | apply At.thenX | apply At.thenR | apply At.blkX rfl) | ((with_reducible apply W.ops); (repeat (first | refine WL.opA hΓ (h := ?_) | refine WL.opX hΓ (h := ?_) | refine WL.opY (h := ?_) | refine WL.opZ (h := ?_))); with_reducible apply WL.nil) | refine W.condT (h := ?_) | refine W.condF (h := ?_))
          refine W.drawsA hΓ 6 [[], [0], [], [], [2, 3], [0, 1, 2, 3, 4]] (rest := ?rest7) (Es := ?Es7) (st1 := ?st17) (h := ?h7) (hf := ?hf7) (hp := ?hp7) (hd := ?hd7) (hfr := ?hfr7) (hst := ?hst7) (hT := ?hT7)
          case h7 => kernel_rfl
          case hf7 =>
            repeat (first | refine FlowT.opA (h := ?_) | refine FlowT.opX (h := ?_) | refine FlowT.opY (h := ?_) | refine FlowT.opZ (h := ?_))
            exact FlowT.done
          case hp7 => rfl
          case hd7 => rfl
          case hfr7 => rfl
          case hst7 =>
            simp only [pick_nil, pick_all, List.cons_append, List.nil_append]
            rfl
          (repeat (first | refine WL.opA hΓ (h := ?_) | refine WL.opX hΓ (h := ?_) | refine WL.opY (h := ?_) | refine WL.opZ (h := ?_)))
          with_reducible apply WL.nil
          repeat (first | with_reducible (first | apply W.seq | apply W.block | apply W.skip | apply W.exit | apply W.ret | apply At.seqN | apply At.blkN | apply At.blkE | apply At.blkR | apply At.thenX | apply At.thenR | apply At.blkX rfl) | ((with_reducible apply W.ops); (repeat (first | refine WL.opA hΓ (h := ?_) | refine WL.opX hΓ (h := ?_) | refine WL.opY (h := ?_) | refine WL.opZ (h := ?_))); with_reducible apply WL.nil) | refine W.condT (h := ?_) | refine W.condF (h := ?_))
          refine At.retA (by rw [Try.results81]) (he := ?_)
          rw [hr]
        · have hdec := decide_eq_false hv
          have hnk : ¬ rvK s k := fun h => hv h.2
          have c1 := mVar_eq ((vF ((bts s).take k) : Nat) : Int)
          generalize vF ((bts s).take k) = v at *
          clear hv
          repeat (first | with_reducible (first | apply W.seq | apply W.block | apply W.skip | apply W.exit | apply W.ret | apply At.seqN | apply At.blkN | apply At.blkE | apply At.blkR | apply At.thenX | apply At.thenR | apply At.blkX rfl) | ((with_reducible apply W.ops); (repeat (first | refine WL.opA hΓ (h := ?_) | refine WL.opX hΓ (h := ?_) | refine WL.opY (h := ?_) | refine WL.opZ (h := ?_))); with_reducible apply WL.nil) | refine W.condT (h := ?_) | refine W.condF (h := ?_))
          refine W.drawsA hΓ 6 [[], [0], [], [], [2, 3], [0, 1, 2, 3, 4]] (rest := ?rest11) (Es := ?Es11) (st1 := ?st111) (h := ?h11) (hf := ?hf11) (hp := ?hp11) (hd := ?hd11) (hfr := ?hfr11) (hst := ?hst11) (hT := ?hT11)
          case h11 => kernel_rfl
          case hf11 =>
            repeat (first | refine FlowT.opA (h := ?_) | refine FlowT.opX (h := ?_) | refine FlowT.opY (h := ?_) | refine FlowT.opZ (h := ?_))
            exact FlowT.done
          case hp11 => rfl
          case hd11 => rfl
          case hfr11 => rfl
          case hst11 =>
            simp only [pick_nil, pick_all, List.cons_append, List.nil_append]
            rfl
          (repeat (first | refine WL.opA hΓ (h := ?_) | refine WL.opX hΓ (h := ?_) | refine WL.opY (h := ?_) | refine WL.opZ (h := ?_)))
          with_reducible apply WL.nil
          repeat (first | with_reducible (first | apply W.seq | apply W.block | apply W.skip | apply W.exit | apply W.ret | apply At.seqN | apply At.blkN | apply At.blkE | apply At.blkR | apply At.thenX | apply At.thenR | apply At.blkX rfl) | ((with_reducible apply W.ops); (repeat (first | refine WL.opA hΓ (h := ?_) | refine WL.opX hΓ (h := ?_) | refine WL.opY (h := ?_) | refine WL.opZ (h := ?_))); with_reducible apply WL.nil) | refine W.condT (h := ?_) | refine W.condF (h := ?_))
          refine At.roundA (k + 1) ⟨by omega, fun j hj => ?_⟩ (by omega)
          by_cases e : j = k
          · rw [e]; exact hnk
          · exact HN.out j (by omega)
    · have hr : rv s = (0, 0) := rv_no fun j h => by
        by_cases e : j < k
        · exact HN.out j e h
        · have := h.1; omega
      repeat (first | with_reducible (first | apply W.seq | apply W.block | apply W.skip | apply W.exit | apply W.ret | apply At.seqN | apply At.blkN | apply At.blkE | apply At.blkR | apply At.thenX | apply At.thenR | apply At.blkX rfl) | ((with_reducible apply W.ops); (repeat (first | refine WL.opA hΓ (h := ?_) | refine WL.opX hΓ (h := ?_) | refine WL.opY (h := ?_) | refine WL.opZ (h := ?_))); with_reducible apply WL.nil) | refine W.condT (h := ?_) | refine W.condF (h := ?_))
      refine At.retA (by rw [Try.results81]) (he := ?_)
      rw [hr]
      rfl
  · have hr : rv s = (0, 0) := rv_no fun j h => by
      by_cases e : j < k
      · exact HN.out j e h
      · have := h.1; omega
    repeat (first | with_reducible (first | apply W.seq | apply W.block | apply W.skip | apply W.exit | apply W.ret | apply At.seqN | apply At.blkN | apply At.blkE | apply At.blkR | apply At.thenX | apply At.thenR | apply At.blkX rfl) | ((with_reducible apply W.ops); (repeat (first | refine WL.opA hΓ (h := ?_) | refine WL.opX hΓ (h := ?_) | refine WL.opY (h := ?_) | refine WL.opZ (h := ?_))); with_reducible apply WL.nil) | refine W.condT (h := ?_) | refine W.condF (h := ?_))
    refine At.retA (by rw [Try.results81]) (he := ?_)
    rw [hr]
    rfl
theorem readVarI_s : Sound Try.prog 83 mRV := by
  refine Sound.mdl Try.func83 rfl Try.ntmps83 ?_
  rintro s w hs
  refine ⟨by simp, ?_⟩
  replace hs : s.size ≤ 9223372036854775807 := hs
  have hΓ : GSound Try.prog (look [(66, mVar)]) := env_cons (has_of Try.func66 rfl rfl) varImpl_s env_nil
  simp only [initS, argPV, List.map_cons, List.map_nil, toPL, Nat.zero_add]
  repeat (first | with_reducible (first | apply W.seq | apply W.block | apply W.skip | apply W.exit | apply W.ret | apply At.seqN | apply At.blkN | apply At.blkE | apply At.blkR | apply At.thenX | apply At.thenR | apply At.blkX rfl) | ((with_reducible apply W.ops); (repeat (first | refine WL.opA hΓ (h := ?_) | refine WL.opX hΓ (h := ?_) | refine WL.opY (h := ?_) | refine WL.opZ (h := ?_))); with_reducible apply WL.nil) | refine W.condT (h := ?_) | refine W.condF (h := ?_))
  refine W.loopA (fun i : Nat => (i ≤ 7 ∧ i ≤ s.size) ∧ ∀ j x, j < i → (bts s)[j]? = some x → 128 ≤ x) (fun i => [.slot 0 (vS s), .slot 5 (vI i), .slot 4 (vI (vF ((bts s).take i)))]) (fun i => 8 - i) 0 ⟨by omega, fun j x hj => by omega⟩ (h := ?_)
  rintro i ⟨⟨hi7, his⟩, hno⟩
  have HN := Lib.hid hno
  clear hno
  by_cases hlt : i < s.size
  · by_cases h7 : i < 7
    · obtain ⟨B, hB1, hB2⟩ := bts_at hlt
      have hBl := B.toNat_lt
      have ht : (bts s).take (i + 1) = (bts s).take i ++ [B.toNat] := by
        rw [List.take_add_one, hB2]; rfl
      have hv : vF ((bts s).take (i + 1)) = vF ((bts s).take i) + B.toNat % 128 * 2 ^ (7 * i) := by
        rw [ht, vF_app, List.length_take, bts_len, Nat.min_eq_left (by omega)]
      have hv0 := vF_lt ((bts s).take i)
      rw [List.length_take, bts_len, Nat.min_eq_left (by omega), show (128 : Nat) = 2 ^ 7 from rfl, ← Nat.pow_mul] at hv0
      have hv1 := vF_take_lt s (k := i + 1) (by omega)
      have hv2 := vF_take_lt s (k := i) (by omega)
      have t1 : bits .and .u8 ((B.toNat : Nat) : Int) 127 = ((B.toNat % 128 : Nat) : Int) := by
        have hx : B.toNat % 128 < 256 := by omega
        show IntKind.u8.wrap ((BitVec.ofInt 8 ((B.toNat : Nat) : Int) &&& BitVec.ofInt 8 127).toNat : Int) = _
        have h1 : (BitVec.ofInt 8 127).toNat = 2 ^ 7 - 1 := rfl
        rw [BitVec.toNat_and, ofInt_nat (by omega), h1, Nat.and_two_pow_sub_one_eq_mod]
        exact wrap_u8n (by omega)
      have e7 : (7 : Int) * (i : Int) = ((7 * i : Nat) : Int) := by omega
      have m7 : min (7 * i) IntKind.i64.bits = 7 * i := by show min (7 * i) 64 = _; omega
      have t3 := mul_pow_nat (B.toNat % 128) (7 * i)
      have t4 : bits .or .i64 ((vF ((bts s).take i) : Nat) : Int) ((B.toNat % 128 * 2 ^ (7 * i) : Nat) : Int) = ((vF ((bts s).take (i + 1)) : Nat) : Int) := by
        rw [or_i64 (by omega) (by omega), hv]
        have h : 2 ^ (7 * i) * (B.toNat % 128) + vF ((bts s).take i) = 2 ^ (7 * i) * (B.toNat % 128) ||| vF ((bts s).take i) := Nat.two_pow_add_eq_or_of_lt hv0 _
        rw [Nat.or_comm, Nat.mul_comm (B.toNat % 128), ← h]
        congr 1
        omega
      have hm : B.toNat % 128 * 2 ^ (7 * i) < 562949953421312 := by omega
      generalize B.toNat % 128 * 2 ^ (7 * i) = m at t3 t4 hm
      have c1 := mVar_eq ((vF ((bts s).take (i + 1)) : Nat) : Int)
      by_cases hb : B.toNat < 128
      · have hx : (bts s)[i]? = some B.toNat := hB2
        have hcan : ∀ k, rvK s k → k = i + 1 := fun k hk => by
          obtain ⟨j, rfl, ⟨x, h1, h2⟩, h3⟩ := rvK_form hk
          by_cases e : j < i
          · have := HN.out j x e h1; omega
          · by_cases e' : i < j
            · have := h3 i _ e' hx; omega
            · omega
        have ei : (i : Int) + 1 = ((i + 1 : Nat) : Int) := by omega
        by_cases hvv : varS ((vF ((bts s).take (i + 1)) : Nat) : Int) = s.extract 0 (i + 1)
        · have hr := rv_yes (s := s) (k := i + 1) ⟨⟨by omega, by omega, by omega⟩, hvv⟩
          have hdec := decide_eq_true hvv
          generalize vF ((bts s).take (i + 1)) = v1 at *
          generalize vF ((bts s).take i) = v0 at *
          clear hvv hv hv0 hB2 hx hcan ht
          repeat (first | with_reducible (first | apply W.seq | apply W.block | apply W.skip | apply W.exit | apply W.ret | apply At.seqN | apply At.blkN | apply At.blkE | apply At.blkR | apply At.thenX | apply At.thenR | apply At.blkX rfl) | ((with_reducible apply W.ops); (repeat (first | refine WL.opA hΓ (h := ?_) | refine WL.opX hΓ (h := ?_) | refine WL.opY (h := ?_) | refine WL.opZ (h := ?_))); with_reducible apply WL.nil) | refine W.condT (h := ?_) | refine W.condF (h := ?_))
          refine W.drawsA hΓ 7 [[], [0], [], [], [3], [2, 3, 4], [0, 1, 2, 3, 4, 5]] (rest := ?rest21) (Es := ?Es21) (st1 := ?st121) (h := ?h21) (hf := ?hf21) (hp := ?hp21) (hd := ?hd21) (hfr := ?hfr21) (hst := ?hst21) (hT := ?hT21)
          case h21 => kernel_rfl
          case hf21 =>
            repeat (first | refine FlowT.opA (h := ?_) | refine FlowT.opX (h := ?_) | refine FlowT.opY (h := ?_) | refine FlowT.opZ (h := ?_))
            exact FlowT.done
          case hp21 => rfl
          case hd21 => rfl
          case hfr21 => rfl
          case hst21 =>
            simp only [pick_nil, pick_all, List.cons_append, List.nil_append]
            rfl
          (repeat (first | refine WL.opA hΓ (h := ?_) | refine WL.opX hΓ (h := ?_) | refine WL.opY (h := ?_) | refine WL.opZ (h := ?_)))
          with_reducible apply WL.nil
          repeat (first | with_reducible (first | apply W.seq | apply W.block | apply W.skip | apply W.exit | apply W.ret | apply At.seqN | apply At.blkN | apply At.blkE | apply At.blkR | apply At.thenX | apply At.thenR | apply At.blkX rfl) | ((with_reducible apply W.ops); (repeat (first | refine WL.opA hΓ (h := ?_) | refine WL.opX hΓ (h := ?_) | refine WL.opY (h := ?_) | refine WL.opZ (h := ?_))); with_reducible apply WL.nil) | refine W.condT (h := ?_) | refine W.condF (h := ?_))
          refine At.retA (by rw [Try.results83]) (he := ?_)
          rw [hr]
        · have hr : rv s = (0, 0) := rv_no fun k hk => by
            have := hcan k hk
            subst this
            exact hvv hk.2
          have hdec := decide_eq_false hvv
          generalize vF ((bts s).take (i + 1)) = v1 at *
          generalize vF ((bts s).take i) = v0 at *
          clear hvv hv hv0 hB2 hx hcan ht
          repeat (first | with_reducible (first | apply W.seq | apply W.block | apply W.skip | apply W.exit | apply W.ret | apply At.seqN | apply At.blkN | apply At.blkE | apply At.blkR | apply At.thenX | apply At.thenR | apply At.blkX rfl) | ((with_reducible apply W.ops); (repeat (first | refine WL.opA hΓ (h := ?_) | refine WL.opX hΓ (h := ?_) | refine WL.opY (h := ?_) | refine WL.opZ (h := ?_))); with_reducible apply WL.nil) | refine W.condT (h := ?_) | refine W.condF (h := ?_))
          refine W.drawsA hΓ 7 [[], [0], [], [], [3], [2, 3, 4], [0, 1, 2, 3, 4, 5]] (rest := ?rest25) (Es := ?Es25) (st1 := ?st125) (h := ?h25) (hf := ?hf25) (hp := ?hp25) (hd := ?hd25) (hfr := ?hfr25) (hst := ?hst25) (hT := ?hT25)
          case h25 => kernel_rfl
          case hf25 =>
            repeat (first | refine FlowT.opA (h := ?_) | refine FlowT.opX (h := ?_) | refine FlowT.opY (h := ?_) | refine FlowT.opZ (h := ?_))
            exact FlowT.done
          case hp25 => rfl
          case hd25 => rfl
          case hfr25 => rfl
          case hst25 =>
            simp only [pick_nil, pick_all, List.cons_append, List.nil_append]
            rfl
          (repeat (first | refine WL.opA hΓ (h := ?_) | refine WL.opX hΓ (h := ?_) | refine WL.opY (h := ?_) | refine WL.opZ (h := ?_)))
          with_reducible apply WL.nil
          repeat (first | with_reducible (first | apply W.seq | apply W.block | apply W.skip | apply W.exit | apply W.ret | apply At.seqN | apply At.blkN | apply At.blkE | apply At.blkR | apply At.thenX | apply At.thenR | apply At.blkX rfl) | ((with_reducible apply W.ops); (repeat (first | refine WL.opA hΓ (h := ?_) | refine WL.opX hΓ (h := ?_) | refine WL.opY (h := ?_) | refine WL.opZ (h := ?_))); with_reducible apply WL.nil) | refine W.condT (h := ?_) | refine W.condF (h := ?_))
          refine At.retA (by rw [Try.results83]) (he := ?_)
          rw [hr]
          rfl
      · have hnx : ∀ j x, j < i + 1 → (bts s)[j]? = some x → 128 ≤ x := fun j x hj hx => by
          by_cases e : j = i
          · subst e
            rw [hB2] at hx
            cases hx
            omega
          · exact HN.out j x (by omega) hx
        generalize hg : vF ((bts s).take (i + 1)) = v1 at *
        generalize vF ((bts s).take i) = v0 at *
        have HG := Lib.hid hg
        clear hv hv0 hB2 ht hg
        repeat (first | with_reducible (first | apply W.seq | apply W.block | apply W.skip | apply W.exit | apply W.ret | apply At.seqN | apply At.blkN | apply At.blkE | apply At.blkR | apply At.thenX | apply At.thenR | apply At.blkX rfl) | ((with_reducible apply W.ops); (repeat (first | refine WL.opA hΓ (h := ?_) | refine WL.opX hΓ (h := ?_) | refine WL.opY (h := ?_) | refine WL.opZ (h := ?_))); with_reducible apply WL.nil) | refine W.condT (h := ?_) | refine W.condF (h := ?_))
        rw [← HG.out]
        exact At.roundA (i + 1) ⟨⟨by omega, by omega⟩, hnx⟩ (by omega)
    · have hr : rv s = (0, 0) := rv_no fun k hk => by
        obtain ⟨j, rfl, ⟨x, h1, h2⟩, h3⟩ := rvK_form hk
        have h7k := hk.1
        have := HN.out j x (by omega) h1
        omega
      repeat (first | with_reducible (first | apply W.seq | apply W.block | apply W.skip | apply W.exit | apply W.ret | apply At.seqN | apply At.blkN | apply At.blkE | apply At.blkR | apply At.thenX | apply At.thenR | apply At.blkX rfl) | ((with_reducible apply W.ops); (repeat (first | refine WL.opA hΓ (h := ?_) | refine WL.opX hΓ (h := ?_) | refine WL.opY (h := ?_) | refine WL.opZ (h := ?_))); with_reducible apply WL.nil) | refine W.condT (h := ?_) | refine W.condF (h := ?_))
      refine At.retA (by rw [Try.results83]) (he := ?_)
      rw [hr]
      rfl
  · have hr : rv s = (0, 0) := rv_no fun k hk => by
      obtain ⟨j, rfl, ⟨x, h1, h2⟩, h3⟩ := rvK_form hk
      have h7k := hk.1
      have := HN.out j x (by omega) h1
      omega
    repeat (first | with_reducible (first | apply W.seq | apply W.block | apply W.skip | apply W.exit | apply W.ret | apply At.seqN | apply At.blkN | apply At.blkE | apply At.blkR | apply At.thenX | apply At.thenR | apply At.blkX rfl) | ((with_reducible apply W.ops); (repeat (first | refine WL.opA hΓ (h := ?_) | refine WL.opX hΓ (h := ?_) | refine WL.opY (h := ?_) | refine WL.opZ (h := ?_))); with_reducible apply WL.nil) | refine W.condT (h := ?_) | refine W.condF (h := ?_))
    refine At.retA (by rw [Try.results83]) (he := ?_)
    rw [hr]
    rfl
end Go.Proofs.Yteaohgacgcjkjaa
