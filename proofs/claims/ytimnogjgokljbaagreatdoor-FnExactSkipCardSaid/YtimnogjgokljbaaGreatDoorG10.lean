/-
  Put together: EvHdOk EvShHd.
-/
import Derived.Test.YtimnogjgokljbaaGreatDoorG9
section
/-!
  HeaderOk of spec and impl.
-/
namespace Go.Proofs.YtimnogjgokljbaaGreatDoor
set_option maxRecDepth 100000
set_option linter.unusedVariables false
set_option linter.unusedSimpArgs false
open Go Go.RowKit
set_option maxHeartbeats 4000000

theorem headS_s : Sound Tryz.prog 83 mHead := by
  refine Sound.mdl Tryz.func83 rfl Tryz.ntmps83 ?_
  rintro ⟨h, t, la, va, ne, da⟩ w -
  refine ⟨by simp, ?_⟩
  have hΓ : GSound Tryz.prog (look [(55, mIn)]) := env_cons (has_of Tryz.func55 rfl rfl) l1In_s env_nil
  have c1 := mIn_eq h 1 1000000
  have c2 := mIn_eq t 0 1000000
  simp only [initS, argPV, List.map_cons, List.map_nil, toPL, Nat.zero_add]
  by_cases e1 : h = 1
  · subst e1
    rcases cases5 ((0 : Int) ≤ t ∧ t ≤ 1000000) ((va.size : Int) = 8) ((ne.size : Int) = 8) ((la.size : Int) = 0) ((da.size : Int) ≤ 20) with h | h | h | h | h | h
    all_goals
      repeat (first | with_reducible (first | apply W.seq | apply W.block | apply W.skip | apply W.exit | apply W.ret | apply At.seqN | apply At.blkN | apply At.blkE | apply At.blkR | apply At.thenX | apply At.thenR | apply At.blkX rfl) | ((with_reducible apply W.ops); (repeat (first | refine WL.opA hΓ (h := ?_) | refine WL.opX hΓ (h := ?_) | refine WL.opY (h := ?_) | refine WL.opZ (h := ?_))); with_reducible apply WL.nil) | refine W.condT (h := ?_) | refine W.condF (h := ?_))
      refine At.retA (by rw [Tryz.results83]) (he := ?_)
      first
        | (simp [headOk, lastN, h]; done)
        | (simp [headOk, lastN, h]; intro e; subst e; simp at h)
  · rcases cases6 ((1 : Int) ≤ h ∧ h ≤ 1000000) ((0 : Int) ≤ t ∧ t ≤ 1000000) ((va.size : Int) = 8) ((ne.size : Int) = 8) ((la.size : Int) = 8) ((da.size : Int) ≤ 20) with h | h | h | h | h | h | h
    all_goals
      repeat (first | with_reducible (first | apply W.seq | apply W.block | apply W.skip | apply W.exit | apply W.ret | apply At.seqN | apply At.blkN | apply At.blkE | apply At.blkR | apply At.thenX | apply At.thenR | apply At.blkX rfl) | ((with_reducible apply W.ops); (repeat (first | refine WL.opA hΓ (h := ?_) | refine WL.opX hΓ (h := ?_) | refine WL.opY (h := ?_) | refine WL.opZ (h := ?_))); with_reducible apply WL.nil) | refine W.condT (h := ?_) | refine W.condF (h := ?_))
      refine At.retA (by rw [Tryz.results83]) (he := ?_)
      simp [headOk, lastN, h, e1]
theorem headI_s : Sound Tryz.prog 117 mHead := by
  refine Sound.mdl Tryz.func117 rfl Tryz.ntmps117 ?_
  rintro ⟨h, t, la, va, ne, da⟩ w -
  refine ⟨by simp, ?_⟩
  have hΓ : GSound Tryz.prog (look [(135, mHeight), (90, mTime)]) := env_cons (has_of Tryz.func135 rfl rfl) isHeight_s (env_cons (has_of Tryz.func90 rfl rfl) isTime_s env_nil)
  have c1 := mHeight_eq h
  have c2 := mTime_eq t
  simp only [initS, argPV, List.map_cons, List.map_nil, toPL, Nat.zero_add]
  by_cases e1 : h = 1
  · subst e1
    rcases cases5 ((0 : Int) ≤ t ∧ t ≤ 1000000) ((va.size : Int) = 8) ((ne.size : Int) = 8) ((la.size : Int) = 0) ((da.size : Int) ≤ 20) with h | h | h | h | h | h
    all_goals
      repeat (first | with_reducible (first | apply W.seq | apply W.block | apply W.skip | apply W.exit | apply W.ret | apply At.seqN | apply At.blkN | apply At.blkE | apply At.blkR | apply At.thenX | apply At.thenR | apply At.blkX rfl) | ((with_reducible apply W.ops); (repeat (first | refine WL.opA hΓ (h := ?_) | refine WL.opX hΓ (h := ?_) | refine WL.opY (h := ?_) | refine WL.opZ (h := ?_))); with_reducible apply WL.nil) | refine W.condT (h := ?_) | refine W.condF (h := ?_))
      refine At.retA (by rw [Tryz.results117]) (he := ?_)
      first
        | (simp [headOk, lastN, h]; done)
        | (simp [headOk, lastN, h]; intro e; subst e; simp at h)
  · rcases cases6 ((1 : Int) ≤ h ∧ h ≤ 1000000) ((0 : Int) ≤ t ∧ t ≤ 1000000) ((va.size : Int) = 8) ((ne.size : Int) = 8) ((la.size : Int) = 8) ((da.size : Int) ≤ 20) with h | h | h | h | h | h | h
    all_goals
      repeat (first | with_reducible (first | apply W.seq | apply W.block | apply W.skip | apply W.exit | apply W.ret | apply At.seqN | apply At.blkN | apply At.blkE | apply At.blkR | apply At.thenX | apply At.thenR | apply At.blkX rfl) | ((with_reducible apply W.ops); (repeat (first | refine WL.opA hΓ (h := ?_) | refine WL.opX hΓ (h := ?_) | refine WL.opY (h := ?_) | refine WL.opZ (h := ?_))); with_reducible apply WL.nil) | refine W.condT (h := ?_) | refine W.condF (h := ?_))
      refine At.retA (by rw [Tryz.results117]) (he := ?_)
      simp [headOk, lastN, h, e1]


end Go.Proofs.YtimnogjgokljbaaGreatDoor

end
section
/-!
  ShowHeader of both programs.
-/
namespace Go.Proofs.YtimnogjgokljbaaGreatDoor
set_option maxRecDepth 100000
set_option linter.unusedVariables false
set_option linter.unusedSimpArgs false
open Go Go.RowKit
set_option maxHeartbeats 4000000

def pieceS (s : ByteArray) : ByteArray := varS s.size ++ s
noncomputable def mPiece := mdl (fun s : ByteArray => s.size ≤ 1048576) (fun s => [aS s]) (fun s => rS (pieceS s))
theorem mPiece_eq (s : ByteArray) (h : s.size ≤ 1048576) : mPiece [aS s] = some (rS (pieceS s)) := mdl_eq (by intro a b h; simpa using h) s h
theorem pieceS_size (s : ByteArray) : (pieceS s).size ≤ 7 + s.size := by
  unfold pieceS
  rw [ByteArray.size_append]
  have := varS_size s.size
  omega
def showHead (h : THeader) : ByteArray := if headOk h then varS h.1 ++ varS h.2.1 ++ pieceS h.2.2.1 ++ pieceS h.2.2.2.1 ++ pieceS h.2.2.2.2.1 ++ pieceS h.2.2.2.2.2 else ByteArray.empty
theorem showHead_no {h : THeader} (ho : ¬ headOk h) : showHead h = ByteArray.empty := if_neg ho
theorem showHead_yes {h : THeader} (ho : headOk h) : showHead h = varS h.1 ++ varS h.2.1 ++ pieceS h.2.2.1 ++ pieceS h.2.2.2.1 ++ pieceS h.2.2.2.2.1 ++ pieceS h.2.2.2.2.2 := if_pos ho
theorem lastN_le (h : Int) : lastN h ≤ 8 := by unfold lastN; split <;> omega
theorem showHead_size (h : THeader) : (showHead h).size ≤ 100 := by
  by_cases ho : headOk h
  · have h1 := varS_size h.1
    have h2 := varS_size h.2.1
    have h3 := pieceS_size h.2.2.1
    have h4 := pieceS_size h.2.2.2.1
    have h5 := pieceS_size h.2.2.2.2.1
    have h6 := pieceS_size h.2.2.2.2.2
    have h7 := lastN_le h.1
    rw [showHead_yes ho]
    obtain ⟨_, _, a, b, c, d⟩ := ho
    simp only [ByteArray.size_append]
    omega
  · rw [showHead_no ho]; simp
noncomputable def mShowHd := mdl (fun _ : THeader => True) (fun h => [aHd h]) (fun h => rS (showHead h))
theorem mShowHd_eq (h : THeader) : mShowHd [aHd h] = some (rS (showHead h)) := mdl_eq aHd_inj h trivial
theorem pieceS_s : Sound Tryz.prog 133 mPiece := by
  refine Sound.mdl Tryz.func133 rfl Tryz.ntmps133 ?_
  rintro s w hl
  refine ⟨by simp, ?_⟩
  replace hl : s.size ≤ 1048576 := hl
  have hΓ : GSound Tryz.prog (look [(131, mVar)]) := env_cons (has_of Tryz.func131 rfl rfl) varSpec_s env_nil
  have c1 := mVar_eq s.size
  have s1 := varS_size s.size
  simp only [initS, argPV, List.map_cons, List.map_nil, toPL, Nat.zero_add]
  repeat (first | with_reducible (first | apply W.seq | apply W.block | apply W.skip | apply W.exit | apply W.ret | apply At.seqN | apply At.blkN | apply At.blkE | apply At.blkR | apply At.thenX | apply At.thenR | apply At.blkX rfl) | ((with_reducible apply W.ops); (repeat (first | refine WL.opA hΓ (h := ?_) | refine WL.opX hΓ (h := ?_) | refine WL.opY (h := ?_) | refine WL.opZ (h := ?_))); with_reducible apply WL.nil) | refine W.condT (h := ?_) | refine W.condF (h := ?_))
  refine At.retA (by rw [Tryz.results133]) (he := rfl)
theorem showHdS_s : Sound Tryz.prog 103 mShowHd := by
  refine Sound.mdl Tryz.func103 rfl Tryz.ntmps103 ?_
  rintro ⟨h, t, la, va, ne, da⟩ w -
  refine ⟨by simp, ?_⟩
  have hΓ : GSound Tryz.prog (look [(83, mHead), (131, mVar), (133, mPiece)]) := env_cons (has_of Tryz.func83 rfl rfl) headS_s (env_cons (has_of Tryz.func131 rfl rfl) varSpec_s (env_cons (has_of Tryz.func133 rfl rfl) pieceS_s env_nil))
  have c1 := mHead_eq (h, t, la, va, ne, da)
  dsimp only [aHd] at c1
  simp only [initS, argPV, List.map_cons, List.map_nil, toPL, Nat.zero_add]
  by_cases ho : headOk (h, t, la, va, ne, da)
  · rw [decide_eq_true ho] at c1
    have hv := showHead_yes ho
    have h7 := lastN_le h
    obtain ⟨_, _, a, b, c, d⟩ := ho
    dsimp only at a b c d hv
    have p1 := mPiece_eq la (by omega)
    have p2 := mPiece_eq va (by omega)
    have p3 := mPiece_eq ne (by omega)
    have p4 := mPiece_eq da (by omega)
    have s1 := varS_size h
    have s2 := varS_size t
    have s3 := pieceS_size la
    have s4 := pieceS_size va
    have s5 := pieceS_size ne
    have s6 := pieceS_size da
    have v1 := mVar_eq h
    have v2 := mVar_eq t
    generalize varS h = x1 at *
    generalize varS t = x2 at *
    generalize pieceS la = x3 at *
    generalize pieceS va = x4 at *
    generalize pieceS ne = x5 at *
    generalize pieceS da = x6 at *
    have t3 : x3.size ≤ 15 := by omega
    have t4 : x4.size ≤ 15 := by omega
    have t5 : x5.size ≤ 15 := by omega
    have t6 : x6.size ≤ 27 := by omega
    clear a b c d h7 s3 s4 s5 s6
    have e1 := ByteArray.size_append (a := x1) (b := x2)
    have e2 := ByteArray.size_append (a := x1 ++ x2) (b := x3)
    have e3 := ByteArray.size_append (a := x1 ++ x2 ++ x3) (b := x4)
    have e4 := ByteArray.size_append (a := x1 ++ x2 ++ x3 ++ x4) (b := x5)
    repeat (first | with_reducible (first | apply W.seq | apply W.block | apply W.skip | apply W.exit | apply W.ret | apply At.seqN | apply At.blkN | apply At.blkE | apply At.blkR | apply At.thenX | apply At.thenR | apply At.blkX rfl) | ((with_reducible apply W.ops); (repeat (first | refine WL.opA hΓ (h := ?_) | refine WL.opX hΓ (h := ?_) | refine WL.opY (h := ?_) | refine WL.opZ (h := ?_))); with_reducible apply WL.nil) | refine W.condT (h := ?_) | refine W.condF (h := ?_))
    refine W.drawsA hΓ 24 [[], [0], [0, 1], [], [3], [0, 1, 2, 3, 4], [0, 1, 2, 3, 4, 5], [], [7], [0, 1, 2, 3, 4, 5, 7, 8], [0, 1, 2, 3, 4, 5, 6, 7, 8, 9], [], [11], [0, 1, 2, 3, 4, 5, 7, 8, 9, 11, 12], [0, 1, 2, 3, 4, 5, 6, 7, 8, 9, 10, 11, 12, 13], [], [15], [0, 1, 2, 3, 4, 5, 7, 8, 9, 11, 12, 13, 15, 16], [0, 1, 2, 3, 4, 5, 6, 7, 8, 9, 10, 11, 12, 13, 14, 15, 16, 17], [], [19], [0, 1, 2, 3, 4, 5, 7, 8, 9, 11, 12, 13, 15, 16, 17, 19, 20], [0, 1, 2, 3, 4, 5, 6, 7, 8, 9, 10, 11, 12, 13, 14, 15, 16, 17, 18, 19, 20, 21], [0, 1, 2, 3, 4, 5, 6, 7, 8, 9, 10, 11, 12, 13, 14, 15, 16, 17, 18, 19, 20, 21, 22]] (rest := ?rest8) (Es := ?Es8) (st1 := ?st18) (h := ?h8) (hf := ?hf8) (hp := ?hp8) (hd := ?hd8) (hfr := ?hfr8) (hst := ?hst8) (hT := ?hT8)
    case h8 => kernel_rfl
    case hf8 =>
      repeat (first | refine FlowT.opA (h := ?_) | refine FlowT.opX (h := ?_) | refine FlowT.opY (h := ?_) | refine FlowT.opZ (h := ?_))
      exact FlowT.done
    case hp8 => rfl
    case hd8 => rfl
    case hfr8 => rfl
    case hst8 =>
      simp only [pick_nil, pick_all, List.cons_append, List.nil_append]
      rfl
    (repeat (first | refine WL.opA hΓ (h := ?_) | refine WL.opX hΓ (h := ?_) | refine WL.opY (h := ?_) | refine WL.opZ (h := ?_)))
    with_reducible apply WL.nil
    repeat (first | with_reducible (first | apply W.seq | apply W.block | apply W.skip | apply W.exit | apply W.ret | apply At.seqN | apply At.blkN | apply At.blkE | apply At.blkR | apply At.thenX | apply At.thenR | apply At.blkX rfl) | ((with_reducible apply W.ops); (repeat (first | refine WL.opA hΓ (h := ?_) | refine WL.opX hΓ (h := ?_) | refine WL.opY (h := ?_) | refine WL.opZ (h := ?_))); with_reducible apply WL.nil) | refine W.condT (h := ?_) | refine W.condF (h := ?_))
    refine At.retA (by rw [Tryz.results103]) (he := ?_)
    rw [hv]
  · rw [decide_eq_false ho] at c1
    have hv := showHead_no ho
    clear ho
    repeat (first | with_reducible (first | apply W.seq | apply W.block | apply W.skip | apply W.exit | apply W.ret | apply At.seqN | apply At.blkN | apply At.blkE | apply At.blkR | apply At.thenX | apply At.thenR | apply At.blkX rfl) | ((with_reducible apply W.ops); (repeat (first | refine WL.opA hΓ (h := ?_) | refine WL.opX hΓ (h := ?_) | refine WL.opY (h := ?_) | refine WL.opZ (h := ?_))); with_reducible apply WL.nil) | refine W.condT (h := ?_) | refine W.condF (h := ?_))
    refine At.retA (by rw [Tryz.results103]) (he := ?_)
    rw [hv]
    rfl
theorem pieceI_s : Sound Tryz.prog 164 mPiece := by
  refine Sound.mdl Tryz.func164 rfl Tryz.ntmps164 ?_
  rintro s w hl
  refine ⟨by simp, ?_⟩
  replace hl : s.size ≤ 1048576 := hl
  have hΓ : GSound Tryz.prog (look [(148, mVar)]) := env_cons (has_of Tryz.func148 rfl rfl) varImpl_s env_nil
  have c1 := mVar_eq s.size
  have s1 := varS_size s.size
  simp only [initS, argPV, List.map_cons, List.map_nil, toPL, Nat.zero_add]
  repeat (first | with_reducible (first | apply W.seq | apply W.block | apply W.skip | apply W.exit | apply W.ret | apply At.seqN | apply At.blkN | apply At.blkE | apply At.blkR | apply At.thenX | apply At.thenR | apply At.blkX rfl) | ((with_reducible apply W.ops); (repeat (first | refine WL.opA hΓ (h := ?_) | refine WL.opX hΓ (h := ?_) | refine WL.opY (h := ?_) | refine WL.opZ (h := ?_))); with_reducible apply WL.nil) | refine W.condT (h := ?_) | refine W.condF (h := ?_))
  refine At.retA (by rw [Tryz.results164]) (he := rfl)
theorem showHdI_s : Sound Tryz.prog 146 mShowHd := by
  refine Sound.mdl Tryz.func146 rfl Tryz.ntmps146 ?_
  rintro ⟨h, t, la, va, ne, da⟩ w -
  refine ⟨by simp, ?_⟩
  have hΓ : GSound Tryz.prog (look [(117, mHead), (148, mVar), (164, mPiece)]) := env_cons (has_of Tryz.func117 rfl rfl) headI_s (env_cons (has_of Tryz.func148 rfl rfl) varImpl_s (env_cons (has_of Tryz.func164 rfl rfl) pieceI_s env_nil))
  have c1 := mHead_eq (h, t, la, va, ne, da)
  dsimp only [aHd] at c1
  simp only [initS, argPV, List.map_cons, List.map_nil, toPL, Nat.zero_add]
  by_cases ho : headOk (h, t, la, va, ne, da)
  · rw [decide_eq_true ho] at c1
    have hv := showHead_yes ho
    have h7 := lastN_le h
    obtain ⟨_, _, a, b, c, d⟩ := ho
    dsimp only at a b c d hv
    have p1 := mPiece_eq la (by omega)
    have p2 := mPiece_eq va (by omega)
    have p3 := mPiece_eq ne (by omega)
    have p4 := mPiece_eq da (by omega)
    have s1 := varS_size h
    have s2 := varS_size t
    have s3 := pieceS_size la
    have s4 := pieceS_size va
    have s5 := pieceS_size ne
    have s6 := pieceS_size da
    have v1 := mVar_eq h
    have v2 := mVar_eq t
    generalize varS h = x1 at *
    generalize varS t = x2 at *
    generalize pieceS la = x3 at *
    generalize pieceS va = x4 at *
    generalize pieceS ne = x5 at *
    generalize pieceS da = x6 at *
    have t3 : x3.size ≤ 15 := by omega
    have t4 : x4.size ≤ 15 := by omega
    have t5 : x5.size ≤ 15 := by omega
    have t6 : x6.size ≤ 27 := by omega
    clear a b c d h7 s3 s4 s5 s6
    have e1 := ByteArray.size_append (a := x1) (b := x2)
    have e2 := ByteArray.size_append (a := x1 ++ x2) (b := x3)
    have e3 := ByteArray.size_append (a := x1 ++ x2 ++ x3) (b := x4)
    have e4 := ByteArray.size_append (a := x1 ++ x2 ++ x3 ++ x4) (b := x5)
    repeat (first | with_reducible (first | apply W.seq | apply W.block | apply W.skip | apply W.exit | apply W.ret | apply At.seqN | apply At.blkN | apply At.blkE | apply At.blkR | apply At.thenX | apply At.thenR | apply At.blkX rfl) | ((with_reducible apply W.ops); (repeat (first | refine WL.opA hΓ (h := ?_) | refine WL.opX hΓ (h := ?_) | refine WL.opY (h := ?_) | refine WL.opZ (h := ?_))); with_reducible apply WL.nil) | refine W.condT (h := ?_) | refine W.condF (h := ?_))
    refine W.drawsA hΓ 24 [[], [0], [0, 1], [], [3], [0, 1, 2, 3, 4], [0, 1, 2, 3, 4, 5], [], [7], [0, 1, 2, 3, 4, 5, 7, 8], [0, 1, 2, 3, 4, 5, 6, 7, 8, 9], [], [11], [0, 1, 2, 3, 4, 5, 7, 8, 9, 11, 12], [0, 1, 2, 3, 4, 5, 6, 7, 8, 9, 10, 11, 12, 13], [], [15], [0, 1, 2, 3, 4, 5, 7, 8, 9, 11, 12, 13, 15, 16], [0, 1, 2, 3, 4, 5, 6, 7, 8, 9, 10, 11, 12, 13, 14, 15, 16, 17], [], [19], [0, 1, 2, 3, 4, 5, 7, 8, 9, 11, 12, 13, 15, 16, 17, 19, 20], [0, 1, 2, 3, 4, 5, 6, 7, 8, 9, 10, 11, 12, 13, 14, 15, 16, 17, 18, 19, 20, 21], [0, 1, 2, 3, 4, 5, 6, 7, 8, 9, 10, 11, 12, 13, 14, 15, 16, 17, 18, 19, 20, 21, 22]] (rest := ?rest20) (Es := ?Es20) (st1 := ?st120) (h := ?h20) (hf := ?hf20) (hp := ?hp20) (hd := ?hd20) (hfr := ?hfr20) (hst := ?hst20) (hT := ?hT20)
    case h20 => kernel_rfl
    case hf20 =>
      repeat (first | refine FlowT.opA (h := ?_) | refine FlowT.opX (h := ?_) | refine FlowT.opY (h := ?_) | refine FlowT.opZ (h := ?_))
      exact FlowT.done
    case hp20 => rfl
    case hd20 => rfl
    case hfr20 => rfl
    case hst20 =>
      simp only [pick_nil, pick_all, List.cons_append, List.nil_append]
      rfl
    (repeat (first | refine WL.opA hΓ (h := ?_) | refine WL.opX hΓ (h := ?_) | refine WL.opY (h := ?_) | refine WL.opZ (h := ?_)))
    with_reducible apply WL.nil
    repeat (first | with_reducible (first | apply W.seq | apply W.block | apply W.skip | apply W.exit | apply W.ret | apply At.seqN | apply At.blkN | apply At.blkE | apply At.blkR | apply At.thenX | apply At.thenR | apply At.blkX rfl) | ((with_reducible apply W.ops); (repeat (first | refine WL.opA hΓ (h := ?_) | refine WL.opX hΓ (h := ?_) | refine WL.opY (h := ?_) | refine WL.opZ (h := ?_))); with_reducible apply WL.nil) | refine W.condT (h := ?_) | refine W.condF (h := ?_))
    refine At.retA (by rw [Tryz.results146]) (he := ?_)
    rw [hv]
  · rw [decide_eq_false ho] at c1
    have hv := showHead_no ho
    clear ho
    repeat (first | with_reducible (first | apply W.seq | apply W.block | apply W.skip | apply W.exit | apply W.ret | apply At.seqN | apply At.blkN | apply At.blkE | apply At.blkR | apply At.thenX | apply At.thenR | apply At.blkX rfl) | ((with_reducible apply W.ops); (repeat (first | refine WL.opA hΓ (h := ?_) | refine WL.opX hΓ (h := ?_) | refine WL.opY (h := ?_) | refine WL.opZ (h := ?_))); with_reducible apply WL.nil) | refine W.condT (h := ?_) | refine W.condF (h := ?_))
    refine At.retA (by rw [Tryz.results146]) (he := ?_)
    rw [hv]
    rfl

end Go.Proofs.YtimnogjgokljbaaGreatDoor

end
