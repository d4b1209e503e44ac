/-
  SnapNeed and SnapDone of spec and impl.
-/
import Derived.Test.YteaohgacgcjkjaaDoorEvSnapA
namespace Go.Proofs.YteaohgacgcjkjaaDoor
set_option maxRecDepth 100000
set_option linter.unusedVariables false
set_option linter.unusedSimpArgs false
open Go Go.RowKit
set_option maxHeartbeats 4000000

theorem needI_s : Sound Tryd.prog 24 (mdl okS (fun s => [aSnap s]) fun s => if sOk s then rL 3 1 cInt (needL s) else rN) := by
  refine Sound.mdl Tryd.func24 rfl Tryd.ntmps24 ?_
  rintro ⟨r, c, lh, lg⟩ w ⟨h1, h2, h3⟩
  refine ⟨by simp, ?_⟩
  dsimp only at h1 h2 h3
  have hΓ : GSound Tryd.prog (look [(45, mSnapOk)]) := env_cons (has_of Tryd.func45 rfl rfl) snapOkI_s env_nil
  have c1 := mSnapOk_eq (r, c, lh, lg) ⟨h1, h2, h3⟩
  dsimp only [aSnap] at c1
  have hnil : rowsF cInt [] = [] := rfl
  simp only [initS, argPV, List.map_cons, List.map_nil, toPL, Nat.zero_add]
  by_cases hs : sOk (r, c, lh, lg)
  · have hz := needK_zero lg
    repeat (first | with_reducible apply W.seq | with_reducible apply W.block | with_reducible apply W.skip | with_reducible apply W.exit | with_reducible apply W.ret | with_reducible apply At.seqN | with_reducible apply At.blkN | with_reducible apply At.blkE | with_reducible apply At.blkR | with_reducible apply At.thenX | with_reducible apply At.thenR | with_reducible apply At.blkX rfl | ((with_reducible apply W.ops); (repeat (first | refine WL.opA hΓ (h := ?_) | refine WL.opX hΓ (h := ?_) | refine WL.opY (h := ?_) | refine WL.opZ (h := ?_))); with_reducible apply WL.nil) | refine W.condT (h := ?_) | refine W.condF (h := ?_))
    refine W.loopA (fun k => k ≤ lg.length) (fun k : Nat => [.slot 13 (vI k), .slot 12 (vI lg.length), .slot 11 (vL cBool lg), .slot 3 (one (.all 9)), .blk 9 (.arr true 3 1 (rowsF cInt (needK lg k)))]) (fun k => lg.length - k) 0 (Nat.zero_le _) (h := ?_)
    rintro k hk
    have hnl := needK_len lg k
    by_cases hlt : k < lg.length
    · have hrow := row_bool hlt
      cases hg : lg[k] with
      | true =>
        have e := needK_no hlt hg
        repeat (first | with_reducible apply W.seq | with_reducible apply W.block | with_reducible apply W.skip | with_reducible apply W.exit | with_reducible apply W.ret | with_reducible apply At.seqN | with_reducible apply At.blkN | with_reducible apply At.blkE | with_reducible apply At.blkR | with_reducible apply At.thenX | with_reducible apply At.thenR | with_reducible apply At.blkX rfl | ((with_reducible apply W.ops); (repeat (first | refine WL.opA hΓ (h := ?_) | refine WL.opX hΓ (h := ?_) | refine WL.opY (h := ?_) | refine WL.opZ (h := ?_))); with_reducible apply WL.nil) | refine W.condT (h := ?_) | refine W.condF (h := ?_))
        exact At.roundA (k + 1) (by omega) (by omega)
      | false =>
        have e : rowsF cInt (needK lg k) ++ [[.sc (.int .i64 k)]] = rowsF cInt (needK lg (k + 1)) := by rw [needK_yes hlt hg, ← rowsF_app]; rfl
        repeat (first | with_reducible apply W.seq | with_reducible apply W.block | with_reducible apply W.skip | with_reducible apply W.exit | with_reducible apply W.ret | with_reducible apply At.seqN | with_reducible apply At.blkN | with_reducible apply At.blkE | with_reducible apply At.blkR | with_reducible apply At.thenX | with_reducible apply At.thenR | with_reducible apply At.blkX rfl | ((with_reducible apply W.ops); (repeat (first | refine WL.opA hΓ (h := ?_) | refine WL.opX hΓ (h := ?_) | refine WL.opY (h := ?_) | refine WL.opZ (h := ?_))); with_reducible apply WL.nil) | refine W.condT (h := ?_) | refine W.condF (h := ?_))
        exact At.roundA (k + 1) (by omega) (by omega)
    · have hke : k = lg.length := by omega
      subst hke
      repeat (first | with_reducible apply W.seq | with_reducible apply W.block | with_reducible apply W.skip | with_reducible apply W.exit | with_reducible apply W.ret | with_reducible apply At.seqN | with_reducible apply At.blkN | with_reducible apply At.blkE | with_reducible apply At.blkR | with_reducible apply At.thenX | with_reducible apply At.thenR | with_reducible apply At.blkX rfl | ((with_reducible apply W.ops); (repeat (first | refine WL.opA hΓ (h := ?_) | refine WL.opX hΓ (h := ?_) | refine WL.opY (h := ?_) | refine WL.opZ (h := ?_))); with_reducible apply WL.nil) | refine W.condT (h := ?_) | refine W.condF (h := ?_))
      refine At.retA (by rw [Tryd.results24]) (he := ?_)
      simp only [if_pos hs, needL]
  · repeat (first | with_reducible apply W.seq | with_reducible apply W.block | with_reducible apply W.skip | with_reducible apply W.exit | with_reducible apply W.ret | with_reducible apply At.seqN | with_reducible apply At.blkN | with_reducible apply At.blkE | with_reducible apply At.blkR | with_reducible apply At.thenX | with_reducible apply At.thenR | with_reducible apply At.blkX rfl | ((with_reducible apply W.ops); (repeat (first | refine WL.opA hΓ (h := ?_) | refine WL.opX hΓ (h := ?_) | refine WL.opY (h := ?_) | refine WL.opZ (h := ?_))); with_reducible apply WL.nil) | refine W.condT (h := ?_) | refine W.condF (h := ?_))
    refine At.retA (by rw [Tryd.results24]) (he := ?_)
    simp only [if_neg hs]
theorem doneI_s : Sound Tryd.prog 26 (mdl okD (fun s => [aSnap s]) fun s => .tup [rSc (.string (doneS s)), rSc (.bool (doneB s))]) := by
  refine Sound.mdl Tryd.func26 rfl Tryd.ntmps26 ?_
  rintro ⟨r, c, lh, lg⟩ w ⟨⟨h1, h2, h3⟩, ht⟩
  refine ⟨by simp, ?_⟩
  dsimp only at h1 h2 h3 ht
  have hΓ : GSound Tryd.prog (look [(45, mSnapOk), (24, mdl okS (fun s => [aSnap s]) fun s => if sOk s then rL 3 1 cInt (needL s) else rN)]) := env_cons (has_of Tryd.func45 rfl rfl) snapOkI_s (env_cons (has_of Tryd.func24 rfl rfl) needI_s env_nil)
  have c1 := mSnapOk_eq (r, c, lh, lg) ⟨h1, h2, h3⟩
  have c2 := mdl_eq (ok := okS) (g := fun s => if sOk s then rL 3 1 cInt (needL s) else rN) aSnap_inj (r, c, lh, lg) ⟨h1, h2, h3⟩
  dsimp only [aSnap] at c1 c2
  generalize hm : (mdl okS (fun s => [aSnap s]) fun s => if sOk s then rL 3 1 cInt (needL s) else rN) = mN at hΓ c2
  clear hm
  simp only [initS, argPV, List.map_cons, List.map_nil, toPL, Nat.zero_add]
  by_cases hs : sOk (r, c, lh, lg)
  · rw [if_pos hs] at c2
    have hN : needL (r, c, lh, lg) = needK lg lg.length := if_pos hs
    rw [hN] at c2
    by_cases hn : needK lg lg.length = []
    · rw [hn] at c2
      replace c2 : mN [.val true [.sc (.string r), .sc (.int .i64 c), .sl (rowsF cStr lh), .sl (rowsF cBool lg)]] = some (.comp false [.own true 3 1 []]) := c2
      have hz : catK lh 0 = .empty := rfl
      repeat (first | with_reducible apply W.seq | with_reducible apply W.block | with_reducible apply W.skip | with_reducible apply W.exit | with_reducible apply W.ret | with_reducible apply At.seqN | with_reducible apply At.blkN | with_reducible apply At.blkE | with_reducible apply At.blkR | with_reducible apply At.thenX | with_reducible apply At.thenR | with_reducible apply At.blkX rfl | ((with_reducible apply W.ops); (repeat (first | refine WL.opA hΓ (h := ?_) | refine WL.opX hΓ (h := ?_) | refine WL.opY (h := ?_) | refine WL.opZ (h := ?_))); with_reducible apply WL.nil) | refine W.condT (h := ?_) | refine W.condF (h := ?_))
      refine W.loopA (fun k => k ≤ lh.length) (fun k : Nat => [.slot 19 (vI k), .slot 18 (vI lh.length), .slot 17 (vL cStr lh), .slot 4 (vS (catK lh k))]) (fun k => lh.length - k) 0 (Nat.zero_le _) (h := ?_)
      rintro k hk
      by_cases hlt : k < lh.length
      · have hrow := row_str hlt
        have e := catK_succ hlt
        have hin := cat_in hlt ht
        repeat (first | with_reducible apply W.seq | with_reducible apply W.block | with_reducible apply W.skip | with_reducible apply W.exit | with_reducible apply W.ret | with_reducible apply At.seqN | with_reducible apply At.blkN | with_reducible apply At.blkE | with_reducible apply At.blkR | with_reducible apply At.thenX | with_reducible apply At.thenR | with_reducible apply At.blkX rfl | ((with_reducible apply W.ops); (repeat (first | refine WL.opA hΓ (h := ?_) | refine WL.opX hΓ (h := ?_) | refine WL.opY (h := ?_) | refine WL.opZ (h := ?_))); with_reducible apply WL.nil) | refine W.condT (h := ?_) | refine W.condF (h := ?_))
        exact At.roundA (k + 1) (by omega) (by omega)
      · have hke : k = lh.length := by omega
        subst hke
        repeat (first | with_reducible apply W.seq | with_reducible apply W.block | with_reducible apply W.skip | with_reducible apply W.exit | with_reducible apply W.ret | with_reducible apply At.seqN | with_reducible apply At.blkN | with_reducible apply At.blkE | with_reducible apply At.blkR | with_reducible apply At.thenX | with_reducible apply At.thenR | with_reducible apply At.blkX rfl | ((with_reducible apply W.ops); (repeat (first | refine WL.opA hΓ (h := ?_) | refine WL.opX hΓ (h := ?_) | refine WL.opY (h := ?_) | refine WL.opZ (h := ?_))); with_reducible apply WL.nil) | refine W.condT (h := ?_) | refine W.condF (h := ?_))
        refine At.retA (by rw [Tryd.results26]) (he := ?_)
        simp only [doneS, doneB, if_pos (⟨hs, hn⟩ : _ ∧ _), decide_eq_true (⟨hs, hn⟩ : _ ∧ _)]
    · have hpos : 0 < (needK lg lg.length).length := List.length_pos_iff.2 hn
      repeat (first | with_reducible apply W.seq | with_reducible apply W.block | with_reducible apply W.skip | with_reducible apply W.exit | with_reducible apply W.ret | with_reducible apply At.seqN | with_reducible apply At.blkN | with_reducible apply At.blkE | with_reducible apply At.blkR | with_reducible apply At.thenX | with_reducible apply At.thenR | with_reducible apply At.blkX rfl | ((with_reducible apply W.ops); (repeat (first | refine WL.opA hΓ (h := ?_) | refine WL.opX hΓ (h := ?_) | refine WL.opY (h := ?_) | refine WL.opZ (h := ?_))); with_reducible apply WL.nil) | refine W.condT (h := ?_) | refine W.condF (h := ?_))
      refine At.retA (by rw [Tryd.results26]) (he := ?_)
      simp only [doneS, doneB, if_neg (fun h : _ ∧ _ => hn h.2), decide_eq_false (fun h : _ ∧ _ => hn h.2)]
      rfl
  · rw [if_neg hs] at c2
    repeat (first | with_reducible apply W.seq | with_reducible apply W.block | with_reducible apply W.skip | with_reducible apply W.exit | with_reducible apply W.ret | with_reducible apply At.seqN | with_reducible apply At.blkN | with_reducible apply At.blkE | with_reducible apply At.blkR | with_reducible apply At.thenX | with_reducible apply At.thenR | with_reducible apply At.blkX rfl | ((with_reducible apply W.ops); (repeat (first | refine WL.opA hΓ (h := ?_) | refine WL.opX hΓ (h := ?_) | refine WL.opY (h := ?_) | refine WL.opZ (h := ?_))); with_reducible apply WL.nil) | refine W.condT (h := ?_) | refine W.condF (h := ?_))
    refine At.retA (by rw [Tryd.results26]) (he := ?_)
    simp only [doneS, doneB, if_neg (fun h : _ ∧ _ => hs h.1), decide_eq_false (fun h : _ ∧ _ => hs h.1)]
    rfl

end Go.Proofs.YteaohgacgcjkjaaDoor
