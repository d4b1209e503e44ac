/-
  The law FnTxs.
-/
import Derived.Test.YtlchfjjoendimaaEvTx
import Derived.Test.YtlchfjjoendimaaEvFresh
import Derived.Test.YtlchfjjoendimaaEvFrz
namespace Go.Proofs.Ytlchfjjoendimaa
set_option maxRecDepth 100000
set_option linter.unusedVariables false
set_option linter.unusedSimpArgs false
open Go Go.RowKit
set_option maxHeartbeats 8000000
set_option linter.unusedVariables false

theorem mPAi_eq (l : List TTx) (t : TTx) (h : l.length ≤ 8796093022207) : mPAi [aL cTx l, aTx t] = some (rPAi (l, t)) := mdl_eq encPA_inj (l, t) h
theorem rows_cI {W : List Int} {j : Nat} {v : Int} (h : W[j]? = some v) : (rowsF cInt W)[j]? = some [.sc (.int .i64 v)] := by
  unfold rowsF
  rw [List.getElem?_map, h]
  rfl
theorem lawTxs_s : Sound Try.prog 5 (mdl (fun bs : List Nat => bs.length ≤ 9223372036854775807 ∧ ∀ n ∈ bs, n < 256) (fun bs => [aL cU8 bs]) fun _ => rB true) := by
  refine Sound.mdl Try.func5 rfl Try.ntmps5 ?_
  rintro bs w ⟨hlen, hbs⟩
  refine ⟨by simp, ?_⟩
  have g1 := env_cons (has_of Try.func9 rfl rfl) big_s (env_cons (has_of Try.func27 rfl rfl) pAddI_s (env_cons (has_of Try.func28 rfl rfl) pAddS_s (env_cons (has_of Try.func29 rfl rfl) poolS_s (env_cons (has_of Try.func30 rfl rfl) hasT_s (env_cons (has_of Try.func31 rfl rfl) feeI_s (env_cons (has_of Try.func32 rfl rfl) feeS_s (env_cons (has_of Try.func34 rfl rfl) pickI_s (env_cons (has_of Try.func35 rfl rfl) pickS_s (env_cons (has_of Try.func36 rfl rfl) doneI_s (env_cons (has_of Try.func38 rfl rfl) doneS_s env_nil))))))))))
  have hΓ : GSound Try.prog (look [(9, mBig), (27, mPAi), (28, mPAs), (29, mPool), (30, mHasT), (31, mFee), (32, mFee), (34, mPkI), (35, mPkS), (36, mDnI), (38, mDnS)]) := g1
  clear g1
  have hDA : Has Try.prog 26 := has_of Try.func26 rfl rfl
  have hDP : Has Try.prog 33 := has_of Try.func33 rfl rfl
  have hDD : Has Try.prog 37 := has_of Try.func37 rfl rfl
  have hnT : rowsF cTx [] = [] := rfl
  have c0 := mBig_eq bs hlen
  simp only [initS, argPV, List.map_cons, List.map_nil, toPL, Nat.zero_add]
  by_cases hb : 1048576 < bs.length
  · repeat (first | with_reducible apply W.seq | with_reducible apply W.block | with_reducible apply W.skip | with_reducible apply W.exit | with_reducible apply W.ret | with_reducible apply At.seqN | with_reducible apply At.blkN | with_reducible apply At.blkE | with_reducible apply At.blkR | with_reducible apply At.thenX | with_reducible apply At.thenR | with_reducible apply At.blkX rfl | ((with_reducible apply W.ops); (repeat (first | refine WL.opA hΓ (h := ?_) | refine WL.opX hΓ (h := ?_) | refine WL.opY (h := ?_) | refine WL.opZ (h := ?_))); with_reducible apply WL.nil) | refine W.condT (h := ?_) | refine W.condF (h := ?_))
    refine At.retA (by rw [Try.results5]) (he := rfl)
  · have hcode := CodeOk.le (bs := bs) (by omega) hbs
    clear hbs
    repeat (first | with_reducible apply W.seq | with_reducible apply W.block | with_reducible apply W.skip | with_reducible apply W.exit | with_reducible apply W.ret | with_reducible apply At.seqN | with_reducible apply At.blkN | with_reducible apply At.blkE | with_reducible apply At.blkR | with_reducible apply At.thenX | with_reducible apply At.thenR | with_reducible apply At.blkX rfl | ((with_reducible apply W.ops); (repeat (first | refine WL.opA hΓ (h := ?_) | refine WL.opX hΓ (h := ?_) | refine WL.opY (h := ?_) | refine WL.opZ (h := ?_))); with_reducible apply WL.nil) | refine W.condT (h := ?_) | refine W.condF (h := ?_))
    with_reducible apply W.ops
    repeat (first | refine WL.opA hΓ (h := ?_) | refine WL.opX hΓ (h := ?_) | refine WL.opY (h := ?_) | refine WL.opZ (h := ?_))
    refine WL.opRA hDA DrawPoolAdd_s bs hcode (h := ?_)
    refine (fun (key : W Try.prog none0 w 238 [.slot 0 (vL cU8 bs)] ?codeK ?postK) => ?main) ?part
    case main =>
      rintro ⟨l, t⟩ hl
      replace hl : l.length ≤ 14 := hl
      have c1 := mPAi_eq l t (by omega)
      have c2 := mPAs_eq l t (by omega)
      have hle := pAddL_le2 l t
      have c3 := mPool_eq (pAddL l t) (by omega)
      have c4 := mHasT_eq (pAddL l t) t (by omega)
      have c5 := mPool_eq l (by omega)
      have c6 := mFee_eq l (by omega)
      have y1 := padd_yes (l := l) (t := t)
      have y2 := padd_no (l := l) (t := t)
      obtain ⟨ta, tb, tc⟩ := t
      dsimp only
      (repeat (first | refine WL.opA hΓ (h := ?_) | refine WL.opX hΓ (h := ?_) | refine WL.opY (h := ?_) | refine WL.opZ (h := ?_)))
      with_reducible apply WL.nil
      cases hB : pAddB l (ta, tb, tc) with
      | true =>
        obtain ⟨z1, z2⟩ := y1 hB
        have hpl : poolOk l := by
          simp only [pAddB, Bool.and_eq_true, decide_eq_true_eq] at hB
          exact hB.1.1
        simp only [rPAi, if_pos hpl, hB] at c1
        rw [hB] at c2
        rw [decide_eq_true z1] at c3
        rw [decide_eq_true z2] at c4
        clear y1 y2 z1 z2 hpl hB c5 c6
        repeat (first | with_reducible apply W.seq | with_reducible apply W.block | with_reducible apply W.skip | with_reducible apply W.exit | with_reducible apply W.ret | with_reducible apply At.seqN | with_reducible apply At.blkN | with_reducible apply At.blkE | with_reducible apply At.blkR | with_reducible apply At.thenX | with_reducible apply At.thenR | with_reducible apply At.blkX rfl | ((with_reducible apply W.ops); (repeat (first | refine WL.opA hΓ (h := ?_) | refine WL.opX hΓ (h := ?_) | refine WL.opY (h := ?_) | refine WL.opZ (h := ?_))); with_reducible apply WL.nil) | refine W.condT (h := ?_) | refine W.condF (h := ?_))
        refine W.subA [.slot 0 (vL cU8 bs)] (h := ?_)
        exact key
      | false =>
        by_cases hpl : poolOk l
        · have z1 := y2 hB hpl
          simp only [rPAi, if_pos hpl, hB] at c1
          rw [hB] at c2
          rw [z1] at c1 c2
          rw [decide_eq_true hpl] at c5
          clear y1 y2 z1 hpl hB c3 c4 hle
          repeat (first | with_reducible apply W.seq | with_reducible apply W.block | with_reducible apply W.skip | with_reducible apply W.exit | with_reducible apply W.ret | with_reducible apply At.seqN | with_reducible apply At.blkN | with_reducible apply At.blkE | with_reducible apply At.blkR | with_reducible apply At.thenX | with_reducible apply At.thenR | with_reducible apply At.blkX rfl | ((with_reducible apply W.ops); (repeat (first | refine WL.opA hΓ (h := ?_) | refine WL.opX hΓ (h := ?_) | refine WL.opY (h := ?_) | refine WL.opZ (h := ?_))); with_reducible apply WL.nil) | refine W.condT (h := ?_) | refine W.condF (h := ?_))
          refine W.subA [.slot 0 (vL cU8 bs)] (h := ?_)
          exact key
        · simp only [rPAi, if_neg hpl, hB] at c1
          rw [hB] at c2
          rw [decide_eq_false hpl] at c5
          clear y1 y2 hpl hB c3 c4 c6
          repeat (first | with_reducible apply W.seq | with_reducible apply W.block | with_reducible apply W.skip | with_reducible apply W.exit | with_reducible apply W.ret | with_reducible apply At.seqN | with_reducible apply At.blkN | with_reducible apply At.blkE | with_reducible apply At.blkR | with_reducible apply At.thenX | with_reducible apply At.thenR | with_reducible apply At.blkX rfl | ((with_reducible apply W.ops); (repeat (first | refine WL.opA hΓ (h := ?_) | refine WL.opX hΓ (h := ?_) | refine WL.opY (h := ?_) | refine WL.opZ (h := ?_))); with_reducible apply WL.nil) | refine W.condT (h := ?_) | refine W.condF (h := ?_))
          refine W.subA [.slot 0 (vL cU8 bs)] (h := ?_)
          exact key
    case part =>
      with_reducible apply W.ops
      repeat (first | refine WL.opA hΓ (h := ?_) | refine WL.opX hΓ (h := ?_) | refine WL.opY (h := ?_) | refine WL.opZ (h := ?_))
      refine WL.opRA hDP DrawPoolPick_s bs hcode (h := ?_)
      rintro ⟨m, next, most⟩ ⟨hm, hnx⟩
      dsimp only at hm hnx ⊢
      (repeat (first | refine WL.opA hΓ (h := ?_) | refine WL.opX hΓ (h := ?_) | refine WL.opY (h := ?_) | refine WL.opZ (h := ?_)))
      with_reducible apply WL.nil
      have hok : okPick (m, next, most) := ⟨by dsimp only; omega, by dsimp only; omega⟩
      have d1 := mPkI_eq m next most hok
      have d2 := mPkS_eq m next most hok
      have d3 := mPool_eq m (by omega)
      have hPle := pickL_le m next most
      have e0 : [[Leaf.sc (.int .i64 0)], [.sc (.int .i64 1)], [.sc (.int .i64 1)], [.sc (.int .i64 1)], [.sc (.int .i64 1)], [.sc (.int .i64 1)], [.sc (.int .i64 1)], [.sc (.int .i64 1)], [.sc (.int .i64 1)], [.sc (.int .i64 1)]] = rowsF cInt (wI next 0) := rfl
      clear c0 hok hlen
      by_cases hmo : poolOk m
      · rw [if_pos hmo] at d1
        rw [decide_eq_true hmo] at d3
        have hstep := fun i hi => pick_step (next := next) (most := most) hmo (i := i) hi
        generalize pickL m next most = P at *
        have hcl : poolOk (poolLeft P m) := left_ok hmo
        have hDn : poolDone m P = poolLeft P m := by unfold poolDone; rw [if_pos hmo]
        have hLl := poolLeft_le P m
        have d4 := mDnI_eq m P (by omega) (by omega)
        rw [if_pos hmo, hDn] at d4
        have d5 := mPool_eq (poolLeft P m) (by omega)
        rw [decide_eq_true hcl] at d5
        clear hDn hcl
        repeat (first | with_reducible apply W.seq | with_reducible apply W.block | with_reducible apply W.skip | with_reducible apply W.exit | with_reducible apply W.ret | with_reducible apply At.seqN | with_reducible apply At.blkN | with_reducible apply At.blkE | with_reducible apply At.blkR | with_reducible apply At.thenX | with_reducible apply At.thenR | with_reducible apply At.blkX rfl | ((with_reducible apply W.ops); (repeat (first | refine WL.opA hΓ (h := ?_) | refine WL.opX hΓ (h := ?_) | refine WL.opY (h := ?_) | refine WL.opZ (h := ?_))); with_reducible apply WL.nil) | refine W.condT (h := ?_) | refine W.condF (h := ?_))
        refine W.loopA (fun k => k ≤ next.length) (fun k : Nat => [.slot 0 (vL cU8 bs), .slot 9 (one (.all 75)), .blk 75 (.arr true 44 3 (rowsF cTx m)), .slot 10 (one (.all 64075)), .blk 64075 (.arr true 3 1 (rowsF cInt next)), .slot 12 (one (.all 82)), .blk 82 (.arr true 44 3 (rowsF cTx P)), .slot 13 (one (.all 86)), .blk 86 (.arr true 44 3 (rowsF cTx P)), .slot 14 (one (.all 92)), .blk 92 (.arr true 3 1 (rowsF cInt (wI next k))), .slot 15 (vI ((k + 1 : Nat) : Int))]) (fun k => next.length - k) 0 (Nat.zero_le _) (h := ?_)
        rintro k hk
        clear e0
        have hwl := wI_len next k
        by_cases hlt : k < next.length
        · have hrow : (rowsF cInt next)[k]? = some [.sc (.int .i64 next[k])] := rowsF_get cInt next k hlt
          have hold : (rowsF cInt (wI next k))[k + 1]? = some [.sc (.int .i64 (wI next k)[k + 1])] := rowsF_get cInt (wI next k) (k + 1) (by omega)
          have hi1 : (((k + 1 : Nat) : Int) - 1) = (k : Int) := by omega
          have e2 : (rowsF cInt (wI next k)).set (k + 1) [.sc (.int .i64 next[k])] = rowsF cInt (wI next (k + 1)) := by
            rw [← wI_succ hlt (by omega)]
            exact rowsF_set cInt (wI next k) (k + 1) next[k]
          repeat (first | with_reducible apply W.seq | with_reducible apply W.block | with_reducible apply W.skip | with_reducible apply W.exit | with_reducible apply W.ret | with_reducible apply At.seqN | with_reducible apply At.blkN | with_reducible apply At.blkE | with_reducible apply At.blkR | with_reducible apply At.thenX | with_reducible apply At.thenR | with_reducible apply At.blkX rfl | ((with_reducible apply W.ops); (repeat (first | refine WL.opA hΓ (h := ?_) | refine WL.opX hΓ (h := ?_) | refine WL.opY (h := ?_) | refine WL.opZ (h := ?_))); with_reducible apply WL.nil) | refine W.condT (h := ?_) | refine W.condF (h := ?_))
          exact At.roundA (k + 1) (by omega) (by omega)
        · rw [wI_all P (show next.length ≤ k by omega)]
          clear hwl
          repeat (first | with_reducible apply W.seq | with_reducible apply W.block | with_reducible apply W.skip | with_reducible apply W.exit | with_reducible apply W.ret | with_reducible apply At.seqN | with_reducible apply At.blkN | with_reducible apply At.blkE | with_reducible apply At.blkR | with_reducible apply At.thenX | with_reducible apply At.thenR | with_reducible apply At.blkX rfl | ((with_reducible apply W.ops); (repeat (first | refine WL.opA hΓ (h := ?_) | refine WL.opX hΓ (h := ?_) | refine WL.opY (h := ?_) | refine WL.opZ (h := ?_))); with_reducible apply WL.nil) | refine W.condT (h := ?_) | refine W.condF (h := ?_))
          refine W.loopA (fun i => i ≤ P.length) (fun i : Nat => [.slot 0 (vL cU8 bs), .slot 9 (one (.all 75)), .blk 75 (.arr true 44 3 (rowsF cTx m)), .slot 12 (one (.all 82)), .blk 82 (.arr true 44 3 (rowsF cTx P)), .slot 13 (one (.all 86)), .blk 86 (.arr true 44 3 (rowsF cTx P)), .slot 14 (one (.all 92)), .blk 92 (.arr true 3 1 (rowsF cInt (wantP next P i))), .slot 16 (vI i)]) (fun i => P.length - i) 0 (Nat.zero_le _) (h := ?_)
          rintro i hi
          have hwl := wantP_len next P i
          by_cases hil : i < P.length
          · obtain ⟨s1, s2, s3, s4⟩ := hstep i hil
            have hrow := tx_row hil
            have hr := pool_at hmo s1
            have cH := mHasT_eq m P[i] (by omega)
            rw [decide_eq_true s1] at cH
            have hW := rows_cI s2
            have hset : (rowsF cInt (wantP next P i)).set P[i].1.toNat [.sc (.int .i64 (P[i].2.1 + 1))] = rowsF cInt (wantP next P (i + 1)) := by
              rw [← s4]
              exact rowsF_set cInt (wantP next P i) _ _
            clear s1 s2 s4 hstep d1 d2 d4 d5
            generalize P[i] = t at *
            obtain ⟨ta, tb, tc⟩ := t
            dsimp only [bTx, aTx] at hrow hr cH hW hset s3
            repeat (first | with_reducible apply W.seq | with_reducible apply W.block | with_reducible apply W.skip | with_reducible apply W.exit | with_reducible apply W.ret | with_reducible apply At.seqN | with_reducible apply At.blkN | with_reducible apply At.blkE | with_reducible apply At.blkR | with_reducible apply At.thenX | with_reducible apply At.thenR | with_reducible apply At.blkX rfl | ((with_reducible apply W.ops); (repeat (first | refine WL.opA hΓ (h := ?_) | refine WL.opX hΓ (h := ?_) | refine WL.opY (h := ?_) | refine WL.opZ (h := ?_))); with_reducible apply WL.nil) | refine W.condT (h := ?_) | refine W.condF (h := ?_))
            refine W.drawsA hΓ 34 [[], [], [0, 1], [0, 1, 2], [], [], [4, 5], [4, 5, 6], [0, 1, 2, 3, 4, 5, 6, 7], [0, 1, 2, 3, 4, 5, 6, 7, 8], [0, 1, 2, 3, 4, 5, 6, 7, 8, 9], [0, 1, 2, 3, 4, 5, 6, 7, 8, 9], [0, 1, 2, 3, 4, 5, 6, 7, 8, 9, 10, 11], [0, 1, 2, 3, 4, 5, 6, 7, 8, 9, 10, 11, 12], [0, 1, 2, 3, 4, 5, 6, 7, 8, 9, 10, 11, 12, 13], [0, 1, 2, 3, 4, 5, 6, 7, 8, 9], [0, 1, 2, 3, 4, 5, 6, 7, 8, 9], [0, 1, 2, 3, 4, 5, 6, 7, 8, 9], [0, 1, 2, 3, 4, 5, 6, 7, 8, 9, 16, 17], [0, 1, 2, 3, 4, 5, 6, 7, 8, 9, 16, 17, 18], [0, 1, 2, 3, 4, 5, 6, 7, 8, 9, 16, 17, 18, 19], [0, 1, 2, 3, 4, 5, 6, 7, 8, 9, 15, 16, 17, 18, 19, 20], [0, 1, 2, 3, 4, 5, 6, 7, 8, 9, 15, 16, 17, 18, 19, 20, 21], [0, 1, 2, 3, 4, 5, 6, 7, 8, 9, 10, 11, 12, 13, 14, 15, 16, 17, 18, 19, 20, 21, 22], [0, 1, 2, 3, 4, 5, 6, 7, 8, 9, 10, 11, 12, 13, 14, 15, 16, 17, 18, 19, 20, 21, 22, 23], [0, 1, 2, 3, 4, 5, 6, 7, 8, 9, 10, 11, 12, 13, 14, 15, 16, 17, 18, 19, 20, 21, 22, 23, 24], [0, 1, 2, 3, 4, 5, 6, 7, 8, 9, 10, 11, 12, 13, 14, 15, 16, 17, 18, 19, 20, 21, 22, 23, 24, 25], [0, 1, 2, 3, 4, 5, 6, 7, 8, 9, 10, 11, 12, 13, 14, 15, 16, 17, 18, 19, 20, 21, 22, 23, 24, 25], [0, 1, 2, 3, 4, 5, 6, 7, 8, 9, 10, 11, 12, 13, 14, 15, 16, 17, 18, 19, 20, 21, 22, 23, 24, 25], [0, 1, 2, 3, 4, 5, 6, 7, 8, 9, 10, 11, 12, 13, 14, 15, 16, 17, 18, 19, 20, 21, 22, 23, 24, 25, 27, 28], [0, 1, 2, 3, 4, 5, 6, 7, 8, 9, 10, 11, 12, 13, 14, 15, 16, 17, 18, 19, 20, 21, 22, 23, 24, 25, 27, 28, 29], [0, 1, 2, 3, 4, 5, 6, 7, 8, 9, 10, 11, 12, 13, 14, 15, 16, 17, 18, 19, 20, 21, 22, 23, 24, 25, 26, 27, 28, 29, 30], [0, 1, 2, 3, 4, 5, 6, 7, 8, 9, 10, 11, 12, 13, 14, 15, 16, 17, 18, 19, 20, 21, 22, 23, 24, 25, 26, 27, 28, 29, 30, 31], [0, 1, 2, 3, 4, 5, 6, 7, 8, 9, 10, 11, 12, 13, 14, 15, 16, 17, 18, 19, 20, 21, 22, 23, 24, 25, 26, 27, 28, 29, 30, 31, 32]] (rest := ?rest17) (Es := ?Es17) (st1 := ?st117) (h := ?h17) (hf := ?hf17) (hp := ?hp17) (hd := ?hd17) (hfr := ?hfr17) (hst := ?hst17) (hT := ?hT17)
            case h17 => kernel_rfl
            case hf17 =>
              repeat (first | refine FlowT.opA (h := ?_) | refine FlowT.opX (h := ?_) | refine FlowT.opY (h := ?_) | refine FlowT.opZ (h := ?_))
              exact FlowT.done
            case hp17 => rfl
            case hd17 => rfl
            case hfr17 => rfl
            case hst17 =>
              simp only [pick_nil, pick_all, List.cons_append, List.nil_append]
              rfl
            (repeat (first | refine WL.opA hΓ (h := ?_) | refine WL.opX hΓ (h := ?_) | refine WL.opY (h := ?_) | refine WL.opZ (h := ?_)))
            with_reducible apply WL.nil
            repeat (first | with_reducible apply W.seq | with_reducible apply W.block | with_reducible apply W.skip | with_reducible apply W.exit | with_reducible apply W.ret | with_reducible apply At.seqN | with_reducible apply At.blkN | with_reducible apply At.blkE | with_reducible apply At.blkR | with_reducible apply At.thenX | with_reducible apply At.thenR | with_reducible apply At.blkX rfl | ((with_reducible apply W.ops); (repeat (first | refine WL.opA hΓ (h := ?_) | refine WL.opX hΓ (h := ?_) | refine WL.opY (h := ?_) | refine WL.opZ (h := ?_))); with_reducible apply WL.nil) | refine W.condT (h := ?_) | refine W.condF (h := ?_))
            refine W.loopA (fun k => k ≤ m.length) (fun k : Nat => [.slot 0 (vL cU8 bs), .slot 9 (one (.all 75)), .blk 75 (.arr true 44 3 (rowsF cTx m)), .slot 12 (one (.all 82)), .blk 82 (.arr true 44 3 (rowsF cTx P)), .slot 13 (one (.all 86)), .blk 86 (.arr true 44 3 (rowsF cTx P)), .slot 14 (one (.all 92)), .blk 92 (.arr true 3 1 (rowsF cInt (wantP next P i))), .slot 16 (vI i), .slot 17 (vI k)]) (fun k => m.length - k) 0 (Nat.zero_le _) (h := ?_)
            rintro k2 hk2
            by_cases hkl : k2 < m.length
            · have hrowx := tx_row hkl
              have hrx := pool_at hmo (List.getElem_mem hkl)
              have hvl : m[k2].1.toNat < (wantP next P i).length := by omega
              have s3x := s3 _ (List.getElem_mem hkl) _ (List.getElem?_eq_getElem hvl)
              have hWx := rows_cI (List.getElem?_eq_getElem hvl)
              clear s3 hW hset cH d3
              generalize (wantP next P i)[m[k2].1.toNat] = v at hWx s3x
              generalize m[k2] = x at *
              obtain ⟨xa, xb, xc⟩ := x
              dsimp only [bTx] at hrowx hrx hWx s3x hvl
              by_cases hxv : xb = v
              · subst hxv
                replace s3x := s3x rfl
                repeat (first | with_reducible apply W.seq | with_reducible apply W.block | with_reducible apply W.skip | with_reducible apply W.exit | with_reducible apply W.ret | with_reducible apply At.seqN | with_reducible apply At.blkN | with_reducible apply At.blkE | with_reducible apply At.blkR | with_reducible apply At.thenX | with_reducible apply At.thenR | with_reducible apply At.blkX rfl | ((with_reducible apply W.ops); (repeat (first | refine WL.opA hΓ (h := ?_) | refine WL.opX hΓ (h := ?_) | refine WL.opY (h := ?_) | refine WL.opZ (h := ?_))); with_reducible apply WL.nil) | refine W.condT (h := ?_) | refine W.condF (h := ?_))
                refine W.drawsA hΓ 27 [[], [], [0, 1], [0, 1, 2], [0, 1, 2, 3], [], [], [], [6, 7], [6, 7, 8], [6, 7, 8, 9], [5, 6, 7, 8, 9, 10], [5, 6, 7, 8, 9, 10, 11], [0, 1, 2, 3, 4, 5, 6, 7, 8, 9, 10, 11, 12], [0, 1, 2, 3, 4, 5, 6, 7, 8, 9, 10, 11, 12, 13], [0, 1, 2, 3, 4, 5, 6, 7, 8, 9, 10, 11, 12, 13, 14], [0, 1, 2, 3, 4, 5, 6, 7, 8, 9, 10, 11, 12, 13, 14], [0, 1, 2, 3, 4, 5, 6, 7, 8, 9, 10, 11, 12, 13, 14, 15, 16], [0, 1, 2, 3, 4, 5, 6, 7, 8, 9, 10, 11, 12, 13, 14, 15, 16, 17], [0, 1, 2, 3, 4, 5, 6, 7, 8, 9, 10, 11, 12, 13, 14, 15, 16, 17, 18], [0, 1, 2, 3, 4, 5, 6, 7, 8, 9, 10, 11, 12, 13, 14], [0, 1, 2, 3, 4, 5, 6, 7, 8, 9, 10, 11, 12, 13, 14], [0, 1, 2, 3, 4, 5, 6, 7, 8, 9, 10, 11, 12, 13, 14, 20, 21], [0, 1, 2, 3, 4, 5, 6, 7, 8, 9, 10, 11, 12, 13, 14, 20, 21, 22], [0, 1, 2, 3, 4, 5, 6, 7, 8, 9, 10, 11, 12, 13, 14, 20, 21, 22, 23], [0, 1, 2, 3, 4, 5, 6, 7, 8, 9, 10, 11, 12, 13, 14, 15, 16, 17, 18, 19, 20, 21, 22, 23, 24], [0, 1, 2, 3, 4, 5, 6, 7, 8, 9, 10, 11, 12, 13, 14, 15, 16, 17, 18, 19, 20, 21, 22, 23, 24, 25]] (rest := ?rest20) (Es := ?Es20) (st1 := ?st120) (h := ?h20) (hf := ?hf20) (hp := ?hp20) (hd := ?hd20) (hfr := ?hfr20) (hst := ?hst20) (hT := ?hT20)
                case h20 => kernel_rfl
                case hf20 =>
                  repeat (first | refine FlowT.opA (h := ?_) | refine FlowT.opX (h := ?_) | refine FlowT.opY (h := ?_) | refine FlowT.opZ (h := ?_))
                  exact FlowT.done
                case hp20 => rfl
                case hd20 => rfl
                case hfr20 => rfl
                case hst20 =>
                  simp only [pick_nil, pick_all, List.cons_append, List.nil_append]
                  rfl
                (repeat (first | refine WL.opA hΓ (h := ?_) | refine WL.opX hΓ (h := ?_) | refine WL.opY (h := ?_) | refine WL.opZ (h := ?_)))
                with_reducible apply WL.nil
                repeat (first | with_reducible apply W.seq | with_reducible apply W.block | with_reducible apply W.skip | with_reducible apply W.exit | with_reducible apply W.ret | with_reducible apply At.seqN | with_reducible apply At.blkN | with_reducible apply At.blkE | with_reducible apply At.blkR | with_reducible apply At.thenX | with_reducible apply At.thenR | with_reducible apply At.blkX rfl | ((with_reducible apply W.ops); (repeat (first | refine WL.opA hΓ (h := ?_) | refine WL.opX hΓ (h := ?_) | refine WL.opY (h := ?_) | refine WL.opZ (h := ?_))); with_reducible apply WL.nil) | refine W.condT (h := ?_) | refine W.condF (h := ?_))
                exact At.roundA (k2 + 1) (by omega) (by omega)
              · clear s3x
                repeat (first | with_reducible apply W.seq | with_reducible apply W.block | with_reducible apply W.skip | with_reducible apply W.exit | with_reducible apply W.ret | with_reducible apply At.seqN | with_reducible apply At.blkN | with_reducible apply At.blkE | with_reducible apply At.blkR | with_reducible apply At.thenX | with_reducible apply At.thenR | with_reducible apply At.blkX rfl | ((with_reducible apply W.ops); (repeat (first | refine WL.opA hΓ (h := ?_) | refine WL.opX hΓ (h := ?_) | refine WL.opY (h := ?_) | refine WL.opZ (h := ?_))); with_reducible apply WL.nil) | refine W.condT (h := ?_) | refine W.condF (h := ?_))
                refine W.drawsA hΓ 27 [[], [], [0, 1], [0, 1, 2], [0, 1, 2, 3], [], [], [], [6, 7], [6, 7, 8], [6, 7, 8, 9], [5, 6, 7, 8, 9, 10], [5, 6, 7, 8, 9, 10, 11], [0, 1, 2, 3, 4, 5, 6, 7, 8, 9, 10, 11, 12], [0, 1, 2, 3, 4, 5, 6, 7, 8, 9, 10, 11, 12, 13], [0, 1, 2, 3, 4, 5, 6, 7, 8, 9, 10, 11, 12, 13, 14], [0, 1, 2, 3, 4, 5, 6, 7, 8, 9, 10, 11, 12, 13, 14], [0, 1, 2, 3, 4, 5, 6, 7, 8, 9, 10, 11, 12, 13, 14, 15, 16], [0, 1, 2, 3, 4, 5, 6, 7, 8, 9, 10, 11, 12, 13, 14, 15, 16, 17], [0, 1, 2, 3, 4, 5, 6, 7, 8, 9, 10, 11, 12, 13, 14, 15, 16, 17, 18], [0, 1, 2, 3, 4, 5, 6, 7, 8, 9, 10, 11, 12, 13, 14], [0, 1, 2, 3, 4, 5, 6, 7, 8, 9, 10, 11, 12, 13, 14], [0, 1, 2, 3, 4, 5, 6, 7, 8, 9, 10, 11, 12, 13, 14, 20, 21], [0, 1, 2, 3, 4, 5, 6, 7, 8, 9, 10, 11, 12, 13, 14, 20, 21, 22], [0, 1, 2, 3, 4, 5, 6, 7, 8, 9, 10, 11, 12, 13, 14, 20, 21, 22, 23], [0, 1, 2, 3, 4, 5, 6, 7, 8, 9, 10, 11, 12, 13, 14, 15, 16, 17, 18, 19, 20, 21, 22, 23, 24], [0, 1, 2, 3, 4, 5, 6, 7, 8, 9, 10, 11, 12, 13, 14, 15, 16, 17, 18, 19, 20, 21, 22, 23, 24, 25]] (rest := ?rest23) (Es := ?Es23) (st1 := ?st123) (h := ?h23) (hf := ?hf23) (hp := ?hp23) (hd := ?hd23) (hfr := ?hfr23) (hst := ?hst23) (hT := ?hT23)
                case h23 => kernel_rfl
                case hf23 =>
                  repeat (first | refine FlowT.opA (h := ?_) | refine FlowT.opX (h := ?_) | refine FlowT.opY (h := ?_) | refine FlowT.opZ (h := ?_))
                  exact FlowT.done
                case hp23 => rfl
                case hd23 => rfl
                case hfr23 => rfl
                case hst23 =>
                  simp only [pick_nil, pick_all, List.cons_append, List.nil_append]
                  rfl
                (repeat (first | refine WL.opA hΓ (h := ?_) | refine WL.opX hΓ (h := ?_) | refine WL.opY (h := ?_) | refine WL.opZ (h := ?_)))
                with_reducible apply WL.nil
                repeat (first | with_reducible apply W.seq | with_reducible apply W.block | with_reducible apply W.skip | with_reducible apply W.exit | with_reducible apply W.ret | with_reducible apply At.seqN | with_reducible apply At.blkN | with_reducible apply At.blkE | with_reducible apply At.blkR | with_reducible apply At.thenX | with_reducible apply At.thenR | with_reducible apply At.blkX rfl | ((with_reducible apply W.ops); (repeat (first | refine WL.opA hΓ (h := ?_) | refine WL.opX hΓ (h := ?_) | refine WL.opY (h := ?_) | refine WL.opZ (h := ?_))); with_reducible apply WL.nil) | refine W.condT (h := ?_) | refine W.condF (h := ?_))
                exact At.roundA (k2 + 1) (by omega) (by omega)
            · clear s3 d3 cH
              repeat (first | with_reducible apply W.seq | with_reducible apply W.block | with_reducible apply W.skip | with_reducible apply W.exit | with_reducible apply W.ret | with_reducible apply At.seqN | with_reducible apply At.blkN | with_reducible apply At.blkE | with_reducible apply At.blkR | with_reducible apply At.thenX | with_reducible apply At.thenR | with_reducible apply At.blkX rfl | ((with_reducible apply W.ops); (repeat (first | refine WL.opA hΓ (h := ?_) | refine WL.opX hΓ (h := ?_) | refine WL.opY (h := ?_) | refine WL.opZ (h := ?_))); with_reducible apply WL.nil) | refine W.condT (h := ?_) | refine W.condF (h := ?_))
              refine W.drawsA hΓ 16 [[], [], [], [1, 2], [1, 2, 3], [1, 2, 3, 4], [], [], [], [7, 8], [7, 8, 9], [7, 8, 9, 10], [6, 7, 8, 9, 10, 11], [6, 7, 8, 9, 10, 11, 12], [6, 7, 8, 9, 10, 11, 12, 13], [0, 1, 2, 3, 4, 5, 6, 7, 8, 9, 10, 11, 12, 13, 14], [0, 1, 2, 3, 4, 5, 6, 7, 8, 9, 10, 11, 12, 13, 14, 15]] (rest := ?rest26) (Es := ?Es26) (st1 := ?st126) (h := ?h26) (hf := ?hf26) (hp := ?hp26) (hd := ?hd26) (hfr := ?hfr26) (hst := ?hst26) (hT := ?hT26)
              case h26 => kernel_rfl
              case hf26 =>
                repeat (first | refine FlowT.opA (h := ?_) | refine FlowT.opX (h := ?_) | refine FlowT.opY (h := ?_) | refine FlowT.opZ (h := ?_))
                exact FlowT.done
              case hp26 => rfl
              case hd26 => rfl
              case hfr26 => rfl
              case hst26 =>
                simp only [pick_nil, pick_all, List.cons_append, List.nil_append]
                rfl
              (repeat (first | refine WL.opA hΓ (h := ?_) | refine WL.opX hΓ (h := ?_) | refine WL.opY (h := ?_) | refine WL.opZ (h := ?_)))
              with_reducible apply WL.nil
              repeat (first | with_reducible apply W.seq | with_reducible apply W.block | with_reducible apply W.skip | with_reducible apply W.exit | with_reducible apply W.ret | with_reducible apply At.seqN | with_reducible apply At.blkN | with_reducible apply At.blkE | with_reducible apply At.blkR | with_reducible apply At.thenX | with_reducible apply At.thenR | with_reducible apply At.blkX rfl | ((with_reducible apply W.ops); (repeat (first | refine WL.opA hΓ (h := ?_) | refine WL.opX hΓ (h := ?_) | refine WL.opY (h := ?_) | refine WL.opZ (h := ?_))); with_reducible apply WL.nil) | refine W.condT (h := ?_) | refine W.condF (h := ?_))
              exact At.roundA (i + 1) (by omega) (by omega)
          · clear hstep d1 d2 hwl
            repeat (first | with_reducible apply W.seq | with_reducible apply W.block | with_reducible apply W.skip | with_reducible apply W.exit | with_reducible apply W.ret | with_reducible apply At.seqN | with_reducible apply At.blkN | with_reducible apply At.blkE | with_reducible apply At.blkR | with_reducible apply At.thenX | with_reducible apply At.thenR | with_reducible apply At.blkX rfl | ((with_reducible apply W.ops); (repeat (first | refine WL.opA hΓ (h := ?_) | refine WL.opX hΓ (h := ?_) | refine WL.opY (h := ?_) | refine WL.opZ (h := ?_))); with_reducible apply WL.nil) | refine W.condT (h := ?_) | refine W.condF (h := ?_))
            refine W.loopA (fun j => j ≤ (poolLeft P m).length) (fun j : Nat => [.slot 0 (vL cU8 bs), .slot 9 (one (.all 75)), .blk 75 (.arr true 44 3 (rowsF cTx m)), .slot 12 (one (.all 82)), .blk 82 (.arr true 44 3 (rowsF cTx P)), .slot 18 (one (.all 202)), .blk 202 (.arr true 44 3 (rowsF cTx (poolLeft P m))), .slot 19 (vI j)]) (fun j => (poolLeft P m).length - j) 0 (Nat.zero_le _) (h := ?_)
            rintro j hj
            by_cases hjl : j < (poolLeft P m).length
            · have hrow := tx_row hjl
              have hno := left_out (List.getElem_mem hjl)
              have cN := mHasT_eq P (poolLeft P m)[j] (by omega)
              rw [decide_eq_false hno] at cN
              clear hno d4 d5 d3
              generalize (poolLeft P m)[j] = y at *
              obtain ⟨ya, yb, yc⟩ := y
              dsimp only [bTx, aTx] at hrow cN
              repeat (first | with_reducible apply W.seq | with_reducible apply W.block | with_reducible apply W.skip | with_reducible apply W.exit | with_reducible apply W.ret | with_reducible apply At.seqN | with_reducible apply At.blkN | with_reducible apply At.blkE | with_reducible apply At.blkR | with_reducible apply At.thenX | with_reducible apply At.thenR | with_reducible apply At.blkX rfl | ((with_reducible apply W.ops); (repeat (first | refine WL.opA hΓ (h := ?_) | refine WL.opX hΓ (h := ?_) | refine WL.opY (h := ?_) | refine WL.opZ (h := ?_))); with_reducible apply WL.nil) | refine W.condT (h := ?_) | refine W.condF (h := ?_))
              exact At.roundA (j + 1) (by omega) (by omega)
            · clear d4
              repeat (first | with_reducible apply W.seq | with_reducible apply W.block | with_reducible apply W.skip | with_reducible apply W.exit | with_reducible apply W.ret | with_reducible apply At.seqN | with_reducible apply At.blkN | with_reducible apply At.blkE | with_reducible apply At.blkR | with_reducible apply At.thenX | with_reducible apply At.thenR | with_reducible apply At.blkX rfl | ((with_reducible apply W.ops); (repeat (first | refine WL.opA hΓ (h := ?_) | refine WL.opX hΓ (h := ?_) | refine WL.opY (h := ?_) | refine WL.opZ (h := ?_))); with_reducible apply WL.nil) | refine W.condT (h := ?_) | refine W.condF (h := ?_))
              with_reducible apply W.ops
              repeat (first | refine WL.opA hΓ (h := ?_) | refine WL.opX hΓ (h := ?_) | refine WL.opY (h := ?_) | refine WL.opZ (h := ?_))
              refine WL.opRA hDD DrawPoolDone_s bs hcode (h := ?_)
              rintro ⟨a, b⟩ ⟨ha, hbb⟩
              dsimp only at ha hbb ⊢
              (repeat (first | refine WL.opA hΓ (h := ?_) | refine WL.opX hΓ (h := ?_) | refine WL.opY (h := ?_) | refine WL.opZ (h := ?_)))
              with_reducible apply WL.nil
              have f1 := mDnI_eq a b (by omega) (by omega)
              have f2 := mDnS_eq a b (by omega) (by omega)
              have hdl := poolDone_le a b
              by_cases hao : poolOk a
              · rw [if_pos hao] at f1
                clear hao
                repeat (first | with_reducible apply W.seq | with_reducible apply W.block | with_reducible apply W.skip | with_reducible apply W.exit | with_reducible apply W.ret | with_reducible apply At.seqN | with_reducible apply At.blkN | with_reducible apply At.blkE | with_reducible apply At.blkR | with_reducible apply At.thenX | with_reducible apply At.thenR | with_reducible apply At.blkX rfl | ((with_reducible apply W.ops); (repeat (first | refine WL.opA hΓ (h := ?_) | refine WL.opX hΓ (h := ?_) | refine WL.opY (h := ?_) | refine WL.opZ (h := ?_))); with_reducible apply WL.nil) | refine W.condT (h := ?_) | refine W.condF (h := ?_))
                refine At.retA (by rw [Try.results5]) (he := rfl)
              · rw [if_neg hao] at f1
                have hres : poolDone a b = [] := by unfold poolDone; rw [if_neg hao]
                rw [hres] at f2
                simp only [rL, hnT] at f2
                clear hao hres hdl
                repeat (first | with_reducible apply W.seq | with_reducible apply W.block | with_reducible apply W.skip | with_reducible apply W.exit | with_reducible apply W.ret | with_reducible apply At.seqN | with_reducible apply At.blkN | with_reducible apply At.blkE | with_reducible apply At.blkR | with_reducible apply At.thenX | with_reducible apply At.thenR | with_reducible apply At.blkX rfl | ((with_reducible apply W.ops); (repeat (first | refine WL.opA hΓ (h := ?_) | refine WL.opX hΓ (h := ?_) | refine WL.opY (h := ?_) | refine WL.opZ (h := ?_))); with_reducible apply WL.nil) | refine W.condT (h := ?_) | refine W.condF (h := ?_))
                refine At.retA (by rw [Try.results5]) (he := rfl)
      · rw [if_neg hmo] at d1
        rw [decide_eq_false hmo] at d3
        have hP0 : pickL m next most = [] := by unfold pickL; rw [if_neg hmo]
        have d4 := mDnI_eq m [] (by omega) (by simp)
        rw [if_neg hmo] at d4
        rw [hP0] at d2
        simp only [rL, hnT] at d2
        simp only [aL, hnT] at d4
        clear hmo hP0 hPle
        repeat (first | with_reducible apply W.seq | with_reducible apply W.block | with_reducible apply W.skip | with_reducible apply W.exit | with_reducible apply W.ret | with_reducible apply At.seqN | with_reducible apply At.blkN | with_reducible apply At.blkE | with_reducible apply At.blkR | with_reducible apply At.thenX | with_reducible apply At.thenR | with_reducible apply At.blkX rfl | ((with_reducible apply W.ops); (repeat (first | refine WL.opA hΓ (h := ?_) | refine WL.opX hΓ (h := ?_) | refine WL.opY (h := ?_) | refine WL.opZ (h := ?_))); with_reducible apply WL.nil) | refine W.condT (h := ?_) | refine W.condF (h := ?_))
        refine W.loopA (fun k => k ≤ next.length) (fun k : Nat => [.slot 0 (vL cU8 bs), .slot 9 (one (.all 75)), .blk 75 (.arr true 44 3 (rowsF cTx m)), .slot 10 (one (.all 64075)), .blk 64075 (.arr true 3 1 (rowsF cInt next)), .slot 12 (one (.sl [])), .slot 14 (one (.all 92)), .blk 92 (.arr true 3 1 (rowsF cInt (wI next k))), .slot 15 (vI ((k + 1 : Nat) : Int))]) (fun k => next.length - k) 0 (Nat.zero_le _) (h := ?_)
        rintro k hk
        clear e0
        have hwl := wI_len next k
        by_cases hlt : k < next.length
        · have hrow : (rowsF cInt next)[k]? = some [.sc (.int .i64 next[k])] := rowsF_get cInt next k hlt
          have hold : (rowsF cInt (wI next k))[k + 1]? = some [.sc (.int .i64 (wI next k)[k + 1])] := rowsF_get cInt (wI next k) (k + 1) (by omega)
          have hi1 : (((k + 1 : Nat) : Int) - 1) = (k : Int) := by omega
          have e2 : (rowsF cInt (wI next k)).set (k + 1) [.sc (.int .i64 next[k])] = rowsF cInt (wI next (k + 1)) := by
            rw [← wI_succ hlt (by omega)]
            exact rowsF_set cInt (wI next k) (k + 1) next[k]
          repeat (first | with_reducible apply W.seq | with_reducible apply W.block | with_reducible apply W.skip | with_reducible apply W.exit | with_reducible apply W.ret | with_reducible apply At.seqN | with_reducible apply At.blkN | with_reducible apply At.blkE | with_reducible apply At.blkR | with_reducible apply At.thenX | with_reducible apply At.thenR | with_reducible apply At.blkX rfl | ((with_reducible apply W.ops); (repeat (first | refine WL.opA hΓ (h := ?_) | refine WL.opX hΓ (h := ?_) | refine WL.opY (h := ?_) | refine WL.opZ (h := ?_))); with_reducible apply WL.nil) | refine W.condT (h := ?_) | refine W.condF (h := ?_))
          exact At.roundA (k + 1) (by omega) (by omega)
        · clear hwl
          repeat (first | with_reducible apply W.seq | with_reducible apply W.block | with_reducible apply W.skip | with_reducible apply W.exit | with_reducible apply W.ret | with_reducible apply At.seqN | with_reducible apply At.blkN | with_reducible apply At.blkE | with_reducible apply At.blkR | with_reducible apply At.thenX | with_reducible apply At.thenR | with_reducible apply At.blkX rfl | ((with_reducible apply W.ops); (repeat (first | refine WL.opA hΓ (h := ?_) | refine WL.opX hΓ (h := ?_) | refine WL.opY (h := ?_) | refine WL.opZ (h := ?_))); with_reducible apply WL.nil) | refine W.condT (h := ?_) | refine W.condF (h := ?_))
          refine W.loopA (fun i => i = 0) (fun i : Nat => [.slot 0 (vL cU8 bs), .slot 9 (one (.all 75)), .blk 75 (.arr true 44 3 (rowsF cTx m)), .slot 12 (one (.sl [])), .slot 16 (vI i)]) (fun i => 0) 0 rfl (h := ?_)
          rintro i rfl
          repeat (first | with_reducible apply W.seq | with_reducible apply W.block | with_reducible apply W.skip | with_reducible apply W.exit | with_reducible apply W.ret | with_reducible apply At.seqN | with_reducible apply At.blkN | with_reducible apply At.blkE | with_reducible apply At.blkR | with_reducible apply At.thenX | with_reducible apply At.thenR | with_reducible apply At.blkX rfl | ((with_reducible apply W.ops); (repeat (first | refine WL.opA hΓ (h := ?_) | refine WL.opX hΓ (h := ?_) | refine WL.opY (h := ?_) | refine WL.opZ (h := ?_))); with_reducible apply WL.nil) | refine W.condT (h := ?_) | refine W.condF (h := ?_))
          refine W.loopA (fun j => j = 0) (fun j : Nat => [.slot 0 (vL cU8 bs), .slot 9 (one (.all 75)), .blk 75 (.arr true 44 3 (rowsF cTx m)), .slot 18 (one (.sl [])), .slot 19 (vI j)]) (fun j => 0) 0 rfl (h := ?_)
          rintro j rfl
          repeat (first | with_reducible apply W.seq | with_reducible apply W.block | with_reducible apply W.skip | with_reducible apply W.exit | with_reducible apply W.ret | with_reducible apply At.seqN | with_reducible apply At.blkN | with_reducible apply At.blkE | with_reducible apply At.blkR | with_reducible apply At.thenX | with_reducible apply At.thenR | with_reducible apply At.blkX rfl | ((with_reducible apply W.ops); (repeat (first | refine WL.opA hΓ (h := ?_) | refine WL.opX hΓ (h := ?_) | refine WL.opY (h := ?_) | refine WL.opZ (h := ?_))); with_reducible apply WL.nil) | refine W.condT (h := ?_) | refine W.condF (h := ?_))
          with_reducible apply W.ops
          repeat (first | refine WL.opA hΓ (h := ?_) | refine WL.opX hΓ (h := ?_) | refine WL.opY (h := ?_) | refine WL.opZ (h := ?_))
          refine WL.opRA hDD DrawPoolDone_s bs hcode (h := ?_)
          rintro ⟨a, b⟩ ⟨ha, hbb⟩
          dsimp only at ha hbb ⊢
          (repeat (first | refine WL.opA hΓ (h := ?_) | refine WL.opX hΓ (h := ?_) | refine WL.opY (h := ?_) | refine WL.opZ (h := ?_)))
          with_reducible apply WL.nil
          have f1 := mDnI_eq a b (by omega) (by omega)
          have f2 := mDnS_eq a b (by omega) (by omega)
          have hdl := poolDone_le a b
          by_cases hao : poolOk a
          · rw [if_pos hao] at f1
            clear hao
            repeat (first | with_reducible apply W.seq | with_reducible apply W.block | with_reducible apply W.skip | with_reducible apply W.exit | with_reducible apply W.ret | with_reducible apply At.seqN | with_reducible apply At.blkN | with_reducible apply At.blkE | with_reducible apply At.blkR | with_reducible apply At.thenX | with_reducible apply At.thenR | with_reducible apply At.blkX rfl | ((with_reducible apply W.ops); (repeat (first | refine WL.opA hΓ (h := ?_) | refine WL.opX hΓ (h := ?_) | refine WL.opY (h := ?_) | refine WL.opZ (h := ?_))); with_reducible apply WL.nil) | refine W.condT (h := ?_) | refine W.condF (h := ?_))
            refine At.retA (by rw [Try.results5]) (he := rfl)
          · rw [if_neg hao] at f1
            have hres : poolDone a b = [] := by unfold poolDone; rw [if_neg hao]
            rw [hres] at f2
            simp only [rL, hnT] at f2
            clear hao hres hdl
            repeat (first | with_reducible apply W.seq | with_reducible apply W.block | with_reducible apply W.skip | with_reducible apply W.exit | with_reducible apply W.ret | with_reducible apply At.seqN | with_reducible apply At.blkN | with_reducible apply At.blkE | with_reducible apply At.blkR | with_reducible apply At.thenX | with_reducible apply At.thenR | with_reducible apply At.blkX rfl | ((with_reducible apply W.ops); (repeat (first | refine WL.opA hΓ (h := ?_) | refine WL.opX hΓ (h := ?_) | refine WL.opY (h := ?_) | refine WL.opZ (h := ?_))); with_reducible apply WL.nil) | refine W.condT (h := ?_) | refine W.condF (h := ?_))
            refine At.retA (by rw [Try.results5]) (he := rfl)
end Go.Proofs.Ytlchfjjoendimaa
