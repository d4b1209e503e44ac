/-
  bookDo of impl, where booked is known.
-/
import Derived.Test.YtimnogjgokljbaaDoorG20
namespace Go.Proofs.YtimnogjgokljbaaDoor
set_option maxRecDepth 100000
set_option linter.unusedVariables false
set_option linter.unusedSimpArgs false
open Go Go.RowKit
set_option maxHeartbeats 8000000
set_option linter.unusedVariables false

theorem amtZ_any (line : ByteArray) : -999999999 ≤ amtZ line ∧ amtZ line ≤ 999999999 := by
  cases h : (readZ (numZ line)).2 with
  | true => exact amtZ_in line h
  | false =>
    unfold amtZ
    unfold readZ at h ⊢
    split at h
    · cases h
    · rename_i hx
      rw [if_neg hx]
      dsimp only
      omega
theorem bdo_none {l : List TItem} {line : ByteArray} (h : ¬ okLn line) : bdo l line = (none, false) := by unfold bdo; rw [if_neg h]
theorem bookDoI_s (hbk : Sound Tryd.prog 49 mSetI) : Sound Tryd.prog 23 (mdl (fun x => okBD x ∧ bookOk x.1) encBD fun x => rOpt (bdo x.1 x.2)) := by
  refine Sound.mdl Tryd.func23 rfl Tryd.ntmps23 ?_
  rintro ⟨l, line⟩ w ⟨⟨⟨hit, hl⟩, hline⟩, hbook⟩
  refine ⟨by simp, ?_⟩
  dsimp only at hit hl hline hbook
  have hml : maxLen = 9223372036854775807 := rfl
  have hΓ : GSound Tryd.prog (look [(47, mLetters), (45, mKeyB), (48, mAmt), (49, mSetI), (50, mBal)]) := env_cons (has_of Tryd.func47 rfl rfl) letters_s (env_cons (has_of Tryd.func45 rfl rfl) isKey_s (env_cons (has_of Tryd.func48 rfl rfl) amount_s (env_cons (has_of Tryd.func49 rfl rfl) hbk (env_cons (has_of Tryd.func50 rfl rfl) balI_s env_nil))))
  clear hbk
  have hl12 : l.length ≤ 12 := hbook.1
  have hasc := book_asc hbook
  have hks := lettersN_le line
  have hes := ext_size line 0 (lettersN line)
  have c1 := mLetters_eq line hline
  have c2 := mKeyB_eq (line.extract 0 (lettersN line)) (by omega)
  have hbll := bl_len line
  have hba := fun k => bal_in (key := k) (m := 1000000) (by omega) (l := l) (fun x hx => by
    obtain ⟨j, hj, rfl⟩ := List.getElem_of_mem hx
    have := book_at hbook hj
    omega)
  by_cases hkl : lettersN line < line.size
  · obtain ⟨b, hb1, hb2⟩ := bl_at (s := line) (i := lettersN line) (by omega)
    have hki : ¬ ((lettersN line : Nat) : Int) = ((line.size : Nat) : Int) := by omega
    have hb256 : b.toNat < 256 := b.toNat_lt
    by_cases hk : keyOk (line.extract 0 (lettersN line))
    · rw [decide_eq_true hk] at c2
      have hi1 : (((lettersN line : Nat) : Int) + 1).toNat = lettersN line + 1 := by omega
      by_cases hsg : isSg (bl line)[lettersN line] = true
      · obtain ⟨k1, k2, k3⟩ := link_yes (line := line) (by omega) hsg
        have hln : okLn line := ⟨⟨by omega, hsg⟩, hk⟩
        rw [← hb2] at k2 hsg
        have hd : b.toNat = sigZ line := k2.symm
        have hamt := amtZ_any line
        have hrs := resZ_size line
        have hns := numZ_size line
        rw [← k1] at c2
        have c3 : mAmt [aS (numZ line)] = some (.tup [rSc (.int .i64 (amtZ line)), rSc (.bool (okAmt (numZ line)))]) := mAmt_eq (numZ line) (by omega)
        have k1' := k1.symm
        have k3' := k3.symm
        simp only [isSg, Bool.or_eq_true, decide_eq_true_eq] at hsg
        clear k1 k2 k3 hes hb2
        by_cases h61 : sigZ line = 61
        · have hnu : numZ line = resZ line := by unfold numZ; rw [if_neg (by omega)]
          have hres : bdo l line = (some (setI (keyZ line) (amtZ line) l), okAmt (numZ line)) := by unfold bdo; rw [if_pos hln, if_pos h61]
          have hdi : ((b.toNat : Nat) : Int) = 61 := by omega
          have c4 := mSetI_eq l (keyZ line) (amtZ line) ⟨hasc, by dsimp only; omega⟩
          rw [hnu] at c3 hres
          clear hsg hd h61 hba hln hnu
          simp only [initS, argPV, List.map_cons, List.map_nil, toPL, Nat.zero_add]
          repeat (first | with_reducible (first | apply W.seq | apply W.block | apply W.skip | apply W.exit | apply W.ret | apply At.seqN | apply At.blkN | apply At.blkE | apply At.blkR | apply At.thenX | apply At.thenR | apply At.blkX rfl) | ((with_reducible apply W.ops); (repeat (first | refine WL.opA hΓ (h := ?_) | refine WL.opX hΓ (h := ?_) | refine WL.opY (h := ?_) | refine WL.opZ (h := ?_))); with_reducible apply WL.nil) | refine W.condT (h := ?_) | refine W.condF (h := ?_))
          refine W.drawsA hΓ 9 [[], [], [0, 1], [], [], [4], [3, 4, 5], [0, 1, 2], [0, 1, 2, 3, 4, 5, 6, 7]] (rest := ?rest4) (Es := ?Es4) (st1 := ?st14) (h := ?h4) (hf := ?hf4) (hp := ?hp4) (hd := ?hd4) (hfr := ?hfr4) (hst := ?hst4) (hT := ?hT4)
          case h4 => kernel_rfl
          case hf4 =>
            repeat (first | refine FlowT.opA (h := ?_) | refine FlowT.opX (h := ?_) | refine FlowT.opY (h := ?_) | refine FlowT.opZ (h := ?_))
            exact FlowT.done
          case hp4 => rfl
          case hd4 => rfl
          case hfr4 => rfl
          case hst4 =>
            simp only [pick_nil, pick_all, List.cons_append, List.nil_append]
            rfl
          (repeat (first | refine WL.opA hΓ (h := ?_) | refine WL.opX hΓ (h := ?_) | refine WL.opY (h := ?_) | refine WL.opZ (h := ?_)))
          with_reducible apply WL.nil
          repeat (first | with_reducible (first | apply W.seq | apply W.block | apply W.skip | apply W.exit | apply W.ret | apply At.seqN | apply At.blkN | apply At.blkE | apply At.blkR | apply At.thenX | apply At.thenR | apply At.blkX rfl) | ((with_reducible apply W.ops); (repeat (first | refine WL.opA hΓ (h := ?_) | refine WL.opX hΓ (h := ?_) | refine WL.opY (h := ?_) | refine WL.opZ (h := ?_))); with_reducible apply WL.nil) | refine W.condT (h := ?_) | refine W.condF (h := ?_))
          refine At.retA (by rw [Tryd.results23]) (he := ?_)
          rw [hres]
        · by_cases h43 : sigZ line = 43
          · have hnu : numZ line = resZ line := by unfold numZ; rw [if_neg (by omega)]
            have hres : bdo l line = (some (setI (keyZ line) (balI (keyZ line) l + amtZ line) l), okAmt (numZ line)) := by unfold bdo; rw [if_pos hln, if_neg h61, if_pos h43]
            have hdi : ((b.toNat : Nat) : Int) = 43 := by omega
            have c4 := mSetI_eq l (keyZ line) (balI (keyZ line) l + amtZ line) ⟨hasc, by dsimp only; omega⟩
            have c5 := mBal_eq l (keyZ line) (by omega)
            have hbb := hba (keyZ line)
            rw [hnu] at c3 hres
            clear hsg hd h61 h43 hba hln hnu
            simp only [initS, argPV, List.map_cons, List.map_nil, toPL, Nat.zero_add]
            repeat (first | with_reducible (first | apply W.seq | apply W.block | apply W.skip | apply W.exit | apply W.ret | apply At.seqN | apply At.blkN | apply At.blkE | apply At.blkR | apply At.thenX | apply At.thenR | apply At.blkX rfl) | ((with_reducible apply W.ops); (repeat (first | refine WL.opA hΓ (h := ?_) | refine WL.opX hΓ (h := ?_) | refine WL.opY (h := ?_) | refine WL.opZ (h := ?_))); with_reducible apply WL.nil) | refine W.condT (h := ?_) | refine W.condF (h := ?_))
            refine W.drawsA hΓ 9 [[], [], [0, 1], [], [], [4], [3, 4, 5], [0, 1, 2], [0, 1, 2, 3, 4, 5, 6, 7]] (rest := ?rest9) (Es := ?Es9) (st1 := ?st19) (h := ?h9) (hf := ?hf9) (hp := ?hp9) (hd := ?hd9) (hfr := ?hfr9) (hst := ?hst9) (hT := ?hT9)
            case h9 => kernel_rfl
            case hf9 =>
              repeat (first | refine FlowT.opA (h := ?_) | refine FlowT.opX (h := ?_) | refine FlowT.opY (h := ?_) | refine FlowT.opZ (h := ?_))
              exact FlowT.done
            case hp9 => rfl
            case hd9 => rfl
            case hfr9 => rfl
            case hst9 =>
              simp only [pick_nil, pick_all, List.cons_append, List.nil_append]
              rfl
            (repeat (first | refine WL.opA hΓ (h := ?_) | refine WL.opX hΓ (h := ?_) | refine WL.opY (h := ?_) | refine WL.opZ (h := ?_)))
            with_reducible apply WL.nil
            repeat (first | with_reducible (first | apply W.seq | apply W.block | apply W.skip | apply W.exit | apply W.ret | apply At.seqN | apply At.blkN | apply At.blkE | apply At.blkR | apply At.thenX | apply At.thenR | apply At.blkX rfl) | ((with_reducible apply W.ops); (repeat (first | refine WL.opA hΓ (h := ?_) | refine WL.opX hΓ (h := ?_) | refine WL.opY (h := ?_) | refine WL.opZ (h := ?_))); with_reducible apply WL.nil) | refine W.condT (h := ?_) | refine W.condF (h := ?_))
            refine At.retA (by rw [Tryd.results23]) (he := ?_)
            rw [hres]
          · have h62 : sigZ line = 62 := by omega
            have hdi : ((b.toNat : Nat) : Int) = 62 := by omega
            have hbr := bl_len (resZ line)
            have c6 := mLetters_eq (resZ line) (by omega)
            have hjs := lettersN_le (resZ line)
            have hes2 := ext_size (resZ line) 0 (lettersN (resZ line))
            have c7 := mKeyB_eq ((resZ line).extract 0 (lettersN (resZ line))) (by omega)
            have hno : ¬ okTo (resZ line) → bdo l line = (none, false) := fun h => by unfold bdo; rw [if_pos hln, if_neg h61, if_neg h43, if_neg (fun g => h g.1)]
            have hyes := fun (h1 : okTo (resZ line)) (h2 : okAmt (numZ line) = true) (h3 : amtZ line ≤ balI (keyZ line) l) => show bdo l line = (some (outZ l line), true) by unfold bdo; rw [if_pos hln, if_neg h61, if_neg h43, if_pos ⟨h1, h2, h3⟩]
            have hbad := fun (h : ¬ (okAmt (numZ line) = true ∧ amtZ line ≤ balI (keyZ line) l)) => show bdo l line = (none, false) by unfold bdo; rw [if_pos hln, if_neg h61, if_neg h43, if_neg (fun g => h g.2)]
            have hout : outZ l line = setI (toZ line) (balI (toZ line) (setI (keyZ line) (balI (keyZ line) l - amtZ line) l) + amtZ line) (setI (keyZ line) (balI (keyZ line) l - amtZ line) l) := by unfold outZ; rw [if_neg h61, if_neg h43]
            by_cases hj : lettersN (resZ line) < (resZ line).size
            · obtain ⟨b2, hb3, hb4⟩ := bl_at (s := resZ line) (i := lettersN (resZ line)) (by omega)
              have hji : ¬ ((lettersN (resZ line) : Nat) : Int) = (((resZ line).size : Nat) : Int) := by omega
              have hb2256 : b2.toNat < 256 := b2.toNat_lt
              by_cases h32 : (bl (resZ line))[lettersN (resZ line)] = 32
              · have h32i : ((b2.toNat : Nat) : Int) = 32 := by omega
                by_cases ht : keyOk ((resZ line).extract 0 (lettersN (resZ line)))
                · rw [decide_eq_true ht] at c7
                  have hto : okTo (resZ line) := ⟨⟨by omega, h32⟩, ht⟩
                  have hbz : blaZ line = lettersN (resZ line) := blank_yes (by omega) h32
                  have hT : (resZ line).extract 0 (lettersN (resZ line)) = toZ line := by unfold toZ; rw [if_pos h62, hbz]
                  have hN : (resZ line).extract (lettersN (resZ line) + 1) (resZ line).size = numZ line := by unfold numZ; rw [if_pos h62, hbz]
                  have hi2 : (((lettersN (resZ line) : Nat) : Int) + 1).toNat = lettersN (resZ line) + 1 := by omega
                  have c5 := mBal_eq l (keyZ line) (by omega)
                  have hbb := hba (keyZ line)
                  rw [hT] at c7
                  cases hA : okAmt (numZ line) with
                  | false =>
                    rw [hA] at c3
                    have hres := hbad (fun g => by rw [hA] at g; cases g.1)
                    clear hsg hd h61 h43 h62 hba hln hno hyes hbad hout ht h32 hb4 hto hbz
                    simp only [initS, argPV, List.map_cons, List.map_nil, toPL, Nat.zero_add]
                    repeat (first | with_reducible (first | apply W.seq | apply W.block | apply W.skip | apply W.exit | apply W.ret | apply At.seqN | apply At.blkN | apply At.blkE | apply At.blkR | apply At.thenX | apply At.thenR | apply At.blkX rfl) | ((with_reducible apply W.ops); (repeat (first | refine WL.opA hΓ (h := ?_) | refine WL.opX hΓ (h := ?_) | refine WL.opY (h := ?_) | refine WL.opZ (h := ?_))); with_reducible apply WL.nil) | refine W.condT (h := ?_) | refine W.condF (h := ?_))
                    refine W.drawsA hΓ 9 [[], [], [0, 1], [], [], [4], [3, 4, 5], [0, 1, 2], [0, 1, 2, 3, 4, 5, 6, 7]] (rest := ?rest14) (Es := ?Es14) (st1 := ?st114) (h := ?h14) (hf := ?hf14) (hp := ?hp14) (hd := ?hd14) (hfr := ?hfr14) (hst := ?hst14) (hT := ?hT14)
                    case h14 => kernel_rfl
                    case hf14 =>
                      repeat (first | refine FlowT.opA (h := ?_) | refine FlowT.opX (h := ?_) | refine FlowT.opY (h := ?_) | refine FlowT.opZ (h := ?_))
                      exact FlowT.done
                    case hp14 => rfl
                    case hd14 => rfl
                    case hfr14 => rfl
                    case hst14 =>
                      simp only [pick_nil, pick_all, List.cons_append, List.nil_append]
                      rfl
                    (repeat (first | refine WL.opA hΓ (h := ?_) | refine WL.opX hΓ (h := ?_) | refine WL.opY (h := ?_) | refine WL.opZ (h := ?_)))
                    with_reducible apply WL.nil
                    repeat (first | with_reducible (first | apply W.seq | apply W.block | apply W.skip | apply W.exit | apply W.ret | apply At.seqN | apply At.blkN | apply At.blkE | apply At.blkR | apply At.thenX | apply At.thenR | apply At.blkX rfl) | ((with_reducible apply W.ops); (repeat (first | refine WL.opA hΓ (h := ?_) | refine WL.opX hΓ (h := ?_) | refine WL.opY (h := ?_) | refine WL.opZ (h := ?_))); with_reducible apply WL.nil) | refine W.condT (h := ?_) | refine W.condF (h := ?_))
                    refine At.retA (by rw [Tryd.results23]) (he := ?_)
                    rw [hres]
                  | true =>
                    rw [hA] at c3
                    by_cases hgt : balI (keyZ line) l < amtZ line
                    · have hres := hbad (fun g => by have := g.2; omega)
                      clear hsg hd h61 h43 h62 hba hln hno hyes hbad hout ht h32 hb4 hto hbz
                      simp only [initS, argPV, List.map_cons, List.map_nil, toPL, Nat.zero_add]
                      repeat (first | with_reducible (first | apply W.seq | apply W.block | apply W.skip | apply W.exit | apply W.ret | apply At.seqN | apply At.blkN | apply At.blkE | apply At.blkR | apply At.thenX | apply At.thenR | apply At.blkX rfl) | ((with_reducible apply W.ops); (repeat (first | refine WL.opA hΓ (h := ?_) | refine WL.opX hΓ (h := ?_) | refine WL.opY (h := ?_) | refine WL.opZ (h := ?_))); with_reducible apply WL.nil) | refine W.condT (h := ?_) | refine W.condF (h := ?_))
                      refine W.drawsA hΓ 9 [[], [], [0, 1], [], [], [4], [3, 4, 5], [0, 1, 2], [0, 1, 2, 3, 4, 5, 6, 7]] (rest := ?rest19) (Es := ?Es19) (st1 := ?st119) (h := ?h19) (hf := ?hf19) (hp := ?hp19) (hd := ?hd19) (hfr := ?hfr19) (hst := ?hst19) (hT := ?hT19)
                      case h19 => kernel_rfl
                      case hf19 =>
                        repeat (first | refine FlowT.opA (h := ?_) | refine FlowT.opX (h := ?_) | refine FlowT.opY (h := ?_) | refine FlowT.opZ (h := ?_))
                        exact FlowT.done
                      case hp19 => rfl
                      case hd19 => rfl
                      case hfr19 => rfl
                      case hst19 =>
                        simp only [pick_nil, pick_all, List.cons_append, List.nil_append]
                        rfl
                      (repeat (first | refine WL.opA hΓ (h := ?_) | refine WL.opX hΓ (h := ?_) | refine WL.opY (h := ?_) | refine WL.opZ (h := ?_)))
                      with_reducible apply WL.nil
                      repeat (first | with_reducible (first | apply W.seq | apply W.block | apply W.skip | apply W.exit | apply W.ret | apply At.seqN | apply At.blkN | apply At.blkE | apply At.blkR | apply At.thenX | apply At.thenR | apply At.blkX rfl) | ((with_reducible apply W.ops); (repeat (first | refine WL.opA hΓ (h := ?_) | refine WL.opX hΓ (h := ?_) | refine WL.opY (h := ?_) | refine WL.opZ (h := ?_))); with_reducible apply WL.nil) | refine W.condT (h := ?_) | refine W.condF (h := ?_))
                      refine At.retA (by rw [Tryd.results23]) (he := ?_)
                      rw [hres]
                    · have hres := hyes hto hA (by omega)
                      have c8 := mSetI_eq l (keyZ line) (balI (keyZ line) l - amtZ line) ⟨hasc, by dsimp only; omega⟩
                      have hol1 := setI_len (keyZ line) (balI (keyZ line) l - amtZ line) l
                      have has1 := setI_asc (key := keyZ line) (n := balI (keyZ line) l - amtZ line) hasc
                      have hba1 := bal_in (key := toZ line) (m := 2000000000) (by omega) (l := setI (keyZ line) (balI (keyZ line) l - amtZ line) l) (fun x hx => by
                        rcases setI_id hx with rfl | hx
                        · dsimp only; omega
                        · obtain ⟨j, hj, rfl⟩ := List.getElem_of_mem hx
                          have := book_at hbook hj
                          omega)
                      generalize setI (keyZ line) (balI (keyZ line) l - amtZ line) l = o1 at *
                      have c10 := mBal_eq o1 (toZ line) (by omega)
                      have c11 := mSetI_eq o1 (toZ line) (balI (toZ line) o1 + amtZ line) ⟨has1, by dsimp only; omega⟩
                      rw [← hout] at c11
                      clear hsg hd h61 h43 h62 hba hln hno hyes hbad hout ht h32 hb4 hto hbz has1
                      simp only [initS, argPV, List.map_cons, List.map_nil, toPL, Nat.zero_add]
                      repeat (first | with_reducible (first | apply W.seq | apply W.block | apply W.skip | apply W.exit | apply W.ret | apply At.seqN | apply At.blkN | apply At.blkE | apply At.blkR | apply At.thenX | apply At.thenR | apply At.blkX rfl) | ((with_reducible apply W.ops); (repeat (first | refine WL.opA hΓ (h := ?_) | refine WL.opX hΓ (h := ?_) | refine WL.opY (h := ?_) | refine WL.opZ (h := ?_))); with_reducible apply WL.nil) | refine W.condT (h := ?_) | refine W.condF (h := ?_))
                      refine W.drawsA hΓ 9 [[], [], [0, 1], [], [], [4], [3, 4, 5], [0, 1, 2], [0, 1, 2, 3, 4, 5, 6, 7]] (rest := ?rest24) (Es := ?Es24) (st1 := ?st124) (h := ?h24) (hf := ?hf24) (hp := ?hp24) (hd := ?hd24) (hfr := ?hfr24) (hst := ?hst24) (hT := ?hT24)
                      case h24 => kernel_rfl
                      case hf24 =>
                        repeat (first | refine FlowT.opA (h := ?_) | refine FlowT.opX (h := ?_) | refine FlowT.opY (h := ?_) | refine FlowT.opZ (h := ?_))
                        exact FlowT.done
                      case hp24 => rfl
                      case hd24 => rfl
                      case hfr24 => rfl
                      case hst24 =>
                        simp only [pick_nil, pick_all, List.cons_append, List.nil_append]
                        rfl
                      (repeat (first | refine WL.opA hΓ (h := ?_) | refine WL.opX hΓ (h := ?_) | refine WL.opY (h := ?_) | refine WL.opZ (h := ?_)))
                      with_reducible apply WL.nil
                      repeat (first | with_reducible (first | apply W.seq | apply W.block | apply W.skip | apply W.exit | apply W.ret | apply At.seqN | apply At.blkN | apply At.blkE | apply At.blkR | apply At.thenX | apply At.thenR | apply At.blkX rfl) | ((with_reducible apply W.ops); (repeat (first | refine WL.opA hΓ (h := ?_) | refine WL.opX hΓ (h := ?_) | refine WL.opY (h := ?_) | refine WL.opZ (h := ?_))); with_reducible apply WL.nil) | refine W.condT (h := ?_) | refine W.condF (h := ?_))
                      refine W.drawsA hΓ 14 [[], [], [], [1, 2], [], [], [], [5, 6], [4, 5, 6, 7], [], [4, 5, 6, 7, 8, 9], [0, 1, 2, 3, 4, 5, 6, 7, 8, 9, 10], [0, 1, 2, 3, 4, 5, 6, 7, 8, 9, 10, 11], [0, 1, 2, 3, 4, 5, 6, 7, 8, 9, 10, 11, 12]] (rest := ?rest26) (Es := ?Es26) (st1 := ?st126) (h := ?h26) (hf := ?hf26) (hp := ?hp26) (hd := ?hd26) (hfr := ?hfr26) (hst := ?hst26) (hT := ?hT26)
                      case h26 => kernel_rfl
                      case hf26 =>
                        repeat (first | refine FlowT.opA (h := ?_) | refine FlowT.opX (h := ?_) | refine FlowT.opY (h := ?_) | refine FlowT.opZ (h := ?_))
                        exact FlowT.done
                      case hp26 => rfl
                      case hd26 => rfl
                      case hfr26 => rfl
                      case hst26 =>
                        simp only [pick_nil, pick_all, List.cons_append, List.nil_append]
                        rfl
                      (repeat (first | refine WL.opA hΓ (h := ?_) | refine WL.opX hΓ (h := ?_) | refine WL.opY (h := ?_) | refine WL.opZ (h := ?_)))
                      with_reducible apply WL.nil
                      repeat (first | with_reducible (first | apply W.seq | apply W.block | apply W.skip | apply W.exit | apply W.ret | apply At.seqN | apply At.blkN | apply At.blkE | apply At.blkR | apply At.thenX | apply At.thenR | apply At.blkX rfl) | ((with_reducible apply W.ops); (repeat (first | refine WL.opA hΓ (h := ?_) | refine WL.opX hΓ (h := ?_) | refine WL.opY (h := ?_) | refine WL.opZ (h := ?_))); with_reducible apply WL.nil) | refine W.condT (h := ?_) | refine W.condF (h := ?_))
                      refine At.retA (by rw [Tryd.results23]) (he := ?_)
                      rw [hres]
                · rw [decide_eq_false ht] at c7
                  have hres := hno (fun g => ht g.2)
                  clear hsg hd h61 h43 h62 hba hln hno hyes hbad hout ht h32 hb4
                  simp only [initS, argPV, List.map_cons, List.map_nil, toPL, Nat.zero_add]
                  repeat (first | with_reducible (first | apply W.seq | apply W.block | apply W.skip | apply W.exit | apply W.ret | apply At.seqN | apply At.blkN | apply At.blkE | apply At.blkR | apply At.thenX | apply At.thenR | apply At.blkX rfl) | ((with_reducible apply W.ops); (repeat (first | refine WL.opA hΓ (h := ?_) | refine WL.opX hΓ (h := ?_) | refine WL.opY (h := ?_) | refine WL.opZ (h := ?_))); with_reducible apply WL.nil) | refine W.condT (h := ?_) | refine W.condF (h := ?_))
                  refine W.drawsA hΓ 9 [[], [], [0, 1], [], [], [4], [3, 4, 5], [0, 1, 2], [0, 1, 2, 3, 4, 5, 6, 7]] (rest := ?rest31) (Es := ?Es31) (st1 := ?st131) (h := ?h31) (hf := ?hf31) (hp := ?hp31) (hd := ?hd31) (hfr := ?hfr31) (hst := ?hst31) (hT := ?hT31)
                  case h31 => kernel_rfl
                  case hf31 =>
                    repeat (first | refine FlowT.opA (h := ?_) | refine FlowT.opX (h := ?_) | refine FlowT.opY (h := ?_) | refine FlowT.opZ (h := ?_))
                    exact FlowT.done
                  case hp31 => rfl
                  case hd31 => rfl
                  case hfr31 => rfl
                  case hst31 =>
                    simp only [pick_nil, pick_all, List.cons_append, List.nil_append]
                    rfl
                  (repeat (first | refine WL.opA hΓ (h := ?_) | refine WL.opX hΓ (h := ?_) | refine WL.opY (h := ?_) | refine WL.opZ (h := ?_)))
                  with_reducible apply WL.nil
                  repeat (first | with_reducible (first | apply W.seq | apply W.block | apply W.skip | apply W.exit | apply W.ret | apply At.seqN | apply At.blkN | apply At.blkE | apply At.blkR | apply At.thenX | apply At.thenR | apply At.blkX rfl) | ((with_reducible apply W.ops); (repeat (first | refine WL.opA hΓ (h := ?_) | refine WL.opX hΓ (h := ?_) | refine WL.opY (h := ?_) | refine WL.opZ (h := ?_))); with_reducible apply WL.nil) | refine W.condT (h := ?_) | refine W.condF (h := ?_))
                  refine At.retA (by rw [Tryd.results23]) (he := ?_)
                  rw [hres]
              · have h32i : ¬ ((b2.toNat : Nat) : Int) = 32 := by omega
                have hres := hno (fun g => h32 g.1.2)
                clear hsg hd h61 h43 h62 hba hln hno hyes hbad hout h32 hb4
                simp only [initS, argPV, List.map_cons, List.map_nil, toPL, Nat.zero_add]
                repeat (first | with_reducible (first | apply W.seq | apply W.block | apply W.skip | apply W.exit | apply W.ret | apply At.seqN | apply At.blkN | apply At.blkE | apply At.blkR | apply At.thenX | apply At.thenR | apply At.blkX rfl) | ((with_reducible apply W.ops); (repeat (first | refine WL.opA hΓ (h := ?_) | refine WL.opX hΓ (h := ?_) | refine WL.opY (h := ?_) | refine WL.opZ (h := ?_))); with_reducible apply WL.nil) | refine W.condT (h := ?_) | refine W.condF (h := ?_))
                refine W.drawsA hΓ 9 [[], [], [0, 1], [], [], [4], [3, 4, 5], [0, 1, 2], [0, 1, 2, 3, 4, 5, 6, 7]] (rest := ?rest36) (Es := ?Es36) (st1 := ?st136) (h := ?h36) (hf := ?hf36) (hp := ?hp36) (hd := ?hd36) (hfr := ?hfr36) (hst := ?hst36) (hT := ?hT36)
                case h36 => kernel_rfl
                case hf36 =>
                  repeat (first | refine FlowT.opA (h := ?_) | refine FlowT.opX (h := ?_) | refine FlowT.opY (h := ?_) | refine FlowT.opZ (h := ?_))
                  exact FlowT.done
                case hp36 => rfl
                case hd36 => rfl
                case hfr36 => rfl
                case hst36 =>
                  simp only [pick_nil, pick_all, List.cons_append, List.nil_append]
                  rfl
                (repeat (first | refine WL.opA hΓ (h := ?_) | refine WL.opX hΓ (h := ?_) | refine WL.opY (h := ?_) | refine WL.opZ (h := ?_)))
                with_reducible apply WL.nil
                repeat (first | with_reducible (first | apply W.seq | apply W.block | apply W.skip | apply W.exit | apply W.ret | apply At.seqN | apply At.blkN | apply At.blkE | apply At.blkR | apply At.thenX | apply At.thenR | apply At.blkX rfl) | ((with_reducible apply W.ops); (repeat (first | refine WL.opA hΓ (h := ?_) | refine WL.opX hΓ (h := ?_) | refine WL.opY (h := ?_) | refine WL.opZ (h := ?_))); with_reducible apply WL.nil) | refine W.condT (h := ?_) | refine W.condF (h := ?_))
                refine At.retA (by rw [Tryd.results23]) (he := ?_)
                rw [hres]
            · have hji : ((lettersN (resZ line) : Nat) : Int) = (((resZ line).size : Nat) : Int) := by omega
              have hres := hno (fun g => by obtain ⟨⟨g1, _⟩, _⟩ := g; omega)
              clear hsg hd h61 h43 h62 hba hln hno hyes hbad hout c7
              simp only [initS, argPV, List.map_cons, List.map_nil, toPL, Nat.zero_add]
              repeat (first | with_reducible (first | apply W.seq | apply W.block | apply W.skip | apply W.exit | apply W.ret | apply At.seqN | apply At.blkN | apply At.blkE | apply At.blkR | apply At.thenX | apply At.thenR | apply At.blkX rfl) | ((with_reducible apply W.ops); (repeat (first | refine WL.opA hΓ (h := ?_) | refine WL.opX hΓ (h := ?_) | refine WL.opY (h := ?_) | refine WL.opZ (h := ?_))); with_reducible apply WL.nil) | refine W.condT (h := ?_) | refine W.condF (h := ?_))
              refine W.drawsA hΓ 9 [[], [], [0, 1], [], [], [4], [3, 4, 5], [0, 1, 2], [0, 1, 2, 3, 4, 5, 6, 7]] (rest := ?rest41) (Es := ?Es41) (st1 := ?st141) (h := ?h41) (hf := ?hf41) (hp := ?hp41) (hd := ?hd41) (hfr := ?hfr41) (hst := ?hst41) (hT := ?hT41)
              case h41 => kernel_rfl
              case hf41 =>
                repeat (first | refine FlowT.opA (h := ?_) | refine FlowT.opX (h := ?_) | refine FlowT.opY (h := ?_) | refine FlowT.opZ (h := ?_))
                exact FlowT.done
              case hp41 => rfl
              case hd41 => rfl
              case hfr41 => rfl
              case hst41 =>
                simp only [pick_nil, pick_all, List.cons_append, List.nil_append]
                rfl
              (repeat (first | refine WL.opA hΓ (h := ?_) | refine WL.opX hΓ (h := ?_) | refine WL.opY (h := ?_) | refine WL.opZ (h := ?_)))
              with_reducible apply WL.nil
              repeat (first | with_reducible (first | apply W.seq | apply W.block | apply W.skip | apply W.exit | apply W.ret | apply At.seqN | apply At.blkN | apply At.blkE | apply At.blkR | apply At.thenX | apply At.thenR | apply At.blkX rfl) | ((with_reducible apply W.ops); (repeat (first | refine WL.opA hΓ (h := ?_) | refine WL.opX hΓ (h := ?_) | refine WL.opY (h := ?_) | refine WL.opZ (h := ?_))); with_reducible apply WL.nil) | refine W.condT (h := ?_) | refine W.condF (h := ?_))
              refine At.retA (by rw [Tryd.results23]) (he := ?_)
              rw [hres]
      · have hres := bdo_none (l := l) (line := line) (fun h => hsg h.1.2)
        rw [← hb2] at hsg
        have h1 : ¬ ((b.toNat : Nat) : Int) = 61 := fun h => hsg (by simp [isSg]; omega)
        have h2 : ¬ ((b.toNat : Nat) : Int) = 43 := fun h => hsg (by simp [isSg]; omega)
        have h3 : ¬ ((b.toNat : Nat) : Int) = 62 := fun h => hsg (by simp [isSg]; omega)
        clear hsg hb2 hba
        simp only [initS, argPV, List.map_cons, List.map_nil, toPL, Nat.zero_add]
        repeat (first | with_reducible (first | apply W.seq | apply W.block | apply W.skip | apply W.exit | apply W.ret | apply At.seqN | apply At.blkN | apply At.blkE | apply At.blkR | apply At.thenX | apply At.thenR | apply At.blkX rfl) | ((with_reducible apply W.ops); (repeat (first | refine WL.opA hΓ (h := ?_) | refine WL.opX hΓ (h := ?_) | refine WL.opY (h := ?_) | refine WL.opZ (h := ?_))); with_reducible apply WL.nil) | refine W.condT (h := ?_) | refine W.condF (h := ?_))
        refine W.drawsA hΓ 9 [[], [], [0, 1], [], [], [4], [3, 4, 5], [0, 1, 2], [0, 1, 2, 3, 4, 5, 6, 7]] (rest := ?rest46) (Es := ?Es46) (st1 := ?st146) (h := ?h46) (hf := ?hf46) (hp := ?hp46) (hd := ?hd46) (hfr := ?hfr46) (hst := ?hst46) (hT := ?hT46)
        case h46 => kernel_rfl
        case hf46 =>
          repeat (first | refine FlowT.opA (h := ?_) | refine FlowT.opX (h := ?_) | refine FlowT.opY (h := ?_) | refine FlowT.opZ (h := ?_))
          exact FlowT.done
        case hp46 => rfl
        case hd46 => rfl
        case hfr46 => rfl
        case hst46 =>
          simp only [pick_nil, pick_all, List.cons_append, List.nil_append]
          rfl
        (repeat (first | refine WL.opA hΓ (h := ?_) | refine WL.opX hΓ (h := ?_) | refine WL.opY (h := ?_) | refine WL.opZ (h := ?_)))
        with_reducible apply WL.nil
        repeat (first | with_reducible (first | apply W.seq | apply W.block | apply W.skip | apply W.exit | apply W.ret | apply At.seqN | apply At.blkN | apply At.blkE | apply At.blkR | apply At.thenX | apply At.thenR | apply At.blkX rfl) | ((with_reducible apply W.ops); (repeat (first | refine WL.opA hΓ (h := ?_) | refine WL.opX hΓ (h := ?_) | refine WL.opY (h := ?_) | refine WL.opZ (h := ?_))); with_reducible apply WL.nil) | refine W.condT (h := ?_) | refine W.condF (h := ?_))
        refine At.retA (by rw [Tryd.results23]) (he := ?_)
        rw [hres]
    · rw [decide_eq_false hk] at c2
      have hres := bdo_none (l := l) (line := line) (fun h => hk h.2)
      clear hk hb2 hba
      simp only [initS, argPV, List.map_cons, List.map_nil, toPL, Nat.zero_add]
      repeat (first | with_reducible (first | apply W.seq | apply W.block | apply W.skip | apply W.exit | apply W.ret | apply At.seqN | apply At.blkN | apply At.blkE | apply At.blkR | apply At.thenX | apply At.thenR | apply At.blkX rfl) | ((with_reducible apply W.ops); (repeat (first | refine WL.opA hΓ (h := ?_) | refine WL.opX hΓ (h := ?_) | refine WL.opY (h := ?_) | refine WL.opZ (h := ?_))); with_reducible apply WL.nil) | refine W.condT (h := ?_) | refine W.condF (h := ?_))
      refine At.retA (by rw [Tryd.results23]) (he := ?_)
      rw [hres]
  · have hki : ((lettersN line : Nat) : Int) = ((line.size : Nat) : Int) := by omega
    have hres := bdo_none (l := l) (line := line) (fun h => by obtain ⟨⟨h1, _⟩, _⟩ := h; omega)
    clear c2 hba
    simp only [initS, argPV, List.map_cons, List.map_nil, toPL, Nat.zero_add]
    repeat (first | with_reducible (first | apply W.seq | apply W.block | apply W.skip | apply W.exit | apply W.ret | apply At.seqN | apply At.blkN | apply At.blkE | apply At.blkR | apply At.thenX | apply At.thenR | apply At.blkX rfl) | ((with_reducible apply W.ops); (repeat (first | refine WL.opA hΓ (h := ?_) | refine WL.opX hΓ (h := ?_) | refine WL.opY (h := ?_) | refine WL.opZ (h := ?_))); with_reducible apply WL.nil) | refine W.condT (h := ?_) | refine W.condF (h := ?_))
    refine At.retA (by rw [Tryd.results23]) (he := ?_)
    rw [hres]
end Go.Proofs.YtimnogjgokljbaaDoor
