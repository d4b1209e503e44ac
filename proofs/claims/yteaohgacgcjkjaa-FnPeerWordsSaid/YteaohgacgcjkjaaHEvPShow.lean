/-
  ShowPMsg of both programs, and its law.
-/
import Derived.Test.YteaohgacgcjkjaaHEvPFn
import Derived.Test.YteaohgacgcjkjaaHEvPMsgS
import Derived.Test.YteaohgacgcjkjaaHEvPMsgI
import Derived.Test.YteaohgacgcjkjaaHEvShHd
namespace Go.Proofs.Yteaohgacgcjkjaa
set_option maxRecDepth 100000
set_option linter.unusedVariables false
set_option linter.unusedSimpArgs false
open Go Go.RowKit
set_option maxHeartbeats 4000000

def catA (p : ByteArray) (l : List TAddr) : Nat → ByteArray
  | 0 => p
  | j + 1 => catA p l j ++ varS (l.getD j (0, 0)).1 ++ varS (l.getD j (0, 0)).2
theorem catA_size (p : ByteArray) (l : List TAddr) : ∀ j, (catA p l j).size ≤ p.size + 14 * j
  | 0 => by simp [catA]
  | j + 1 => by
    have h1 := catA_size p l j
    have h2 := varS_size (l.getD j (0, 0)).1
    have h3 := varS_size (l.getD j (0, 0)).2
    simp only [catA, ByteArray.size_append]
    omega
open Classical in
noncomputable def showMsg (m : TPMsg) : ByteArray := if msgOk m then (if m.1 = 2 then varS m.1 ++ varS m.2.1 ++ showReq m.2.2.1 else if m.1 = 3 then varS m.1 ++ varS m.2.1 ++ showHead m.2.2.2.1 else if m.1 = 4 then catA (varS m.1 ++ varS m.2.1 ++ varS (m.2.2.2.2.length : Int)) m.2.2.2.2 m.2.2.2.2.length else varS m.1 ++ varS m.2.1) else ByteArray.empty
theorem showMsg_no {m : TPMsg} (h : ¬ msgOk m) : showMsg m = ByteArray.empty := if_neg h
theorem showMsg_yes {m : TPMsg} (h : msgOk m) : showMsg m = (if m.1 = 2 then varS m.1 ++ varS m.2.1 ++ showReq m.2.2.1 else if m.1 = 3 then varS m.1 ++ varS m.2.1 ++ showHead m.2.2.2.1 else if m.1 = 4 then catA (varS m.1 ++ varS m.2.1 ++ varS (m.2.2.2.2.length : Int)) m.2.2.2.2 m.2.2.2.2.length else varS m.1 ++ varS m.2.1) := if_pos h
noncomputable def mShowPMsg := mdl okPM (fun m => [aPM m]) (fun m => rS (showMsg m))
theorem mShowPMsg_eq (m : TPMsg) (h : okPM m) : mShowPMsg [aPM m] = some (rS (showMsg m)) := mdl_eq aPM_inj m h
theorem ShowPMsgS_s : Sound Try.prog 30 mShowPMsg := by
  refine Sound.mdl Try.func30 rfl Try.ntmps30 ?_
  rintro ⟨k, f, ⟨r1, r2, r3⟩, ⟨h1, h2, la, va, ne, da⟩, l⟩ w hl
  refine ⟨by simp, ?_⟩
  replace hl : l.length ≤ 8796093022207 := hl
  have hΓ : GSound Try.prog (look [(32, mMsg), (70, mVar), (71, mShowReq), (72, mShowHd)]) := env_cons (has_of Try.func32 rfl rfl) msgS_s (env_cons (has_of Try.func70 rfl rfl) varSpec_s (env_cons (has_of Try.func71 rfl rfl) showReqS_s (env_cons (has_of Try.func72 rfl rfl) showHdS_s env_nil)))
  have c1 := mMsg_eq (k, f, (r1, r2, r3), (h1, h2, la, va, ne, da), l) hl
  dsimp only [aPM] at c1
  have hlen := rowsF_len cAddr l
  by_cases ho : msgOk (k, f, (r1, r2, r3), (h1, h2, la, va, ne, da), l)
  · rw [msgB_yes ho] at c1
    have hc := showMsg_yes ho
    have a1 : 1 ≤ k ∧ k ≤ 4 := ho.1
    have v1 := mVar_eq k
    have v2 := mVar_eq f
    have s1 := varS_size k
    have s2 := varS_size f
    have s4 := ByteArray.size_append (a := varS k) (b := varS f)
    have hl10 : k = 4 → l.length ≤ 10 := fun e => by
      have h5 := ho.2.2.2.2
      dsimp only at h5
      rw [if_pos e] at h5
      exact h5.1
    clear ho
    by_cases k2 : k = 2
    · subst k2
      have hv : showMsg (2, f, (r1, r2, r3), (h1, h2, la, va, ne, da), l) = varS 2 ++ varS f ++ showReq (r1, r2, r3) := by rw [hc]; simp
      have c2 := mShowReq_eq (r1, r2, r3)
      have s3 := showReq_size (r1, r2, r3)
      dsimp only [aRq] at c2
      clear hc hl10
      generalize showReq (r1, r2, r3) = x3 at *
      simp only [initS, argPV, List.map_cons, List.map_nil, toPL, Nat.zero_add]
      repeat (first | with_reducible (first | apply W.seq | apply W.block | apply W.skip | apply W.exit | apply W.ret | apply At.seqN | apply At.blkN | apply At.blkE | apply At.blkR | apply At.thenX | apply At.thenR | apply At.blkX rfl) | ((with_reducible apply W.ops); (repeat (first | refine WL.opA hΓ (h := ?_) | refine WL.opX hΓ (h := ?_) | refine WL.opY (h := ?_) | refine WL.opZ (h := ?_))); with_reducible apply WL.nil) | refine W.condT (h := ?_) | refine W.condF (h := ?_))
      refine W.drawsA hΓ 8 [[], [0], [0, 1], [], [3], [0, 1, 2, 3, 4], [0, 1, 2, 3, 4, 5], [0, 1, 2, 3, 4, 5, 6]] (rest := ?rest4) (Es := ?Es4) (st1 := ?st14) (h := ?h4) (hf := ?hf4) (hp := ?hp4) (hd := ?hd4) (hfr := ?hfr4) (hst := ?hst4) (hT := ?hT4)
      case h4 => kernel_rfl
      case hf4 =>
        repeat (first | refine FlowT.opA (h := ?_) | refine FlowT.opX (h := ?_) | refine FlowT.opY (h := ?_) | refine FlowT.opZ (h := ?_))
        exact FlowT.done
      case hp4 => rfl
      case hd4 => rfl
      case hfr4 => rfl
      case hst4 =>
        simp only [pick_nil, pick_all, List.cons_append, List.nil_append]
        rfl
      (repeat (first | refine WL.opA hΓ (h := ?_) | refine WL.opX hΓ (h := ?_) | refine WL.opY (h := ?_) | refine WL.opZ (h := ?_)))
      with_reducible apply WL.nil
      repeat (first | with_reducible (first | apply W.seq | apply W.block | apply W.skip | apply W.exit | apply W.ret | apply At.seqN | apply At.blkN | apply At.blkE | apply At.blkR | apply At.thenX | apply At.thenR | apply At.blkX rfl) | ((with_reducible apply W.ops); (repeat (first | refine WL.opA hΓ (h := ?_) | refine WL.opX hΓ (h := ?_) | refine WL.opY (h := ?_) | refine WL.opZ (h := ?_))); with_reducible apply WL.nil) | refine W.condT (h := ?_) | refine W.condF (h := ?_))
      refine At.retA (by rw [Try.results30]) (he := ?_)
      rw [hv]
    · by_cases k3 : k = 3
      · subst k3
        have hv : showMsg (3, f, (r1, r2, r3), (h1, h2, la, va, ne, da), l) = varS 3 ++ varS f ++ showHead (h1, h2, la, va, ne, da) := by rw [hc]; simp
        have c2 := mShowHd_eq (h1, h2, la, va, ne, da)
        have s3 := showHead_size (h1, h2, la, va, ne, da)
        dsimp only [aHd] at c2
        clear hc hl10
        generalize showHead (h1, h2, la, va, ne, da) = x3 at *
        simp only [initS, argPV, List.map_cons, List.map_nil, toPL, Nat.zero_add]
        repeat (first | with_reducible (first | apply W.seq | apply W.block | apply W.skip | apply W.exit | apply W.ret | apply At.seqN | apply At.blkN | apply At.blkE | apply At.blkR | apply At.thenX | apply At.thenR | apply At.blkX rfl) | ((with_reducible apply W.ops); (repeat (first | refine WL.opA hΓ (h := ?_) | refine WL.opX hΓ (h := ?_) | refine WL.opY (h := ?_) | refine WL.opZ (h := ?_))); with_reducible apply WL.nil) | refine W.condT (h := ?_) | refine W.condF (h := ?_))
        refine W.drawsA hΓ 8 [[], [0], [0, 1], [], [3], [0, 1, 2, 3, 4], [0, 1, 2, 3, 4, 5], [0, 1, 2, 3, 4, 5, 6]] (rest := ?rest9) (Es := ?Es9) (st1 := ?st19) (h := ?h9) (hf := ?hf9) (hp := ?hp9) (hd := ?hd9) (hfr := ?hfr9) (hst := ?hst9) (hT := ?hT9)
        case h9 => kernel_rfl
        case hf9 =>
          repeat (first | refine FlowT.opA (h := ?_) | refine FlowT.opX (h := ?_) | refine FlowT.opY (h := ?_) | refine FlowT.opZ (h := ?_))
          exact FlowT.done
        case hp9 => rfl
        case hd9 => rfl
        case hfr9 => rfl
        case hst9 =>
          simp only [pick_nil, pick_all, List.cons_append, List.nil_append]
          rfl
        (repeat (first | refine WL.opA hΓ (h := ?_) | refine WL.opX hΓ (h := ?_) | refine WL.opY (h := ?_) | refine WL.opZ (h := ?_)))
        with_reducible apply WL.nil
        repeat (first | with_reducible (first | apply W.seq | apply W.block | apply W.skip | apply W.exit | apply W.ret | apply At.seqN | apply At.blkN | apply At.blkE | apply At.blkR | apply At.thenX | apply At.thenR | apply At.blkX rfl) | ((with_reducible apply W.ops); (repeat (first | refine WL.opA hΓ (h := ?_) | refine WL.opX hΓ (h := ?_) | refine WL.opY (h := ?_) | refine WL.opZ (h := ?_))); with_reducible apply WL.nil) | refine W.condT (h := ?_) | refine W.condF (h := ?_))
        refine At.retA (by rw [Try.results30]) (he := ?_)
        rw [hv]
      · by_cases k4 : k = 4
        · subst k4
          replace hl10 := hl10 rfl
          have hv : showMsg (4, f, (r1, r2, r3), (h1, h2, la, va, ne, da), l) = catA (varS 4 ++ varS f ++ varS (l.length : Int)) l l.length := by rw [hc]; simp
          have c2 := mVar_eq (l.length : Int)
          have s3 := varS_size (l.length : Int)
          clear hc
          generalize varS 4 = x1 at *
          generalize varS f = x2 at *
          generalize varS (l.length : Int) = x3 at *
          have s5 := ByteArray.size_append (a := x1 ++ x2) (b := x3)
          simp only [initS, argPV, List.map_cons, List.map_nil, toPL, Nat.zero_add]
          repeat (first | with_reducible (first | apply W.seq | apply W.block | apply W.skip | apply W.exit | apply W.ret | apply At.seqN | apply At.blkN | apply At.blkE | apply At.blkR | apply At.thenX | apply At.thenR | apply At.blkX rfl) | ((with_reducible apply W.ops); (repeat (first | refine WL.opA hΓ (h := ?_) | refine WL.opX hΓ (h := ?_) | refine WL.opY (h := ?_) | refine WL.opZ (h := ?_))); with_reducible apply WL.nil) | refine W.condT (h := ?_) | refine W.condF (h := ?_))
          refine W.drawsA hΓ 8 [[], [0], [0, 1], [], [3], [0, 1, 2, 3, 4], [0, 1, 2, 3, 4, 5], [0, 1, 2, 3, 4, 5, 6]] (rest := ?rest14) (Es := ?Es14) (st1 := ?st114) (h := ?h14) (hf := ?hf14) (hp := ?hp14) (hd := ?hd14) (hfr := ?hfr14) (hst := ?hst14) (hT := ?hT14)
          case h14 => kernel_rfl
          case hf14 =>
            repeat (first | refine FlowT.opA (h := ?_) | refine FlowT.opX (h := ?_) | refine FlowT.opY (h := ?_) | refine FlowT.opZ (h := ?_))
            exact FlowT.done
          case hp14 => rfl
          case hd14 => rfl
          case hfr14 => rfl
          case hst14 =>
            simp only [pick_nil, pick_all, List.cons_append, List.nil_append]
            rfl
          (repeat (first | refine WL.opA hΓ (h := ?_) | refine WL.opX hΓ (h := ?_) | refine WL.opY (h := ?_) | refine WL.opZ (h := ?_)))
          with_reducible apply WL.nil
          repeat (first | with_reducible (first | apply W.seq | apply W.block | apply W.skip | apply W.exit | apply W.ret | apply At.seqN | apply At.blkN | apply At.blkE | apply At.blkR | apply At.thenX | apply At.thenR | apply At.blkX rfl) | ((with_reducible apply W.ops); (repeat (first | refine WL.opA hΓ (h := ?_) | refine WL.opX hΓ (h := ?_) | refine WL.opY (h := ?_) | refine WL.opZ (h := ?_))); with_reducible apply WL.nil) | refine W.condT (h := ?_) | refine W.condF (h := ?_))
          refine W.loopA (fun k => k ≤ l.length) (fun k : Nat => [.slot 4 (vI k), .slot 3 (vS (catA (x1 ++ x2 ++ x3) l k)), .slot 1 (one (.ptr 1 0)), .blk 1 (.box [.sc (.int .i64 4), .sc (.int .i64 f), .sc (.int .i64 r1), .sc (.int .i64 r2), .sc (.int .i64 r3), .sc (.int .i64 h1), .sc (.int .i64 h2), .sc (.string la), .sc (.string va), .sc (.string ne), .sc (.string da), .sl (rowsF cAddr l)])]) (fun k => l.length - k) 0 (Nat.zero_le _) (h := ?_)
          rintro k hk
          clear c1 c2 v1 v2
          by_cases hlt : k < l.length
          · have hrow := row_addr hlt
            have hsz := catA_size (x1 ++ x2 ++ x3) l k
            have hnx : catA (x1 ++ x2 ++ x3) l k ++ varS (l.getD k (0, 0)).1 ++ varS (l.getD k (0, 0)).2 = catA (x1 ++ x2 ++ x3) l (k + 1) := rfl
            generalize l.getD k (0, 0) = y at hrow hnx
            have w1 := mVar_eq y.1
            have w2 := mVar_eq y.2
            have t1 := varS_size y.1
            have t2 := varS_size y.2
            obtain ⟨B, hB⟩ : ∃ B, B = catA (x1 ++ x2 ++ x3) l (k + 1) := ⟨_, rfl⟩
            rw [← hB] at hnx
            generalize catA (x1 ++ x2 ++ x3) l k = A at hsz hnx ⊢
            have hsA : A.size ≤ 1000 := by omega
            clear hsz hv s1 s2 s3 s4 s5 hl a1 k2 k3
            have t3 := ByteArray.size_append (a := A) (b := varS y.1)
            generalize varS y.1 = u1 at *
            generalize varS y.2 = u2 at *
            repeat (first | with_reducible (first | apply W.seq | apply W.block | apply W.skip | apply W.exit | apply W.ret | apply At.seqN | apply At.blkN | apply At.blkE | apply At.blkR | apply At.thenX | apply At.thenR | apply At.blkX rfl) | ((with_reducible apply W.ops); (repeat (first | refine WL.opA hΓ (h := ?_) | refine WL.opX hΓ (h := ?_) | refine WL.opY (h := ?_) | refine WL.opZ (h := ?_))); with_reducible apply WL.nil) | refine W.condT (h := ?_) | refine W.condF (h := ?_))
            refine W.drawsA hΓ 18 [[], [], [1], [], [1, 2, 3], [1, 2, 3, 4], [1, 2, 3, 4, 5], [1, 2, 3, 4, 5, 6], [0, 1, 2, 3, 4, 5, 6, 7], [], [9], [], [9, 10, 11], [9, 10, 11, 12], [9, 10, 11, 12, 13], [1, 2, 3, 4, 5, 6, 7, 9, 10, 11, 12, 13, 14], [0, 1, 2, 3, 4, 5, 6, 7, 8, 9, 10, 11, 12, 13, 14, 15], [0, 1, 2, 3, 4, 5, 6, 7, 8, 9, 10, 11, 12, 13, 14, 15, 16]] (rest := ?rest17) (Es := ?Es17) (st1 := ?st117) (h := ?h17) (hf := ?hf17) (hp := ?hp17) (hd := ?hd17) (hfr := ?hfr17) (hst := ?hst17) (hT := ?hT17)
            case h17 => kernel_rfl
            case hf17 =>
              repeat (first | refine FlowT.opA (h := ?_) | refine FlowT.opX (h := ?_) | refine FlowT.opY (h := ?_) | refine FlowT.opZ (h := ?_))
              exact FlowT.done
            case hp17 => rfl
            case hd17 => rfl
            case hfr17 => rfl
            case hst17 =>
              simp only [pick_nil, pick_all, List.cons_append, List.nil_append]
              rfl
            (repeat (first | refine WL.opA hΓ (h := ?_) | refine WL.opX hΓ (h := ?_) | refine WL.opY (h := ?_) | refine WL.opZ (h := ?_)))
            with_reducible apply WL.nil
            repeat (first | with_reducible (first | apply W.seq | apply W.block | apply W.skip | apply W.exit | apply W.ret | apply At.seqN | apply At.blkN | apply At.blkE | apply At.blkR | apply At.thenX | apply At.thenR | apply At.blkX rfl) | ((with_reducible apply W.ops); (repeat (first | refine WL.opA hΓ (h := ?_) | refine WL.opX hΓ (h := ?_) | refine WL.opY (h := ?_) | refine WL.opZ (h := ?_))); with_reducible apply WL.nil) | refine W.condT (h := ?_) | refine W.condF (h := ?_))
            subst hB
            exact At.roundA (k + 1) (by omega) (by omega)
          · have hke : k = l.length := by omega
            subst hke
            repeat (first | with_reducible (first | apply W.seq | apply W.block | apply W.skip | apply W.exit | apply W.ret | apply At.seqN | apply At.blkN | apply At.blkE | apply At.blkR | apply At.thenX | apply At.thenR | apply At.blkX rfl) | ((with_reducible apply W.ops); (repeat (first | refine WL.opA hΓ (h := ?_) | refine WL.opX hΓ (h := ?_) | refine WL.opY (h := ?_) | refine WL.opZ (h := ?_))); with_reducible apply WL.nil) | refine W.condT (h := ?_) | refine W.condF (h := ?_))
            refine At.retA (by rw [Try.results30]) (he := ?_)
            rw [hv]
        · obtain rfl : k = 1 := by omega
          have hv : showMsg (1, f, (r1, r2, r3), (h1, h2, la, va, ne, da), l) = varS 1 ++ varS f := by rw [hc]; simp
          clear hc hl10
          simp only [initS, argPV, List.map_cons, List.map_nil, toPL, Nat.zero_add]
          repeat (first | with_reducible (first | apply W.seq | apply W.block | apply W.skip | apply W.exit | apply W.ret | apply At.seqN | apply At.blkN | apply At.blkE | apply At.blkR | apply At.thenX | apply At.thenR | apply At.blkX rfl) | ((with_reducible apply W.ops); (repeat (first | refine WL.opA hΓ (h := ?_) | refine WL.opX hΓ (h := ?_) | refine WL.opY (h := ?_) | refine WL.opZ (h := ?_))); with_reducible apply WL.nil) | refine W.condT (h := ?_) | refine W.condF (h := ?_))
          refine W.drawsA hΓ 8 [[], [0], [0, 1], [], [3], [0, 1, 2, 3, 4], [0, 1, 2, 3, 4, 5], [0, 1, 2, 3, 4, 5, 6]] (rest := ?rest23) (Es := ?Es23) (st1 := ?st123) (h := ?h23) (hf := ?hf23) (hp := ?hp23) (hd := ?hd23) (hfr := ?hfr23) (hst := ?hst23) (hT := ?hT23)
          case h23 => kernel_rfl
          case hf23 =>
            repeat (first | refine FlowT.opA (h := ?_) | refine FlowT.opX (h := ?_) | refine FlowT.opY (h := ?_) | refine FlowT.opZ (h := ?_))
            exact FlowT.done
          case hp23 => rfl
          case hd23 => rfl
          case hfr23 => rfl
          case hst23 =>
            simp only [pick_nil, pick_all, List.cons_append, List.nil_append]
            rfl
          (repeat (first | refine WL.opA hΓ (h := ?_) | refine WL.opX hΓ (h := ?_) | refine WL.opY (h := ?_) | refine WL.opZ (h := ?_)))
          with_reducible apply WL.nil
          repeat (first | with_reducible (first | apply W.seq | apply W.block | apply W.skip | apply W.exit | apply W.ret | apply At.seqN | apply At.blkN | apply At.blkE | apply At.blkR | apply At.thenX | apply At.thenR | apply At.blkX rfl) | ((with_reducible apply W.ops); (repeat (first | refine WL.opA hΓ (h := ?_) | refine WL.opX hΓ (h := ?_) | refine WL.opY (h := ?_) | refine WL.opZ (h := ?_))); with_reducible apply WL.nil) | refine W.condT (h := ?_) | refine W.condF (h := ?_))
          refine At.retA (by rw [Try.results30]) (he := ?_)
          rw [hv]
  · rw [msgB_no ho] at c1
    have hv := showMsg_no ho
    clear ho
    simp only [initS, argPV, List.map_cons, List.map_nil, toPL, Nat.zero_add]
    repeat (first | with_reducible (first | apply W.seq | apply W.block | apply W.skip | apply W.exit | apply W.ret | apply At.seqN | apply At.blkN | apply At.blkE | apply At.blkR | apply At.thenX | apply At.thenR | apply At.blkX rfl) | ((with_reducible apply W.ops); (repeat (first | refine WL.opA hΓ (h := ?_) | refine WL.opX hΓ (h := ?_) | refine WL.opY (h := ?_) | refine WL.opZ (h := ?_))); with_reducible apply WL.nil) | refine W.condT (h := ?_) | refine W.condF (h := ?_))
    refine At.retA (by rw [Try.results30]) (he := ?_)
    rw [hv]
    rfl
theorem ShowPMsgI_s : Sound Try.prog 27 mShowPMsg := by
  refine Sound.mdl Try.func27 rfl Try.ntmps27 ?_
  rintro ⟨k, f, ⟨r1, r2, r3⟩, ⟨h1, h2, la, va, ne, da⟩, l⟩ w hl
  refine ⟨by simp, ?_⟩
  replace hl : l.length ≤ 8796093022207 := hl
  have hΓ : GSound Try.prog (look [(65, mMsg), (66, mVar), (67, mShowReq), (68, mShowHd)]) := env_cons (has_of Try.func65 rfl rfl) msgI_s (env_cons (has_of Try.func66 rfl rfl) varImpl_s (env_cons (has_of Try.func67 rfl rfl) showReqI_s (env_cons (has_of Try.func68 rfl rfl) showHdI_s env_nil)))
  have c1 := mMsg_eq (k, f, (r1, r2, r3), (h1, h2, la, va, ne, da), l) hl
  dsimp only [aPM] at c1
  have hlen := rowsF_len cAddr l
  by_cases ho : msgOk (k, f, (r1, r2, r3), (h1, h2, la, va, ne, da), l)
  · rw [msgB_yes ho] at c1
    have hc := showMsg_yes ho
    have a1 : 1 ≤ k ∧ k ≤ 4 := ho.1
    have v1 := mVar_eq k
    have v2 := mVar_eq f
    have s1 := varS_size k
    have s2 := varS_size f
    have s4 := ByteArray.size_append (a := varS k) (b := varS f)
    have hl10 : k = 4 → l.length ≤ 10 := fun e => by
      have h5 := ho.2.2.2.2
      dsimp only at h5
      rw [if_pos e] at h5
      exact h5.1
    clear ho
    by_cases k2 : k = 2
    · subst k2
      have hv : showMsg (2, f, (r1, r2, r3), (h1, h2, la, va, ne, da), l) = varS 2 ++ varS f ++ showReq (r1, r2, r3) := by rw [hc]; simp
      have c2 := mShowReq_eq (r1, r2, r3)
      have s3 := showReq_size (r1, r2, r3)
      dsimp only [aRq] at c2
      clear hc hl10
      generalize showReq (r1, r2, r3) = x3 at *
      simp only [initS, argPV, List.map_cons, List.map_nil, toPL, Nat.zero_add]
      repeat (first | with_reducible (first | apply W.seq | apply W.block | apply W.skip | apply W.exit | apply W.ret | apply At.seqN | apply At.blkN | apply At.blkE | apply At.blkR | apply At.thenX | apply At.thenR | apply At.blkX rfl) | ((with_reducible apply W.ops); (repeat (first | refine WL.opA hΓ (h := ?_) | refine WL.opX hΓ (h := ?_) | refine WL.opY (h := ?_) | refine WL.opZ (h := ?_))); with_reducible apply WL.nil) | refine W.condT (h := ?_) | refine W.condF (h := ?_))
      refine W.drawsA hΓ 8 [[], [0], [0, 1], [], [3], [0, 1, 2, 3, 4], [0, 1, 2, 3, 4, 5], [0, 1, 2, 3, 4, 5, 6]] (rest := ?rest32) (Es := ?Es32) (st1 := ?st132) (h := ?h32) (hf := ?hf32) (hp := ?hp32) (hd := ?hd32) (hfr := ?hfr32) (hst := ?hst32) (hT := ?hT32)
      case h32 => kernel_rfl
      case hf32 =>
        repeat (first | refine FlowT.opA (h := ?_) | refine FlowT.opX (h := ?_) | refine FlowT.opY (h := ?_) | refine FlowT.opZ (h := ?_))
        exact FlowT.done
      case hp32 => rfl
      case hd32 => rfl
      case hfr32 => rfl
      case hst32 =>
        simp only [pick_nil, pick_all, List.cons_append, List.nil_append]
        rfl
      (repeat (first | refine WL.opA hΓ (h := ?_) | refine WL.opX hΓ (h := ?_) | refine WL.opY (h := ?_) | refine WL.opZ (h := ?_)))
      with_reducible apply WL.nil
      repeat (first | with_reducible (first | apply W.seq | apply W.block | apply W.skip | apply W.exit | apply W.ret | apply At.seqN | apply At.blkN | apply At.blkE | apply At.blkR | apply At.thenX | apply At.thenR | apply At.blkX rfl) | ((with_reducible apply W.ops); (repeat (first | refine WL.opA hΓ (h := ?_) | refine WL.opX hΓ (h := ?_) | refine WL.opY (h := ?_) | refine WL.opZ (h := ?_))); with_reducible apply WL.nil) | refine W.condT (h := ?_) | refine W.condF (h := ?_))
      refine At.retA (by rw [Try.results27]) (he := ?_)
      rw [hv]
    · by_cases k3 : k = 3
      · subst k3
        have hv : showMsg (3, f, (r1, r2, r3), (h1, h2, la, va, ne, da), l) = varS 3 ++ varS f ++ showHead (h1, h2, la, va, ne, da) := by rw [hc]; simp
        have c2 := mShowHd_eq (h1, h2, la, va, ne, da)
        have s3 := showHead_size (h1, h2, la, va, ne, da)
        dsimp only [aHd] at c2
        clear hc hl10
        generalize showHead (h1, h2, la, va, ne, da) = x3 at *
        simp only [initS, argPV, List.map_cons, List.map_nil, toPL, Nat.zero_add]
        repeat (first | with_reducible (first | apply W.seq | apply W.block | apply W.skip | apply W.exit | apply W.ret | apply At.seqN | apply At.blkN | apply At.blkE | apply At.blkR | apply At.thenX | apply At.thenR | apply At.blkX rfl) | ((with_reducible apply W.ops); (repeat (first | refine WL.opA hΓ (h := ?_) | refine WL.opX hΓ (h := ?_) | refine WL.opY (h := ?_) | refine WL.opZ (h := ?_))); with_reducible apply WL.nil) | refine W.condT (h := ?_) | refine W.condF (h := ?_))
        refine W.drawsA hΓ 8 [[], [0], [0, 1], [], [3], [0, 1, 2, 3, 4], [0, 1, 2, 3, 4, 5], [0, 1, 2, 3, 4, 5, 6]] (rest := ?rest37) (Es := ?Es37) (st1 := ?st137) (h := ?h37) (hf := ?hf37) (hp := ?hp37) (hd := ?hd37) (hfr := ?hfr37) (hst := ?hst37) (hT := ?hT37)
        case h37 => kernel_rfl
        case hf37 =>
          repeat (first | refine FlowT.opA (h := ?_) | refine FlowT.opX (h := ?_) | refine FlowT.opY (h := ?_) | refine FlowT.opZ (h := ?_))
          exact FlowT.done
        case hp37 => rfl
        case hd37 => rfl
        case hfr37 => rfl
        case hst37 =>
          simp only [pick_nil, pick_all, List.cons_append, List.nil_append]
          rfl
        (repeat (first | refine WL.opA hΓ (h := ?_) | refine WL.opX hΓ (h := ?_) | refine WL.opY (h := ?_) | refine WL.opZ (h := ?_)))
        with_reducible apply WL.nil
        repeat (first | with_reducible (first | apply W.seq | apply W.block | apply W.skip | apply W.exit | apply W.ret | apply At.seqN | apply At.blkN | apply At.blkE | apply At.blkR | apply At.thenX | apply At.thenR | apply At.blkX rfl) | ((with_reducible apply W.ops); (repeat (first | refine WL.opA hΓ (h := ?_) | refine WL.opX hΓ (h := ?_) | refine WL.opY (h := ?_) | refine WL.opZ (h := ?_))); with_reducible apply WL.nil) | refine W.condT (h := ?_) | refine W.condF (h := ?_))
        refine At.retA (by rw [Try.results27]) (he := ?_)
        rw [hv]
      · by_cases k4 : k = 4
        · subst k4
          replace hl10 := hl10 rfl
          have hv : showMsg (4, f, (r1, r2, r3), (h1, h2, la, va, ne, da), l) = catA (varS 4 ++ varS f ++ varS (l.length : Int)) l l.length := by rw [hc]; simp
          have c2 := mVar_eq (l.length : Int)
          have s3 := varS_size (l.length : Int)
          clear hc
          generalize varS 4 = x1 at *
          generalize varS f = x2 at *
          generalize varS (l.length : Int) = x3 at *
          have s5 := ByteArray.size_append (a := x1 ++ x2) (b := x3)
          simp only [initS, argPV, List.map_cons, List.map_nil, toPL, Nat.zero_add]
          repeat (first | with_reducible (first | apply W.seq | apply W.block | apply W.skip | apply W.exit | apply W.ret | apply At.seqN | apply At.blkN | apply At.blkE | apply At.blkR | apply At.thenX | apply At.thenR | apply At.blkX rfl) | ((with_reducible apply W.ops); (repeat (first | refine WL.opA hΓ (h := ?_) | refine WL.opX hΓ (h := ?_) | refine WL.opY (h := ?_) | refine WL.opZ (h := ?_))); with_reducible apply WL.nil) | refine W.condT (h := ?_) | refine W.condF (h := ?_))
          refine W.drawsA hΓ 8 [[], [0], [0, 1], [], [3], [0, 1, 2, 3, 4], [0, 1, 2, 3, 4, 5], [0, 1, 2, 3, 4, 5, 6]] (rest := ?rest42) (Es := ?Es42) (st1 := ?st142) (h := ?h42) (hf := ?hf42) (hp := ?hp42) (hd := ?hd42) (hfr := ?hfr42) (hst := ?hst42) (hT := ?hT42)
          case h42 => kernel_rfl
          case hf42 =>
            repeat (first | refine FlowT.opA (h := ?_) | refine FlowT.opX (h := ?_) | refine FlowT.opY (h := ?_) | refine FlowT.opZ (h := ?_))
            exact FlowT.done
          case hp42 => rfl
          case hd42 => rfl
          case hfr42 => rfl
          case hst42 =>
            simp only [pick_nil, pick_all, List.cons_append, List.nil_append]
            rfl
          (repeat (first | refine WL.opA hΓ (h := ?_) | refine WL.opX hΓ (h := ?_) | refine WL.opY (h := ?_) | refine WL.opZ (h := ?_)))
          with_reducible apply WL.nil
          repeat (first | with_reducible (first | apply W.seq | apply W.block | apply W.skip | apply W.exit | apply W.ret | apply At.seqN | apply At.blkN | apply At.blkE | apply At.blkR | apply At.thenX | apply At.thenR | apply At.blkX rfl) | ((with_reducible apply W.ops); (repeat (first | refine WL.opA hΓ (h := ?_) | refine WL.opX hΓ (h := ?_) | refine WL.opY (h := ?_) | refine WL.opZ (h := ?_))); with_reducible apply WL.nil) | refine W.condT (h := ?_) | refine W.condF (h := ?_))
          refine W.loopA (fun k => k ≤ l.length) (fun k : Nat => [.slot 43 (vI k), .slot 42 (vI l.length), .slot 41 (vL cAddr l), .slot 3 (vS (catA (x1 ++ x2 ++ x3) l k))]) (fun k => l.length - k) 0 (Nat.zero_le _) (h := ?_)
          rintro k hk
          clear c1 c2 v1 v2
          by_cases hlt : k < l.length
          · have hrow := row_addr hlt
            have hsz := catA_size (x1 ++ x2 ++ x3) l k
            have hnx : catA (x1 ++ x2 ++ x3) l k ++ varS (l.getD k (0, 0)).1 ++ varS (l.getD k (0, 0)).2 = catA (x1 ++ x2 ++ x3) l (k + 1) := rfl
            generalize l.getD k (0, 0) = y at hrow hnx
            have w1 := mVar_eq y.1
            have w2 := mVar_eq y.2
            have t1 := varS_size y.1
            have t2 := varS_size y.2
            obtain ⟨B, hB⟩ : ∃ B, B = catA (x1 ++ x2 ++ x3) l (k + 1) := ⟨_, rfl⟩
            rw [← hB] at hnx
            generalize catA (x1 ++ x2 ++ x3) l k = A at hsz hnx ⊢
            have hsA : A.size ≤ 1000 := by omega
            clear hsz hv s1 s2 s3 s4 s5 hl a1 k2 k3
            have t3 := ByteArray.size_append (a := A) (b := varS y.1)
            generalize varS y.1 = u1 at *
            generalize varS y.2 = u2 at *
            repeat (first | with_reducible (first | apply W.seq | apply W.block | apply W.skip | apply W.exit | apply W.ret | apply At.seqN | apply At.blkN | apply At.blkE | apply At.blkR | apply At.thenX | apply At.thenR | apply At.blkX rfl) | ((with_reducible apply W.ops); (repeat (first | refine WL.opA hΓ (h := ?_) | refine WL.opX hΓ (h := ?_) | refine WL.opY (h := ?_) | refine WL.opZ (h := ?_))); with_reducible apply WL.nil) | refine W.condT (h := ?_) | refine W.condF (h := ?_))
            refine W.drawsA hΓ 10 [[], [], [1], [1, 2], [0, 1, 2, 3], [], [5], [1, 2, 3, 5, 6], [0, 1, 2, 3, 4, 5, 6, 7], [0, 1, 2, 3, 4, 5, 6, 7, 8]] (rest := ?rest45) (Es := ?Es45) (st1 := ?st145) (h := ?h45) (hf := ?hf45) (hp := ?hp45) (hd := ?hd45) (hfr := ?hfr45) (hst := ?hst45) (hT := ?hT45)
            case h45 => kernel_rfl
            case hf45 =>
              repeat (first | refine FlowT.opA (h := ?_) | refine FlowT.opX (h := ?_) | refine FlowT.opY (h := ?_) | refine FlowT.opZ (h := ?_))
              exact FlowT.done
            case hp45 => rfl
            case hd45 => rfl
            case hfr45 => rfl
            case hst45 =>
              simp only [pick_nil, pick_all, List.cons_append, List.nil_append]
              rfl
            (repeat (first | refine WL.opA hΓ (h := ?_) | refine WL.opX hΓ (h := ?_) | refine WL.opY (h := ?_) | refine WL.opZ (h := ?_)))
            with_reducible apply WL.nil
            repeat (first | with_reducible (first | apply W.seq | apply W.block | apply W.skip | apply W.exit | apply W.ret | apply At.seqN | apply At.blkN | apply At.blkE | apply At.blkR | apply At.thenX | apply At.thenR | apply At.blkX rfl) | ((with_reducible apply W.ops); (repeat (first | refine WL.opA hΓ (h := ?_) | refine WL.opX hΓ (h := ?_) | refine WL.opY (h := ?_) | refine WL.opZ (h := ?_))); with_reducible apply WL.nil) | refine W.condT (h := ?_) | refine W.condF (h := ?_))
            subst hB
            exact At.roundA (k + 1) (by omega) (by omega)
          · have hke : k = l.length := by omega
            subst hke
            repeat (first | with_reducible (first | apply W.seq | apply W.block | apply W.skip | apply W.exit | apply W.ret | apply At.seqN | apply At.blkN | apply At.blkE | apply At.blkR | apply At.thenX | apply At.thenR | apply At.blkX rfl) | ((with_reducible apply W.ops); (repeat (first | refine WL.opA hΓ (h := ?_) | refine WL.opX hΓ (h := ?_) | refine WL.opY (h := ?_) | refine WL.opZ (h := ?_))); with_reducible apply WL.nil) | refine W.condT (h := ?_) | refine W.condF (h := ?_))
            refine At.retA (by rw [Try.results27]) (he := ?_)
            rw [hv]
        · obtain rfl : k = 1 := by omega
          have hv : showMsg (1, f, (r1, r2, r3), (h1, h2, la, va, ne, da), l) = varS 1 ++ varS f := by rw [hc]; simp
          clear hc hl10
          simp only [initS, argPV, List.map_cons, List.map_nil, toPL, Nat.zero_add]
          repeat (first | with_reducible (first | apply W.seq | apply W.block | apply W.skip | apply W.exit | apply W.ret | apply At.seqN | apply At.blkN | apply At.blkE | apply At.blkR | apply At.thenX | apply At.thenR | apply At.blkX rfl) | ((with_reducible apply W.ops); (repeat (first | refine WL.opA hΓ (h := ?_) | refine WL.opX hΓ (h := ?_) | refine WL.opY (h := ?_) | refine WL.opZ (h := ?_))); with_reducible apply WL.nil) | refine W.condT (h := ?_) | refine W.condF (h := ?_))
          refine W.drawsA hΓ 8 [[], [0], [0, 1], [], [3], [0, 1, 2, 3, 4], [0, 1, 2, 3, 4, 5], [0, 1, 2, 3, 4, 5, 6]] (rest := ?rest51) (Es := ?Es51) (st1 := ?st151) (h := ?h51) (hf := ?hf51) (hp := ?hp51) (hd := ?hd51) (hfr := ?hfr51) (hst := ?hst51) (hT := ?hT51)
          case h51 => kernel_rfl
          case hf51 =>
            repeat (first | refine FlowT.opA (h := ?_) | refine FlowT.opX (h := ?_) | refine FlowT.opY (h := ?_) | refine FlowT.opZ (h := ?_))
            exact FlowT.done
          case hp51 => rfl
          case hd51 => rfl
          case hfr51 => rfl
          case hst51 =>
            simp only [pick_nil, pick_all, List.cons_append, List.nil_append]
            rfl
          (repeat (first | refine WL.opA hΓ (h := ?_) | refine WL.opX hΓ (h := ?_) | refine WL.opY (h := ?_) | refine WL.opZ (h := ?_)))
          with_reducible apply WL.nil
          repeat (first | with_reducible (first | apply W.seq | apply W.block | apply W.skip | apply W.exit | apply W.ret | apply At.seqN | apply At.blkN | apply At.blkE | apply At.blkR | apply At.thenX | apply At.thenR | apply At.blkX rfl) | ((with_reducible apply W.ops); (repeat (first | refine WL.opA hΓ (h := ?_) | refine WL.opX hΓ (h := ?_) | refine WL.opY (h := ?_) | refine WL.opZ (h := ?_))); with_reducible apply WL.nil) | refine W.condT (h := ?_) | refine W.condF (h := ?_))
          refine At.retA (by rw [Try.results27]) (he := ?_)
          rw [hv]
  · rw [msgB_no ho] at c1
    have hv := showMsg_no ho
    clear ho
    simp only [initS, argPV, List.map_cons, List.map_nil, toPL, Nat.zero_add]
    repeat (first | with_reducible (first | apply W.seq | apply W.block | apply W.skip | apply W.exit | apply W.ret | apply At.seqN | apply At.blkN | apply At.blkE | apply At.blkR | apply At.thenX | apply At.thenR | apply At.blkX rfl) | ((with_reducible apply W.ops); (repeat (first | refine WL.opA hΓ (h := ?_) | refine WL.opX hΓ (h := ?_) | refine WL.opY (h := ?_) | refine WL.opZ (h := ?_))); with_reducible apply WL.nil) | refine W.condT (h := ?_) | refine W.condF (h := ?_))
    refine At.retA (by rw [Try.results27]) (he := ?_)
    rw [hv]
    rfl
end Go.Proofs.Yteaohgacgcjkjaa
