/-
  Hear and Tell of spec.
-/
import Derived.Test.YtlogbmdfjnldlaaEvGosB
import Derived.Lib.Hide
namespace Go.Proofs.Ytlogbmdfjnldlaa
set_option maxRecDepth 100000
set_option linter.unusedVariables false
set_option linter.unusedSimpArgs false
open Go Go.RowKit
set_option maxHeartbeats 8000000
set_option linter.unusedVariables false

abbrev TelA := List TAddr × Int × Int × Int
abbrev okTel (x : TelA) : Prop := x.1.length ≤ 1048576 ∧ inI64 x.2.1 ∧ inI64 x.2.2.1 ∧ inI64 x.2.2.2
abbrev encTel (x : TelA) : List Arg := [aLA x.1, aI x.2.1, aI x.2.2.1, aI x.2.2.2]
theorem encTel_inj : ∀ x y, encTel x = encTel y → x = y := by rintro ⟨a, b, c, d⟩ ⟨a', b', c', d'⟩ h; simpa [encTel] using h
noncomputable def mTelS := mdl okTel encTel fun x => rL 69 2 cAddr (tellL x.1 x.2.1 x.2.2.1 x.2.2.2)
theorem mTelS_eq (l : List TAddr) (now age most : Int) (h : okTel (l, now, age, most)) : mTelS [aLA l, aI now, aI age, aI most] = some (rL 69 2 cAddr (tellL l now age most)) := mdl_eq encTel_inj (l, now, age, most) h
theorem tellS_s : Sound Try.prog 51 mTelS := by
  refine Sound.mdl Try.func51 rfl Try.ntmps51 ?_
  rintro ⟨l, now, age, most⟩ w ⟨hl, hn, hg, hm⟩
  refine ⟨by simp, ?_⟩
  dsimp only at hl hn hg hm
  have hΓ : GSound Try.prog (look [(110, mForS), (109, mLate)]) := env_cons (has_of Try.func110 rfl rfl) forgetS_s (env_cons (has_of Try.func109 rfl rfl) l27Late_s env_nil)
  have c1 := mForS_eq l now age ⟨hl, hn, hg⟩
  have hfl := forgetL_len l now age
  have c2 := mLate_eq (forgetL l now age) (by omega)
  have hres : tellL l now age most = (lateL (forgetL l now age)).take most.toNat := rfl
  have htl := late_len (forgetL l now age)
  unfold inI64 at hm
  generalize forgetL l now age = F at *
  generalize lateL F = T at *
  have hnil : rowsF cAddr (T.take 0) = [] := rfl
  simp only [initS, argPV, List.map_cons, List.map_nil, toPL, Nat.zero_add]
  repeat (first | with_reducible apply W.seq | with_reducible apply W.block | with_reducible apply W.skip | with_reducible apply W.exit | with_reducible apply W.ret | with_reducible apply At.seqN | with_reducible apply At.blkN | with_reducible apply At.blkE | with_reducible apply At.blkR | with_reducible apply At.thenX | with_reducible apply At.thenR | with_reducible apply At.blkX rfl | ((with_reducible apply W.ops); (repeat (first | refine WL.opA hΓ (h := ?_) | refine WL.opX hΓ (h := ?_) | refine WL.opY (h := ?_) | refine WL.opZ (h := ?_))); with_reducible apply WL.nil) | refine W.condT (h := ?_) | refine W.condF (h := ?_))
  refine W.loopA (fun k : Nat => k ≤ T.length ∧ (k = 0 ∨ (k : Int) ≤ most)) (fun k : Nat => [.slot 11 (vI k), .slot 10 (one (.all 17)), .blk 17 (.arr true 69 2 (rowsF cAddr (T.take k))), .slot 9 (one (.all 16)), .blk 16 (.arr true 69 2 (rowsF cAddr T)), .slot 3 (vI most)]) (fun k => T.length - k) 0 ⟨Nat.zero_le _, .inl rfl⟩ (h := ?_)
  rintro k ⟨hk, hkm⟩
  clear hnil
  have htk : (T.take k).length ≤ 100 := by rw [List.length_take]; omega
  by_cases hlt : k < T.length
  · by_cases h2 : (k : Int) < most
    · have hrow := addr_row hlt
      have e := cAddr_app (T.take k) T[k].1 T[k].2
      have e3 : T.take k ++ [(T[k].1, T[k].2)] = T.take (k + 1) := by rw [List.take_succ_eq_append_getElem hlt]
      rw [e3] at e
      clear e3 hres
      generalize T[k] = x at *
      repeat (first | with_reducible apply W.seq | with_reducible apply W.block | with_reducible apply W.skip | with_reducible apply W.exit | with_reducible apply W.ret | with_reducible apply At.seqN | with_reducible apply At.blkN | with_reducible apply At.blkE | with_reducible apply At.blkR | with_reducible apply At.thenX | with_reducible apply At.thenR | with_reducible apply At.blkX rfl | ((with_reducible apply W.ops); (repeat (first | refine WL.opA hΓ (h := ?_) | refine WL.opX hΓ (h := ?_) | refine WL.opY (h := ?_) | refine WL.opZ (h := ?_))); with_reducible apply WL.nil) | refine W.condT (h := ?_) | refine W.condF (h := ?_))
      exact At.roundA (k + 1) ⟨by omega, .inr (by omega)⟩ (by omega)
    · have e : tellL l now age most = T.take k := by
        rw [hres]
        congr 1
        omega
      clear hres
      repeat (first | with_reducible apply W.seq | with_reducible apply W.block | with_reducible apply W.skip | with_reducible apply W.exit | with_reducible apply W.ret | with_reducible apply At.seqN | with_reducible apply At.blkN | with_reducible apply At.blkE | with_reducible apply At.blkR | with_reducible apply At.thenX | with_reducible apply At.thenR | with_reducible apply At.blkX rfl | ((with_reducible apply W.ops); (repeat (first | refine WL.opA hΓ (h := ?_) | refine WL.opX hΓ (h := ?_) | refine WL.opY (h := ?_) | refine WL.opZ (h := ?_))); with_reducible apply WL.nil) | refine W.condT (h := ?_) | refine W.condF (h := ?_))
      refine At.retA (by rw [Try.results51]) (he := ?_)
      rw [e]
  · have e : tellL l now age most = T.take k := by
      rw [hres, List.take_of_length_le (by omega), List.take_of_length_le (by omega)]
    clear hres
    repeat (first | with_reducible apply W.seq | with_reducible apply W.block | with_reducible apply W.skip | with_reducible apply W.exit | with_reducible apply W.ret | with_reducible apply At.seqN | with_reducible apply At.blkN | with_reducible apply At.blkE | with_reducible apply At.blkR | with_reducible apply At.thenX | with_reducible apply At.thenR | with_reducible apply At.blkX rfl | ((with_reducible apply W.ops); (repeat (first | refine WL.opA hΓ (h := ?_) | refine WL.opX hΓ (h := ?_) | refine WL.opY (h := ?_) | refine WL.opZ (h := ?_))); with_reducible apply WL.nil) | refine W.condT (h := ?_) | refine W.condF (h := ?_))
    refine At.retA (by rw [Try.results51]) (he := ?_)
    rw [e]
abbrev HeaA := List TAddr × List TAddr × Int
abbrev okHea (x : HeaA) : Prop := x.1.length ≤ 1048576 ∧ x.2.1.length ≤ 1048576 ∧ inI64 x.2.2
abbrev encHea (x : HeaA) : List Arg := [aLA x.1, aLA x.2.1, aI x.2.2]
theorem encHea_inj : ∀ x y, encHea x = encHea y → x = y := by rintro ⟨a, b, c⟩ ⟨a', b', c'⟩ h; simpa [encHea] using h
noncomputable def mHeaS := mdl okHea encHea fun x => rL 69 2 cAddr (hearL x.1 x.2.1 x.2.2)
theorem mHeaS_eq (a b : List TAddr) (now : Int) (h : okHea (a, b, now)) : mHeaS [aLA a, aLA b, aI now] = some (rL 69 2 cAddr (hearL a b now)) := mdl_eq encHea_inj (a, b, now) h
def hearI (A T : List TAddr) (i : Nat) : List TAddr := (A.take i).filter fun x => decide (x ∈ T)
theorem hearI_succ {A T : List TAddr} {i : Nat} (h : i < A.length) : hearI A T (i + 1) = hearI A T i ++ (if A[i] ∈ T then [A[i]] else []) := by
  unfold hearI
  rw [List.take_succ_eq_append_getElem h, List.filter_append]
  congr 1
  by_cases hc : A[i] ∈ T <;> simp [hc]
theorem mem_take_succ {S : List TAddr} {x : TAddr} {j : Nat} (h : j < S.length) : x ∈ S.take (j + 1) ↔ x ∈ S.take j ∨ x = S[j] := by
  rw [List.take_succ_eq_append_getElem h, List.mem_append, List.mem_singleton]
theorem nodup_take {S : List TAddr} (hn : S.Nodup) {j : Nat} (h : j < S.length) : S[j] ∉ S.take j := fun hm => by
  obtain ⟨i, hi, he⟩ := List.getElem_of_mem hm
  rw [List.length_take] at hi
  rw [List.getElem_take] at he
  have := (List.pairwise_iff_getElem.1 hn) i j (by omega) h (by omega)
  exact this he
theorem hearS_s : Sound Try.prog 47 mHeaS := by
  refine Sound.mdl Try.func47 rfl Try.ntmps47 ?_
  rintro ⟨a, b, now⟩ w ⟨ha, hb, hn⟩
  refine ⟨by simp, ?_⟩
  dsimp only at ha hb hn
  have hΓ : GSound Try.prog (look [(48, mAddrs), (107, mTime), (108, mSeen), (109, mLate)]) := env_cons (has_of Try.func48 rfl rfl) addrsS_s (env_cons (has_of Try.func107 rfl rfl) l10Time_s (env_cons (has_of Try.func108 rfl rfl) l27Seen_s (env_cons (has_of Try.func109 rfl rfl) l27Late_s env_nil)))
  have c1 := mAddrs_eq a (by omega)
  have c2 := mAddrs_eq b (by omega)
  have c3 := mTime_eq now
  unfold inI64 at hn
  simp only [initS, argPV, List.map_cons, List.map_nil, toPL, Nat.zero_add]
  by_cases h1 : addrsOk a
  · rw [decide_eq_true h1] at c1
    by_cases h2 : addrsOk b
    · rw [decide_eq_true h2] at c2
      by_cases h3 : 0 ≤ now ∧ now ≤ 1000000
      · rw [decide_eq_true h3] at c3
        have hres : hearL a b now = hearI (allA a b now) ((topS a b now).take 10) (allA a b now).length := by
          unfold hearL hearK hearI
          rw [if_pos ⟨h1, h2, h3⟩, List.take_length]
        have hnil : rowsF cAddr (allK a b now 0) = [] := rfl
        repeat (first | with_reducible apply W.seq | with_reducible apply W.block | with_reducible apply W.skip | with_reducible apply W.exit | with_reducible apply W.ret | with_reducible apply At.seqN | with_reducible apply At.blkN | with_reducible apply At.blkE | with_reducible apply At.blkR | with_reducible apply At.thenX | with_reducible apply At.thenR | with_reducible apply At.blkX rfl | ((with_reducible apply W.ops); (repeat (first | refine WL.opA hΓ (h := ?_) | refine WL.opX hΓ (h := ?_) | refine WL.opY (h := ?_) | refine WL.opZ (h := ?_))); with_reducible apply WL.nil) | refine W.condT (h := ?_) | refine W.condF (h := ?_))
        clear c1 c2 c3
        refine W.loopA (fun k : Nat => k ≤ 99) (fun k : Nat => [.slot 9 (vI ((k : Int) + 1)), .slot 8 (one (.all 29)), .blk 29 (.arr true 69 2 (rowsF cAddr (allK a b now k))), .slot 7 (one (.all 14)), .blk 14 (.arr true 69 2 []), .slot 0 (vL cAddr a), .slot 1 (vL cAddr b), .slot 2 (vI now)]) (fun k => 99 - k) 0 (Nat.zero_le _) (h := ?_)
        intro k hk
        clear hnil
        have hkl := allK_len a b now k
        by_cases hlt : k < 99
        · have c := mSeen_eq a b ((k : Int) + 1) now ⟨by dsimp only; omega, by dsimp only; omega⟩
          have hs := allK_succ a b now k
          clear hres
          generalize sn now ((k : Int) + 1) (a ++ b) = s at c hs
          have hle : (k : Int) + 1 ≤ 99 := by omega
          by_cases h0 : 0 ≤ s
          · rw [if_pos h0] at hs
            have e := cAddr_app (allK a b now k) ((k : Int) + 1) s
            rw [← hs] at e
            clear hs
            repeat (first | with_reducible apply W.seq | with_reducible apply W.block | with_reducible apply W.skip | with_reducible apply W.exit | with_reducible apply W.ret | with_reducible apply At.seqN | with_reducible apply At.blkN | with_reducible apply At.blkE | with_reducible apply At.blkR | with_reducible apply At.thenX | with_reducible apply At.thenR | with_reducible apply At.blkX rfl | ((with_reducible apply W.ops); (repeat (first | refine WL.opA hΓ (h := ?_) | refine WL.opX hΓ (h := ?_) | refine WL.opY (h := ?_) | refine WL.opZ (h := ?_))); with_reducible apply WL.nil) | refine W.condT (h := ?_) | refine W.condF (h := ?_))
            exact At.roundA (k + 1) (by omega) (by omega)
          · rw [if_neg h0, List.append_nil] at hs
            repeat (first | with_reducible apply W.seq | with_reducible apply W.block | with_reducible apply W.skip | with_reducible apply W.exit | with_reducible apply W.ret | with_reducible apply At.seqN | with_reducible apply At.blkN | with_reducible apply At.blkE | with_reducible apply At.blkR | with_reducible apply At.thenX | with_reducible apply At.thenR | with_reducible apply At.blkX rfl | ((with_reducible apply W.ops); (repeat (first | refine WL.opA hΓ (h := ?_) | refine WL.opX hΓ (h := ?_) | refine WL.opY (h := ?_) | refine WL.opZ (h := ?_))); with_reducible apply WL.nil) | refine W.condT (h := ?_) | refine W.condF (h := ?_))
            rw [← hs]
            exact At.roundA (k + 1) (by omega) (by omega)
        · have hke : k = 99 := by omega
          subst hke
          have hA : allK a b now 99 = allA a b now := rfl
          have hT : lateL (allA a b now) = topS a b now := rfl
          have c := mLate_eq (allA a b now) (by rw [← hA]; omega)
          have hnd := topS_nodup a b now
          have htl : (topS a b now).length = (allA a b now).length := late_len _
          have hal : (allA a b now).length ≤ 99 := hkl
          rw [hA]
          rw [hT] at c
          clear hA hT hkl hlt hk
          generalize allA a b now = A at *
          generalize topS a b now = S at *
          have hnil : rowsF cAddr (hearI A (S.take 10) 0) = [] := rfl
          have h99 : ¬ ((99 : Nat) : Int) + 1 ≤ 99 := by omega
          repeat (first | with_reducible apply W.seq | with_reducible apply W.block | with_reducible apply W.skip | with_reducible apply W.exit | with_reducible apply W.ret | with_reducible apply At.seqN | with_reducible apply At.blkN | with_reducible apply At.blkE | with_reducible apply At.blkR | with_reducible apply At.thenX | with_reducible apply At.thenR | with_reducible apply At.blkX rfl | ((with_reducible apply W.ops); (repeat (first | refine WL.opA hΓ (h := ?_) | refine WL.opX hΓ (h := ?_) | refine WL.opY (h := ?_) | refine WL.opZ (h := ?_))); with_reducible apply WL.nil) | refine W.condT (h := ?_) | refine W.condF (h := ?_))
          refine W.loopA (fun i : Nat => i ≤ A.length) (fun i : Nat => [.slot 12 (vI i), .slot 8 (one (.all 29)), .blk 29 (.arr true 69 2 (rowsF cAddr A)), .slot 11 (one (.all 48)), .blk 48 (.arr true 69 2 (rowsF cAddr S)), .slot 7 (one (.all 14)), .blk 14 (.arr true 69 2 (rowsF cAddr (hearI A (S.take 10) i)))]) (fun i => A.length - i) 0 (Nat.zero_le _) (h := ?_)
          intro i hi
          clear hnil h99 c
          have hil : (hearI A (S.take 10) i).length ≤ 99 := by unfold hearI; exact Nat.le_trans (List.length_filter_le _ _) (by rw [List.length_take]; omega)
          by_cases hlt : i < A.length
          · have hrow := addr_row hlt
            have hs := hearI_succ (T := S.take 10) hlt
            clear hres
            generalize hx : A[i] = x at hrow hs
            clear hx
            generalize hearI A (S.take 10) i = O at *
            repeat (first | with_reducible apply W.seq | with_reducible apply W.block | with_reducible apply W.skip | with_reducible apply W.exit | with_reducible apply W.ret | with_reducible apply At.seqN | with_reducible apply At.blkN | with_reducible apply At.blkE | with_reducible apply At.blkR | with_reducible apply At.thenX | with_reducible apply At.thenR | with_reducible apply At.blkX rfl | ((with_reducible apply W.ops); (repeat (first | refine WL.opA hΓ (h := ?_) | refine WL.opX hΓ (h := ?_) | refine WL.opY (h := ?_) | refine WL.opZ (h := ?_))); with_reducible apply WL.nil) | refine W.condT (h := ?_) | refine W.condF (h := ?_))
            refine W.loopA (fun y : Nat × List TAddr => y.1 ≤ (S.take 10).length ∧ y.2 = O ++ (if x ∈ (S.take 10).take y.1 then [x] else [])) (fun y : Nat × List TAddr => [.slot 13 (vI y.1), .slot 12 (vI i), .slot 8 (one (.all 29)), .blk 29 (.arr true 69 2 (rowsF cAddr A)), .slot 11 (one (.all 48)), .blk 48 (.arr true 69 2 (rowsF cAddr S)), .slot 7 (one (.all 14)), .blk 14 (.arr true 69 2 (rowsF cAddr y.2))]) (fun y => S.length - y.1) (0, O) ⟨Nat.zero_le _, by simp⟩ (h := ?_)
            rintro ⟨j, o⟩ ⟨hj, ho⟩
            dsimp only at hj ho ⊢
            rw [List.length_take] at hj
            have hol : o.length ≤ 100 := by rw [ho]; split <;> simp <;> omega
            by_cases hjs : j < S.length
            · by_cases hj10 : j < 10
              · have hrowj := addr_row hjs
                have hjt : j < (S.take 10).length := by rw [List.length_take]; omega
                have hms := mem_take_succ (x := x) hjt
                have hno := nodup_take (hnd.sublist (List.take_sublist 10 S)) hjt
                rw [List.getElem_take] at hms hno
                have hj10i : (j : Int) < 10 := by omega
                by_cases he : S[j] = x
                · rw [he] at hrowj hno
                  rw [if_neg hno, List.append_nil] at ho
                  have hn2 : O ++ [x] = O ++ (if x ∈ (S.take 10).take (j + 1) then [x] else []) := by rw [if_pos (hms.2 (.inr he.symm))]
                  subst ho
                  have e := cAddr_app o x.1 x.2
                  have hn2 := Lib.hid hn2
                  clear hms hno he hs
                  repeat (first | with_reducible apply W.seq | with_reducible apply W.block | with_reducible apply W.skip | with_reducible apply W.exit | with_reducible apply W.ret | with_reducible apply At.seqN | with_reducible apply At.blkN | with_reducible apply At.blkE | with_reducible apply At.blkR | with_reducible apply At.thenX | with_reducible apply At.thenR | with_reducible apply At.blkX rfl | ((with_reducible apply W.ops); (repeat (first | refine WL.opA hΓ (h := ?_) | refine WL.opX hΓ (h := ?_) | refine WL.opY (h := ?_) | refine WL.opZ (h := ?_))); with_reducible apply WL.nil) | refine W.condT (h := ?_) | refine W.condF (h := ?_))
                  refine W.drawsA hΓ 9 [[], [], [0, 1], [0, 1, 2], [], [], [4, 5], [4, 5, 6], [0, 1, 2, 3, 4, 5, 6, 7]] (rest := ?rest17) (Es := ?Es17) (st1 := ?st117) (h := ?h17) (hf := ?hf17) (hp := ?hp17) (hd := ?hd17) (hfr := ?hfr17) (hst := ?hst17) (hT := ?hT17)
                  case h17 => kernel_rfl
                  case hf17 =>
                    repeat (first | refine FlowT.opA (h := ?_) | refine FlowT.opX (h := ?_) | refine FlowT.opY (h := ?_) | refine FlowT.opZ (h := ?_))
                    exact FlowT.done
                  case hp17 => rfl
                  case hd17 => rfl
                  case hfr17 => rfl
                  case hst17 =>
                    simp only [pick_nil, pick_all, List.cons_append, List.nil_append]
                    rfl
                  (repeat (first | refine WL.opA hΓ (h := ?_) | refine WL.opX hΓ (h := ?_) | refine WL.opY (h := ?_) | refine WL.opZ (h := ?_)))
                  with_reducible apply WL.nil
                  repeat (first | with_reducible apply W.seq | with_reducible apply W.block | with_reducible apply W.skip | with_reducible apply W.exit | with_reducible apply W.ret | with_reducible apply At.seqN | with_reducible apply At.blkN | with_reducible apply At.blkE | with_reducible apply At.blkR | with_reducible apply At.thenX | with_reducible apply At.thenR | with_reducible apply At.blkX rfl | ((with_reducible apply W.ops); (repeat (first | refine WL.opA hΓ (h := ?_) | refine WL.opX hΓ (h := ?_) | refine WL.opY (h := ?_) | refine WL.opZ (h := ?_))); with_reducible apply WL.nil) | refine W.condT (h := ?_) | refine W.condF (h := ?_))
                  exact At.roundA (j + 1, o ++ [x]) ⟨by rw [List.length_take]; dsimp only; omega, hn2.out⟩ (by dsimp only; omega)
                · have hn2 : o = O ++ (if x ∈ (S.take 10).take (j + 1) then [x] else []) := by
                    rw [ho]
                    congr 1
                    by_cases hm : x ∈ (S.take 10).take j
                    · rw [if_pos hm, if_pos (hms.2 (.inl hm))]
                    · rw [if_neg hm, if_neg fun h => by
                        rcases hms.1 h with h | h
                        · exact hm h
                        · exact he h.symm]
                  have hn2 := Lib.hid hn2
                  clear hms hno hs ho
                  generalize S[j] = y at he hrowj
                  by_cases he1 : y.1 = x.1
                  · have he2 : ¬ y.2 = x.2 := fun h => he (Prod.ext he1 h)
                    clear he
                    repeat (first | with_reducible apply W.seq | with_reducible apply W.block | with_reducible apply W.skip | with_reducible apply W.exit | with_reducible apply W.ret | with_reducible apply At.seqN | with_reducible apply At.blkN | with_reducible apply At.blkE | with_reducible apply At.blkR | with_reducible apply At.thenX | with_reducible apply At.thenR | with_reducible apply At.blkX rfl | ((with_reducible apply W.ops); (repeat (first | refine WL.opA hΓ (h := ?_) | refine WL.opX hΓ (h := ?_) | refine WL.opY (h := ?_) | refine WL.opZ (h := ?_))); with_reducible apply WL.nil) | refine W.condT (h := ?_) | refine W.condF (h := ?_))
                    refine W.drawsA hΓ 9 [[], [], [0, 1], [0, 1, 2], [], [], [4, 5], [4, 5, 6], [0, 1, 2, 3, 4, 5, 6, 7]] (rest := ?rest20) (Es := ?Es20) (st1 := ?st120) (h := ?h20) (hf := ?hf20) (hp := ?hp20) (hd := ?hd20) (hfr := ?hfr20) (hst := ?hst20) (hT := ?hT20)
                    case h20 => kernel_rfl
                    case hf20 =>
                      repeat (first | refine FlowT.opA (h := ?_) | refine FlowT.opX (h := ?_) | refine FlowT.opY (h := ?_) | refine FlowT.opZ (h := ?_))
                      exact FlowT.done
                    case hp20 => rfl
                    case hd20 => rfl
                    case hfr20 => rfl
                    case hst20 =>
                      simp only [pick_nil, pick_all, List.cons_append, List.nil_append]
                      rfl
                    (repeat (first | refine WL.opA hΓ (h := ?_) | refine WL.opX hΓ (h := ?_) | refine WL.opY (h := ?_) | refine WL.opZ (h := ?_)))
                    with_reducible apply WL.nil
                    repeat (first | with_reducible apply W.seq | with_reducible apply W.block | with_reducible apply W.skip | with_reducible apply W.exit | with_reducible apply W.ret | with_reducible apply At.seqN | with_reducible apply At.blkN | with_reducible apply At.blkE | with_reducible apply At.blkR | with_reducible apply At.thenX | with_reducible apply At.thenR | with_reducible apply At.blkX rfl | ((with_reducible apply W.ops); (repeat (first | refine WL.opA hΓ (h := ?_) | refine WL.opX hΓ (h := ?_) | refine WL.opY (h := ?_) | refine WL.opZ (h := ?_))); with_reducible apply WL.nil) | refine W.condT (h := ?_) | refine W.condF (h := ?_))
                    exact At.roundA (j + 1, o) ⟨by rw [List.length_take]; dsimp only; omega, hn2.out⟩ (by dsimp only; omega)
                  · clear he
                    repeat (first | with_reducible apply W.seq | with_reducible apply W.block | with_reducible apply W.skip | with_reducible apply W.exit | with_reducible apply W.ret | with_reducible apply At.seqN | with_reducible apply At.blkN | with_reducible apply At.blkE | with_reducible apply At.blkR | with_reducible apply At.thenX | with_reducible apply At.thenR | with_reducible apply At.blkX rfl | ((with_reducible apply W.ops); (repeat (first | refine WL.opA hΓ (h := ?_) | refine WL.opX hΓ (h := ?_) | refine WL.opY (h := ?_) | refine WL.opZ (h := ?_))); with_reducible apply WL.nil) | refine W.condT (h := ?_) | refine W.condF (h := ?_))
                    refine W.drawsA hΓ 9 [[], [], [0, 1], [0, 1, 2], [], [], [4, 5], [4, 5, 6], [0, 1, 2, 3, 4, 5, 6, 7]] (rest := ?rest23) (Es := ?Es23) (st1 := ?st123) (h := ?h23) (hf := ?hf23) (hp := ?hp23) (hd := ?hd23) (hfr := ?hfr23) (hst := ?hst23) (hT := ?hT23)
                    case h23 => kernel_rfl
                    case hf23 =>
                      repeat (first | refine FlowT.opA (h := ?_) | refine FlowT.opX (h := ?_) | refine FlowT.opY (h := ?_) | refine FlowT.opZ (h := ?_))
                      exact FlowT.done
                    case hp23 => rfl
                    case hd23 => rfl
                    case hfr23 => rfl
                    case hst23 =>
                      simp only [pick_nil, pick_all, List.cons_append, List.nil_append]
                      rfl
                    (repeat (first | refine WL.opA hΓ (h := ?_) | refine WL.opX hΓ (h := ?_) | refine WL.opY (h := ?_) | refine WL.opZ (h := ?_)))
                    with_reducible apply WL.nil
                    repeat (first | with_reducible apply W.seq | with_reducible apply W.block | with_reducible apply W.skip | with_reducible apply W.exit | with_reducible apply W.ret | with_reducible apply At.seqN | with_reducible apply At.blkN | with_reducible apply At.blkE | with_reducible apply At.blkR | with_reducible apply At.thenX | with_reducible apply At.thenR | with_reducible apply At.blkX rfl | ((with_reducible apply W.ops); (repeat (first | refine WL.opA hΓ (h := ?_) | refine WL.opX hΓ (h := ?_) | refine WL.opY (h := ?_) | refine WL.opZ (h := ?_))); with_reducible apply WL.nil) | refine W.condT (h := ?_) | refine W.condF (h := ?_))
                    exact At.roundA (j + 1, o) ⟨by rw [List.length_take]; dsimp only; omega, hn2.out⟩ (by dsimp only; omega)
              · have hfin : hearI A (S.take 10) (i + 1) = o := by
                  rw [hs, ho, show (S.take 10).take j = S.take 10 from List.take_of_length_le (by rw [List.length_take]; omega)]
                have hj10i : ¬ (j : Int) < 10 := by omega
                have hfin := Lib.hid hfin
                clear hs ho
                repeat (first | with_reducible apply W.seq | with_reducible apply W.block | with_reducible apply W.skip | with_reducible apply W.exit | with_reducible apply W.ret | with_reducible apply At.seqN | with_reducible apply At.blkN | with_reducible apply At.blkE | with_reducible apply At.blkR | with_reducible apply At.thenX | with_reducible apply At.thenR | with_reducible apply At.blkX rfl | ((with_reducible apply W.ops); (repeat (first | refine WL.opA hΓ (h := ?_) | refine WL.opX hΓ (h := ?_) | refine WL.opY (h := ?_) | refine WL.opZ (h := ?_))); with_reducible apply WL.nil) | refine W.condT (h := ?_) | refine W.condF (h := ?_))
                rw [← hfin.out]
                exact At.roundA (i + 1) (by omega) (by omega)
            · have hfin : hearI A (S.take 10) (i + 1) = o := by
                rw [hs, ho, show (S.take 10).take j = S.take 10 from List.take_of_length_le (by rw [List.length_take]; omega)]
              have hfin := Lib.hid hfin
              clear hs ho
              repeat (first | with_reducible apply W.seq | with_reducible apply W.block | with_reducible apply W.skip | with_reducible apply W.exit | with_reducible apply W.ret | with_reducible apply At.seqN | with_reducible apply At.blkN | with_reducible apply At.blkE | with_reducible apply At.blkR | with_reducible apply At.thenX | with_reducible apply At.thenR | with_reducible apply At.blkX rfl | ((with_reducible apply W.ops); (repeat (first | refine WL.opA hΓ (h := ?_) | refine WL.opX hΓ (h := ?_) | refine WL.opY (h := ?_) | refine WL.opZ (h := ?_))); with_reducible apply WL.nil) | refine W.condT (h := ?_) | refine W.condF (h := ?_))
              rw [← hfin.out]
              exact At.roundA (i + 1) (by omega) (by omega)
          · have hie : i = A.length := by omega
            subst hie
            repeat (first | with_reducible apply W.seq | with_reducible apply W.block | with_reducible apply W.skip | with_reducible apply W.exit | with_reducible apply W.ret | with_reducible apply At.seqN | with_reducible apply At.blkN | with_reducible apply At.blkE | with_reducible apply At.blkR | with_reducible apply At.thenX | with_reducible apply At.thenR | with_reducible apply At.blkX rfl | ((with_reducible apply W.ops); (repeat (first | refine WL.opA hΓ (h := ?_) | refine WL.opX hΓ (h := ?_) | refine WL.opY (h := ?_) | refine WL.opZ (h := ?_))); with_reducible apply WL.nil) | refine W.condT (h := ?_) | refine W.condF (h := ?_))
            refine At.retA (by rw [Try.results47]) (he := ?_)
            rw [hres]
      · rw [decide_eq_false h3] at c3
        have hres : hearL a b now = [] := if_neg fun h => h3 h.2.2
        repeat (first | with_reducible apply W.seq | with_reducible apply W.block | with_reducible apply W.skip | with_reducible apply W.exit | with_reducible apply W.ret | with_reducible apply At.seqN | with_reducible apply At.blkN | with_reducible apply At.blkE | with_reducible apply At.blkR | with_reducible apply At.thenX | with_reducible apply At.thenR | with_reducible apply At.blkX rfl | ((with_reducible apply W.ops); (repeat (first | refine WL.opA hΓ (h := ?_) | refine WL.opX hΓ (h := ?_) | refine WL.opY (h := ?_) | refine WL.opZ (h := ?_))); with_reducible apply WL.nil) | refine W.condT (h := ?_) | refine W.condF (h := ?_))
        refine At.retA (by rw [Try.results47]) (he := ?_)
        rw [hres]
        rfl
    · rw [decide_eq_false h2] at c2
      have hres : hearL a b now = [] := if_neg fun h => h2 h.2.1
      repeat (first | with_reducible apply W.seq | with_reducible apply W.block | with_reducible apply W.skip | with_reducible apply W.exit | with_reducible apply W.ret | with_reducible apply At.seqN | with_reducible apply At.blkN | with_reducible apply At.blkE | with_reducible apply At.blkR | with_reducible apply At.thenX | with_reducible apply At.thenR | with_reducible apply At.blkX rfl | ((with_reducible apply W.ops); (repeat (first | refine WL.opA hΓ (h := ?_) | refine WL.opX hΓ (h := ?_) | refine WL.opY (h := ?_) | refine WL.opZ (h := ?_))); with_reducible apply WL.nil) | refine W.condT (h := ?_) | refine W.condF (h := ?_))
      refine At.retA (by rw [Try.results47]) (he := ?_)
      rw [hres]
      rfl
  · rw [decide_eq_false h1] at c1
    have hres : hearL a b now = [] := if_neg fun h => h1 h.1
    repeat (first | with_reducible apply W.seq | with_reducible apply W.block | with_reducible apply W.skip | with_reducible apply W.exit | with_reducible apply W.ret | with_reducible apply At.seqN | with_reducible apply At.blkN | with_reducible apply At.blkE | with_reducible apply At.blkR | with_reducible apply At.thenX | with_reducible apply At.thenR | with_reducible apply At.blkX rfl | ((with_reducible apply W.ops); (repeat (first | refine WL.opA hΓ (h := ?_) | refine WL.opX hΓ (h := ?_) | refine WL.opY (h := ?_) | refine WL.opZ (h := ?_))); with_reducible apply WL.nil) | refine W.condT (h := ?_) | refine W.condF (h := ?_))
    refine At.retA (by rw [Try.results47]) (he := ?_)
    rw [hres]
    rfl
end Go.Proofs.Ytlogbmdfjnldlaa
