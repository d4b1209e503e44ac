/-
  Hear, Forget, Tell of spec.
-/
import Derived.Test.YtlogbmdfjnldlaaEvGosP
namespace Go.Proofs.Ytlogbmdfjnldlaa
set_option maxRecDepth 100000
set_option linter.unusedVariables false
set_option linter.unusedSimpArgs false
open Go Go.RowKit
set_option maxHeartbeats 8000000
set_option linter.unusedVariables false

abbrev aLA (l : List TAddr) : Arg := aL cAddr l
theorem addr_row {l : List TAddr} {k : Nat} (h : k < l.length) : (rowsF cAddr l)[k]? = some [.sc (.int .i64 l[k].1), .sc (.int .i64 l[k].2)] := rowsF_get cAddr l k h
theorem cAddr_app (l : List TAddr) (a b : Int) : rowsF cAddr l ++ [[.sc (.int .i64 a), .sc (.int .i64 b)]] = rowsF cAddr (l ++ [(a, b)]) := by rw [← rowsF_app]; rfl
theorem cAddr_app2 (l m : List TAddr) : rowsF cAddr l ++ rowsF cAddr m = rowsF cAddr (l ++ m) := rowsF_app _ _ _
theorem cAddr_take (l : List TAddr) (k : Nat) : (rowsF cAddr l).take k = rowsF cAddr (l.take k) := by unfold rowsF; rw [List.map_take]
theorem cAddr_drop (l : List TAddr) (k : Nat) : (rowsF cAddr l).drop k = rowsF cAddr (l.drop k) := by unfold rowsF; rw [List.map_drop]
abbrev SeenA := List TAddr × List TAddr × Int × Int
abbrev okSeen (x : SeenA) : Prop := x.1.length ≤ 8796093022207 ∧ x.2.1.length ≤ 8796093022207
abbrev encSeen (x : SeenA) : List Arg := [aLA x.1, aLA x.2.1, aI x.2.2.1, aI x.2.2.2]
noncomputable def mSeen := mdl okSeen encSeen fun x => rI (sn x.2.2.2 x.2.2.1 (x.1 ++ x.2.1))
theorem mSeen_eq (a b : List TAddr) (id now : Int) (h : okSeen (a, b, id, now)) : mSeen [aLA a, aLA b, aI id, aI now] = some (rI (sn now id (a ++ b))) := mdl_eq (by rintro ⟨a, b, c, d⟩ ⟨a', b', c', d'⟩ h; simpa [encSeen] using h) (a, b, id, now) h
theorem sn_take (now id : Int) {l : List TAddr} {k : Nat} (h : k < l.length) (pre : List TAddr) : sn now id (pre ++ l.take (k + 1)) = snF now id (sn now id (pre ++ l.take k)) l[k] := by
  rw [List.take_succ_eq_append_getElem h, ← List.append_assoc, sn_app]
theorem l27Seen_s : Sound Try.prog 108 mSeen := by
  refine Sound.mdl Try.func108 rfl Try.ntmps108 ?_
  rintro ⟨a, b, id, now⟩ w ⟨ha, hb⟩
  refine ⟨by simp, ?_⟩
  dsimp only at ha hb
  have hΓ : GSound Try.prog (look []) := env_nil
  have hn0 : sn now id ([] ++ a.take 0) = -1 := rfl
  simp only [initS, argPV, List.map_cons, List.map_nil, toPL, Nat.zero_add]
  repeat (first | with_reducible apply W.seq | with_reducible apply W.block | with_reducible apply W.skip | with_reducible apply W.exit | with_reducible apply W.ret | with_reducible apply At.seqN | with_reducible apply At.blkN | with_reducible apply At.blkE | with_reducible apply At.blkR | with_reducible apply At.thenX | with_reducible apply At.thenR | with_reducible apply At.blkX rfl | ((with_reducible apply W.ops); (repeat (first | refine WL.opA hΓ (h := ?_) | refine WL.opX hΓ (h := ?_) | refine WL.opY (h := ?_) | refine WL.opZ (h := ?_))); with_reducible apply WL.nil) | refine W.condT (h := ?_) | refine W.condF (h := ?_))
  refine W.loopA (fun x : Nat × Int => x.1 ≤ a.length ∧ x.2 = sn now id ([] ++ a.take x.1)) (fun x : Nat × Int => [.slot 10 (vI x.1), .slot 9 (vI x.2), .slot 0 (vL cAddr a), .slot 1 (vL cAddr b), .slot 2 (vI id), .slot 3 (vI now)]) (fun x => a.length - x.1) (0, -1) ⟨Nat.zero_le _, rfl⟩ (h := ?_)
  rintro ⟨k, n⟩ ⟨hk, hn⟩
  dsimp only at hk hn ⊢
  clear hn0
  by_cases hlt : k < a.length
  · have hrow := addr_row hlt
    have hs := sn_take now id hlt []
    rw [← hn] at hs
    clear hn
    generalize a[k] = x at hrow hs
    unfold snF at hs
    by_cases h1 : x.1 = id
    · by_cases h2 : x.2 ≤ now
      · by_cases h3 : n < x.2
        · rw [if_pos ⟨h1, h2, h3⟩] at hs
          repeat (first | with_reducible apply W.seq | with_reducible apply W.block | with_reducible apply W.skip | with_reducible apply W.exit | with_reducible apply W.ret | with_reducible apply At.seqN | with_reducible apply At.blkN | with_reducible apply At.blkE | with_reducible apply At.blkR | with_reducible apply At.thenX | with_reducible apply At.thenR | with_reducible apply At.blkX rfl | ((with_reducible apply W.ops); (repeat (first | refine WL.opA hΓ (h := ?_) | refine WL.opX hΓ (h := ?_) | refine WL.opY (h := ?_) | refine WL.opZ (h := ?_))); with_reducible apply WL.nil) | refine W.condT (h := ?_) | refine W.condF (h := ?_))
          exact At.roundA (k + 1, x.2) ⟨by dsimp only; omega, hs.symm⟩ (by dsimp only; omega)
        · rw [if_neg fun h => h3 h.2.2] at hs
          repeat (first | with_reducible apply W.seq | with_reducible apply W.block | with_reducible apply W.skip | with_reducible apply W.exit | with_reducible apply W.ret | with_reducible apply At.seqN | with_reducible apply At.blkN | with_reducible apply At.blkE | with_reducible apply At.blkR | with_reducible apply At.thenX | with_reducible apply At.thenR | with_reducible apply At.blkX rfl | ((with_reducible apply W.ops); (repeat (first | refine WL.opA hΓ (h := ?_) | refine WL.opX hΓ (h := ?_) | refine WL.opY (h := ?_) | refine WL.opZ (h := ?_))); with_reducible apply WL.nil) | refine W.condT (h := ?_) | refine W.condF (h := ?_))
          exact At.roundA (k + 1, n) ⟨by dsimp only; omega, hs.symm⟩ (by dsimp only; omega)
      · rw [if_neg fun h => h2 h.2.1] at hs
        repeat (first | with_reducible apply W.seq | with_reducible apply W.block | with_reducible apply W.skip | with_reducible apply W.exit | with_reducible apply W.ret | with_reducible apply At.seqN | with_reducible apply At.blkN | with_reducible apply At.blkE | with_reducible apply At.blkR | with_reducible apply At.thenX | with_reducible apply At.thenR | with_reducible apply At.blkX rfl | ((with_reducible apply W.ops); (repeat (first | refine WL.opA hΓ (h := ?_) | refine WL.opX hΓ (h := ?_) | refine WL.opY (h := ?_) | refine WL.opZ (h := ?_))); with_reducible apply WL.nil) | refine W.condT (h := ?_) | refine W.condF (h := ?_))
        exact At.roundA (k + 1, n) ⟨by dsimp only; omega, hs.symm⟩ (by dsimp only; omega)
    · rw [if_neg fun h => h1 h.1] at hs
      repeat (first | with_reducible apply W.seq | with_reducible apply W.block | with_reducible apply W.skip | with_reducible apply W.exit | with_reducible apply W.ret | with_reducible apply At.seqN | with_reducible apply At.blkN | with_reducible apply At.blkE | with_reducible apply At.blkR | with_reducible apply At.thenX | with_reducible apply At.thenR | with_reducible apply At.blkX rfl | ((with_reducible apply W.ops); (repeat (first | refine WL.opA hΓ (h := ?_) | refine WL.opX hΓ (h := ?_) | refine WL.opY (h := ?_) | refine WL.opZ (h := ?_))); with_reducible apply WL.nil) | refine W.condT (h := ?_) | refine W.condF (h := ?_))
      exact At.roundA (k + 1, n) ⟨by dsimp only; omega, hs.symm⟩ (by dsimp only; omega)
  · have hke : k = a.length := by omega
    subst hke
    rw [List.take_length, List.nil_append] at hn
    have hn0 : sn now id (a ++ b.take 0) = n := by rw [List.take_zero, List.append_nil]; exact hn.symm
    clear hn hk
    repeat (first | with_reducible apply W.seq | with_reducible apply W.block | with_reducible apply W.skip | with_reducible apply W.exit | with_reducible apply W.ret | with_reducible apply At.seqN | with_reducible apply At.blkN | with_reducible apply At.blkE | with_reducible apply At.blkR | with_reducible apply At.thenX | with_reducible apply At.thenR | with_reducible apply At.blkX rfl | ((with_reducible apply W.ops); (repeat (first | refine WL.opA hΓ (h := ?_) | refine WL.opX hΓ (h := ?_) | refine WL.opY (h := ?_) | refine WL.opZ (h := ?_))); with_reducible apply WL.nil) | refine W.condT (h := ?_) | refine W.condF (h := ?_))
    refine W.loopA (fun x : Nat × Int => x.1 ≤ b.length ∧ x.2 = sn now id (a ++ b.take x.1)) (fun x : Nat × Int => [.slot 11 (vI x.1), .slot 9 (vI x.2), .slot 1 (vL cAddr b), .slot 2 (vI id), .slot 3 (vI now)]) (fun x => b.length - x.1) (0, n) ⟨Nat.zero_le _, hn0.symm⟩ (h := ?_)
    rintro ⟨k, n⟩ ⟨hk, hn⟩
    dsimp only at hk hn ⊢
    clear hn0 hlt
    by_cases hlt : k < b.length
    · have hrow := addr_row hlt
      have hs := sn_take now id hlt a
      rw [← hn] at hs
      clear hn
      generalize b[k] = x at hrow hs
      unfold snF at hs
      by_cases h1 : x.1 = id
      · by_cases h2 : x.2 ≤ now
        · by_cases h3 : n < x.2
          · rw [if_pos ⟨h1, h2, h3⟩] at hs
            repeat (first | with_reducible apply W.seq | with_reducible apply W.block | with_reducible apply W.skip | with_reducible apply W.exit | with_reducible apply W.ret | with_reducible apply At.seqN | with_reducible apply At.blkN | with_reducible apply At.blkE | with_reducible apply At.blkR | with_reducible apply At.thenX | with_reducible apply At.thenR | with_reducible apply At.blkX rfl | ((with_reducible apply W.ops); (repeat (first | refine WL.opA hΓ (h := ?_) | refine WL.opX hΓ (h := ?_) | refine WL.opY (h := ?_) | refine WL.opZ (h := ?_))); with_reducible apply WL.nil) | refine W.condT (h := ?_) | refine W.condF (h := ?_))
            exact At.roundA (k + 1, x.2) ⟨by dsimp only; omega, hs.symm⟩ (by dsimp only; omega)
          · rw [if_neg fun h => h3 h.2.2] at hs
            repeat (first | with_reducible apply W.seq | with_reducible apply W.block | with_reducible apply W.skip | with_reducible apply W.exit | with_reducible apply W.ret | with_reducible apply At.seqN | with_reducible apply At.blkN | with_reducible apply At.blkE | with_reducible apply At.blkR | with_reducible apply At.thenX | with_reducible apply At.thenR | with_reducible apply At.blkX rfl | ((with_reducible apply W.ops); (repeat (first | refine WL.opA hΓ (h := ?_) | refine WL.opX hΓ (h := ?_) | refine WL.opY (h := ?_) | refine WL.opZ (h := ?_))); with_reducible apply WL.nil) | refine W.condT (h := ?_) | refine W.condF (h := ?_))
            exact At.roundA (k + 1, n) ⟨by dsimp only; omega, hs.symm⟩ (by dsimp only; omega)
        · rw [if_neg fun h => h2 h.2.1] at hs
          repeat (first | with_reducible apply W.seq | with_reducible apply W.block | with_reducible apply W.skip | with_reducible apply W.exit | with_reducible apply W.ret | with_reducible apply At.seqN | with_reducible apply At.blkN | with_reducible apply At.blkE | with_reducible apply At.blkR | with_reducible apply At.thenX | with_reducible apply At.thenR | with_reducible apply At.blkX rfl | ((with_reducible apply W.ops); (repeat (first | refine WL.opA hΓ (h := ?_) | refine WL.opX hΓ (h := ?_) | refine WL.opY (h := ?_) | refine WL.opZ (h := ?_))); with_reducible apply WL.nil) | refine W.condT (h := ?_) | refine W.condF (h := ?_))
          exact At.roundA (k + 1, n) ⟨by dsimp only; omega, hs.symm⟩ (by dsimp only; omega)
      · rw [if_neg fun h => h1 h.1] at hs
        repeat (first | with_reducible apply W.seq | with_reducible apply W.block | with_reducible apply W.skip | with_reducible apply W.exit | with_reducible apply W.ret | with_reducible apply At.seqN | with_reducible apply At.blkN | with_reducible apply At.blkE | with_reducible apply At.blkR | with_reducible apply At.thenX | with_reducible apply At.thenR | with_reducible apply At.blkX rfl | ((with_reducible apply W.ops); (repeat (first | refine WL.opA hΓ (h := ?_) | refine WL.opX hΓ (h := ?_) | refine WL.opY (h := ?_) | refine WL.opZ (h := ?_))); with_reducible apply WL.nil) | refine W.condT (h := ?_) | refine W.condF (h := ?_))
        exact At.roundA (k + 1, n) ⟨by dsimp only; omega, hs.symm⟩ (by dsimp only; omega)
    · have hke : k = b.length := by omega
      subst hke
      rw [List.take_length] at hn
      repeat (first | with_reducible apply W.seq | with_reducible apply W.block | with_reducible apply W.skip | with_reducible apply W.exit | with_reducible apply W.ret | with_reducible apply At.seqN | with_reducible apply At.blkN | with_reducible apply At.blkE | with_reducible apply At.blkR | with_reducible apply At.thenX | with_reducible apply At.thenR | with_reducible apply At.blkX rfl | ((with_reducible apply W.ops); (repeat (first | refine WL.opA hΓ (h := ?_) | refine WL.opX hΓ (h := ?_) | refine WL.opY (h := ?_) | refine WL.opZ (h := ?_))); with_reducible apply WL.nil) | refine W.condT (h := ?_) | refine W.condF (h := ?_))
      refine At.retA (by rw [Try.results108]) (he := ?_)
      first | rfl | rw [hn]
abbrev ForA := List TAddr × Int × Int
abbrev okFor (x : ForA) : Prop := x.1.length ≤ 1048576 ∧ inI64 x.2.1 ∧ inI64 x.2.2
abbrev encFor (x : ForA) : List Arg := [aLA x.1, aI x.2.1, aI x.2.2]
theorem encFor_inj : ∀ x y, encFor x = encFor y → x = y := by rintro ⟨a, b, c⟩ ⟨a', b', c'⟩ h; simpa [encFor] using h
noncomputable def mForS := mdl okFor encFor fun x => rL 69 2 cAddr (forgetL x.1 x.2.1 x.2.2)
theorem mForS_eq (l : List TAddr) (now age : Int) (h : okFor (l, now, age)) : mForS [aLA l, aI now, aI age] = some (rL 69 2 cAddr (forgetL l now age)) := mdl_eq encFor_inj (l, now, age) h
def forK (l : List TAddr) (now age : Int) (k : Nat) : List TAddr := (l.take k).filter fun x => decide (now - x.2 ≤ age)
theorem forK_succ {l : List TAddr} {now age : Int} {k : Nat} (h : k < l.length) : forK l now age (k + 1) = forK l now age k ++ (if now - l[k].2 ≤ age then [l[k]] else []) := by
  unfold forK
  rw [List.take_succ_eq_append_getElem h, List.filter_append]
  congr 1
  by_cases hc : now - l[k].2 ≤ age <;> simp [hc]
theorem forK_len (l : List TAddr) (now age : Int) (k : Nat) : (forK l now age k).length ≤ l.length := by
  unfold forK
  exact Nat.le_trans (List.length_filter_le _ _) (by rw [List.length_take]; omega)
theorem forgetS_s : Sound Try.prog 110 mForS := by
  refine Sound.mdl Try.func110 rfl Try.ntmps110 ?_
  rintro ⟨l, now, age⟩ w ⟨hl, hn, hg⟩
  refine ⟨by simp, ?_⟩
  dsimp only at hl hn hg
  unfold inI64 at hn hg
  have hΓ : GSound Try.prog (look [(48, mAddrs), (107, mTime)]) := env_cons (has_of Try.func48 rfl rfl) addrsS_s (env_cons (has_of Try.func107 rfl rfl) l10Time_s env_nil)
  have c1 := mAddrs_eq l (by omega)
  have c2 := mTime_eq now
  have hnil : rowsF cAddr (forK l now age 0) = [] := rfl
  simp only [initS, argPV, List.map_cons, List.map_nil, toPL, Nat.zero_add]
  repeat (first | with_reducible apply W.seq | with_reducible apply W.block | with_reducible apply W.skip | with_reducible apply W.exit | with_reducible apply W.ret | with_reducible apply At.seqN | with_reducible apply At.blkN | with_reducible apply At.blkE | with_reducible apply At.blkR | with_reducible apply At.thenX | with_reducible apply At.thenR | with_reducible apply At.blkX rfl | ((with_reducible apply W.ops); (repeat (first | refine WL.opA hΓ (h := ?_) | refine WL.opX hΓ (h := ?_) | refine WL.opY (h := ?_) | refine WL.opZ (h := ?_))); with_reducible apply WL.nil) | refine W.condT (h := ?_) | refine W.condF (h := ?_))
  by_cases h1 : okForget l now age
  · have hf : forgetL l now age = forK l now age l.length := by unfold forgetL forK; rw [if_pos h1, List.take_length]
    obtain ⟨h2, h3, h4⟩ := h1
    rw [decide_eq_true h2] at c1
    rw [decide_eq_true h3] at c2
    refine W.loopA (fun k : Nat => k ≤ l.length) (fun k : Nat => [.slot 8 (vI k), .slot 7 (one (.all 9)), .blk 9 (.arr true 69 2 (rowsF cAddr (forK l now age k))), .slot 0 (vL cAddr l), .slot 1 (vI now), .slot 2 (vI age)]) (fun k => l.length - k) 0 (Nat.zero_le _) (h := ?_)
    intro k hk
    clear hnil
    have hfl := forK_len l now age k
    by_cases hlt : k < l.length
    · have hrow := addr_row hlt
      have hs := forK_succ (now := now) (age := age) hlt
      have hx := addrs_in h2 (List.getElem_mem hlt)
      generalize l[k] = x at hrow hs hx
      obtain ⟨xa, xb⟩ := x
      dsimp only at hx hs
      by_cases h5 : now - xb ≤ age
      · rw [if_pos h5] at hs
        have e := cAddr_app (forK l now age k) xa xb
        rw [← hs] at e
        clear hs
        repeat (first | with_reducible apply W.seq | with_reducible apply W.block | with_reducible apply W.skip | with_reducible apply W.exit | with_reducible apply W.ret | with_reducible apply At.seqN | with_reducible apply At.blkN | with_reducible apply At.blkE | with_reducible apply At.blkR | with_reducible apply At.thenX | with_reducible apply At.thenR | with_reducible apply At.blkX rfl | ((with_reducible apply W.ops); (repeat (first | refine WL.opA hΓ (h := ?_) | refine WL.opX hΓ (h := ?_) | refine WL.opY (h := ?_) | refine WL.opZ (h := ?_))); with_reducible apply WL.nil) | refine W.condT (h := ?_) | refine W.condF (h := ?_))
        exact At.roundA (k + 1) (by omega) (by omega)
      · rw [if_neg h5, List.append_nil] at hs
        repeat (first | with_reducible apply W.seq | with_reducible apply W.block | with_reducible apply W.skip | with_reducible apply W.exit | with_reducible apply W.ret | with_reducible apply At.seqN | with_reducible apply At.blkN | with_reducible apply At.blkE | with_reducible apply At.blkR | with_reducible apply At.thenX | with_reducible apply At.thenR | with_reducible apply At.blkX rfl | ((with_reducible apply W.ops); (repeat (first | refine WL.opA hΓ (h := ?_) | refine WL.opX hΓ (h := ?_) | refine WL.opY (h := ?_) | refine WL.opZ (h := ?_))); with_reducible apply WL.nil) | refine W.condT (h := ?_) | refine W.condF (h := ?_))
        rw [← hs]
        exact At.roundA (k + 1) (by omega) (by omega)
    · have hke : k = l.length := by omega
      subst hke
      repeat (first | with_reducible apply W.seq | with_reducible apply W.block | with_reducible apply W.skip | with_reducible apply W.exit | with_reducible apply W.ret | with_reducible apply At.seqN | with_reducible apply At.blkN | with_reducible apply At.blkE | with_reducible apply At.blkR | with_reducible apply At.thenX | with_reducible apply At.thenR | with_reducible apply At.blkX rfl | ((with_reducible apply W.ops); (repeat (first | refine WL.opA hΓ (h := ?_) | refine WL.opX hΓ (h := ?_) | refine WL.opY (h := ?_) | refine WL.opZ (h := ?_))); with_reducible apply WL.nil) | refine W.condT (h := ?_) | refine W.condF (h := ?_))
      refine At.retA (by rw [Try.results110]) (he := ?_)
      rw [hf]
  · have hf : forgetL l now age = [] := by unfold forgetL; rw [if_neg h1]
    refine W.loopA (fun _ : Unit => True) (fun _ : Unit => [.slot 8 (vI 0), .slot 7 (one (.all 9)), .blk 9 (.arr true 69 2 []), .slot 0 (vL cAddr l), .slot 1 (vI now), .slot 2 (vI age)]) (fun _ => 0) () trivial (h := ?_)
    rintro - -
    clear hnil
    by_cases hlt : 0 < l.length
    · by_cases h2 : addrsOk l
      · rw [decide_eq_true h2] at c1
        by_cases h3 : 0 ≤ now ∧ now ≤ 1000000
        · rw [decide_eq_true h3] at c2
          have h4 : ¬ 0 ≤ age := fun h => h1 ⟨h2, h3, h⟩
          repeat (first | with_reducible apply W.seq | with_reducible apply W.block | with_reducible apply W.skip | with_reducible apply W.exit | with_reducible apply W.ret | with_reducible apply At.seqN | with_reducible apply At.blkN | with_reducible apply At.blkE | with_reducible apply At.blkR | with_reducible apply At.thenX | with_reducible apply At.thenR | with_reducible apply At.blkX rfl | ((with_reducible apply W.ops); (repeat (first | refine WL.opA hΓ (h := ?_) | refine WL.opX hΓ (h := ?_) | refine WL.opY (h := ?_) | refine WL.opZ (h := ?_))); with_reducible apply WL.nil) | refine W.condT (h := ?_) | refine W.condF (h := ?_))
          refine At.retA (by rw [Try.results110]) (he := ?_)
          rw [hf]
          rfl
        · rw [decide_eq_false h3] at c2
          repeat (first | with_reducible apply W.seq | with_reducible apply W.block | with_reducible apply W.skip | with_reducible apply W.exit | with_reducible apply W.ret | with_reducible apply At.seqN | with_reducible apply At.blkN | with_reducible apply At.blkE | with_reducible apply At.blkR | with_reducible apply At.thenX | with_reducible apply At.thenR | with_reducible apply At.blkX rfl | ((with_reducible apply W.ops); (repeat (first | refine WL.opA hΓ (h := ?_) | refine WL.opX hΓ (h := ?_) | refine WL.opY (h := ?_) | refine WL.opZ (h := ?_))); with_reducible apply WL.nil) | refine W.condT (h := ?_) | refine W.condF (h := ?_))
          refine At.retA (by rw [Try.results110]) (he := ?_)
          rw [hf]
          rfl
      · rw [decide_eq_false h2] at c1
        repeat (first | with_reducible apply W.seq | with_reducible apply W.block | with_reducible apply W.skip | with_reducible apply W.exit | with_reducible apply W.ret | with_reducible apply At.seqN | with_reducible apply At.blkN | with_reducible apply At.blkE | with_reducible apply At.blkR | with_reducible apply At.thenX | with_reducible apply At.thenR | with_reducible apply At.blkX rfl | ((with_reducible apply W.ops); (repeat (first | refine WL.opA hΓ (h := ?_) | refine WL.opX hΓ (h := ?_) | refine WL.opY (h := ?_) | refine WL.opZ (h := ?_))); with_reducible apply WL.nil) | refine W.condT (h := ?_) | refine W.condF (h := ?_))
        refine At.retA (by rw [Try.results110]) (he := ?_)
        rw [hf]
        rfl
    · repeat (first | with_reducible apply W.seq | with_reducible apply W.block | with_reducible apply W.skip | with_reducible apply W.exit | with_reducible apply W.ret | with_reducible apply At.seqN | with_reducible apply At.blkN | with_reducible apply At.blkE | with_reducible apply At.blkR | with_reducible apply At.thenX | with_reducible apply At.thenR | with_reducible apply At.blkX rfl | ((with_reducible apply W.ops); (repeat (first | refine WL.opA hΓ (h := ?_) | refine WL.opX hΓ (h := ?_) | refine WL.opY (h := ?_) | refine WL.opZ (h := ?_))); with_reducible apply WL.nil) | refine W.condT (h := ?_) | refine W.condF (h := ?_))
      refine At.retA (by rw [Try.results110]) (he := ?_)
      rw [hf]
      rfl
end Go.Proofs.Ytlogbmdfjnldlaa
