/-
  Put together: PEvVote PEvOldPath PEvOld.
-/
import Derived.Test.YtfgkfcfplodaoaaGreatDoorG30
import Derived.Test.YtfgkfcfplodaoaaGreatDoorHPEvTree
set_option linter.unusedSimpArgs false
set_option linter.unusedVariables false
set_option maxRecDepth 100000
section
namespace Go.Proofs.YtfgkfcfplodaoaaGreatDoor
open Go Go.RowKit
set_option maxHeartbeats 4000000
abbrev TTrust := Int × Int
abbrev aTr (t : TTrust) : Arg := .val true [.sc (.int .i64 t.1), .sc (.int .i64 t.2)]
theorem aTr_inj : ∀ x y : TTrust, [aTr x] = [aTr y] → x = y := by
  rintro ⟨a, b⟩ ⟨a', b'⟩ h
  simpa [aTr] using h
def trustOk (t : TTrust) : Prop := (1 ≤ t.1 ∧ t.1 ≤ 100000) ∧ (0 ≤ t.2 ∧ t.2 ≤ 1000)
instance (t : TTrust) : Decidable (trustOk t) := by unfold trustOk; infer_instance
noncomputable def mTrust := mdl (fun _ : TTrust => True) (fun t => [aTr t]) (fun t => rB (decide (trustOk t)))
theorem mTrust_eq (t : TTrust) : mTrust [aTr t] = some (rB (decide (trustOk t))) := mdl_eq aTr_inj t trivial
theorem trustI_s : Sound Tryz.prog 122 mTrust := by
  refine Sound.mdl Tryz.func122 rfl Tryz.ntmps122 ?_
  rintro ⟨p, s⟩ w -
  refine ⟨by simp, ?_⟩
  have hΓ : GSound Tryz.prog (look [(139, mWithin)]) := env_cons (has_of Tryz.func139 rfl rfl) within_s env_nil
  have c1 := mWithin_eq p 1 100000
  have c2 := mWithin_eq s 0 1000
  simp only [initS, argPV, List.map_cons, List.map_nil, toPL, Nat.zero_add]
  by_cases hp : 1 ≤ p ∧ p ≤ 100000
  · refine zR ?_
    refine At.retA (by rw [Tryz.results122]) (he := ?_)
    simp [trustOk, hp]
  · refine zR ?_
    refine At.retA (by rw [Tryz.results122]) (he := ?_)
    simp [trustOk, hp]
def expT (t : TTrust) (n : Int) : Int := if trustOk t ∧ (0 ≤ n ∧ n ≤ 1000000) then n + t.1 else -1
abbrev aTrI (x : TTrust × Int) : List Arg := [aTr x.1, aI x.2]
theorem aTrI_inj : ∀ x y, aTrI x = aTrI y → x = y := by
  rintro ⟨⟨a, b⟩, c⟩ ⟨⟨a', b'⟩, c'⟩ h
  simp [aTrI, aTr] at h
  simp [h]
noncomputable def mExp := mdl (fun _ : TTrust × Int => True) aTrI (fun x => rI (expT x.1 x.2))
theorem mExp_eq (t : TTrust) (n : Int) : mExp [aTr t, aI n] = some (rI (expT t n)) := mdl_eq aTrI_inj (t, n) trivial
theorem expI_s : Sound Tryz.prog 126 mExp := by
  refine Sound.mdl Tryz.func126 rfl Tryz.ntmps126 ?_
  rintro ⟨⟨p, s⟩, n⟩ w -
  refine ⟨by simp, ?_⟩
  have hΓ : GSound Tryz.prog (look [(122, mTrust), (125, mTime)]) := env_cons (has_of Tryz.func122 rfl rfl) trustI_s (env_cons (has_of Tryz.func125 rfl rfl) isTime_s env_nil)
  have c1 := mTrust_eq (p, s)
  have c2 := mTime_eq n
  dsimp only [aTr] at c1
  simp only [initS, argPV, List.map_cons, List.map_nil, toPL, Nat.zero_add]
  by_cases ht : trustOk (p, s)
  · have hp : 1 ≤ p ∧ p ≤ 100000 := ht.1
    rw [decide_eq_true ht] at c1
    by_cases hn : 0 ≤ n ∧ n ≤ 1000000
    · refine zR ?_
      refine At.retA (by rw [Tryz.results126]) (he := ?_)
      simp [expT, ht, hn]
    · refine zR ?_
      refine At.retA (by rw [Tryz.results126]) (he := ?_)
      simp only [expT, ht, hn, and_false, if_false]
  · rw [decide_eq_false ht] at c1
    by_cases hn : 0 ≤ n ∧ n ≤ 1000000
    · refine zR ?_
      refine At.retA (by rw [Tryz.results126]) (he := ?_)
      simp only [expT, ht, false_and, if_false]
    · refine zR ?_
      refine At.retA (by rw [Tryz.results126]) (he := ?_)
      simp only [expT, ht, false_and, if_false]
abbrev TVote := Int × Int × Int × ByteArray × Int
abbrev aVt (v : TVote) : Arg := .val true [.sc (.int .i64 v.1), .sc (.int .i64 v.2.1), .sc (.int .i64 v.2.2.1), .sc (.string v.2.2.2.1), .sc (.int .i64 v.2.2.2.2)]
theorem aVt_inj : ∀ x y : TVote, [aVt x] = [aVt y] → x = y := by
  rintro ⟨a, b, c, d, e⟩ ⟨a', b', c', d', e'⟩ h
  simpa [aVt] using h
def idOk (s : ByteArray) : Prop := (s.size : Int) = 8 ∨ s = (⟨#[]⟩ : ByteArray)
instance (s : ByteArray) : Decidable (idOk s) := by unfold idOk; infer_instance
theorem idOk_size {s : ByteArray} (h : idOk s) : s.size ≤ 8 := by
  rcases h with h | h
  · omega
  · rw [h]; decide
def voteOk (v : TVote) : Prop := (1 ≤ v.1 ∧ v.1 ≤ 1000000) ∧ (0 ≤ v.2.1 ∧ v.2.1 ≤ 1000) ∧ (1 ≤ v.2.2.1 ∧ v.2.2.1 ≤ 2) ∧ idOk v.2.2.2.1 ∧ (1 ≤ v.2.2.2.2 ∧ v.2.2.2.2 ≤ 99)
instance (v : TVote) : Decidable (voteOk v) := by unfold voteOk; infer_instance
noncomputable def mId := mdl (fun _ : ByteArray => True) (fun s => [aS s]) (fun s => rB (decide (idOk s)))
theorem mId_eq (s : ByteArray) : mId [aS s] = some (rB (decide (idOk s))) := mdl_eq (by intro a b h; simpa using h) s trivial
noncomputable def mVal99 := mdl (fun _ : Int => True) (fun n => [aI n]) (fun n => rB (decide (1 ≤ n ∧ n ≤ 99)))
theorem mVal99_eq (n : Int) : mVal99 [aI n] = some (rB (decide (1 ≤ n ∧ n ≤ 99))) := mdl_eq (by intro a b h; simpa using h) n trivial
noncomputable def mVote := mdl (fun _ : TVote => True) (fun v => [aVt v]) (fun v => rB (decide (voteOk v)))
theorem mVote_eq (v : TVote) : mVote [aVt v] = some (rB (decide (voteOk v))) := mdl_eq aVt_inj v trivial
theorem isVal_s : Sound Tryz.prog 231 mVal99 := by
  refine Sound.mdl Tryz.func231 rfl Tryz.ntmps231 ?_
  rintro n w -
  refine ⟨by simp, ?_⟩
  have hΓ : GSound Tryz.prog (look [(139, mWithin)]) := env_cons (has_of Tryz.func139 rfl rfl) within_s env_nil
  have c1 := mWithin_eq n 1 99
  simp only [initS, argPV, List.map_cons, List.map_nil, toPL, Nat.zero_add]
  refine zR ?_
  refine At.retA (by rw [Tryz.results231]) (he := rfl)
theorem isId_s : Sound Tryz.prog 241 mId := by
  refine Sound.mdl Tryz.func241 rfl Tryz.ntmps241 ?_
  rintro s w -
  refine ⟨by simp, ?_⟩
  have hΓ : GSound Tryz.prog (look []) := env_nil
  simp only [initS, argPV, List.map_cons, List.map_nil, toPL, Nat.zero_add]
  by_cases h8 : (s.size : Int) = 8
  · refine zR ?_
    refine At.retA (by rw [Tryz.results241]) (he := ?_)
    simp [idOk, h8]
  · have e : decide (idOk s) = decide (s = (⟨#[]⟩ : ByteArray)) := by simp [idOk, h8]
    refine zR ?_
    refine At.retA (by rw [Tryz.results241]) (he := ?_)
    rw [e]
theorem voteI_s : Sound Tryz.prog 218 mVote := by
  refine Sound.mdl Tryz.func218 rfl Tryz.ntmps218 ?_
  rintro ⟨h, r, s, id, v⟩ w -
  refine ⟨by simp, ?_⟩
  have hΓ : GSound Tryz.prog (look [(139, mWithin), (213, mHeight), (241, mId), (231, mVal99)]) := env_cons (has_of Tryz.func139 rfl rfl) within_s (env_cons (has_of Tryz.func213 rfl rfl) isHeight_s (env_cons (has_of Tryz.func241 rfl rfl) isId_s (env_cons (has_of Tryz.func231 rfl rfl) isVal_s env_nil)))
  have c1 := mHeight_eq h
  have c2 := mWithin_eq r 0 1000
  have c3 := mWithin_eq s 1 2
  have c4 := mId_eq id
  have c5 := mVal99_eq v
  simp only [initS, argPV, List.map_cons, List.map_nil, toPL, Nat.zero_add]
  rcases cases5 ((1 : Int) ≤ h ∧ h ≤ 1000000) ((0 : Int) ≤ r ∧ r ≤ 1000) ((1 : Int) ≤ s ∧ s ≤ 2) (idOk id) ((1 : Int) ≤ v ∧ v ≤ 99) with hh | hh | hh | hh | hh | hh
  all_goals
    refine zR ?_
    refine At.retA (by rw [Tryz.results218]) (he := ?_)
    simp [voteOk, hh]
theorem voteS_s : Sound Tryz.prog 130 mVote := by
  refine Sound.mdl Tryz.func130 rfl Tryz.ntmps130 ?_
  rintro ⟨h, r, s, id, v⟩ w -
  refine ⟨by simp, ?_⟩
  have hΓ : GSound Tryz.prog (look [(39, mIn)]) := env_cons (has_of Tryz.func39 rfl rfl) l1In_s env_nil
  have c1 := mIn_eq h 1 1000000
  have c2 := mIn_eq r 0 1000
  have c3 := mIn_eq s 1 2
  have c5 := mIn_eq v 1 99
  simp only [initS, argPV, List.map_cons, List.map_nil, toPL, Nat.zero_add]
  by_cases he : id = (⟨#[]⟩ : ByteArray)
  · have hi : idOk id := .inr he
    rcases cases5 ((1 : Int) ≤ h ∧ h ≤ 1000000) ((0 : Int) ≤ r ∧ r ≤ 1000) ((1 : Int) ≤ s ∧ s ≤ 2) True ((1 : Int) ≤ v ∧ v ≤ 99) with hh | hh | hh | hh | hh | hh
    all_goals
      have e1 : decide (id = (⟨#[]⟩ : ByteArray)) = true := decide_eq_true he
      clear he
      first | exact absurd hh.2.2.2 (fun h => h trivial) | skip
    all_goals
      refine zR ?_
      refine At.retA (by rw [Tryz.results130]) (he := ?_)
      simp [voteOk, hh, hi]
  · have e1 : decide (id = (⟨#[]⟩ : ByteArray)) = false := decide_eq_false he
    have hi : idOk id ↔ (id.size : Int) = 8 := ⟨fun h => h.resolve_right he, .inl⟩
    clear he
    rcases cases5 ((1 : Int) ≤ h ∧ h ≤ 1000000) ((0 : Int) ≤ r ∧ r ≤ 1000) ((1 : Int) ≤ s ∧ s ≤ 2) ((id.size : Int) = 8) ((1 : Int) ≤ v ∧ v ≤ 99) with hh | hh | hh | hh | hh | hh
    all_goals
      refine zR ?_
      refine At.retA (by rw [Tryz.results130]) (he := ?_)
      simp [voteOk, hh, hi]
def digS (v : TVote) : ByteArray := if voteOk v then varS v.1 ++ varS v.2.1 ++ varS v.2.2.1 ++ v.2.2.2.1 else ByteArray.empty
theorem digS_yes {v : TVote} (h : voteOk v) : digS v = varS v.1 ++ varS v.2.1 ++ varS v.2.2.1 ++ v.2.2.2.1 := if_pos h
theorem digS_no {v : TVote} (h : ¬ voteOk v) : digS v = ByteArray.empty := if_neg h
theorem digS_size (v : TVote) : (digS v).size ≤ 40 := by
  by_cases h : voteOk v
  · rw [digS_yes h]
    have h1 := varS_size v.1
    have h2 := varS_size v.2.1
    have h3 := varS_size v.2.2.1
    have h4 := idOk_size h.2.2.2.1
    simp only [ByteArray.size_append]
    omega
  · rw [digS_no h]; simp
noncomputable def mDig := mdl (fun _ : TVote => True) (fun v => [aVt v]) (fun v => rS (digS v))
theorem mDig_eq (v : TVote) : mDig [aVt v] = some (rS (digS v)) := mdl_eq aVt_inj v trivial
theorem digS_s : Sound Tryz.prog 98 mDig := by
  refine Sound.mdl Tryz.func98 rfl Tryz.ntmps98 ?_
  rintro ⟨h, r, s, id, v⟩ w -
  refine ⟨by simp, ?_⟩
  have hΓ : GSound Tryz.prog (look [(130, mVote), (106, mVar)]) := env_cons (has_of Tryz.func130 rfl rfl) voteS_s (env_cons (has_of Tryz.func106 rfl rfl) varSpec_s env_nil)
  have c1 := mVote_eq (h, r, s, id, v)
  dsimp only [aVt] at c1
  simp only [initS, argPV, List.map_cons, List.map_nil, toPL, Nat.zero_add]
  by_cases ho : voteOk (h, r, s, id, v)
  · rw [decide_eq_true ho] at c1
    have hv := digS_yes ho
    have hs := idOk_size ho.2.2.2.1
    dsimp only at hv hs
    have s1 := varS_size h
    have s2 := varS_size r
    have s3 := varS_size s
    have v1 := mVar_eq h
    have v2 := mVar_eq r
    have v3 := mVar_eq s
    generalize varS h = x1 at *
    generalize varS r = x2 at *
    generalize varS s = x3 at *
    clear ho
    have e1 := ByteArray.size_append (a := x1) (b := x2)
    have e2 := ByteArray.size_append (a := x1 ++ x2) (b := x3)
    refine zR ?_
    refine W.drawB hΓ 15 [[], [0], [0, 1], [], [3], [0, 1, 2, 3, 4], [0, 1, 2, 3, 4, 5], [], [7], [0, 1, 2, 3, 4, 5, 7, 8], [0, 1, 2, 3, 4, 5, 6, 7, 8, 9], [], [11], [0, 1, 2, 3, 4, 5, 6, 7, 8, 9, 10, 11, 12], [0, 1, 2, 3, 4, 5, 6, 7, 8, 9, 10, 11, 12, 13]] (Es := ?Es46) (rest := ?rest46) (st1 := ?st146) ?_
    refine zL ?_
    refine zE ?_
    refine zR ?_
    refine At.retA (by rw [Tryz.results98]) (he := ?_)
    rw [hv]
  · rw [decide_eq_false ho] at c1
    have hv := digS_no ho
    clear ho
    refine zR ?_
    refine At.retA (by rw [Tryz.results98]) (he := ?_)
    rw [hv]
    rfl
theorem digI_s : Sound Tryz.prog 183 mDig := by
  refine Sound.mdl Tryz.func183 rfl Tryz.ntmps183 ?_
  rintro ⟨h, r, s, id, v⟩ w -
  refine ⟨by simp, ?_⟩
  have hΓ : GSound Tryz.prog (look [(218, mVote), (232, mVar)]) := env_cons (has_of Tryz.func218 rfl rfl) voteI_s (env_cons (has_of Tryz.func232 rfl rfl) varImpl_s env_nil)
  have c1 := mVote_eq (h, r, s, id, v)
  dsimp only [aVt] at c1
  simp only [initS, argPV, List.map_cons, List.map_nil, toPL, Nat.zero_add]
  by_cases ho : voteOk (h, r, s, id, v)
  · rw [decide_eq_true ho] at c1
    have hv := digS_yes ho
    have hs := idOk_size ho.2.2.2.1
    dsimp only at hv hs
    have s1 := varS_size h
    have s2 := varS_size r
    have s3 := varS_size s
    have v1 := mVar_eq h
    have v2 := mVar_eq r
    have v3 := mVar_eq s
    generalize varS h = x1 at *
    generalize varS r = x2 at *
    generalize varS s = x3 at *
    clear ho
    have e1 := ByteArray.size_append (a := x1) (b := x2)
    have e2 := ByteArray.size_append (a := x1 ++ x2) (b := x3)
    refine zR ?_
    refine W.drawB hΓ 15 [[], [0], [0, 1], [], [3], [0, 1, 2, 3, 4], [0, 1, 2, 3, 4, 5], [], [7], [0, 1, 2, 3, 4, 5, 7, 8], [0, 1, 2, 3, 4, 5, 6, 7, 8, 9], [], [11], [0, 1, 2, 3, 4, 5, 6, 7, 8, 9, 10, 11, 12], [0, 1, 2, 3, 4, 5, 6, 7, 8, 9, 10, 11, 12, 13]] (Es := ?Es54) (rest := ?rest54) (st1 := ?st154) ?_
    refine zL ?_
    refine zE ?_
    refine zR ?_
    refine At.retA (by rw [Tryz.results183]) (he := ?_)
    rw [hv]
  · rw [decide_eq_false ho] at c1
    have hv := digS_no ho
    clear ho
    refine zR ?_
    refine At.retA (by rw [Tryz.results183]) (he := ?_)
    rw [hv]
    rfl
def signS (n : Int) (d : ByteArray) : ByteArray := if 1 ≤ n ∧ n ≤ 99 then shortS ((⟨#[4]⟩ : ByteArray) ++ bsS (fixB 2 n.toNat) ++ d) else ByteArray.empty
noncomputable def mFix2 := mdl (fun n : Nat => n ≤ 99) (fun n => [aI (n : Int), aI 2]) (fun n => rS (bsS (fixB 2 n)))
theorem mFix2_eq (n : Nat) (h : n ≤ 99) : mFix2 [aI (n : Int), aI 2] = some (rS (bsS (fixB 2 n))) := mdl_eq (enc := fun n : Nat => [aI (n : Int), aI 2]) (by intro a b h; simp at h; omega) n h
theorem fix2 {n : Nat} (h : n ≤ 99) : fixB 2 n = [0, n] := by
  have h1 : n / 256 = 0 := by omega
  have h2 : n % 256 = n := by omega
  simp [fixB, h1, h2]
theorem fix2I_s : Sound Tryz.prog 224 mFix2 := by
  refine Sound.mdl Tryz.func224 rfl Tryz.ntmps224 ?_
  rintro n w hn
  refine ⟨by simp, ?_⟩
  replace hn : n ≤ 99 := hn
  have hΓ : GSound Tryz.prog (look [(139, mWithin)]) := env_cons (has_of Tryz.func139 rfl rfl) within_s env_nil
  have c1 := mWithin_eq 2 1 7
  have ed : decide ((1 : Int) ≤ 2 ∧ (2 : Int) ≤ 7) = true := by decide
  rw [ed] at c1
  have e84 : (8 : Int) * 2 = 16 := rfl
  have e32 : min 16 IntKind.i64.bits = 16 := rfl
  have ha : ar .i64 (1 * 2 ^ 16) = some (.int .i64 65536) := rfl
  have hf := fix2 hn
  have t1 : bits .and .i64 (n : Int) 255 = (n : Int) := by rw [and255 (by omega), Nat.mod_eq_of_lt (by omega)]
  have t2 : (n : Int).fdiv (2 ^ 8) = 0 := by rw [fdiv_nat n 8]; omega
  have m8 : min 8 IntKind.i64.bits = 8 := rfl
  have hw := wrap_u8n (n := n) (by omega)
  have b0 : bits .and .i64 0 255 = 0 := rfl
  have hw0 : IntKind.u8.wrap 0 = 0 := rfl
  have f0 : (0 : Int).fdiv (2 ^ 8) = 0 := rfl
  have hz : List.replicate 2 [Leaf.sc (.int .u8 0)] = [[Leaf.sc (.int .u8 0)], [Leaf.sc (.int .u8 0)]] := rfl
  have hb := bytes_rows [0, n]
  have hb2 : rowsF cU8 [0, n] = [[Leaf.sc (.int .u8 0)], [Leaf.sc (.int .u8 (n : Int))]] := rfl
  rw [hb2] at hb
  simp only [initS, argPV, List.map_cons, List.map_nil, toPL, Nat.zero_add]
  refine zR ?_
  refine W.loopA (fun j => j ≤ 2) (fun j : Nat => [.slot 6 (vI (1 - (j : Int))), .slot 0 (vI (if j = 0 then (n : Int) else 0)), .slot 5 (one (.all 22)), .blk 22 (.arr .ft 5 1 [[Leaf.sc (.int .u8 0)], [Leaf.sc (.int .u8 (if j = 0 then 0 else (n : Int)))]])]) (fun j => 2 - j) 0 (Nat.zero_le _) (h := ?_)
  rintro j hj
  rcases j with _ | _ | _ | j
  · simp only [if_true]
    refine zR ?_
    exact At.roundA 1 (by omega) (by omega)
  · simp only [Nat.succ_ne_zero, if_false]
    refine zR ?_
    exact At.roundA 2 (by omega) (by omega)
  · simp only [Nat.succ_ne_zero, if_false]
    refine zR ?_
    refine At.retA (by rw [Tryz.results224]) (he := ?_)
    rw [hf]
    rfl
  · omega
theorem fix2S_s : Sound Tryz.prog 138 mFix2 := by
  refine Sound.mdl Tryz.func138 rfl Tryz.ntmps138 ?_
  rintro n w hn
  refine ⟨by simp, ?_⟩
  replace hn : n ≤ 99 := hn
  have hΓ : GSound Tryz.prog (look [(39, mIn)]) := env_cons (has_of Tryz.func39 rfl rfl) l1In_s env_nil
  have c1 := mIn_eq 2 1 7
  have ed : decide ((1 : Int) ≤ 2 ∧ (2 : Int) ≤ 7) = true := by decide
  rw [ed] at c1
  have hf := fix2 hn
  have t1 : (n : Int).tmod 256 = (n : Int) := by rw [Int.tmod_eq_emod_of_nonneg (by omega)]; omega
  have t2 : (n : Int).tdiv 256 = 0 := by rw [Int.tdiv_eq_ediv_of_nonneg (by omega)]; omega
  have hw := wrap_u8n (n := n) (by omega)
  have z1 : (0 : Int).tmod 256 = 0 := rfl
  have z2 : (0 : Int).tdiv 256 = 0 := rfl
  have hw0 : IntKind.u8.wrap 0 = 0 := rfl
  have hb := bytes_rows [n]
  have hb2 : rowsF cU8 [n] = [[Leaf.sc (.int .u8 (n : Int))]] := rfl
  rw [hb2] at hb
  have hb0 := bytes_rows [0]
  have hb02 : rowsF cU8 [0] = [[Leaf.sc (.int .u8 0)]] := rfl
  rw [hb02] at hb0
  simp only [initS, argPV, List.map_cons, List.map_nil, toPL, Nat.zero_add]
  refine zR ?_
  refine W.loopA (fun j => j ≤ 2) (fun j : Nat => [.slot 6 (vI (j : Int)), .slot 0 (vI (if j = 0 then (n : Int) else 0)), .slot 1 (vI 2), .slot 5 (vS (bsS (if j = 0 then [] else if j = 1 then [n] else [0, n])))]) (fun j => 2 - j) 0 (Nat.zero_le _) (h := ?_)
  rintro j hj
  rcases j with _ | _ | _ | j
  · simp only [if_true]
    refine zR ?_
    exact At.roundA 1 (by omega) (by omega)
  · simp only [Nat.succ_ne_zero, if_false]
    refine zR ?_
    exact At.roundA 2 (by omega) (by omega)
  · simp only [Nat.succ_ne_zero, if_false]
    refine zR ?_
    refine At.retA (by rw [Tryz.results138]) (he := ?_)
    rw [hf]
  · omega
abbrev okSg (x : Int × ByteArray) : Prop := x.2.size ≤ 1048576
noncomputable def mSign := mdl okSg (fun x => [aI x.1, aS x.2]) (fun x => rS (signS x.1 x.2))
theorem mSign_eq (n : Int) (d : ByteArray) (h : d.size ≤ 1048576) : mSign [aI n, aS d] = some (rS (signS n d)) := mdl_eq (ok := okSg) (enc := fun x => [aI x.1, aS x.2]) (g := fun x => rS (signS x.1 x.2)) (by rintro ⟨a, b⟩ ⟨c, d⟩ h; simpa using h) (n, d) h
theorem signS_s : Sound Tryz.prog 97 mSign := by
  refine Sound.mdl Tryz.func97 rfl Tryz.ntmps97 ?_
  rintro ⟨n, d⟩ w hd
  refine ⟨by simp, ?_⟩
  replace hd : d.size ≤ 1048576 := hd
  have hΓ : GSound Tryz.prog (look [(39, mIn), (138, mFix2), (51, mShort)]) := env_cons (has_of Tryz.func39 rfl rfl) l1In_s (env_cons (has_of Tryz.func138 rfl rfl) fix2S_s (env_cons (has_of Tryz.func51 rfl rfl) short_s env_nil))
  have c1 := mIn_eq n 1 99
  by_cases hn : 1 ≤ n ∧ n ≤ 99
  · obtain ⟨k, rfl⟩ := Int.eq_ofNat_of_zero_le (show 0 ≤ n by omega)
    have c2 := mFix2_eq k (by omega)
    have hs : (bsS (fixB 2 k)).size = 2 := by rw [bsS_size, fixB_len]
    have hv : signS (k : Int) d = shortS ((⟨#[4]⟩ : ByteArray) ++ bsS (fixB 2 k) ++ d) := by unfold signS; rw [if_pos hn, Int.toNat_natCast]
    have e1 := ByteArray.size_append (a := (⟨#[4]⟩ : ByteArray)) (b := bsS (fixB 2 k))
    have e2 := ByteArray.size_append (a := (⟨#[4]⟩ : ByteArray) ++ bsS (fixB 2 k)) (b := d)
    have e0 : (⟨#[4]⟩ : ByteArray).size = 1 := rfl
    have c3 := mShort_eq ((⟨#[4]⟩ : ByteArray) ++ bsS (fixB 2 k) ++ d) (by omega)
    generalize bsS (fixB 2 k) = x at *
    simp only [initS, argPV, List.map_cons, List.map_nil, toPL, Nat.zero_add]
    refine zR ?_
    refine At.retA (by rw [Tryz.results97]) (he := ?_)
    rw [hv]
  · have hv : signS n d = ByteArray.empty := if_neg hn
    simp only [initS, argPV, List.map_cons, List.map_nil, toPL, Nat.zero_add]
    refine zR ?_
    refine At.retA (by rw [Tryz.results97]) (he := ?_)
    rw [hv]
    rfl
theorem signI_s : Sound Tryz.prog 182 mSign := by
  refine Sound.mdl Tryz.func182 rfl Tryz.ntmps182 ?_
  rintro ⟨n, d⟩ w hd
  refine ⟨by simp, ?_⟩
  replace hd : d.size ≤ 1048576 := hd
  have hΓ : GSound Tryz.prog (look [(231, mVal99), (224, mFix2), (187, mShort)]) := env_cons (has_of Tryz.func231 rfl rfl) isVal_s (env_cons (has_of Tryz.func224 rfl rfl) fix2I_s (env_cons (has_of Tryz.func187 rfl rfl) shortI_s env_nil))
  have c1 := mVal99_eq n
  by_cases hn : 1 ≤ n ∧ n ≤ 99
  · obtain ⟨k, rfl⟩ := Int.eq_ofNat_of_zero_le (show 0 ≤ n by omega)
    have c2 := mFix2_eq k (by omega)
    have hs : (bsS (fixB 2 k)).size = 2 := by rw [bsS_size, fixB_len]
    have hv : signS (k : Int) d = shortS ((⟨#[4]⟩ : ByteArray) ++ bsS (fixB 2 k) ++ d) := by unfold signS; rw [if_pos hn, Int.toNat_natCast]
    have e1 := ByteArray.size_append (a := (⟨#[4]⟩ : ByteArray)) (b := bsS (fixB 2 k))
    have e2 := ByteArray.size_append (a := (⟨#[4]⟩ : ByteArray) ++ bsS (fixB 2 k)) (b := d)
    have e0 : (⟨#[4]⟩ : ByteArray).size = 1 := rfl
    have c3 := mShort_eq ((⟨#[4]⟩ : ByteArray) ++ bsS (fixB 2 k) ++ d) (by omega)
    generalize bsS (fixB 2 k) = x at *
    simp only [initS, argPV, List.map_cons, List.map_nil, toPL, Nat.zero_add]
    refine zR ?_
    refine At.retA (by rw [Tryz.results182]) (he := ?_)
    rw [hv]
  · have hv : signS n d = ByteArray.empty := if_neg hn
    simp only [initS, argPV, List.map_cons, List.map_nil, toPL, Nat.zero_add]
    refine zR ?_
    refine At.retA (by rw [Tryz.results182]) (he := ?_)
    rw [hv]
    rfl
def signedB (v : TVote) (s : ByteArray) : Bool := decide (voteOk v) && decide (s = signS v.2.2.2.2 (digS v))
abbrev aVtS (x : TVote × ByteArray) : List Arg := [aVt x.1, aS x.2]
theorem aVtS_inj : ∀ x y, aVtS x = aVtS y → x = y := by
  rintro ⟨⟨a, b, c, d, e⟩, f⟩ ⟨⟨a', b', c', d', e'⟩, f'⟩ h
  simp [aVtS, aVt] at h
  simp [h]
noncomputable def mSigned := mdl (fun _ : TVote × ByteArray => True) aVtS (fun x => rB (signedB x.1 x.2))
theorem mSigned_eq (v : TVote) (s : ByteArray) : mSigned [aVt v, aS s] = some (rB (signedB v s)) := mdl_eq aVtS_inj (v, s) trivial
theorem signedI_s : Sound Tryz.prog 173 mSigned := by
  refine Sound.mdl Tryz.func173 rfl Tryz.ntmps173 ?_
  rintro ⟨⟨h, r, s, id, v⟩, sg⟩ w -
  refine ⟨by simp, ?_⟩
  have hΓ : GSound Tryz.prog (look [(218, mVote), (183, mDig), (182, mSign)]) := env_cons (has_of Tryz.func218 rfl rfl) voteI_s (env_cons (has_of Tryz.func183 rfl rfl) digI_s (env_cons (has_of Tryz.func182 rfl rfl) signI_s env_nil))
  have c1 := mVote_eq (h, r, s, id, v)
  have c2 := mDig_eq (h, r, s, id, v)
  have hz := digS_size (h, r, s, id, v)
  have c3 := mSign_eq v (digS (h, r, s, id, v)) (by omega)
  dsimp only [aVt] at c1 c2
  simp only [initS, argPV, List.map_cons, List.map_nil, toPL, Nat.zero_add]
  by_cases ho : voteOk (h, r, s, id, v)
  · have hv : signedB (h, r, s, id, v) sg = decide (sg = signS v (digS (h, r, s, id, v))) := by simp [signedB, ho]
    rw [decide_eq_true ho] at c1
    clear ho
    generalize digS (h, r, s, id, v) = d at *
    refine zR ?_
    refine W.drawB hΓ 12 [[], [0], [0, 1], [0, 1, 2], [0, 1, 2], [0, 1, 2, 4], [0, 1, 2], [0, 1, 2, 6], [0, 1, 2, 4, 5, 6, 7], [0, 1, 2, 3, 4, 5, 6, 7, 8], [0, 1, 2, 3, 4, 5, 6, 7, 8, 9], [0, 1, 2, 3, 4, 5, 6, 7, 8, 9, 10]] (Es := ?Es100) (rest := ?rest100) (st1 := ?st1100) ?_
    refine zL ?_
    refine zE ?_
    refine zR ?_
    refine At.retA (by rw [Tryz.results173]) (he := ?_)
    rw [hv]
  · have hv : signedB (h, r, s, id, v) sg = false := by simp [signedB, ho]
    rw [decide_eq_false ho] at c1
    clear ho
    refine zR ?_
    refine W.drawB hΓ 12 [[], [0], [0, 1], [0, 1, 2], [0, 1, 2], [0, 1, 2, 4], [0, 1, 2], [0, 1, 2, 6], [0, 1, 2, 4, 5, 6, 7], [0, 1, 2, 3, 4, 5, 6, 7, 8], [0, 1, 2, 3, 4, 5, 6, 7, 8, 9], [0, 1, 2, 3, 4, 5, 6, 7, 8, 9, 10]] (Es := ?Es104) (rest := ?rest104) (st1 := ?st1104) ?_
    refine zL ?_
    refine zE ?_
    refine zR ?_
    refine At.retA (by rw [Tryz.results173]) (he := ?_)
    rw [hv]
end Go.Proofs.YtfgkfcfplodaoaaGreatDoor

end
section
namespace Go.Proofs.YtfgkfcfplodaoaaGreatDoor
open Go Go.RowKit
set_option maxHeartbeats 4000000
def parts (m : Nat) (l : List ByteArray) : List ByteArray :=
  if m = l.length then [root l]
  else if h : l.length < 2 ∨ 64 < l.length then []
  else if m ≤ spl l.length then parts m (l.take (spl l.length)) ++ [root (l.drop (spl l.length))]
  else [root (l.take (spl l.length))] ++ parts (m - spl l.length) (l.drop (spl l.length))
termination_by l.length
decreasing_by
  · have := spl_lt (n := l.length) (by omega) (by omega)
    rw [List.length_take]
    omega
  · have := spl_lt (n := l.length) (by omega) (by omega)
    rw [List.length_drop]
    omega
theorem cStr_app1 (l : List ByteArray) (x : ByteArray) : rowsF cStr l ++ [[.sc (.string x)]] = rowsF cStr (l ++ [x]) := by rw [← rowsF_app]; rfl
abbrev encP (x : List ByteArray × Int) : List Arg := [aL cStr x.1, aI x.2]
theorem encP_inj : ∀ x y, encP x = encP y → x = y := by
  rintro ⟨a, b⟩ ⟨d, e⟩ h
  simpa [encP] using h
def pathOk (l : List ByteArray) (m : Int) : Prop := l.length ≤ 40 ∧ 1 ≤ m ∧ m ≤ l.length
instance (l : List ByteArray) (m : Int) : Decidable (pathOk l m) := by unfold pathOk; infer_instance
section
variable {w : World} {v : Value} {l : List ByteArray} {m : Int}
theorem GlobOk.below {γ0 : Nat → Option Nat} {w w' : World} (h : GlobOk γ0 w) (hb : Below w.heap.size w w') : GlobOk γ0 w' := fun g cs hg => by
  obtain ⟨h1, h2, h3⟩ := h g cs hg
  exact ⟨h1, Nat.lt_of_lt_of_le h2 hb.size, fun j v hj => ⟨(h3 j v hj).1, (hb.cell (p := ⟨g, j, none⟩) h2).trans (h3 j v hj).2⟩⟩
end
end Go.Proofs.YtfgkfcfplodaoaaGreatDoor

end
section
namespace Go.Proofs.YtfgkfcfplodaoaaGreatDoor
open Go Go.RowKit
set_option maxHeartbeats 4000000
def up (m n : Nat) (p : List ByteArray) : ByteArray × ByteArray × Bool :=
  if p.length = 0 then (ByteArray.empty, ByteArray.empty, false)
  else if m = n then (p.getD 0 ByteArray.empty, p.getD 0 ByteArray.empty, decide (p.length = 1))
  else if h : n < 2 ∨ 64 < n then (ByteArray.empty, ByteArray.empty, false)
  else if m ≤ spl n then
    ((up m (spl n) (p.take (p.length - 1))).1, nodeH (up m (spl n) (p.take (p.length - 1))).2.1 (p.getD (p.length - 1) ByteArray.empty), (up m (spl n) (p.take (p.length - 1))).2.2)
  else (nodeH (p.getD 0 ByteArray.empty) (up (m - spl n) (n - spl n) (p.drop 1)).1, nodeH (p.getD 0 ByteArray.empty) (up (m - spl n) (n - spl n) (p.drop 1)).2.1, (up (m - spl n) (n - spl n) (p.drop 1)).2.2)
termination_by n
decreasing_by all_goals (have := spl_lt (n := n) (by omega) (by omega); omega)
abbrev okP (p : List ByteArray) : Prop := p.length ≤ 8796093022207 ∧ ∀ x ∈ p, x.size ≤ 1048576
theorem okP.take {p : List ByteArray} (h : okP p) (k : Nat) : okP (p.take k) := okT.take h k
theorem okP.drop {p : List ByteArray} (h : okP p) (k : Nat) : okP (p.drop k) := okT.drop h k
end Go.Proofs.YtfgkfcfplodaoaaGreatDoor

end
