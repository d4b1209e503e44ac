/-
  Put together: PEvBisW PCodeArg.
-/
import Derived.Test.YtfgkfcfplodaoaaGreatDoorG41
import Derived.Test.YtfgkfcfplodaoaaGreatDoorG44
import Derived.Test.YtfgkfcfplodaoaaGreatDoorG0
section
/-!
  The law FnBisect.
-/
namespace Go.Proofs.YtfgkfcfplodaoaaGreatDoor
set_option maxRecDepth 100000
set_option linter.unusedVariables false
set_option linter.unusedSimpArgs false
open Go Go.RowKit
set_option maxHeartbeats 16000000
set_option linter.unusedVariables false
set_option linter.unusedSimpArgs false

theorem skip_third {t : TTrust} {a : TAnchor} {b : TBlock} {now : Int} (h : skipC t a b now = 0) : thirdB a.2 (cvals b.2.2.2) = true := by
  unfold skipC at h
  repeat (split at h; · exact absurd h (by decide))
  rename_i h1
  cases hb : thirdB a.2 (cvals b.2.2.2) with
  | true => rfl
  | false => exact absurd hb h1
theorem cvals_le (c : TCommit) : (cvals c).length ≤ 99 := by
  unfold cvals
  split
  · unfold cvK
    refine Nat.le_trans (List.length_filter_le _ _) ?_
    simp
  · simp
theorem pw_len {hi : Int} : ∀ (l : List Int) (lo : Int), lo ≤ hi → l.Pairwise (· < ·) → (∀ x ∈ l, lo < x ∧ x ≤ hi) → (l.length : Int) ≤ hi - lo
  | [], lo, h, _, _ => by simp; omega
  | x :: r, lo, h, hp, hx => by
    have h1 := hx x List.mem_cons_self
    have h2 := pw_len r x h1.2 (List.pairwise_cons.1 hp).2 fun y hy => ⟨(List.pairwise_cons.1 hp).1 y hy, (hx y (List.mem_cons_of_mem _ hy)).2⟩
    simp only [List.length_cons]
    omega
noncomputable def mBi := mdl okBi aBi gBi
theorem mBi_eq (t : TTrust) (a : TAnchor) (l : List TBlock) (to now : Int) (h : okBi (t, a, l, to, now)) : mBi [aTr t, aAn a, aBS l, aI to, aI now] = some (rBi (bis t a l to now)) := mdl_eq (enc := aBi) aBi_inj (t, a, l, to, now) h
noncomputable def mSameI := mdl (fun x : List Int × List Int => x.1.length ≤ 8796093022207 ∧ x.2.length ≤ 8796093022207) (fun x => [aL cInt x.1, aL cInt x.2]) (fun x => rB (decide (x.1 = x.2)))
theorem mSameI_eq (a b : List Int) (h1 : a.length ≤ 8796093022207) (h2 : b.length ≤ 8796093022207) : mSameI [aL cInt a, aL cInt b] = some (rB (decide (a = b))) := mdl_eq (by rintro ⟨a, b⟩ ⟨d, e⟩ h; simpa using h) (a, b) ⟨h1, h2⟩
theorem sameI_s : Sound Tryz.prog 23 mSameI := by
  refine Sound.mdl Tryz.func23 rfl Tryz.ntmps23 ?_
  rintro ⟨a, b⟩ w ⟨h1, h2⟩
  refine ⟨by simp, ?_⟩
  replace h1 : a.length ≤ 8796093022207 := h1
  replace h2 : b.length ≤ 8796093022207 := h2
  have hΓ : GSound Tryz.prog (look []) := env_nil
  have la := rowsF_len cInt a
  have lb := rowsF_len cInt b
  simp only [initS, argPV, List.map_cons, List.map_nil, toPL, Nat.zero_add]
  by_cases hl : a.length = b.length
  · have hlz : (a.length : Int) = (b.length : Int) := by omega
    refine zR ?_
    refine W.loopA (fun k => k ≤ b.length ∧ ∀ j, (hj : j < k) → (hk : k ≤ b.length) → a[j]'(by omega) = b[j]'(by omega)) (fun k : Nat => [.slot 0 (vL cInt a), .slot 1 (vL cInt b), .slot 5 (vI k)]) (fun k => b.length - k) 0 ⟨Nat.zero_le _, fun j hj => by omega⟩ (h := ?_)
    rintro k ⟨hk, hI⟩
    by_cases hlt : k < b.length
    · have ra : (rowsF cInt a)[k]? = some [.sc (.int .i64 (a[k]'(by omega)))] := rowsF_get cInt a k (by omega)
      have rb : (rowsF cInt b)[k]? = some [.sc (.int .i64 b[k])] := rowsF_get cInt b k hlt
      by_cases he : a[k]'(by omega) = b[k]
      · have hnx : ∀ j, (hj : j < k + 1) → (hk : k + 1 ≤ b.length) → a[j]'(by omega) = b[j]'(by omega) := fun j hj hk => by
          rcases Nat.lt_or_ge j k with h | h
          · exact hI j h (by omega)
          · have : j = k := by omega
            subst this
            exact he
        have hnx := Lib.hid hnx
        rw [he] at ra
        clear hI he
        generalize b[k] = y at *
        refine zR ?_
        refine W.drawB hΓ 9 [[], [], [0, 1], [0, 1, 2], [], [], [4, 5], [4, 5, 6], [0, 1, 2, 3, 4, 5, 6, 7]] (Es := ?Es5) (rest := ?rest5) (st1 := ?st15) ?_
        refine zL ?_
        refine zE ?_
        refine zR ?_
        exact At.roundA (k + 1) ⟨by omega, hnx.out⟩ (by omega)
      · have hne : decide (a = b) = false := decide_eq_false fun e => he (by subst e; rfl)
        have hne := Lib.hid hne
        clear hI
        generalize b[k] = y at *
        generalize a[k]'(by omega) = x at *
        refine zR ?_
        refine W.drawB hΓ 9 [[], [], [0, 1], [0, 1, 2], [], [], [4, 5], [4, 5, 6], [0, 1, 2, 3, 4, 5, 6, 7]] (Es := ?Es8) (rest := ?rest8) (st1 := ?st18) ?_
        refine zL ?_
        refine zE ?_
        refine zR ?_
        refine At.retA (by rw [Tryz.results23]) (he := ?_)
        rw [hne.out]
    · have heq : decide (a = b) = true := decide_eq_true (List.ext_getElem hl fun j h3 h4 => hI j (by omega) hk)
      have heq := Lib.hid heq
      clear hI
      refine zR ?_
      refine At.retA (by rw [Tryz.results23]) (he := ?_)
      rw [heq.out]
  · have hne : decide (a = b) = false := decide_eq_false fun e => hl (by rw [e])
    have hne := Lib.hid hne
    have hlz : ¬ (a.length : Int) = (b.length : Int) := by omega
    refine zR ?_
    refine At.retA (by rw [Tryz.results23]) (he := ?_)
    rw [hne.out]
def asEvBisW0 : List (List Nat) := [[], [], [0, 1], [0, 1, 2], [0, 1, 2, 3], [0, 1, 2, 3, 4], [0, 1, 2, 3], [0, 1, 2, 3, 6], [0, 1, 2, 3, 4, 5, 6, 7], [0, 1, 2, 3, 4, 5, 6, 7, 8], [0, 1, 2, 3, 4, 5, 6, 7, 8, 9], [0, 1, 2, 3, 4, 5, 6, 7, 8, 9, 10], [0, 1, 2, 3, 4, 5, 6, 7, 8, 9, 10], [0, 1, 2, 3, 4, 5, 6, 7, 8, 9, 10, 11, 12], [0, 1, 2, 3, 4, 5, 6, 7, 8, 9, 10, 11, 12, 13], [0, 1, 2, 3, 4, 5, 6, 7, 8, 9, 10, 11, 12, 13, 14], [0, 1, 2, 3, 4, 5, 6, 7, 8, 9, 10, 11, 12, 13, 14, 15], [0, 1, 2, 3, 4, 5, 6, 7, 8, 9, 10, 11, 12, 13, 14, 15], [0, 1, 2, 3, 4, 5, 6, 7, 8, 9, 10, 11, 12, 13, 14, 15, 16, 17], [0, 1, 2, 3, 4, 5, 6, 7, 8, 9, 10, 11, 12, 13, 14, 15, 16, 17, 18], [0, 1, 2, 3, 4, 5, 6, 7, 8, 9, 10, 11, 12, 13, 14, 15, 16, 17, 18, 19], [0, 1, 2, 3, 4, 5, 6, 7, 8, 9, 10, 11, 12, 13, 14, 15, 16, 17, 18, 19, 20], [0, 1, 2, 3, 4, 5, 6, 7, 8, 9, 10, 11, 12, 13, 14, 15, 16, 17, 18, 19, 20, 21], [0, 1, 2, 3, 4, 5, 6, 7, 8, 9, 10, 11, 12, 13, 14, 15, 16, 17, 18, 19, 20, 21, 22], [0, 1, 2, 3, 4, 5, 6, 7, 8, 9, 10, 11, 12, 13, 14, 15, 16, 17, 18, 19, 20, 21, 22, 23], [0, 1, 2, 3, 4, 5, 6, 7, 8, 9, 10, 11, 12, 13, 14, 15, 16, 17, 18, 19, 20, 21, 22, 23, 24], [0, 1, 2, 3, 4, 5, 6, 7, 8, 9, 10, 11, 12, 13, 14, 15, 16, 17, 18, 19, 20, 21, 22, 23], [0, 1, 2, 3, 4, 5, 6, 7, 8, 9, 10, 11, 12, 13, 14, 15, 16, 17, 18, 19, 20, 21, 22, 23, 26], [0, 1, 2, 3, 4, 5, 6, 7, 8, 9, 10, 11, 12, 13, 14, 15, 16, 17, 18, 19, 20, 21, 22, 23, 24, 25, 26, 27], [0, 1, 2, 3, 4, 5, 6, 7, 8, 9, 10, 11, 12, 13, 14, 15, 16, 17, 18, 19, 20, 21, 22, 23, 24, 25, 26, 27, 28], [0, 1, 2, 3, 4, 5, 6, 7, 8, 9, 10, 11, 12, 13, 14, 15, 16, 17, 18, 19, 20, 21, 22, 23, 24, 25, 26, 27, 28, 29], [0, 1, 2, 3, 4, 5, 6, 7, 8, 9, 10, 11, 12, 13, 14, 15, 16, 17, 18, 19, 20, 21, 22, 23, 24, 25, 26, 27, 28, 29, 30], [0, 1, 2, 3, 4, 5, 6, 7, 8, 9, 10, 11, 12, 13, 14, 15, 16, 17, 18, 19, 20, 21, 22, 23, 24, 25, 26, 27, 28, 29], [0, 1, 2, 3, 4, 5, 6, 7, 8, 9, 10, 11, 12, 13, 14, 15, 16, 17, 18, 19, 20, 21, 22, 23, 24, 25, 26, 27, 28, 29, 32], [0, 1, 2, 3, 4, 5, 6, 7, 8, 9, 10, 11, 12, 13, 14, 15, 16, 17, 18, 19, 20, 21, 22, 23, 24, 25, 26, 27, 28, 29, 32, 33], [0, 1, 2, 3, 4, 5, 6, 7, 8, 9, 10, 11, 12, 13, 14, 15, 16, 17, 18, 19, 20, 21, 22, 23, 24, 25, 26, 27, 28, 29, 30, 31, 32, 33, 34], [0, 1, 2, 3, 4, 5, 6, 7, 8, 9, 10, 11, 12, 13, 14, 15, 16, 17, 18, 19, 20, 21, 22, 23, 24, 25, 26, 27, 28, 29, 30, 31, 32, 33, 34, 35], [0, 1, 2, 3, 4, 5, 6, 7, 8, 9, 10, 11, 12, 13, 14, 15, 16, 17, 18, 19, 20, 21, 22, 23, 24, 25, 26, 27, 28, 29, 30, 31, 32, 33, 34, 35, 36], [0, 1, 2, 3, 4, 5, 6, 7, 8, 9, 10, 11, 12, 13, 14, 15, 16, 17, 18, 19, 20, 21, 22, 23, 24, 25, 26, 27, 28, 29, 30, 31, 32, 33, 34, 35, 36, 37], [0, 1, 2, 3, 4, 5, 6, 7, 8, 9, 10, 11, 12, 13, 14, 15, 16, 17, 18, 19, 20, 21, 22, 23, 24, 25, 26, 27, 28, 29, 30, 31, 32, 33, 34, 35, 36, 37, 38], [0, 1, 2, 3, 4, 5, 6, 7, 8, 9, 10, 11, 12, 13, 14, 15, 16, 17, 18, 19, 20, 21, 22, 23, 24, 25, 26, 27, 28, 29, 30, 31, 32, 33, 34, 35, 36, 37, 38, 39], [0, 1, 2, 3, 4, 5, 6, 7, 8, 9, 10, 11, 12, 13, 14, 15, 16, 17, 18, 19, 20, 21, 22, 23, 24, 25, 26, 27, 28, 29, 30, 31, 32, 33, 34, 35, 36, 37, 38, 39, 40], [0, 1, 2, 3, 4, 5, 6, 7, 8, 9, 10, 11, 12, 13, 14, 15, 16, 17, 18, 19, 20, 21, 22, 23, 24, 25, 26, 27, 28, 29, 30, 31, 32, 33, 34, 35, 36, 37, 38, 39, 40, 41], [0, 1, 2, 3, 4, 5, 6, 7, 8, 9, 10, 11, 12, 13, 14, 15, 16, 17, 18, 19, 20, 21, 22, 23, 24, 25, 26, 27, 28, 29, 30, 31, 32, 33, 34, 35, 36, 37, 38, 39, 40, 41, 42], [0, 1, 2, 3, 4, 5, 6, 7, 8, 9, 10, 11, 12, 13, 14, 15, 16, 17, 18, 19, 20, 21, 22, 23, 24, 25, 26, 27, 28, 29, 30, 31, 32, 33, 34, 35, 36, 37, 38, 39, 40, 41, 42, 43], [0, 1, 2, 3, 4, 5, 6, 7, 8, 9, 10, 11, 12, 13, 14, 15, 16, 17, 18, 19, 20, 21, 22, 23, 24, 25, 26, 27, 28, 29, 30, 31, 32, 33, 34, 35, 36, 37, 38, 39, 40, 41, 42], [0, 1, 2, 3, 4, 5, 6, 7, 8, 9, 10, 11, 12, 13, 14, 15, 16, 17, 18, 19, 20, 21, 22, 23, 24, 25, 26, 27, 28, 29, 30, 31, 32, 33, 34, 35, 36, 37, 38, 39, 40, 41, 42, 45], [0, 1, 2, 3, 4, 5, 6, 7, 8, 9, 10, 11, 12, 13, 14, 15, 16, 17, 18, 19, 20, 21, 22, 23, 24, 25, 26, 27, 28, 29, 30, 31, 32, 33, 34, 35, 36, 37, 38, 39, 40, 41, 42, 43, 44, 45, 46], [0, 1, 2, 3, 4, 5, 6, 7, 8, 9, 10, 11, 12, 13, 14, 15, 16, 17, 18, 19, 20, 21, 22, 23, 24, 25, 26, 27, 28, 29, 30, 31, 32, 33, 34, 35, 36, 37, 38, 39, 40, 41, 42, 43, 44, 45, 46, 47], [0, 1, 2, 3, 4, 5, 6, 7, 8, 9, 10, 11, 12, 13, 14, 15, 16, 17, 18, 19, 20, 21, 22, 23, 24, 25, 26, 27, 28, 29, 30, 31, 32, 33, 34, 35, 36, 37, 38, 39, 40, 41, 42, 43, 44, 45, 46, 47, 48], [0, 1, 2, 3, 4, 5, 6, 7, 8, 9, 10, 11, 12, 13, 14, 15, 16, 17, 18, 19, 20, 21, 22, 23, 24, 25, 26, 27, 28, 29, 30, 31, 32, 33, 34, 35, 36, 37, 38, 39, 40, 41, 42, 43, 44, 45, 46, 47, 48, 49]]
theorem lawFnBisect_s : Sound Tryz.prog 6 (mdl (fun bs : List Nat => bs.length ≤ 9223372036854775807 ∧ ∀ n ∈ bs, n < 256) (fun bs => [aL cU8 bs]) fun _ => rB true) := by
  refine Sound.mdl Tryz.func6 rfl Tryz.ntmps6 ?_
  rintro bs w ⟨hlen, hbs⟩
  refine ⟨by simp, ?_⟩
  have hΓ : GSound Tryz.prog (look [(8, mBig), (9, mAt), (10, mChain), (17, mBi), (19, mBi), (21, mSkip), (22, mSkip), (23, mSameI), (24, mThird), (25, mCVals)]) := env_cons (has_of Tryz.func8 rfl rfl) big_s (env_cons (has_of Tryz.func9 rfl rfl) at_s (env_cons (has_of Tryz.func10 rfl rfl) chain_s (env_cons (has_of Tryz.func17 rfl rfl) bisI_s (env_cons (has_of Tryz.func19 rfl rfl) bisS_s (env_cons (has_of Tryz.func21 rfl rfl) skipI_s (env_cons (has_of Tryz.func22 rfl rfl) skipS_s (env_cons (has_of Tryz.func23 rfl rfl) sameI_s (env_cons (has_of Tryz.func24 rfl rfl) thirdS_s (env_cons (has_of Tryz.func25 rfl rfl) cvalsS_s env_nil)))))))))
  have hDb : Has Tryz.prog 18 := has_of Tryz.func18 rfl rfl
  have hDs : Has Tryz.prog 20 := has_of Tryz.func20 rfl rfl
  have cb := mBig_eq bs hlen
  by_cases hbig : 1048576 < bs.length
  · rw [decide_eq_true hbig] at cb
    simp only [initS, argPV, List.map_cons, List.map_nil, toPL, Nat.zero_add]
    refine zR ?_
    refine At.retA (by rw [Tryz.results6]) (he := rfl)
  · rw [decide_eq_false hbig] at cb
    have hcode : CodeOk bs := .le (by omega) hbs
    have hok : ∀ i : Int, 0 ≤ i → i ≤ 1000 → okAt (bs, i) := fun i h1 h2 => ⟨⟨hbs, show bs.length ≤ _ by omega⟩, h1, h2⟩
    have ca0 := mAt_eq bs 0 (hok 0 (by decide) (by decide))
    have ca1 := mAt_eq bs 1 (hok 1 (by decide) (by decide))
    have r0 := atC_range (hok 0 (by decide) (by decide))
    have r1 := atC_range (hok 1 (by decide) (by decide))
    clear hlen hbs hok
    generalize atC bs 0 = x0 at *
    generalize atC bs 1 = x1 at *
    obtain ⟨n, rfl⟩ : ∃ n : Nat, x0 = n := ⟨x0.toNat, by omega⟩
    have hwr : IntKind.u8.wrap (n : Int) = (n : Int) := by
      unfold IntKind.wrap
      simp [IntKind.signed, IntKind.bits]
      omega
    have hby : bytesE [[Leaf.sc (.int .u8 (n : Int))]] = some [UInt8.ofNat n] := bytes_rows [n]
    have hbS : (⟨([UInt8.ofNat n]).toArray⟩ : ByteArray) = bsS [n] := rfl
    have hss : (bsS [n]).size = 1 := rfl
    have cc := mChain_eq (bsS [n]) 9 (by omega)
    have hch : chainOf (bsS [n]) 9 = cnL (bsS [n]) 9 := if_pos ⟨by decide, by decide⟩
    rw [hch] at cc
    clear hch
    have hm8 := tmod_in (a := x1) (m := 8) r1.1 (by decide)
    obtain ⟨k, hk⟩ : ∃ k : Nat, 2 + x1.tmod 8 = ((k + 1 : Nat) : Int) := ⟨(1 + x1.tmod 8).toNat, by omega⟩
    have hk1 : 1 ≤ k := by omega
    have hk8 : k ≤ 8 := by omega
    generalize bsS [n] = s at *
    have hcl := cnL_ok s (n := 9) (by decide)
    have h0 := cnL_get s (n := 9) (k := 0) (by decide)
    have h8 := cnL_get s (n := 9) (k := 8) (by decide)
    have hkk := cnL_get s (n := 9) (k := k) (by omega)
    have t8 := cnB_t s (k := 8) (by decide)
    have tup : (cnB s k).1.2.1 ≤ (cnB s 8).1.2.1 := by
      rcases Nat.lt_or_ge k 8 with h | h
      · exact Int.le_of_lt (cnB_up s h)
      · have : k = 8 := by omega
        rw [this]
        exact Int.le_refl _
    obtain ⟨hs, hbis, hlast, hpw, hin⟩ := cn_bis s (t := (1000, 0)) (n := 9) (now := (cnB s 8).1.2.1) (by decide) ⟨⟨by decide, by decide⟩, by decide, by decide⟩ (by decide) t8.1 (by omega) k 0 k (by omega) (by omega) (by omega) tup
    have z0 : ((cnB s 0).1, (cnB s 0).2.2.1).2.length ≤ 7 := (hcl.2 _ (List.mem_of_getElem? h0)).2.1
    have zh : ((cnB s 0).1, (cnB s 0).2.2.1).1.1 = 1 := rfl
    have c1 := mBi_eq (1000, 0) ((cnB s 0).1, (cnB s 0).2.2.1) (cnL s 9) ((k + 1 : Nat) : Int) (cnB s 8).1.2.1 ⟨by dsimp only at z0 ⊢; omega, hcl.1, by dsimp only; omega, by dsimp only at zh ⊢; omega⟩
    rw [hbis] at c1
    have hrow : ∀ (j : Nat) (b : TBlock), (cnL s 9)[j]? = some b → (bkRows (cnL s 9))[j]? = some (bkRow b) := fun j b h => by
      unfold bkRows
      rw [List.getElem?_map, h]
      rfl
    have w0 := hrow 0 _ h0
    have w8 := hrow 8 _ h8
    have wk := hrow k _ hkk
    have hL9 : (bkRows (cnL s 9)).length = 9 := by rw [bkRows_len, cnL_len]
    clear hcl h0 h8 hkk t8 tup hbis z0 zh hrow r0 r1 hm8
    generalize cnL s 9 = L at *
    generalize cnB s 0 = B0 at *
    generalize cnB s 8 = B8 at *
    generalize cnB s k = BK at *
    obtain ⟨⟨a1, a2, a3, a4, a5, a6⟩, a7, a8, ⟨a9, a10, a11, a12⟩⟩ := B0
    obtain ⟨⟨b1, b2, b3, b4, b5, b6⟩, b7, b8, ⟨b9, b10, b11, b12⟩⟩ := B8
    obtain ⟨⟨d1, d2, d3, d4, d5, d6⟩, d7, d8, ⟨d9, d10, d11, d12⟩⟩ := BK
    dsimp only [bkRow] at w0 w8 wk
    dsimp only [aTr, aAn, aBS, rBi, rowsAn] at c1
    dsimp only [rBN] at cc
    have hs9 : (hs.length : Int) ≤ 9 := by
      have := pw_len hs ((0 + 1 : Nat) : Int) (by omega) hpw hin
      omega
    clear hin
    have hne : hs ≠ [] := fun e => by rw [e] at hlast; cases hlast
    have hpos : 0 < hs.length := List.length_pos_iff.2 hne
    have hls := rowsF_len cInt hs
    have hlr : (rowsF cInt hs)[hs.length - 1]? = some [.sc (.int .i64 ((k + 1 : Nat) : Int))] := by
      rw [rowsF_get cInt hs (hs.length - 1) (by omega)]
      rw [List.getLast?_eq_getElem?, List.getElem?_eq_getElem (by omega)] at hlast
      rw [Option.some.inj hlast]
      rfl
    have hl1 : ((hs.length : Int) - 1).toNat = hs.length - 1 := by omega
    have hk2 : (((k + 1 : Nat) : Int) - 1).toNat = k := by omega
    clear hlast hne
    replace hpw := Lib.hid hpw
    simp only [initS, argPV, List.map_cons, List.map_nil, toPL, Nat.zero_add]
    refine zR ?_
    refine W.loose 36 (h := ?_)
    refine W.frzA 3 36 (h := ?_)
    refine W.drawB hΓ 10 [[], [0], [0, 1], [0, 1, 2], [], [4], [4, 5], [4, 5, 6], [0, 1, 2, 3, 4, 5, 6, 7], [], [0, 1, 2, 3, 4, 5, 6, 7, 8, 9]] (Es := ?Es21) (rest := ?rest21) (st1 := ?st121) ?_
    refine zL ?_
    refine zE ?_
    refine zR ?_
    refine W.subA [.slot 0 (vL cU8 bs), .slot 3 (one (.sl (bkRows L))), .slot 5 (vI ((k + 1 : Nat) : Int)), .slot 4 (one (.ptr 4 0)), .blk 4 (bxAn ((a1, a2, a3, a4, a5, a6), a8))] (h := ?_)
    refine W.lateFA hΓ [[], [], [], [], [], [4], [4, 5], [4, 5, 6], [4, 5, 6, 7], [0, 1, 2, 3, 4, 5, 6, 7, 8], [0, 1, 2, 3, 4, 5, 6, 7, 8, 9], [0, 1, 2, 3, 4, 5, 6, 7, 8, 9, 10], [0, 1, 2, 3, 4, 5, 6, 7, 8, 9, 10], [0, 1, 2, 3, 4, 5, 6, 7, 8, 9, 10], [], [0, 1, 2, 3, 4, 5, 6, 7, 8, 9, 10, 11, 14], [0, 1, 2, 3, 4, 5, 6, 7, 8, 9, 10, 11, 12, 14, 15], [0, 1, 2, 3, 4, 5, 6, 7, 8, 9, 10, 11, 12, 13, 14, 15, 16]] 18 15 (EsA := ?EsA23) (EsB := ?EsB23) (restA := ?rA23) (rest := ?rest23) (t := ?t23) (xo := ?xo23) (yo := ?yo23) (ty := ?ty23) (pos := ?pos23) (after := ?af23) (n := ?n23) (b := ?b23) (stA := ?stA23) (st1 := ?st123) (stE := ?stE23) (h := ?h23) (hxp := by decide) (hoX := ?hoX23) (hfA := ?hfA23) (hpA := ?hpA23) (hdA := ?hdA23) (hfrA := ?hfr23) (hneA := ?hne23) (hA := ?hA23) (hst := ?hst23) (hs1 := ?hs123) (hfB := ?hfB23) (hpB := ?hpB23) (hdB := ?hdB23) (hfrB := ?hfrB23) (hneB := ?hneB23) (hmask := ?hmask23) (hsE := ?hsE23) (hT := ?hT23)
    case h23 => kernel_rfl
    case hoX23 => rfl
    case hfA23 =>
      iterate 18 (first | refine FlowX.skA 15 (h := ?_) | refine FlowX.opA (h := ?_))
      exact FlowX.done
    case hpA23 => rfl
    case hdA23 => rfl
    case hfr23 => rfl
    case hne23 => rfl
    case hA23 =>
      simp (disch := decide) only [pick_nil, pick_t, pick_f, List.cons_append, List.nil_append, Nat.reduceAdd]
      rfl
    case hst23 =>
      unfold storeL
      exact evxP
    case hs123 => rfl
    case hfB23 =>
      iterate 18 (first | refine FlowX.skF 15 (h := ?_) | refine FlowX.opA (h := ?_))
      exact FlowX.done
    case hpB23 => rfl
    case hdB23 => rfl
    case hfrB23 => rfl
    case hneB23 => rfl
    case hmask23 => rfl
    case hsE23 =>
      simp only [pick_nil, pick_all, List.cons_append, List.nil_append]
      rfl
    (repeat (first | refine WL.opA hΓ (h := ?_) | refine WL.opX hΓ (h := ?_) | refine WL.opY (h := ?_) | refine WL.opZ (h := ?_)))
    with_reducible apply WL.nil
    refine zR ?_
    refine W.drawB hΓ 28 [[], [0], [0, 1], [0, 1, 2], [0, 1, 2, 3], [0, 1, 2], [0, 1, 2], [0, 1, 2, 6], [0, 1, 2, 5, 6, 7], [0, 1, 2, 5, 6, 7, 8], [0, 1, 2, 5, 6, 7, 8, 9], [0, 1, 2, 3, 4, 5, 6, 7, 8, 9, 10], [0, 1, 2, 3, 4, 5, 6, 7, 8, 9, 10, 11], [0, 1, 2, 3, 4, 5, 6, 7, 8, 9, 10, 11, 12], [0, 1, 2, 3, 4, 5, 6, 7, 8, 9, 10, 11, 12, 13], [0, 1, 2, 3, 4, 5, 6, 7, 8, 9, 10, 11, 12, 13, 14], [0, 1, 2, 3, 4, 5, 6, 7, 8, 9, 10, 11, 12, 13, 14, 15], [0, 1, 2, 3, 4, 5, 6, 7, 8, 9, 10, 11, 12, 13, 14, 15, 16], [0, 1, 2, 3, 4, 5, 6, 7, 8, 9, 10, 11, 12, 13, 14, 15, 16, 17], [0, 1, 2, 3, 4, 5, 6, 7, 8, 9, 10, 11, 12, 13, 14, 15, 16, 17, 18], [0, 1, 2, 3, 4, 5, 6, 7, 8, 9, 10, 11, 12, 13, 14, 15, 16, 17, 18], [0, 1, 2, 3, 4, 5, 6, 7, 8, 9, 10, 11, 12, 13, 14, 15, 16, 17, 18, 20], [0, 1, 2, 3, 4, 5, 6, 7, 8, 9, 10, 11, 12, 13, 14, 15, 16, 17, 18, 20, 21], [0, 1, 2, 3, 4, 5, 6, 7, 8, 9, 10, 11, 12, 13, 14, 15, 16, 17, 18, 19, 20, 21, 22], [0, 1, 2, 3, 4, 5, 6, 7, 8, 9, 10, 11, 12, 13, 14, 15, 16, 17, 18, 19, 20, 21, 22, 23], [0, 1, 2, 3, 4, 5, 6, 7, 8, 9, 10, 11, 12, 13, 14, 15, 16, 17, 18], [0, 1, 2, 3, 4, 5, 6, 7, 8, 9, 10, 11, 12, 13, 14, 15, 16, 17, 18, 19, 20, 21, 22, 23, 24, 25], [0, 1, 2, 3, 4, 5, 6, 7, 8, 9, 10, 11, 12, 13, 14, 15, 16, 17, 18, 19, 20, 21, 22, 23, 24, 25, 26]] (Es := ?Es25) (rest := ?rest25) (st1 := ?st125) ?_
    refine zL ?_
    refine zE ?_
    refine At.frzA 7 64060 (h := ?_)
    refine zR ?_
    have hnoB : True := trivial
    refine W.loopA (fun i => 1 ≤ i ∧ i ≤ hs.length) (fun i : Nat => [.slot 0 (vL cU8 bs), .slot 7 (vL cInt hs), .slot 9 (vI i)]) (fun i => hs.length - i) 1 ⟨Nat.le_refl _, hpos⟩ (h := ?_)
    rintro i ⟨hi1, hi⟩
    by_cases hlt : i < hs.length
    · have q1 : (rowsF cInt hs)[i]? = some [.sc (.int .i64 hs[i])] := rowsF_get cInt hs i hlt
      have q0 : (rowsF cInt hs)[i - 1]? = some [.sc (.int .i64 (hs[i - 1]'(by omega)))] := rowsF_get cInt hs (i - 1) (by omega)
      have qi : ((i : Int) - 1).toNat = i - 1 := by omega
      have qlt : hs[i - 1]'(by omega) < hs[i] := List.pairwise_iff_getElem.1 hpw.out (i - 1) i (by omega) hlt (by omega)
      generalize hs[i] = y1 at *
      generalize hs[i - 1]'(by omega) = y0 at *
      clear c1 cc w0 w8 wk hlr hl1 hk2 hpw ca0 ca1
      refine zR ?_
      refine W.drawB hΓ 10 [[], [], [1], [0, 1, 2], [0, 1, 2, 3], [], [], [5, 6], [5, 6, 7], [0, 1, 2, 3, 4, 5, 6, 7, 8]] (Es := ?Es28) (rest := ?rest28) (st1 := ?st128) ?_
      refine zL ?_
      refine zE ?_
      refine zR ?_
      exact At.roundA (i + 1) ⟨by omega, by omega⟩ (by omega)
    · clear hk2 hl1 hlr w0 w8 wk cc ca0 ca1 c1
      refine zR ?_
      refine W.subA [.slot 0 (vL cU8 bs)] (h := ?_)
      clear hlt hi hi1 hk hk1 hk8 hwr hby hbS hss hL9 hs9 hls hpos hpw
      refine zR ?_
      refine zO ?_
      refine zL ?_
      refine WL.opNRA hDb DrawBisect_s bs hcode (h := ?_)
      rintro ⟨⟨t1, t2⟩, ⟨⟨e1, e2, e3, e4, e5, e6⟩, en⟩, m, to, now⟩ ⟨⟨⟨he0, he1⟩, hen⟩, ⟨hm7, hms⟩, hto0, hto1⟩
      dsimp only at he0 he1 hen hm7 hms hto0 hto1
      have hokm : okBl m := ⟨by omega, fun b hb => by
        obtain ⟨_, g1, g2, g3⟩ := hms b hb
        exact ⟨by omega, by omega, by omega⟩⟩
      have c2 := mBi_eq (t1, t2) ((e1, e2, e3, e4, e5, e6), en) m to now ⟨by dsimp only; omega, hokm, by dsimp only; omega, by dsimp only; omega⟩
      have hlen := bis_len (t := (t1, t2)) (a := ((e1, e2, e3, e4, e5, e6), en)) (l := m) (to := to) (now := now)
      generalize bis (t1, t2) ((e1, e2, e3, e4, e5, e6), en) m to now = y at *
      obtain ⟨⟨⟨f1, f2, f3, f4, f5, f6⟩, fn⟩, hs1, code⟩ := y
      dsimp only [aTr, aAn, aBS, rBi, rowsAn] at c2 hlen
      clear hms hokm
      refine zL ?_
      refine zE ?_
      refine W.frzA 12 128110 (h := ?_)
      refine zR ?_
      refine W.frzB 15 (h := ?_)
      refine W.frzB 18 (h := ?_)
      refine W.frzA 16 64122 (h := ?_)
      refine W.frzA 19 64132 (h := ?_)
      refine W.rowB 15 15 (h := ?_)
      refine W.rowB 18 18 (h := ?_)
      refine W.subA [.slot 0 (vL cU8 bs), .slot 15 (one (.prow [.sc (.int .i64 f1), .sc (.int .i64 f2), .sc (.string f3), .sc (.string f4), .sc (.string f5), .sc (.string f6), .sl (rowsF cVal fn)] 0)), .slot 16 (vL cInt hs1), .slot 17 (vI code), .slot 18 (one (.prow [.sc (.int .i64 f1), .sc (.int .i64 f2), .sc (.string f3), .sc (.string f4), .sc (.string f5), .sc (.string f6), .sl (rowsF cVal fn)] 0)), .slot 19 (vL cInt hs1), .slot 20 (vI code)] (h := ?_)
      clear c2 hen hm7
      have hl1 : hs1.length ≤ 1101 := by
        have h7 : max 0 (to - e1) ≤ 1101 := Int.max_le.2 ⟨by omega, by omega⟩
        omega
      clear hlen hto0 hto1 he0 he1
      have c6 := mSameI_eq hs1 hs1 (by omega) (by omega)
      rw [decide_eq_true (rfl : hs1 = hs1)] at c6
      refine zO ?_
      refine zL ?_
      refine WL.opNRA hDs DrawSkip_s bs hcode (h := ?_)
      rintro ⟨⟨u1, u2⟩, ⟨⟨v1, v2, v3, v4, v5, v6⟩, vn⟩, ⟨⟨w1, w2, w3, w4, w5, w6⟩, wv, wn, ⟨x1, x2, x3, x4⟩⟩, tm⟩ ⟨⟨⟨hv0, hv1⟩, hvn⟩, ⟨⟨⟨hw0, hw1⟩, hw2, hw3⟩, hl1, hl2, hl3⟩⟩
      dsimp only at hv0 hv1 hvn hw0 hw1 hw2 hw3 hl1 hl2 hl3
      have c3 := mSkip_eq (u1, u2) ((v1, v2, v3, v4, v5, v6), vn) ((w1, w2, w3, w4, w5, w6), wv, wn, (x1, x2, x3, x4)) tm ⟨show vn.length ≤ _ by omega, show wv.length ≤ _ by omega, show wn.length ≤ _ by omega, show x4.length ≤ _ by omega⟩
      have c4 := mCVals_eq (x1, x2, x3, x4) (show x4.length ≤ _ by omega)
      have hcl := cvals_le (x1, x2, x3, x4)
      have c5 := mThird_eq vn (cvals (x1, x2, x3, x4)) (by omega) (by omega)
      by_cases hd : skipC (u1, u2) ((v1, v2, v3, v4, v5, v6), vn) ((w1, w2, w3, w4, w5, w6), wv, wn, (x1, x2, x3, x4)) tm = 0
      · have h3 := skip_third hd
        dsimp only at h3
        have hA : skipA (u1, u2) ((v1, v2, v3, v4, v5, v6), vn) ((w1, w2, w3, w4, w5, w6), wv, wn, (x1, x2, x3, x4)) tm = ((w1, w2, w3, w4, w5, w6), wn) := if_pos hd
        rw [hd, hA] at c3
        rw [h3] at c5
        clear hd hA h3
        generalize cvals (x1, x2, x3, x4) = cv at *
        dsimp only [aTr, aAn, aBk, rSk, rowsAn, aCm] at c3 c4
        refine zL ?_
        refine zE ?_
        refine zR ?_
        refine W.drawB hΓ 51 asEvBisW0 (Es := ?Es38) (rest := ?rest38) (st1 := ?st138) ?_
        refine zL ?_
        refine zE ?_
        refine zR ?_
        refine At.retA (by rw [Tryz.results6]) (he := rfl)
      · have hA : skipA (u1, u2) ((v1, v2, v3, v4, v5, v6), vn) ((w1, w2, w3, w4, w5, w6), wv, wn, (x1, x2, x3, x4)) tm = ((v1, v2, v3, v4, v5, v6), vn) := if_neg hd
        rw [hA] at c3
        clear hA c4 c5 hcl
        generalize skipC (u1, u2) ((v1, v2, v3, v4, v5, v6), vn) ((w1, w2, w3, w4, w5, w6), wv, wn, (x1, x2, x3, x4)) tm = d at *
        dsimp only [aTr, aAn, aBk, rSk, rowsAn] at c3
        refine zL ?_
        refine zE ?_
        refine zR ?_
        refine W.drawB hΓ 51 asEvBisW0 (Es := ?Es43) (rest := ?rest43) (st1 := ?st143) ?_
        refine zL ?_
        refine zE ?_
        refine zR ?_
        refine At.retA (by rw [Tryz.results6]) (he := rfl)
end Go.Proofs.YtfgkfcfplodaoaaGreatDoor

end
section
/-!
  A law's one argument: a code.
-/
namespace Go.Proofs.YtfgkfcfplodaoaaGreatDoor
set_option maxRecDepth 100000
set_option linter.unusedVariables false
set_option linter.unusedSimpArgs false
open Go Go.RowKit Go.ChangeShapes Go.WideShapes Go.ChangeAt Go.Deep

theorem cellsU8 : Tryz.prog.cellsOf 5 = 1 := by kernel_rfl
theorem bytesU8 : Tryz.prog.bytesOf 5 = 1 := by kernel_rfl
theorem elem_u8 {P : Program} {H : Type} {enc : TypeId × Value → H} {w : World} {base : Nat} {spare : Nat → Bool} {held : Bool} {e : TypeId} (he : P.underlying e = some (.int .u8)) {B : Nat} : ∀ n cs y, cs.length = 1 → DataW.trod enc P w base spare held n e cs = some y → (∀ p ∈ y.2, p.block < B) → ∃ x : Nat, cs = cU8 x ∧ x < 256 := by
  intro n cs y _ h _
  obtain ⟨s, rfl, _, hs⟩ := DataW.trod_int he h
  have h1 : 0 ≤ s ∧ s ≤ 255 := by
    simpa [Lit.wf, IntKind.min, IntKind.max, IntKind.signed, IntKind.bits] using hs
  refine ⟨s.toNat, ?_, by omega⟩
  have : ((s.toNat : Nat) : Int) = s := by omega
  unfold cU8
  rw [this]
theorem law_code {f : FuncId} {v : Value} {bs : List Nat} {w : World} (hs : Sound Tryz.prog f (mdl (fun bs : List Nat => bs.length ≤ 9223372036854775807 ∧ ∀ n ∈ bs, n < 256) (fun bs => [aL cU8 bs]) fun _ => rB true)) (h : RdS w w.heap.size 1 cU8 v bs) (hb : ∀ n ∈ bs, n < 256) (hl : bs.length ≤ 9223372036854775807) (hg : GlobOk none0 w := by first | exact glob_triv | assumption) :
    Calls Tryz.prog f #[v] w fun e w' => e = .returned (.bool true) ∧ Below w.heap.size w w' :=
  calls_says hs (mdl_eq (by intro a b h; simpa [rowsF_U8] using h) bs ⟨hl, hb⟩) (RepAs.cons (aL_rep (fun _ => rfl) (fun x u hu => by simp only [cU8, List.mem_singleton] at hu; rw [hu]; rfl) h) RepAs.nil) hg
end Go.Proofs.YtfgkfcfplodaoaaGreatDoor

end
