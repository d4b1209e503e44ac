/-
  Put together: PEvTPath PEvGrown PEvStrLaw PEvGrownS PEvVHash.
-/
import Derived.Test.YtfgkfcfplodaoaaGreatDoorG32
set_option linter.unusedSimpArgs false
set_option linter.unusedVariables false
set_option maxRecDepth 100000
section
namespace Go.Proofs.YtfgkfcfplodaoaaGreatDoor
open Go Go.RowKit
set_option maxHeartbeats 4000000
def pathL (i : Nat) (l : List ByteArray) : List ByteArray :=
  if h : l.length ≤ 1 ∨ 64 < l.length then []
  else if i < spl l.length then pathL i (l.take (spl l.length)) ++ [root (l.drop (spl l.length))]
  else pathL (i - spl l.length) (l.drop (spl l.length)) ++ [root (l.take (spl l.length))]
termination_by l.length
decreasing_by
  · have := spl_lt (n := l.length) (by omega) (by omega)
    rw [List.length_take]
    omega
  · have := spl_lt (n := l.length) (by omega) (by omega)
    rw [List.length_drop]
    omega
theorem pathL_one {i : Nat} {l : List ByteArray} (h : l.length ≤ 1) : pathL i l = [] := by rw [pathL, dif_pos (.inl h)]
theorem pathL_lo {i : Nat} {l : List ByteArray} (h2 : 2 ≤ l.length) (h64 : l.length ≤ 64) (hk : i < spl l.length) : pathL i l = pathL i (l.take (spl l.length)) ++ [root (l.drop (spl l.length))] := by
  rw [pathL, dif_neg (by omega), if_pos hk]
theorem pathL_hi {i : Nat} {l : List ByteArray} (h2 : 2 ≤ l.length) (h64 : l.length ≤ 64) (hk : ¬ i < spl l.length) : pathL i l = pathL (i - spl l.length) (l.drop (spl l.length)) ++ [root (l.take (spl l.length))] := by
  rw [pathL, dif_neg (by omega), if_neg hk]
theorem pathL_len (n : Nat) : ∀ (i : Nat) (l : List ByteArray), l.length = n → (pathL i l).length ≤ n + 1 := by
  induction n using Nat.strongRecOn with
  | _ n ih =>
    intro i l hl
    by_cases hn : l.length ≤ 1 ∨ 64 < l.length
    · rw [pathL, dif_pos hn]; simp
    · have hs := spl_lt (n := l.length) (by omega) (by omega)
      by_cases hk : i < spl l.length
      · rw [pathL_lo (by omega) (by omega) hk]
        have := ih (spl l.length) (by omega) i (l.take (spl l.length)) (by rw [List.length_take]; omega)
        rw [List.length_append]
        simp only [List.length_cons, List.length_nil]
        omega
      · rw [pathL_hi (by omega) (by omega) hk]
        have := ih (l.length - spl l.length) (by omega) (i - spl l.length) (l.drop (spl l.length)) (by rw [List.length_drop])
        rw [List.length_append]
        simp only [List.length_cons, List.length_nil]
        omega
abbrev okR (x : List ByteArray × Int) : Prop := okL x.1 ∧ 0 ≤ x.2 ∧ x.2 < x.1.length
abbrev rPa (x : List ByteArray × Int) : Res := rL 9 1 cStr (pathL x.2.toNat x.1)
noncomputable def mPa := mdl okR encP rPa
noncomputable def mPaN (N : Nat) := mdl (fun x => okR x ∧ x.1.length < N) encP rPa
theorem mPa_eq (l : List ByteArray) (i : Nat) (h : okL l) (h2 : i < l.length) : mPa [aL cStr l, aI (i : Int)] = some (rL 9 1 cStr (pathL i l)) := mdl_eq encP_inj (l, (i : Int)) ⟨h, by dsimp only; omega, by dsimp only; omega⟩
theorem mPaN_eq (N : Nat) (l : List ByteArray) (i : Nat) (h : okL l) (h2 : i < l.length) (hN : l.length < N) : mPaN N [aL cStr l, aI (i : Int)] = some (rL 9 1 cStr (pathL i l)) := mdl_eq encP_inj (l, (i : Int)) ⟨⟨h, by dsimp only; omega, by dsimp only; omega⟩, hN⟩
theorem tpathI_s : Sound Tryz.prog 146 mPa := by
  refine Sound.again (fun x => x.1.length) encP_inj fun N ih => ?_
  refine Sound.mdl Tryz.func146 rfl Tryz.ntmps146 ?_
  rintro ⟨l, m⟩ w ⟨⟨h, m1, m2⟩, hN⟩
  refine ⟨by simp, ?_⟩
  dsimp only at h m1 m2 hN
  have hΓ : GSound Tryz.prog (look [(139, mWithin), (142, mTree), (185, mSpl), (146, mPaN N)]) := env_cons (has_of Tryz.func139 rfl rfl) within_s (env_cons (has_of Tryz.func142 rfl rfl) treeI_s (env_cons (has_of Tryz.func185 rfl rfl) splI_s (env_cons (has_of Tryz.func146 rfl rfl) ih env_nil)))
  have hlen := rowsF_len cStr l
  obtain ⟨⟨h1, h40⟩, hsz⟩ := id h
  obtain ⟨i, rfl⟩ := Int.eq_ofNat_of_zero_le (show 0 ≤ m by omega)
  have c1 := mWithin_eq (i : Int) 0 ((l.length : Int) - 1)
  rw [show decide (0 ≤ (i : Int) ∧ (i : Int) ≤ (l.length : Int) - 1) = true from decide_eq_true (by omega)] at c1
  have hn0 : ([] : List (List Leaf)) = rowsF cStr [] := rfl
  have hT : okT l := ⟨by omega, hsz⟩
  by_cases hone : l.length = 1
  · have hv := pathL_one (i := i) (l := l) (by omega)
    have hone1 : l.length ≤ 1 := by omega
    clear hsz h hT hone
    simp only [initS, argPV, List.map_cons, List.map_nil, toPL, Nat.zero_add]
    refine zR ?_
    refine At.retA (by rw [Tryz.results146]) (he := ?_)
    simp only [rPa, Int.toNat_natCast, hv]
  · have hs := spl_lt (n := l.length) (by omega) (by omega)
    have c2 := mSpl_eq l.length (by omega)
    have e1 := rowsF_take cStr l (spl l.length)
    have e2 := sub_lo l (spl l.length)
    have x0 := row_ex (l := l) (k := 0) (by omega)
    have x1 := row_ex (l := l) (k := spl l.length) (by omega)
    clear hn0
    by_cases hk : i < spl l.length
    · have hv := pathL_lo (by omega) (by omega) hk
      have c3 := mPaN_eq N (l.take (spl l.length)) i (h.take hs.1 (by omega)) (by rw [List.length_take]; omega) (by rw [List.length_take]; omega)
      have c4 := mTree_eq (l.drop (spl l.length)) (hT.drop _)
      rw [tree_root (by rw [List.length_drop]; omega) (by rw [List.length_drop]; omega)] at c4
      have hl2 := pathL_len _ i (l.take (spl l.length)) rfl
      rw [List.length_take] at hl2
      have ha := cStr_app1 (pathL i (l.take (spl l.length))) (root (l.drop (spl l.length)))
      clear hsz h hT
      generalize pathL i (l.take (spl l.length)) = L at *
      simp only [initS, argPV, List.map_cons, List.map_nil, toPL, Nat.zero_add]
      refine zR ?_
      refine W.drawB hΓ 10 [[], [], [0, 1], [], [0, 1, 2, 3], [], [], [5, 6], [0, 1, 2, 3, 4, 5, 6, 7], [0, 1, 2, 3, 4, 5, 6, 7, 8], [0, 1, 2, 3, 4, 5, 6, 7, 8, 9], [0, 1, 2, 3, 4, 5, 6, 7, 8, 9, 10]] (Es := ?Es25) (rest := ?rest25) (st1 := ?st125) ?_
      refine zL ?_
      refine zE ?_
      refine zR ?_
      refine At.retA (by rw [Tryz.results146]) (he := ?_)
      simp only [rPa, Int.toNat_natCast, hv]
    · have hv := pathL_hi (by omega) (by omega) hk
      have e3 : (i : Int) - (spl l.length : Int) = ((i - spl l.length : Nat) : Int) := by omega
      have c3 := mPaN_eq N (l.drop (spl l.length)) (i - spl l.length) (h.drop (by omega)) (by rw [List.length_drop]; omega) (by rw [List.length_drop]; omega)
      have c4 := mTree_eq (l.take (spl l.length)) (hT.take _)
      rw [tree_root (by rw [List.length_take]; omega) (by rw [List.length_take]; omega)] at c4
      have hl2 := pathL_len _ (i - spl l.length) (l.drop (spl l.length)) rfl
      rw [List.length_drop] at hl2
      have ha := cStr_app1 (pathL (i - spl l.length) (l.drop (spl l.length))) (root (l.take (spl l.length)))
      clear hsz h hT
      generalize pathL (i - spl l.length) (l.drop (spl l.length)) = L at *
      simp only [initS, argPV, List.map_cons, List.map_nil, toPL, Nat.zero_add]
      refine zR ?_
      refine W.drawB hΓ 12 [[], [], [0, 1], [], [], [3, 4], [0, 1, 2, 3, 4, 5], [], [], [7, 8], [0, 1, 2, 3, 4, 5, 6, 7, 8, 9], [0, 1, 2, 3, 4, 5, 6, 7, 8, 9, 10], [0, 1, 2, 3, 4, 5, 6, 7, 8, 9, 10, 11], [0, 1, 2, 3, 4, 5, 6, 7, 8, 9, 10, 11, 12]] (Es := ?Es30) (rest := ?rest30) (st1 := ?st130) ?_
      refine zL ?_
      refine zE ?_
      refine zR ?_
      refine At.retA (by rw [Tryz.results146]) (he := ?_)
      simp only [rPa, Int.toNat_natCast, hv]
end Go.Proofs.YtfgkfcfplodaoaaGreatDoor

end
section
namespace Go.Proofs.YtfgkfcfplodaoaaGreatDoor
open Go Go.RowKit
set_option maxHeartbeats 4000000
end Go.Proofs.YtfgkfcfplodaoaaGreatDoor

end
section
namespace Go.Proofs.YtfgkfcfplodaoaaGreatDoor
open Go Go.RowKit
set_option maxHeartbeats 4000000
end Go.Proofs.YtfgkfcfplodaoaaGreatDoor

end
section
namespace Go.Proofs.YtfgkfcfplodaoaaGreatDoor
open Go Go.RowKit
set_option maxHeartbeats 4000000
def atC (bs : List Nat) (i : Int) : Int := if i < bs.length then ((bs.getD i.toNat 0 : Nat) : Int) else (i * 37 + bs.length * 11).tmod 256
abbrev okAt (x : List Nat × Int) : Prop := ((∀ n ∈ x.1, n < 256) ∧ x.1.length ≤ 1048576) ∧ 0 ≤ x.2 ∧ x.2 ≤ 1000
noncomputable def mAt := mdl okAt (fun x => [aL cU8 x.1, aI x.2]) (fun x => rI (atC x.1 x.2))
theorem encAt_inj : ∀ x y : List Nat × Int, ([aL cU8 x.1, aI x.2] : List Arg) = [aL cU8 y.1, aI y.2] → x = y := by
  rintro ⟨a, b⟩ ⟨d, e⟩ h
  simpa [rowsF_U8] using h
theorem mAt_eq (bs : List Nat) (i : Int) (h : okAt (bs, i)) : mAt [aL cU8 bs, aI i] = some (rI (atC bs i)) := mdl_eq encAt_inj (bs, i) h
theorem atC_range {bs : List Nat} {i : Int} (h : okAt (bs, i)) : 0 ≤ atC bs i ∧ atC bs i < 256 := by
  obtain ⟨⟨h1, h2⟩, h3, h4⟩ := h
  dsimp only at h1 h2 h3 h4
  unfold atC
  split
  · rename_i hl
    rw [List.getD_eq_getElem?_getD, List.getElem?_eq_getElem (by omega)]
    have := h1 (bs[i.toNat]'(by omega)) (List.getElem_mem _)
    simp only [Option.getD_some]
    omega
  · rw [Int.tmod_eq_emod_of_nonneg (by omega)]
    omega
theorem at_s : Sound Tryz.prog 9 mAt := by
  refine Sound.mdl Tryz.func9 rfl Tryz.ntmps9 ?_
  rintro ⟨bs, i⟩ w ⟨⟨hb, hl⟩, h0, h1⟩
  refine ⟨by simp, ?_⟩
  dsimp only at hb hl h0 h1
  have hΓ : GSound Tryz.prog (look []) := env_nil
  have hlen := rowsF_len cU8 bs
  simp only [initS, argPV, List.map_cons, List.map_nil, toPL, Nat.zero_add]
  by_cases hi : i < bs.length
  · have hrow : (rowsF cU8 bs)[i.toNat]? = some [.sc (.int .u8 ((bs[i.toNat]'(by omega) : Nat) : Int))] := rowsF_get cU8 bs i.toNat (by omega)
    have hn := hb (bs[i.toNat]'(by omega)) (List.getElem_mem _)
    have hv : atC bs i = ((bs[i.toNat]'(by omega) : Nat) : Int) := by
      unfold atC
      rw [if_pos hi, List.getD_eq_getElem?_getD, List.getElem?_eq_getElem (by omega)]
      rfl
    clear hb
    generalize bs[i.toNat]'(by omega) = n at hrow hn hv
    refine zR ?_
    refine At.retA (by rw [Tryz.results9]) (he := ?_)
    rw [hv]
  · have hv : atC bs i = (i * 37 + bs.length * 11).tmod 256 := by unfold atC; rw [if_neg hi]
    have hnz : ((256 : Int) = 0) = False := by simp
    clear hb
    refine zR ?_
    refine At.retA (by rw [Tryz.results9]) (he := ?_)
    rw [hv]
end Go.Proofs.YtfgkfcfplodaoaaGreatDoor

end
section
namespace Go.Proofs.YtfgkfcfplodaoaaGreatDoor
open Go Go.RowKit
set_option maxHeartbeats 4000000
def showK (l : List TVal) : Nat → ByteArray
  | 0 => varS l.length
  | k + 1 => showK l k ++ varS (l.getD k (0, 0)).1 ++ varS (l.getD k (0, 0)).2
theorem showK_size (l : List TVal) : ∀ k, (showK l k).size ≤ 7 + 14 * k
  | 0 => varS_size _
  | k + 1 => by
    have h := showK_size l k
    have h1 := varS_size (l.getD k (0, 0)).1
    have h2 := varS_size (l.getD k (0, 0)).2
    show (showK l k ++ varS (l.getD k (0, 0)).1 ++ varS (l.getD k (0, 0)).2).size ≤ _
    rw [ByteArray.size_append, ByteArray.size_append]
    omega
theorem showK_succ {l : List TVal} {k : Nat} (h : k < l.length) : showK l (k + 1) = showK l k ++ varS l[k].1 ++ varS l[k].2 := by
  show showK l k ++ varS (l.getD k (0, 0)).1 ++ varS (l.getD k (0, 0)).2 = _
  rw [List.getD_eq_getElem?_getD, List.getElem?_eq_getElem h, Option.getD_some]
def showV (l : List TVal) : ByteArray := if valsOk l then showK l l.length else ByteArray.empty
theorem showV_yes {l : List TVal} (h : valsOk l) : showV l = showK l l.length := if_pos h
theorem showV_no {l : List TVal} (h : ¬ valsOk l) : showV l = ByteArray.empty := if_neg h
theorem showV_size (l : List TVal) : (showV l).size ≤ 105 := by
  by_cases h : valsOk l
  · rw [showV_yes h]
    have := showK_size l l.length
    have := h.1.2
    omega
  · rw [showV_no h]; simp
noncomputable def mShowV := mdl (fun l : List TVal => l.length ≤ 8796093022207) (fun l => [aL cVal l]) (fun l => rS (showV l))
theorem mShowV_eq (l : List TVal) (h : l.length ≤ 8796093022207) : mShowV [aL cVal l] = some (rS (showV l)) := mdl_eq (by intro a b h; simpa using h) l h
theorem showVS_s : Sound Tryz.prog 96 mShowV := by
  refine Sound.mdl Tryz.func96 rfl Tryz.ntmps96 ?_
  rintro l w hl
  refine ⟨by simp, ?_⟩
  replace hl : l.length ≤ 8796093022207 := hl
  have hΓ : GSound Tryz.prog (look [(75, mVals), (106, mVar)]) := env_cons (has_of Tryz.func75 rfl rfl) valsS_s (env_cons (has_of Tryz.func106 rfl rfl) varSpec_s env_nil)
  have c1 := mVals_eq l hl
  have c2 := mVar_eq l.length
  simp only [initS, argPV, List.map_cons, List.map_nil, toPL, Nat.zero_add]
  by_cases hv : valsOk l
  · have h7 := hv.1.2
    have hz : varS l.length = showK l 0 := rfl
    refine zR ?_
    refine W.loopA (fun k => k ≤ l.length) (fun k : Nat => [.slot 4 (vI k), .slot 3 (vS (showK l k)), .slot 0 (vL cVal l)]) (fun k => l.length - k) 0 (Nat.zero_le _) (h := ?_)
    rintro k hk
    clear hz c1 c2
    have hs := showK_size l k
    by_cases hlt : k < l.length
    · have hrow := row_at cVal l hlt
      simp only [cVal, List.map_cons, List.map_nil] at hrow
      have e := showK_succ hlt
      have v1 := mVar_eq l[k].1
      have v2 := mVar_eq l[k].2
      have s1 := varS_size l[k].1
      have s2 := varS_size l[k].2
      generalize varS l[k].1 = x1 at *
      generalize varS l[k].2 = x2 at *
      have e1 := ByteArray.size_append (a := showK l k) (b := x1)
      refine zR ?_
      refine W.drawB hΓ 16 [[], [], [], [1, 2], [1, 2, 3], [1, 2, 3, 4], [1, 2, 3, 4, 5], [0, 1, 2, 3, 4, 5, 6], [], [], [8, 9], [8, 9, 10], [8, 9, 10, 11], [1, 2, 3, 4, 5, 6, 8, 9, 10, 11, 12], [0, 1, 2, 3, 4, 5, 6, 7, 8, 9, 10, 11, 12, 13], [0, 1, 2, 3, 4, 5, 6, 7, 8, 9, 10, 11, 12, 13, 14]] (Es := ?Es5) (rest := ?rest5) (st1 := ?st15) ?_
      refine zL ?_
      refine zE ?_
      refine zR ?_
      exact At.roundA (k + 1) (by omega) (by omega)
    · have hke : k = l.length := by omega
      subst hke
      refine zR ?_
      refine At.retA (by rw [Tryz.results96]) (he := ?_)
      rw [showV_yes hv]
  · have hn := showV_no hv
    refine zR ?_
    refine At.retA (by rw [Tryz.results96]) (he := ?_)
    rw [hn]
    rfl
theorem showVI_s : Sound Tryz.prog 214 mShowV := by
  refine Sound.mdl Tryz.func214 rfl Tryz.ntmps214 ?_
  rintro l w hl
  refine ⟨by simp, ?_⟩
  replace hl : l.length ≤ 8796093022207 := hl
  have hΓ : GSound Tryz.prog (look [(168, mVals), (232, mVar)]) := env_cons (has_of Tryz.func168 rfl rfl) valsI_s (env_cons (has_of Tryz.func232 rfl rfl) varImpl_s env_nil)
  have c1 := mVals_eq l hl
  have c2 := mVar_eq l.length
  simp only [initS, argPV, List.map_cons, List.map_nil, toPL, Nat.zero_add]
  by_cases hv : valsOk l
  · have h7 := hv.1.2
    have hz : varS l.length = showK l 0 := rfl
    refine zR ?_
    refine W.loopA (fun k => k ≤ l.length) (fun k : Nat => [.slot 14 (vI k), .slot 13 (vI l.length), .slot 12 (vL cVal l), .slot 3 (vS (showK l k))]) (fun k => l.length - k) 0 (Nat.zero_le _) (h := ?_)
    rintro k hk
    clear hz c1 c2
    have hs := showK_size l k
    by_cases hlt : k < l.length
    · have hrow := row_at cVal l hlt
      simp only [cVal, List.map_cons, List.map_nil] at hrow
      have e := showK_succ hlt
      have v1 := mVar_eq l[k].1
      have v2 := mVar_eq l[k].2
      have s1 := varS_size l[k].1
      have s2 := varS_size l[k].2
      generalize varS l[k].1 = x1 at *
      generalize varS l[k].2 = x2 at *
      have e1 := ByteArray.size_append (a := showK l k) (b := x1)
      refine zR ?_
      refine W.drawB hΓ 10 [[], [], [1], [1, 2], [0, 1, 2, 3], [], [5], [1, 2, 3, 5, 6], [0, 1, 2, 3, 4, 5, 6, 7], [0, 1, 2, 3, 4, 5, 6, 7, 8]] (Es := ?Es15) (rest := ?rest15) (st1 := ?st115) ?_
      refine zL ?_
      refine zE ?_
      refine zR ?_
      exact At.roundA (k + 1) (by omega) (by omega)
    · have hke : k = l.length := by omega
      subst hke
      refine zR ?_
      refine At.retA (by rw [Tryz.results214]) (he := ?_)
      rw [showV_yes hv]
  · have hn := showV_no hv
    refine zR ?_
    refine At.retA (by rw [Tryz.results214]) (he := ?_)
    rw [hn]
    rfl
def vhash (l : List TVal) : ByteArray := if valsOk l then shortS (showV l) else ByteArray.empty
theorem vhash_no {l : List TVal} (h : ¬ valsOk l) : vhash l = ByteArray.empty := if_neg h
theorem vhash_yes {l : List TVal} (h : valsOk l) : vhash l = shortS (showV l) := if_pos h
noncomputable def mVHash := mdl (fun l : List TVal => l.length ≤ 8796093022207) (fun l => [aL cVal l]) (fun l => rS (vhash l))
theorem mVHash_eq (l : List TVal) (h : l.length ≤ 8796093022207) : mVHash [aL cVal l] = some (rS (vhash l)) := mdl_eq (by intro a b h; simpa using h) l h
theorem vhashS_s : Sound Tryz.prog 43 mVHash := by
  refine Sound.mdl Tryz.func43 rfl Tryz.ntmps43 ?_
  rintro l w hl
  refine ⟨by simp, ?_⟩
  replace hl : l.length ≤ 8796093022207 := hl
  have hΓ : GSound Tryz.prog (look [(75, mVals), (96, mShowV), (51, mShort)]) := env_cons (has_of Tryz.func75 rfl rfl) valsS_s (env_cons (has_of Tryz.func96 rfl rfl) showVS_s (env_cons (has_of Tryz.func51 rfl rfl) short_s env_nil))
  have c1 := mVals_eq l hl
  have c2 := mShowV_eq l hl
  have hz := showV_size l
  have c3 := mShort_eq (showV l) (by omega)
  simp only [initS, argPV, List.map_cons, List.map_nil, toPL, Nat.zero_add]
  by_cases hv : valsOk l
  · have e := vhash_yes hv
    rw [decide_eq_true hv] at c1
    clear hv
    refine zR ?_
    refine At.retA (by rw [Tryz.results43]) (he := ?_)
    rw [e]
  · have e := vhash_no hv
    rw [decide_eq_false hv] at c1
    clear hv
    refine zR ?_
    refine At.retA (by rw [Tryz.results43]) (he := ?_)
    rw [e]
    rfl
theorem vhashI_s : Sound Tryz.prog 166 mVHash := by
  refine Sound.mdl Tryz.func166 rfl Tryz.ntmps166 ?_
  rintro l w hl
  refine ⟨by simp, ?_⟩
  replace hl : l.length ≤ 8796093022207 := hl
  have hΓ : GSound Tryz.prog (look [(168, mVals), (214, mShowV), (187, mShort)]) := env_cons (has_of Tryz.func168 rfl rfl) valsI_s (env_cons (has_of Tryz.func214 rfl rfl) showVI_s (env_cons (has_of Tryz.func187 rfl rfl) shortI_s env_nil))
  have c1 := mVals_eq l hl
  have c2 := mShowV_eq l hl
  have hz := showV_size l
  have c3 := mShort_eq (showV l) (by omega)
  simp only [initS, argPV, List.map_cons, List.map_nil, toPL, Nat.zero_add]
  by_cases hv : valsOk l
  · have e := vhash_yes hv
    rw [decide_eq_true hv] at c1
    clear hv
    refine zR ?_
    refine At.retA (by rw [Tryz.results166]) (he := ?_)
    rw [e]
  · have e := vhash_no hv
    rw [decide_eq_false hv] at c1
    clear hv
    refine zR ?_
    refine At.retA (by rw [Tryz.results166]) (he := ?_)
    rw [e]
    rfl
def headId (h : THeader) : ByteArray := if headOk h then shortS (showHead h) else ByteArray.empty
theorem headId_no {h : THeader} (ho : ¬ headOk h) : headId h = ByteArray.empty := if_neg ho
theorem headId_yes {h : THeader} (ho : headOk h) : headId h = shortS (showHead h) := if_pos ho
theorem headId_size (h : THeader) : (headId h).size ≤ 8 := by
  unfold headId
  split
  · rw [shortS_size]; exact Nat.le_refl _
  · simp
noncomputable def mHeadId := mdl (fun _ : THeader => True) (fun h => [aHd h]) (fun h => rS (headId h))
theorem mHeadId_eq (h : THeader) : mHeadId [aHd h] = some (rS (headId h)) := mdl_eq aHd_inj h trivial
theorem headIdS_s : Sound Tryz.prog 13 mHeadId := by
  refine Sound.mdl Tryz.func13 rfl Tryz.ntmps13 ?_
  rintro ⟨h, t, la, va, ne, da⟩ w -
  refine ⟨by simp, ?_⟩
  have hΓ : GSound Tryz.prog (look [(50, mHead), (52, mShowHd), (51, mShort)]) := env_cons (has_of Tryz.func50 rfl rfl) headS_s (env_cons (has_of Tryz.func52 rfl rfl) showHdS_s (env_cons (has_of Tryz.func51 rfl rfl) short_s env_nil))
  have c1 := mHead_eq (h, t, la, va, ne, da)
  have c2 := mShowHd_eq (h, t, la, va, ne, da)
  have hz := showHead_size (h, t, la, va, ne, da)
  have c3 := mShort_eq (showHead (h, t, la, va, ne, da)) (by omega)
  dsimp only [aHd] at c1 c2
  simp only [initS, argPV, List.map_cons, List.map_nil, toPL, Nat.zero_add]
  by_cases hv : headOk (h, t, la, va, ne, da)
  · have e := headId_yes hv
    rw [decide_eq_true hv] at c1
    clear hv
    generalize showHead (h, t, la, va, ne, da) = x at *
    refine zR ?_
    refine At.retA (by rw [Tryz.results13]) (he := ?_)
    rw [e]
  · have e := headId_no hv
    rw [decide_eq_false hv] at c1
    clear hv
    refine zR ?_
    refine At.retA (by rw [Tryz.results13]) (he := ?_)
    rw [e]
    rfl
theorem headIdI_s : Sound Tryz.prog 144 mHeadId := by
  refine Sound.mdl Tryz.func144 rfl Tryz.ntmps144 ?_
  rintro ⟨h, t, la, va, ne, da⟩ w -
  refine ⟨by simp, ?_⟩
  have hΓ : GSound Tryz.prog (look [(165, mHead), (188, mShowHd), (187, mShort)]) := env_cons (has_of Tryz.func165 rfl rfl) headI_s (env_cons (has_of Tryz.func188 rfl rfl) showHdI_s (env_cons (has_of Tryz.func187 rfl rfl) shortI_s env_nil))
  have c1 := mHead_eq (h, t, la, va, ne, da)
  have c2 := mShowHd_eq (h, t, la, va, ne, da)
  have hz := showHead_size (h, t, la, va, ne, da)
  have c3 := mShort_eq (showHead (h, t, la, va, ne, da)) (by omega)
  dsimp only [aHd] at c1 c2
  simp only [initS, argPV, List.map_cons, List.map_nil, toPL, Nat.zero_add]
  by_cases hv : headOk (h, t, la, va, ne, da)
  · have e := headId_yes hv
    rw [decide_eq_true hv] at c1
    clear hv
    generalize showHead (h, t, la, va, ne, da) = x at *
    refine zR ?_
    refine At.retA (by rw [Tryz.results144]) (he := ?_)
    rw [e]
  · have e := headId_no hv
    rw [decide_eq_false hv] at c1
    clear hv
    refine zR ?_
    refine At.retA (by rw [Tryz.results144]) (he := ?_)
    rw [e]
    rfl
abbrev TAnchor := THeader × List TVal
abbrev aAn (a : TAnchor) : Arg := .val true [.sc (.int .i64 a.1.1), .sc (.int .i64 a.1.2.1), .sc (.string a.1.2.2.1), .sc (.string a.1.2.2.2.1), .sc (.string a.1.2.2.2.2.1), .sc (.string a.1.2.2.2.2.2), .sl (rowsF cVal a.2)]
theorem aAn_inj : ∀ x y : TAnchor, [aAn x] = [aAn y] → x = y := by
  rintro ⟨⟨a, b, c, d, e, f⟩, l⟩ ⟨⟨a', b', c', d', e', f'⟩, l'⟩ h
  simpa [aAn, and_assoc] using h
def anchorOk (a : TAnchor) : Prop := headOk a.1 ∧ valsOk a.2 ∧ vhash a.2 = a.1.2.2.2.2.1
instance (a : TAnchor) : Decidable (anchorOk a) := by unfold anchorOk; infer_instance
noncomputable def mAnchor := mdl (fun a : TAnchor => a.2.length ≤ 8796093022207) (fun a => [aAn a]) (fun a => rB (decide (anchorOk a)))
theorem mAnchor_eq (a : TAnchor) (h : a.2.length ≤ 8796093022207) : mAnchor [aAn a] = some (rB (decide (anchorOk a))) := mdl_eq aAn_inj a h
theorem anchorI_s : Sound Tryz.prog 123 mAnchor := by
  refine Sound.mdl Tryz.func123 rfl Tryz.ntmps123 ?_
  rintro ⟨⟨h, t, la, va, ne, da⟩, l⟩ w hl
  refine ⟨by simp, ?_⟩
  replace hl : l.length ≤ 8796093022207 := hl
  have hΓ : GSound Tryz.prog (look [(165, mHead), (166, mVHash)]) := env_cons (has_of Tryz.func165 rfl rfl) headI_s (env_cons (has_of Tryz.func166 rfl rfl) vhashI_s env_nil)
  have c1 := mHead_eq (h, t, la, va, ne, da)
  have c3 := mVHash_eq l hl
  dsimp only [aHd] at c1
  have key : decide (anchorOk ((h, t, la, va, ne, da), l)) = (decide (headOk (h, t, la, va, ne, da)) && decide (vhash l = ne)) := by
    by_cases ho : headOk (h, t, la, va, ne, da)
    · by_cases hv : valsOk l
      · simp [anchorOk, ho, hv]
      · have hn : ¬ vhash l = ne := fun e => by
          have h1 : (ne.size : Int) = 8 := ho.2.2.2.1
          rw [← e, vhash_no hv] at h1
          simp at h1
        simp [anchorOk, hv, hn]
    · simp [anchorOk, ho]
  simp only [initS, argPV, List.map_cons, List.map_nil, toPL, Nat.zero_add]
  generalize vhash l = x at *
  cases hd : decide (headOk (h, t, la, va, ne, da)) with
  | false =>
    rw [hd] at c1 key
    refine zR ?_
    refine W.drawB hΓ 13 [[], [0], [0, 1], [0, 1, 2], [0, 1, 2, 3], [0, 1, 2, 3, 4], [0, 1, 2, 3, 4, 5], [0, 1, 2, 3], [0, 1, 2, 3, 7], [0, 1, 2, 3, 7, 8], [0, 1, 2, 3, 4, 5, 6, 7, 8, 9], [0, 1, 2, 3, 4, 5, 6, 7, 8, 9, 10], [0, 1, 2, 3, 4, 5, 6, 7, 8, 9, 10, 11]] (Es := ?Es62) (rest := ?rest62) (st1 := ?st162) ?_
    refine zL ?_
    refine zE ?_
    refine zR ?_
    refine At.retA (by rw [Tryz.results123]) (he := ?_)
    rw [key]
    rfl
  | true =>
    rw [hd] at c1 key
    refine zR ?_
    refine W.drawB hΓ 13 [[], [0], [0, 1], [0, 1, 2], [0, 1, 2, 3], [0, 1, 2, 3, 4], [0, 1, 2, 3, 4, 5], [0, 1, 2, 3], [0, 1, 2, 3, 7], [0, 1, 2, 3, 7, 8], [0, 1, 2, 3, 4, 5, 6, 7, 8, 9], [0, 1, 2, 3, 4, 5, 6, 7, 8, 9, 10], [0, 1, 2, 3, 4, 5, 6, 7, 8, 9, 10, 11]] (Es := ?Es66) (rest := ?rest66) (st1 := ?st166) ?_
    refine zL ?_
    refine zE ?_
    refine zR ?_
    refine At.retA (by rw [Tryz.results123]) (he := ?_)
    rw [key]
    rfl
end Go.Proofs.YtfgkfcfplodaoaaGreatDoor

end
