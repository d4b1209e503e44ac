/-
  Put together: PEvEnough PEvVHash SortI.
-/
import Derived.Test.YtfgkfcfplodaoaaGreatDoorG14
import Derived.Test.YtfgkfcfplodaoaaGreatDoorHPEvVote
import Derived.Shelf.Sort.Plain
import Derived.Shelf.Slices.CompactI
import Derived.Test.YtfgkfcfplodaoaaGreatDoorProg
section
/-!
  Enough of spec and impl.
-/
namespace Go.Proofs.YtfgkfcfplodaoaaGreatDoor
set_option maxRecDepth 100000
set_option linter.unusedVariables false
set_option linter.unusedSimpArgs false
open Go Go.RowKit
set_option maxHeartbeats 4000000

def enoughB (l : List TVal) (ids : List Int) : Bool := decide (valsOk l) && decide (2 * powerOf l < 3 * powSum (fun x => decide (x ∈ ids)) l)
theorem enough1_s : Sound Tryz.prog 240 mIn2 := by
  refine Sound.mdl Tryz.func240 rfl Tryz.ntmps240 ?_
  rintro ⟨ids, x⟩ w hi
  refine ⟨by simp, ?_⟩
  replace hi : ids.length ≤ 8796093022207 := hi
  have hΓ : GSound Tryz.prog (look [(171, mCont)]) := env_cons (has_of Tryz.func171 rfl rfl) cont_s env_nil
  have c1 := mCont_eq ids x hi
  simp only [initS, argPV, List.map_cons, List.map_nil, toPL, Nat.zero_add]
  refine zR ?_
  refine At.retA (by rw [Tryz.results240]) (he := rfl)
abbrev okEnough (x : List TVal × List Int) : Prop := x.1.length ≤ 8796093022207 ∧ x.2.length ≤ 8796093022207
noncomputable def mEnough := mdl okEnough (fun x => [aL cVal x.1, aL cInt x.2]) (fun x => rB (enoughB x.1 x.2))
theorem mEnough_eq (l : List TVal) (ids : List Int) (h1 : l.length ≤ 8796093022207) (h2 : ids.length ≤ 8796093022207) : mEnough [aL cVal l, aL cInt ids] = some (rB (enoughB l ids)) := mdl_eq (by rintro ⟨a, b⟩ ⟨d, e⟩ h; simpa using h) (l, ids) ⟨h1, h2⟩
theorem enoughI_s : Sound Tryz.prog 215 mEnough := by
  refine Sound.mdl Tryz.func215 rfl Tryz.ntmps215 ?_
  rintro ⟨l, ids⟩ w ⟨hl, hi⟩
  refine ⟨by simp, ?_⟩
  replace hl : l.length ≤ 8796093022207 := hl
  replace hi : ids.length ≤ 8796093022207 := hi
  have hΓ : GSound Tryz.prog (look [(168, mVals), (172, mPower), (169, mPow 240 [[.sl (rowsF cInt ids)]] fun x => decide (x ∈ ids))]) := env_cons (has_of Tryz.func168 rfl rfl) valsI_s (env_cons (has_of Tryz.func172 rfl rfl) powerI_s (env_cons (has_of Tryz.func169 rfl rfl) (pow_s (has_of Tryz.func240 rfl rfl) enough1_s (mIn2_eq ids hi)) env_nil))
  have c1 := mVals_eq l hl
  have c3 := mPower_eq l hl
  obtain ⟨p1, p2⟩ := powerOf_in l
  simp only [initS, argPV, List.map_cons, List.map_nil, toPL, Nat.zero_add]
  by_cases hv : valsOk l
  · have c2 := mPow_eq 240 [[.sl (rowsF cInt ids)]] (fun x => decide (x ∈ ids)) l hv
    obtain ⟨q1, q2⟩ := powSum_in (fun x => decide (x ∈ ids)) hv
    refine zR ?_
    refine At.retA (by rw [Tryz.results215]) (he := ?_)
    simp [enoughB, hv]
  · refine zR ?_
    refine At.retA (by rw [Tryz.results215]) (he := ?_)
    simp [enoughB, hv]
theorem enoughS_s : Sound Tryz.prog 176 mEnough := by
  refine Sound.mdl Tryz.func176 rfl Tryz.ntmps176 ?_
  rintro ⟨l, ids⟩ w ⟨hl, hi⟩
  refine ⟨by simp, ?_⟩
  replace hl : l.length ≤ 8796093022207 := hl
  replace hi : ids.length ≤ 8796093022207 := hi
  have hΓ : GSound Tryz.prog (look [(75, mVals), (77, mPower), (76, mHas)]) := env_cons (has_of Tryz.func75 rfl rfl) valsS_s (env_cons (has_of Tryz.func77 rfl rfl) powerS_s (env_cons (has_of Tryz.func76 rfl rfl) has_s env_nil))
  have c1 := mVals_eq l hl
  have c2 := fun x => mHas_eq ids x hi
  have c3 := mPower_eq l hl
  obtain ⟨p1, p2⟩ := powerOf_in l
  simp only [initS, argPV, List.map_cons, List.map_nil, toPL, Nat.zero_add]
  by_cases hv : valsOk l
  · have hz := sumK_zero (powC fun x => decide (x ∈ ids)) l
    refine zR ?_
    refine W.loopA (fun k => k ≤ l.length) (fun k : Nat => [.slot 6 (vI k), .slot 5 (vI (sumK (powC fun x => decide (x ∈ ids)) l k)), .slot 0 (vL cVal l), .slot 1 (vL cInt ids)]) (fun k => l.length - k) 0 (Nat.zero_le _) (h := ?_)
    rintro k hk
    obtain ⟨s0, s1⟩ := pow_in (p := fun x => decide (x ∈ ids)) hv k hk
    have h7 := hv.1.2
    by_cases hlt : k < l.length
    · have hrow := row_at cVal l hlt
      simp only [cVal, List.map_cons, List.map_nil] at hrow
      obtain ⟨b1, b2, b3, b4⟩ := vals_at hv hlt
      by_cases hm : l[k].1 ∈ ids
      · have hs : sumK (powC fun x => decide (x ∈ ids)) l (k + 1) = sumK (powC fun x => decide (x ∈ ids)) l k + l[k].2 := by rw [sumK_succ _ hlt]; simp [powC, hm]
        refine zR ?_
        exact At.roundA (k + 1) (by omega) (by omega)
      · have hs : sumK (powC fun x => decide (x ∈ ids)) l (k + 1) = sumK (powC fun x => decide (x ∈ ids)) l k := by rw [sumK_succ _ hlt]; simp [powC, hm]
        refine zR ?_
        exact At.roundA (k + 1) (by omega) (by omega)
    · refine zR ?_
      refine At.retA (by rw [Tryz.results176]) (he := ?_)
      rw [sumK_all _ (by omega)]
      simp only [enoughB, hv, decide_true, Bool.true_and, powSum]
      first | rfl | congr
  · refine zR ?_
    refine W.loopA (fun _ => True) (fun _ : Nat => [.slot 6 (vI 0), .slot 5 (vI 0), .slot 0 (vL cVal l), .slot 1 (vL cInt ids)]) (fun _ => 0) 0 trivial (h := ?_)
    rintro k -
    by_cases hlt : 0 < l.length
    · refine zR ?_
      refine At.retA (by rw [Tryz.results176]) (he := ?_)
      simp [enoughB, hv]
    · refine zR ?_
      refine At.retA (by rw [Tryz.results176]) (he := ?_)
      simp [enoughB, hv]
end Go.Proofs.YtfgkfcfplodaoaaGreatDoor

end
section
/-!
  Validators and headers shown and hashed; anchors. Both programs.
-/
namespace Go.Proofs.YtfgkfcfplodaoaaGreatDoor
set_option maxRecDepth 100000
set_option linter.unusedVariables false
set_option linter.unusedSimpArgs false
open Go Go.RowKit
set_option maxHeartbeats 4000000

/-- what is written behind the first k validators -/
def showK (l : List TVal) : Nat → ByteArray
  | 0 => varS l.length
  | k + 1 => showK l k ++ varS (l.getD k (0, 0)).1 ++ varS (l.getD k (0, 0)).2
theorem showK_size (l : List TVal) : ∀ k, (showK l k).size ≤ 7 + 14 * k
  | 0 => varS_size _
  | k + 1 => by
    have h := showK_size l k
    have h1 := varS_size (l.getD k (0, 0)).1
    have h2 := varS_size (l.getD k (0, 0)).2
    show (showK l k ++ varS (l.getD k (0, 0)).1 ++ varS (l.getD k (0, 0)).2).size ≤ _
    rw [ByteArray.size_append, ByteArray.size_append]
    omega
theorem showK_succ {l : List TVal} {k : Nat} (h : k < l.length) : showK l (k + 1) = showK l k ++ varS l[k].1 ++ varS l[k].2 := by
  show showK l k ++ varS (l.getD k (0, 0)).1 ++ varS (l.getD k (0, 0)).2 = _
  rw [List.getD_eq_getElem?_getD, List.getElem?_eq_getElem h, Option.getD_some]
def showV (l : List TVal) : ByteArray := if valsOk l then showK l l.length else ByteArray.empty
theorem showV_yes {l : List TVal} (h : valsOk l) : showV l = showK l l.length := if_pos h
theorem showV_no {l : List TVal} (h : ¬ valsOk l) : showV l = ByteArray.empty := if_neg h
theorem showV_size (l : List TVal) : (showV l).size ≤ 105 := by
  by_cases h : valsOk l
  · rw [showV_yes h]
    have := showK_size l l.length
    have := h.1.2
    omega
  · rw [showV_no h]; simp
noncomputable def mShowV := mdl (fun l : List TVal => l.length ≤ 8796093022207) (fun l => [aL cVal l]) (fun l => rS (showV l))
theorem mShowV_eq (l : List TVal) (h : l.length ≤ 8796093022207) : mShowV [aL cVal l] = some (rS (showV l)) := mdl_eq (by intro a b h; simpa using h) l h
theorem showVS_s : Sound Tryz.prog 96 mShowV := by
  refine Sound.mdl Tryz.func96 rfl Tryz.ntmps96 ?_
  rintro l w hl
  refine ⟨by simp, ?_⟩
  replace hl : l.length ≤ 8796093022207 := hl
  have hΓ : GSound Tryz.prog (look [(75, mVals), (106, mVar)]) := env_cons (has_of Tryz.func75 rfl rfl) valsS_s (env_cons (has_of Tryz.func106 rfl rfl) varSpec_s env_nil)
  have c1 := mVals_eq l hl
  have c2 := mVar_eq l.length
  simp only [initS, argPV, List.map_cons, List.map_nil, toPL, Nat.zero_add]
  by_cases hv : valsOk l
  · have h7 := hv.1.2
    have hz : varS l.length = showK l 0 := rfl
    refine zR ?_
    refine W.loopA (fun k => k ≤ l.length) (fun k : Nat => [.slot 4 (vI k), .slot 3 (vS (showK l k)), .slot 0 (vL cVal l)]) (fun k => l.length - k) 0 (Nat.zero_le _) (h := ?_)
    rintro k hk
    clear hz c1 c2
    have hs := showK_size l k
    by_cases hlt : k < l.length
    · have hrow := row_at cVal l hlt
      simp only [cVal, List.map_cons, List.map_nil] at hrow
      have e := showK_succ hlt
      have v1 := mVar_eq l[k].1
      have v2 := mVar_eq l[k].2
      have s1 := varS_size l[k].1
      have s2 := varS_size l[k].2
      generalize varS l[k].1 = x1 at *
      generalize varS l[k].2 = x2 at *
      have e1 := ByteArray.size_append (a := showK l k) (b := x1)
      refine zR ?_
      refine W.drawB hΓ 16 [[], [], [], [1, 2], [1, 2, 3], [1, 2, 3, 4], [1, 2, 3, 4, 5], [0, 1, 2, 3, 4, 5, 6], [], [], [8, 9], [8, 9, 10], [8, 9, 10, 11], [1, 2, 3, 4, 5, 6, 8, 9, 10, 11, 12], [0, 1, 2, 3, 4, 5, 6, 7, 8, 9, 10, 11, 12, 13], [0, 1, 2, 3, 4, 5, 6, 7, 8, 9, 10, 11, 12, 13, 14]] (Es := ?Es5) (rest := ?rest5) (st1 := ?st15) ?_
      refine zL ?_
      refine zE ?_
      refine zR ?_
      exact At.roundA (k + 1) (by omega) (by omega)
    · have hke : k = l.length := by omega
      subst hke
      refine zR ?_
      refine At.retA (by rw [Tryz.results96]) (he := ?_)
      rw [showV_yes hv]
  · have hn := showV_no hv
    refine zR ?_
    refine At.retA (by rw [Tryz.results96]) (he := ?_)
    rw [hn]
    rfl
theorem showVI_s : Sound Tryz.prog 214 mShowV := by
  refine Sound.mdl Tryz.func214 rfl Tryz.ntmps214 ?_
  rintro l w hl
  refine ⟨by simp, ?_⟩
  replace hl : l.length ≤ 8796093022207 := hl
  have hΓ : GSound Tryz.prog (look [(168, mVals), (232, mVar)]) := env_cons (has_of Tryz.func168 rfl rfl) valsI_s (env_cons (has_of Tryz.func232 rfl rfl) varImpl_s env_nil)
  have c1 := mVals_eq l hl
  have c2 := mVar_eq l.length
  simp only [initS, argPV, List.map_cons, List.map_nil, toPL, Nat.zero_add]
  by_cases hv : valsOk l
  · have h7 := hv.1.2
    have hz : varS l.length = showK l 0 := rfl
    refine zR ?_
    refine W.loopA (fun k => k ≤ l.length) (fun k : Nat => [.slot 14 (vI k), .slot 13 (vI l.length), .slot 12 (vL cVal l), .slot 3 (vS (showK l k))]) (fun k => l.length - k) 0 (Nat.zero_le _) (h := ?_)
    rintro k hk
    clear hz c1 c2
    have hs := showK_size l k
    by_cases hlt : k < l.length
    · have hrow := row_at cVal l hlt
      simp only [cVal, List.map_cons, List.map_nil] at hrow
      have e := showK_succ hlt
      have v1 := mVar_eq l[k].1
      have v2 := mVar_eq l[k].2
      have s1 := varS_size l[k].1
      have s2 := varS_size l[k].2
      generalize varS l[k].1 = x1 at *
      generalize varS l[k].2 = x2 at *
      have e1 := ByteArray.size_append (a := showK l k) (b := x1)
      refine zR ?_
      refine W.drawB hΓ 10 [[], [], [1], [1, 2], [0, 1, 2, 3], [], [5], [1, 2, 3, 5, 6], [0, 1, 2, 3, 4, 5, 6, 7], [0, 1, 2, 3, 4, 5, 6, 7, 8]] (Es := ?Es15) (rest := ?rest15) (st1 := ?st115) ?_
      refine zL ?_
      refine zE ?_
      refine zR ?_
      exact At.roundA (k + 1) (by omega) (by omega)
    · have hke : k = l.length := by omega
      subst hke
      refine zR ?_
      refine At.retA (by rw [Tryz.results214]) (he := ?_)
      rw [showV_yes hv]
  · have hn := showV_no hv
    refine zR ?_
    refine At.retA (by rw [Tryz.results214]) (he := ?_)
    rw [hn]
    rfl
def vhash (l : List TVal) : ByteArray := if valsOk l then shortS (showV l) else ByteArray.empty
theorem vhash_no {l : List TVal} (h : ¬ valsOk l) : vhash l = ByteArray.empty := if_neg h
theorem vhash_yes {l : List TVal} (h : valsOk l) : vhash l = shortS (showV l) := if_pos h
noncomputable def mVHash := mdl (fun l : List TVal => l.length ≤ 8796093022207) (fun l => [aL cVal l]) (fun l => rS (vhash l))
theorem mVHash_eq (l : List TVal) (h : l.length ≤ 8796093022207) : mVHash [aL cVal l] = some (rS (vhash l)) := mdl_eq (by intro a b h; simpa using h) l h
theorem vhashS_s : Sound Tryz.prog 43 mVHash := by
  refine Sound.mdl Tryz.func43 rfl Tryz.ntmps43 ?_
  rintro l w hl
  refine ⟨by simp, ?_⟩
  replace hl : l.length ≤ 8796093022207 := hl
  have hΓ : GSound Tryz.prog (look [(75, mVals), (96, mShowV), (51, mShort)]) := env_cons (has_of Tryz.func75 rfl rfl) valsS_s (env_cons (has_of Tryz.func96 rfl rfl) showVS_s (env_cons (has_of Tryz.func51 rfl rfl) short_s env_nil))
  have c1 := mVals_eq l hl
  have c2 := mShowV_eq l hl
  have hz := showV_size l
  have c3 := mShort_eq (showV l) (by omega)
  simp only [initS, argPV, List.map_cons, List.map_nil, toPL, Nat.zero_add]
  by_cases hv : valsOk l
  · have e := vhash_yes hv
    rw [decide_eq_true hv] at c1
    clear hv
    refine zR ?_
    refine At.retA (by rw [Tryz.results43]) (he := ?_)
    rw [e]
  · have e := vhash_no hv
    rw [decide_eq_false hv] at c1
    clear hv
    refine zR ?_
    refine At.retA (by rw [Tryz.results43]) (he := ?_)
    rw [e]
    rfl
theorem vhashI_s : Sound Tryz.prog 166 mVHash := by
  refine Sound.mdl Tryz.func166 rfl Tryz.ntmps166 ?_
  rintro l w hl
  refine ⟨by simp, ?_⟩
  replace hl : l.length ≤ 8796093022207 := hl
  have hΓ : GSound Tryz.prog (look [(168, mVals), (214, mShowV), (187, mShort)]) := env_cons (has_of Tryz.func168 rfl rfl) valsI_s (env_cons (has_of Tryz.func214 rfl rfl) showVI_s (env_cons (has_of Tryz.func187 rfl rfl) shortI_s env_nil))
  have c1 := mVals_eq l hl
  have c2 := mShowV_eq l hl
  have hz := showV_size l
  have c3 := mShort_eq (showV l) (by omega)
  simp only [initS, argPV, List.map_cons, List.map_nil, toPL, Nat.zero_add]
  by_cases hv : valsOk l
  · have e := vhash_yes hv
    rw [decide_eq_true hv] at c1
    clear hv
    refine zR ?_
    refine At.retA (by rw [Tryz.results166]) (he := ?_)
    rw [e]
  · have e := vhash_no hv
    rw [decide_eq_false hv] at c1
    clear hv
    refine zR ?_
    refine At.retA (by rw [Tryz.results166]) (he := ?_)
    rw [e]
    rfl
def headId (h : THeader) : ByteArray := if headOk h then shortS (showHead h) else ByteArray.empty
theorem headId_no {h : THeader} (ho : ¬ headOk h) : headId h = ByteArray.empty := if_neg ho
theorem headId_yes {h : THeader} (ho : headOk h) : headId h = shortS (showHead h) := if_pos ho
noncomputable def mHeadId := mdl (fun _ : THeader => True) (fun h => [aHd h]) (fun h => rS (headId h))
theorem mHeadId_eq (h : THeader) : mHeadId [aHd h] = some (rS (headId h)) := mdl_eq aHd_inj h trivial
theorem headIdS_s : Sound Tryz.prog 13 mHeadId := by
  refine Sound.mdl Tryz.func13 rfl Tryz.ntmps13 ?_
  rintro ⟨h, t, la, va, ne, da⟩ w -
  refine ⟨by simp, ?_⟩
  have hΓ : GSound Tryz.prog (look [(50, mHead), (52, mShowHd), (51, mShort)]) := env_cons (has_of Tryz.func50 rfl rfl) headS_s (env_cons (has_of Tryz.func52 rfl rfl) showHdS_s (env_cons (has_of Tryz.func51 rfl rfl) short_s env_nil))
  have c1 := mHead_eq (h, t, la, va, ne, da)
  have c2 := mShowHd_eq (h, t, la, va, ne, da)
  have hz := showHead_size (h, t, la, va, ne, da)
  have c3 := mShort_eq (showHead (h, t, la, va, ne, da)) (by omega)
  dsimp only [aHd] at c1 c2
  simp only [initS, argPV, List.map_cons, List.map_nil, toPL, Nat.zero_add]
  by_cases hv : headOk (h, t, la, va, ne, da)
  · have e := headId_yes hv
    rw [decide_eq_true hv] at c1
    clear hv
    generalize showHead (h, t, la, va, ne, da) = x at *
    refine zR ?_
    refine At.retA (by rw [Tryz.results13]) (he := ?_)
    rw [e]
  · have e := headId_no hv
    rw [decide_eq_false hv] at c1
    clear hv
    refine zR ?_
    refine At.retA (by rw [Tryz.results13]) (he := ?_)
    rw [e]
    rfl
theorem headIdI_s : Sound Tryz.prog 144 mHeadId := by
  refine Sound.mdl Tryz.func144 rfl Tryz.ntmps144 ?_
  rintro ⟨h, t, la, va, ne, da⟩ w -
  refine ⟨by simp, ?_⟩
  have hΓ : GSound Tryz.prog (look [(165, mHead), (188, mShowHd), (187, mShort)]) := env_cons (has_of Tryz.func165 rfl rfl) headI_s (env_cons (has_of Tryz.func188 rfl rfl) showHdI_s (env_cons (has_of Tryz.func187 rfl rfl) shortI_s env_nil))
  have c1 := mHead_eq (h, t, la, va, ne, da)
  have c2 := mShowHd_eq (h, t, la, va, ne, da)
  have hz := showHead_size (h, t, la, va, ne, da)
  have c3 := mShort_eq (showHead (h, t, la, va, ne, da)) (by omega)
  dsimp only [aHd] at c1 c2
  simp only [initS, argPV, List.map_cons, List.map_nil, toPL, Nat.zero_add]
  by_cases hv : headOk (h, t, la, va, ne, da)
  · have e := headId_yes hv
    rw [decide_eq_true hv] at c1
    clear hv
    generalize showHead (h, t, la, va, ne, da) = x at *
    refine zR ?_
    refine At.retA (by rw [Tryz.results144]) (he := ?_)
    rw [e]
  · have e := headId_no hv
    rw [decide_eq_false hv] at c1
    clear hv
    refine zR ?_
    refine At.retA (by rw [Tryz.results144]) (he := ?_)
    rw [e]
    rfl
/-- an anchor: a header and the validators behind it -/
abbrev TAnchor := THeader × List TVal
abbrev aAn (a : TAnchor) : Arg := .val true [.sc (.int .i64 a.1.1), .sc (.int .i64 a.1.2.1), .sc (.string a.1.2.2.1), .sc (.string a.1.2.2.2.1), .sc (.string a.1.2.2.2.2.1), .sc (.string a.1.2.2.2.2.2), .sl (rowsF cVal a.2)]
theorem aAn_inj : ∀ x y : TAnchor, [aAn x] = [aAn y] → x = y := by
  rintro ⟨⟨a, b, c, d, e, f⟩, l⟩ ⟨⟨a', b', c', d', e', f'⟩, l'⟩ h
  simpa [aAn, and_assoc] using h
def anchorOk (a : TAnchor) : Prop := headOk a.1 ∧ valsOk a.2 ∧ vhash a.2 = a.1.2.2.2.2.1
instance (a : TAnchor) : Decidable (anchorOk a) := by unfold anchorOk; infer_instance
noncomputable def mAnchor := mdl (fun a : TAnchor => a.2.length ≤ 8796093022207) (fun a => [aAn a]) (fun a => rB (decide (anchorOk a)))
theorem mAnchor_eq (a : TAnchor) (h : a.2.length ≤ 8796093022207) : mAnchor [aAn a] = some (rB (decide (anchorOk a))) := mdl_eq aAn_inj a h
def asEvVHash0 : List (List Nat) := [[], [0], [0, 1], [0, 1, 2], [0, 1, 2, 3], [0, 1, 2, 3, 4], [0, 1, 2, 3, 4, 5], [0, 1, 2, 3, 4, 5, 6], [0, 1, 2, 3, 4, 5, 6, 7], [0, 1, 2, 3, 4, 5, 6, 7, 8], [0, 1, 2, 3, 4, 5, 6, 7, 8, 9], [0, 1, 2, 3, 4, 5, 6, 7, 8, 9, 10], [0, 1, 2, 3, 4, 5, 6, 7, 8], [0, 1, 2, 3, 4, 5, 6, 7, 8, 12], [0, 1, 2, 3, 4, 5, 6, 7, 8, 12, 13], [0, 1, 2, 3, 4, 5, 6, 7, 8, 9, 10, 11, 12, 13, 14], [0, 1, 2, 3, 4, 5, 6, 7, 8, 9, 10, 11, 12, 13, 14, 15], [0, 1, 2, 3, 4, 5, 6, 7, 8, 9, 10, 11, 12, 13, 14, 15, 16]]
theorem anchorS_s : Sound Tryz.prog 72 mAnchor := by
  refine Sound.mdl Tryz.func72 rfl Tryz.ntmps72 ?_
  rintro ⟨⟨h, t, la, va, ne, da⟩, l⟩ w hl
  refine ⟨by simp, ?_⟩
  replace hl : l.length ≤ 8796093022207 := hl
  have hΓ : GSound Tryz.prog (look [(50, mHead), (75, mVals), (43, mVHash)]) := env_cons (has_of Tryz.func50 rfl rfl) headS_s (env_cons (has_of Tryz.func75 rfl rfl) valsS_s (env_cons (has_of Tryz.func43 rfl rfl) vhashS_s env_nil))
  have c1 := mHead_eq (h, t, la, va, ne, da)
  have c2 := mVals_eq l hl
  have c3 := mVHash_eq l hl
  dsimp only [aHd] at c1
  have key : decide (anchorOk ((h, t, la, va, ne, da), l)) = (decide (headOk (h, t, la, va, ne, da)) && (decide (valsOk l) && decide (vhash l = ne))) := by
    rw [Bool.eq_iff_iff]
    simp only [Bool.and_eq_true, decide_eq_true_eq]
    exact Iff.rfl
  simp only [initS, argPV, List.map_cons, List.map_nil, toPL, Nat.zero_add]
  generalize vhash l = x at *
  cases hd : decide (headOk (h, t, la, va, ne, da)) with
  | false =>
    rw [hd] at c1 key
    refine zR ?_
    refine W.drawB hΓ 18 asEvVHash0 (Es := ?Es48) (rest := ?rest48) (st1 := ?st148) ?_
    refine zL ?_
    refine zE ?_
    refine zR ?_
    refine At.retA (by rw [Tryz.results72]) (he := ?_)
    rw [key]
    rfl
  | true =>
    rw [hd] at c1 key
    cases hv : decide (valsOk l) with
    | false =>
      rw [hv] at c2 key
      refine zR ?_
      refine W.drawB hΓ 18 asEvVHash0 (Es := ?Es52) (rest := ?rest52) (st1 := ?st152) ?_
      refine zL ?_
      refine zE ?_
      refine zR ?_
      refine At.retA (by rw [Tryz.results72]) (he := ?_)
      rw [key]
      rfl
    | true =>
      rw [hv] at c2 key
      refine zR ?_
      refine W.drawB hΓ 18 asEvVHash0 (Es := ?Es56) (rest := ?rest56) (st1 := ?st156) ?_
      refine zL ?_
      refine zE ?_
      refine zR ?_
      refine At.retA (by rw [Tryz.results72]) (he := ?_)
      rw [key]
      rfl
theorem anchorI_s : Sound Tryz.prog 123 mAnchor := by
  refine Sound.mdl Tryz.func123 rfl Tryz.ntmps123 ?_
  rintro ⟨⟨h, t, la, va, ne, da⟩, l⟩ w hl
  refine ⟨by simp, ?_⟩
  replace hl : l.length ≤ 8796093022207 := hl
  have hΓ : GSound Tryz.prog (look [(165, mHead), (166, mVHash)]) := env_cons (has_of Tryz.func165 rfl rfl) headI_s (env_cons (has_of Tryz.func166 rfl rfl) vhashI_s env_nil)
  have c1 := mHead_eq (h, t, la, va, ne, da)
  have c3 := mVHash_eq l hl
  dsimp only [aHd] at c1
  have key : decide (anchorOk ((h, t, la, va, ne, da), l)) = (decide (headOk (h, t, la, va, ne, da)) && decide (vhash l = ne)) := by
    by_cases ho : headOk (h, t, la, va, ne, da)
    · by_cases hv : valsOk l
      · simp [anchorOk, ho, hv]
      · have hn : ¬ vhash l = ne := fun e => by
          have h1 : (ne.size : Int) = 8 := ho.2.2.2.1
          rw [← e, vhash_no hv] at h1
          simp at h1
        simp [anchorOk, hv, hn]
    · simp [anchorOk, ho]
  simp only [initS, argPV, List.map_cons, List.map_nil, toPL, Nat.zero_add]
  generalize vhash l = x at *
  cases hd : decide (headOk (h, t, la, va, ne, da)) with
  | false =>
    rw [hd] at c1 key
    refine zR ?_
    refine W.drawB hΓ 13 [[], [0], [0, 1], [0, 1, 2], [0, 1, 2, 3], [0, 1, 2, 3, 4], [0, 1, 2, 3, 4, 5], [0, 1, 2, 3], [0, 1, 2, 3, 7], [0, 1, 2, 3, 7, 8], [0, 1, 2, 3, 4, 5, 6, 7, 8, 9], [0, 1, 2, 3, 4, 5, 6, 7, 8, 9, 10], [0, 1, 2, 3, 4, 5, 6, 7, 8, 9, 10, 11]] (Es := ?Es62) (rest := ?rest62) (st1 := ?st162) ?_
    refine zL ?_
    refine zE ?_
    refine zR ?_
    refine At.retA (by rw [Tryz.results123]) (he := ?_)
    rw [key]
    rfl
  | true =>
    rw [hd] at c1 key
    refine zR ?_
    refine W.drawB hΓ 13 [[], [0], [0, 1], [0, 1, 2], [0, 1, 2, 3], [0, 1, 2, 3, 4], [0, 1, 2, 3, 4, 5], [0, 1, 2, 3], [0, 1, 2, 3, 7], [0, 1, 2, 3, 7, 8], [0, 1, 2, 3, 4, 5, 6, 7, 8, 9], [0, 1, 2, 3, 4, 5, 6, 7, 8, 9, 10], [0, 1, 2, 3, 4, 5, 6, 7, 8, 9, 10, 11]] (Es := ?Es66) (rest := ?rest66) (st1 := ?st166) ?_
    refine zL ?_
    refine zE ?_
    refine zR ?_
    refine At.retA (by rw [Tryz.results123]) (he := ?_)
    rw [key]
    rfl
end Go.Proofs.YtfgkfcfplodaoaaGreatDoor

end
section
/-!
  slices.Sort and slices.Compact at []int: the numbers and bodies by which the library's contracts lie. Printed by a tool of the kit.
-/
namespace Go.Proofs
open Go.Shelf
def Tryz.sortI_ren : Go.Shelf.Ren := ⟨fun | 189 => 174 | 125 => 220 | 257 => 219 | 128 => 251 | 129 => 252 | 294 => 242 | 295 => 243 | 296 => 244 | 297 => 245 | 298 => 246 | 299 => 247 | 216 => 248 | 300 => 249 | 301 => 250 | 328 => 256 | 329 => 257 | 330 => 258 | 331 => 259 | 332 => 260 | 215 => 261 | 343 => 270 | n => n, fun | 28 => 42 | 3 => 3 | 46 => 148 | 0 => 0 | 51 => 231 | 53 => 251 | 4 => 4 | 183 => 243 | 182 => 242 | 131 => 154 | 5 => 5 | 9 => 9 | 218 => 256 | 222 => 260 | 228 => 267 | 229 => 268 | n => n, fun | n => n⟩
theorem Tryz.sortI : Go.Proofs.Lays.n189 Tryz.prog Tryz.sortI_ren := {
  mixed := by kernel_rfl
  f125 := Tryz.func220.trans (congrArg some (by kernel_rfl))
  f128 := Tryz.func251.trans (congrArg some (by kernel_rfl))
  f129 := Tryz.func252.trans (congrArg some (by kernel_rfl))
  f189 := Tryz.func174.trans (congrArg some (by kernel_rfl))
  f215 := Tryz.func261.trans (congrArg some (by kernel_rfl))
  f216 := Tryz.func248.trans (congrArg some (by kernel_rfl))
  f257 := Tryz.func219.trans (congrArg some (by kernel_rfl))
  f294 := Tryz.func242.trans (congrArg some (by kernel_rfl))
  f295 := Tryz.func243.trans (congrArg some (by kernel_rfl))
  f296 := Tryz.func244.trans (congrArg some (by kernel_rfl))
  f297 := Tryz.func245.trans (congrArg some (by kernel_rfl))
  f298 := Tryz.func246.trans (congrArg some (by kernel_rfl))
  f299 := Tryz.func247.trans (congrArg some (by kernel_rfl))
  f300 := Tryz.func249.trans (congrArg some (by kernel_rfl))
  f301 := Tryz.func250.trans (congrArg some (by kernel_rfl))
  f328 := Tryz.func256.trans (congrArg some (by kernel_rfl))
  f329 := Tryz.func257.trans (congrArg some (by kernel_rfl))
  f330 := Tryz.func258.trans (congrArg some (by kernel_rfl))
  f331 := Tryz.func259.trans (congrArg some (by kernel_rfl))
  f332 := Tryz.func260.trans (congrArg some (by kernel_rfl))
  f343 := Tryz.func270.trans (congrArg some (by kernel_rfl))
  t0 := Tryz.underlying0
  a0 := Tryz.isAgg0
  z0 := Tryz.sizeOf0
  v0 := Tryz.zeroValue0
  t3 := Tryz.underlying3
  a3 := Tryz.isAgg3
  z3 := Tryz.sizeOf3
  v3 := Tryz.zeroValue3
  t4 := Tryz.underlying4
  a4 := Tryz.isAgg4
  z4 := Tryz.sizeOf4
  v4 := Tryz.zeroValue4
  t5 := Tryz.underlying5
  a5 := Tryz.isAgg5
  z5 := Tryz.sizeOf5
  v5 := Tryz.zeroValue5
  t9 := Tryz.underlying9
  a9 := Tryz.isAgg9
  z9 := Tryz.sizeOf9
  v9 := Tryz.zeroValue9
  t28 := Tryz.underlying42
  a28 := Tryz.isAgg42
  z28 := Tryz.sizeOf42
  v28 := Tryz.zeroValue42
  t46 := Tryz.underlying148
  a46 := Tryz.isAgg148
  z46 := Tryz.sizeOf148
  v46 := Tryz.zeroValue148
  t51 := Tryz.underlying231
  a51 := Tryz.isAgg231
  z51 := Tryz.sizeOf231
  v51 := Tryz.zeroValue231
  t53 := Tryz.underlying251
  a53 := Tryz.isAgg251
  z53 := Tryz.sizeOf251
  v53 := Tryz.zeroValue251
  t131 := Tryz.underlying154
  a131 := Tryz.isAgg154
  z131 := Tryz.sizeOf154
  v131 := Tryz.zeroValue154
  t182 := Tryz.underlying242
  a182 := Tryz.isAgg242
  z182 := Tryz.sizeOf242
  v182 := Tryz.zeroValue242
  t183 := Tryz.underlying243
  a183 := Tryz.isAgg243
  z183 := Tryz.sizeOf243
  v183 := Tryz.zeroValue243
  t218 := Tryz.underlying256
  a218 := Tryz.isAgg256
  z218 := Tryz.sizeOf256
  v218 := Tryz.zeroValue256
  t222 := Tryz.underlying260
  a222 := Tryz.isAgg260
  z222 := Tryz.sizeOf260
  v222 := Tryz.zeroValue260
  t228 := Tryz.underlying267
  a228 := Tryz.isAgg267
  z228 := Tryz.sizeOf267
  v228 := Tryz.zeroValue267
  t229 := Tryz.underlying268
  a229 := Tryz.isAgg268
  z229 := Tryz.sizeOf268
  v229 := Tryz.zeroValue268 }
def Tryz.compI_ren : Go.Shelf.Ren := ⟨fun | 20 => 175 | n => n, fun | 22 => 42 | 3 => 3 | 4 => 4 | 0 => 0 | n => n, fun | n => n⟩
theorem Tryz.compI : Go.Proofs.Lays2.n20 Tryz.prog Tryz.compI_ren := {
  mixed := by kernel_rfl
  f20 := Tryz.func175.trans (congrArg some (by kernel_rfl))
  t0 := Tryz.underlying0
  a0 := Tryz.isAgg0
  z0 := Tryz.sizeOf0
  v0 := Tryz.zeroValue0
  t3 := Tryz.underlying3
  a3 := Tryz.isAgg3
  z3 := Tryz.sizeOf3
  v3 := Tryz.zeroValue3
  t4 := Tryz.underlying4
  a4 := Tryz.isAgg4
  z4 := Tryz.sizeOf4
  v4 := Tryz.zeroValue4
  t22 := Tryz.underlying42
  a22 := Tryz.isAgg42
  z22 := Tryz.sizeOf42
  v22 := Tryz.zeroValue42
  i3 := by kernel_rfl }
end Go.Proofs

end
