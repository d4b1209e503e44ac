/-
  Put together: PEvThird PEvEnough.
-/
import Derived.Test.YtfgkfcfplodaoaaGreatDoorG8
import Derived.Test.YtfgkfcfplodaoaaGreatDoorG16
section
/-!
  PowerOf and Third of spec and impl.
-/
namespace Go.Proofs.YtfgkfcfplodaoaaGreatDoor
set_option maxRecDepth 100000
set_option linter.unusedVariables false
set_option linter.unusedSimpArgs false
open Go Go.RowKit
set_option maxHeartbeats 4000000

noncomputable def mVals := mdl (fun l : List TVal => l.length ≤ 8796093022207) (fun l => [aL cVal l]) (fun l => rB (decide (valsOk l)))
theorem mVals_eq (l : List TVal) (h : l.length ≤ 8796093022207) : mVals [aL cVal l] = some (rB (decide (valsOk l))) := mdl_eq (by intro a b h; simpa using h) l h
theorem valsS_s : Sound Tryz.prog 75 mVals := Sound.listB (s := 2) (fun _ => rfl) fun v l w hl h => (valsOk_spec v l w h hl).mono fun e w' h => h.says
theorem valsI_s : Sound Tryz.prog 168 mVals := Sound.listB (s := 2) (fun _ => rfl) fun v l w hl h => valsOk_impl v l w h hl
theorem vals_at {l : List TVal} (h : valsOk l) {k : Nat} (hk : k < l.length) : 1 ≤ l[k].1 ∧ l[k].1 ≤ 99 ∧ 1 ≤ l[k].2 ∧ l[k].2 ≤ 1000 := by
  have := h.2 k hk
  unfold valAt at this
  simp only [List.getD_eq_getElem?_getD, List.getElem?_eq_getElem hk, Option.getD_some] at this
  exact ⟨this.1, this.2.1, this.2.2.1, this.2.2.2.1⟩

def powC (p : Int → Bool) (v : TVal) : Int := if p v.1 then v.2 else 0
def powSum (p : Int → Bool) (l : List TVal) : Int := (l.map (powC p)).sum
theorem pow_in {p : Int → Bool} {l : List TVal} (h : valsOk l) (k : Nat) (hk : k ≤ l.length) : 0 ≤ sumK (powC p) l k ∧ sumK (powC p) l k ≤ 1000 * k :=
  sumK_in (m := 1000) (fun k hk => by
    obtain ⟨_, _, h3, h4⟩ := vals_at h hk
    unfold powC
    split <;> omega) k hk
theorem powSum_in (p : Int → Bool) {l : List TVal} (h : valsOk l) : 0 ≤ powSum p l ∧ powSum p l ≤ 7000 := by
  have := pow_in (p := p) h l.length (Nat.le_refl _)
  have h7 := h.1.2
  rw [sumK_all _ (Nat.le_refl _)] at this
  unfold powSum
  omega
def powerOf (l : List TVal) : Int := if valsOk l then powSum (fun _ => true) l else 0
def thirdB (l : List TVal) (ids : List Int) : Bool := decide (valsOk l) && decide (powerOf l < 3 * powSum (fun x => decide (x ∈ ids)) l)
theorem powerOf_in (l : List TVal) : 0 ≤ powerOf l ∧ powerOf l ≤ 7000 := by
  unfold powerOf
  split
  · rename_i h; exact powSum_in _ h
  · omega
noncomputable def mPower := mdl (fun l : List TVal => l.length ≤ 8796093022207) (fun l => [aL cVal l]) (fun l => rI (powerOf l))
theorem mPower_eq (l : List TVal) (h : l.length ≤ 8796093022207) : mPower [aL cVal l] = some (rI (powerOf l)) := mdl_eq (by intro a b h; simpa using h) l h

theorem powerS_s : Sound Tryz.prog 77 mPower := by
  refine Sound.mdl Tryz.func77 rfl Tryz.ntmps77 ?_
  rintro l w hl
  refine ⟨by simp, ?_⟩
  replace hl : l.length ≤ 8796093022207 := hl
  have hΓ : GSound Tryz.prog (look [(75, mVals)]) := env_cons (has_of Tryz.func75 rfl rfl) valsS_s env_nil
  have c1 := mVals_eq l hl
  simp only [initS, argPV, List.map_cons, List.map_nil, toPL, Nat.zero_add]
  by_cases hv : valsOk l
  · have hz := sumK_zero (powC fun _ => true) l
    repeat (first | refine zN ?_ | (refine zO ?_; (repeat (first | refine za hΓ ?_ | refine zb hΓ ?_ | refine zc ?_ | refine zd ?_)); refine zE ?_) | refine zT ?_ | refine zF ?_ | with_reducible apply At.blkX rfl)
    refine W.loopA (fun k => k ≤ l.length) (fun k : Nat => [.slot 4 (vI k), .slot 3 (vI (sumK (powC fun _ => true) l k)), .slot 0 (vL cVal l)]) (fun k => l.length - k) 0 (Nat.zero_le _) (h := ?_)
    rintro k hk
    obtain ⟨s0, s1⟩ := pow_in (p := fun _ => true) hv k hk
    by_cases hlt : k < l.length
    · have hrow := row_at cVal l hlt
      simp only [cVal, List.map_cons, List.map_nil] at hrow
      obtain ⟨b1, b2, b3, b4⟩ := vals_at hv hlt
      have h7 := hv.1.2
      have hs : sumK (powC fun _ => true) l (k + 1) = sumK (powC fun _ => true) l k + l[k].2 := by rw [sumK_succ _ hlt]; simp [powC]
      repeat (first | refine zN ?_ | (refine zO ?_; (repeat (first | refine za hΓ ?_ | refine zb hΓ ?_ | refine zc ?_ | refine zd ?_)); refine zE ?_) | refine zT ?_ | refine zF ?_ | with_reducible apply At.blkX rfl)
      exact At.roundA (k + 1) (by omega) (by omega)
    · repeat (first | refine zN ?_ | (refine zO ?_; (repeat (first | refine za hΓ ?_ | refine zb hΓ ?_ | refine zc ?_ | refine zd ?_)); refine zE ?_) | refine zT ?_ | refine zF ?_ | with_reducible apply At.blkX rfl)
      refine At.retA (by rw [Tryz.results77]) (he := ?_)
      rw [sumK_all _ (by omega)]
      simp [powerOf, hv, powSum]
  · repeat (first | refine zN ?_ | (refine zO ?_; (repeat (first | refine za hΓ ?_ | refine zb hΓ ?_ | refine zc ?_ | refine zd ?_)); refine zE ?_) | refine zT ?_ | refine zF ?_ | with_reducible apply At.blkX rfl)
    refine W.loopA (fun _ => True) (fun _ : Nat => [.slot 4 (vI 0), .slot 3 (vI 0), .slot 0 (vL cVal l)]) (fun _ => 0) 0 trivial (h := ?_)
    rintro k -
    by_cases hlt : 0 < l.length
    · repeat (first | refine zN ?_ | (refine zO ?_; (repeat (first | refine za hΓ ?_ | refine zb hΓ ?_ | refine zc ?_ | refine zd ?_)); refine zE ?_) | refine zT ?_ | refine zF ?_ | with_reducible apply At.blkX rfl)
      refine At.retA (by rw [Tryz.results77]) (he := ?_)
      simp [powerOf, hv]
    · repeat (first | refine zN ?_ | (refine zO ?_; (repeat (first | refine za hΓ ?_ | refine zb hΓ ?_ | refine zc ?_ | refine zd ?_)); refine zE ?_) | refine zT ?_ | refine zF ?_ | with_reducible apply At.blkX rfl)
      refine At.retA (by rw [Tryz.results77]) (he := ?_)
      simp [powerOf, hv]

noncomputable def mPow (f : FuncId) (boxes : List (List Leaf)) (p : Int → Bool) := mdl (fun l : List TVal => valsOk l) (fun l => [aL cVal l, .clo f boxes]) (fun l => rI (powSum p l))
theorem mPow_eq (f : FuncId) (boxes : List (List Leaf)) (p : Int → Bool) (l : List TVal) (h : valsOk l) : mPow f boxes p [aL cVal l, .clo f boxes] = some (rI (powSum p l)) := mdl_eq (by intro a b h; simpa using h) l h
theorem pow_s {f : FuncId} {boxes : List (List Leaf)} {p : Int → Bool} {mf : List Arg → Option Res} (hf : Has Tryz.prog f) (hs : Sound Tryz.prog f mf) (hm : ∀ id, mf ([aI id] ++ boxes.map fun c => .row c 0) = some (rB (p id))) : Sound Tryz.prog 169 (mPow f boxes p) := by
  refine Sound.mdl Tryz.func169 rfl Tryz.ntmps169 ?_
  rintro l w hv
  refine ⟨by simp, ?_⟩
  replace hv : valsOk l := hv
  have hΓ : GSound Tryz.prog (look [(f, mf)]) := env_cons hf hs env_nil
  clear hs hf
  have h7 := hv.1.2
  simp only [initS, argPV, List.map_cons, List.map_nil, toPL, Nat.zero_add]
  have hz := sumK_zero (powC p) l
  repeat (first | refine zN ?_ | (refine zO ?_; (repeat (first | refine za hΓ ?_ | refine zb hΓ ?_ | refine zc ?_ | refine zd ?_)); refine zE ?_) | refine zT ?_ | refine zF ?_ | with_reducible apply At.blkX rfl)
  refine W.loopA (fun k => k ≤ l.length) (fun k : Nat => [.slot 10 (vI k), .slot 9 (vI l.length), .slot 8 (vL cVal l), .slot 5 (vI (sumK (powC p) l k)), .slot 0 (vL cVal l), .slot 1 (one (.clo f boxes))]) (fun k => l.length - k) 0 (Nat.zero_le _) (h := ?_)
  rintro k hk
  obtain ⟨s0, s1⟩ := pow_in (p := p) hv k hk
  by_cases hlt : k < l.length
  · have hrow := row_at cVal l hlt
    simp only [cVal, List.map_cons, List.map_nil] at hrow
    obtain ⟨b1, b2, b3, b4⟩ := vals_at hv hlt
    have hm := hm l[k].1
    simp only [List.cons_append, List.nil_append] at hm
    cases hp : p l[k].1 with
    | true =>
      have hs : sumK (powC p) l (k + 1) = sumK (powC p) l k + l[k].2 := by rw [sumK_succ _ hlt]; simp [powC, hp]
      repeat (first | refine zN ?_ | (refine zO ?_; (repeat (first | refine za hΓ ?_ | refine zb hΓ ?_ | refine zc ?_ | refine zd ?_)); refine zE ?_) | refine zT ?_ | refine zF ?_ | with_reducible apply At.blkX rfl)
      exact At.roundA (k + 1) (by omega) (by omega)
    | false =>
      have hs : sumK (powC p) l (k + 1) = sumK (powC p) l k := by rw [sumK_succ _ hlt]; simp [powC, hp]
      repeat (first | refine zN ?_ | (refine zO ?_; (repeat (first | refine za hΓ ?_ | refine zb hΓ ?_ | refine zc ?_ | refine zd ?_)); refine zE ?_) | refine zT ?_ | refine zF ?_ | with_reducible apply At.blkX rfl)
      exact At.roundA (k + 1) (by omega) (by omega)
  · repeat (first | refine zN ?_ | (refine zO ?_; (repeat (first | refine za hΓ ?_ | refine zb hΓ ?_ | refine zc ?_ | refine zd ?_)); refine zE ?_) | refine zT ?_ | refine zF ?_ | with_reducible apply At.blkX rfl)
    refine At.retA (by rw [Tryz.results169]) (he := ?_)
    rw [sumK_all _ (by omega)]
    rfl

noncomputable def mTrue := mdl (fun _ : Int => True) (fun x => [aI x]) (fun _ => rB true)
theorem mTrue_eq (x : Int) : mTrue [aI x] = some (rB true) := mdl_eq (by intro a b h; simpa using h) x trivial
theorem true_s : Sound Tryz.prog 217 mTrue := by
  refine Sound.mdl Tryz.func217 rfl Tryz.ntmps217 ?_
  rintro x w -
  refine ⟨by simp, ?_⟩
  have hΓ : GSound Tryz.prog (look []) := env_nil
  simp only [initS, argPV, List.map_cons, List.map_nil, toPL, Nat.zero_add]
  repeat (first | refine zN ?_ | (refine zO ?_; (repeat (first | refine za hΓ ?_ | refine zb hΓ ?_ | refine zc ?_ | refine zd ?_)); refine zE ?_) | refine zT ?_ | refine zF ?_ | with_reducible apply At.blkX rfl)
  refine At.retA (by rw [Tryz.results217]) (he := rfl)
theorem powerI_s : Sound Tryz.prog 172 mPower := by
  refine Sound.mdl Tryz.func172 rfl Tryz.ntmps172 ?_
  rintro l w hl
  refine ⟨by simp, ?_⟩
  replace hl : l.length ≤ 8796093022207 := hl
  have hΓ : GSound Tryz.prog (look [(168, mVals), (169, mPow 217 [] fun _ => true)]) := env_cons (has_of Tryz.func168 rfl rfl) valsI_s (env_cons (has_of Tryz.func169 rfl rfl) (pow_s (has_of Tryz.func217 rfl rfl) true_s mTrue_eq) env_nil)
  have c1 := mVals_eq l hl
  simp only [initS, argPV, List.map_cons, List.map_nil, toPL, Nat.zero_add]
  by_cases hv : valsOk l
  · have c2 := mPow_eq 217 [] (fun _ => true) l hv
    repeat (first | refine zN ?_ | (refine zO ?_; (repeat (first | refine za hΓ ?_ | refine zb hΓ ?_ | refine zc ?_ | refine zd ?_)); refine zE ?_) | refine zT ?_ | refine zF ?_ | with_reducible apply At.blkX rfl)
    refine At.retA (by rw [Tryz.results172]) (he := ?_)
    simp [powerOf, hv]
  · repeat (first | refine zN ?_ | (refine zO ?_; (repeat (first | refine za hΓ ?_ | refine zb hΓ ?_ | refine zc ?_ | refine zd ?_)); refine zE ?_) | refine zT ?_ | refine zF ?_ | with_reducible apply At.blkX rfl)
    refine At.retA (by rw [Tryz.results172]) (he := ?_)
    simp [powerOf, hv]

noncomputable def mIn2 := mdl (fun x : List Int × Int => x.1.length ≤ 8796093022207) (fun x => [aI x.2, .row [.sl (rowsF cInt x.1)] 0]) (fun x => rB (decide (x.2 ∈ x.1)))
theorem mIn2_eq (ids : List Int) (h : ids.length ≤ 8796093022207) (x : Int) : mIn2 [aI x, .row [.sl (rowsF cInt ids)] 0] = some (rB (decide (x ∈ ids))) := mdl_eq (by rintro ⟨a, b⟩ ⟨d, e⟩ h; simpa [and_comm] using h) (ids, x) h
theorem third1_s : Sound Tryz.prog 170 mIn2 := by
  refine Sound.mdl Tryz.func170 rfl Tryz.ntmps170 ?_
  rintro ⟨ids, x⟩ w hi
  refine ⟨by simp, ?_⟩
  replace hi : ids.length ≤ 8796093022207 := hi
  have hΓ : GSound Tryz.prog (look [(171, mCont)]) := env_cons (has_of Tryz.func171 rfl rfl) cont_s env_nil
  have c1 := mCont_eq ids x hi
  simp only [initS, argPV, List.map_cons, List.map_nil, toPL, Nat.zero_add]
  repeat (first | refine zN ?_ | (refine zO ?_; (repeat (first | refine za hΓ ?_ | refine zb hΓ ?_ | refine zc ?_ | refine zd ?_)); refine zE ?_) | refine zT ?_ | refine zF ?_ | with_reducible apply At.blkX rfl)
  refine At.retA (by rw [Tryz.results170]) (he := rfl)
abbrev okThird (x : List TVal × List Int) : Prop := x.1.length ≤ 8796093022207 ∧ x.2.length ≤ 8796093022207
noncomputable def mThird := mdl okThird (fun x => [aL cVal x.1, aL cInt x.2]) (fun x => rB (thirdB x.1 x.2))
theorem mThird_eq (l : List TVal) (ids : List Int) (h1 : l.length ≤ 8796093022207) (h2 : ids.length ≤ 8796093022207) : mThird [aL cVal l, aL cInt ids] = some (rB (thirdB l ids)) := mdl_eq (by rintro ⟨a, b⟩ ⟨d, e⟩ h; simpa using h) (l, ids) ⟨h1, h2⟩
theorem thirdI_s : Sound Tryz.prog 127 mThird := by
  refine Sound.mdl Tryz.func127 rfl Tryz.ntmps127 ?_
  rintro ⟨l, ids⟩ w ⟨hl, hi⟩
  refine ⟨by simp, ?_⟩
  replace hl : l.length ≤ 8796093022207 := hl
  replace hi : ids.length ≤ 8796093022207 := hi
  have hΓ : GSound Tryz.prog (look [(168, mVals), (172, mPower), (169, mPow 170 [[.sl (rowsF cInt ids)]] fun x => decide (x ∈ ids))]) := env_cons (has_of Tryz.func168 rfl rfl) valsI_s (env_cons (has_of Tryz.func172 rfl rfl) powerI_s (env_cons (has_of Tryz.func169 rfl rfl) (pow_s (has_of Tryz.func170 rfl rfl) third1_s (mIn2_eq ids hi)) env_nil))
  have c1 := mVals_eq l hl
  have c3 := mPower_eq l hl
  obtain ⟨p1, p2⟩ := powerOf_in l
  simp only [initS, argPV, List.map_cons, List.map_nil, toPL, Nat.zero_add]
  by_cases hv : valsOk l
  · have c2 := mPow_eq 170 [[.sl (rowsF cInt ids)]] (fun x => decide (x ∈ ids)) l hv
    obtain ⟨q1, q2⟩ := powSum_in (fun x => decide (x ∈ ids)) hv
    repeat (first | refine zN ?_ | (refine zO ?_; (repeat (first | refine za hΓ ?_ | refine zb hΓ ?_ | refine zc ?_ | refine zd ?_)); refine zE ?_) | refine zT ?_ | refine zF ?_ | with_reducible apply At.blkX rfl)
    refine At.retA (by rw [Tryz.results127]) (he := ?_)
    simp [thirdB, hv]
  · repeat (first | refine zN ?_ | (refine zO ?_; (repeat (first | refine za hΓ ?_ | refine zb hΓ ?_ | refine zc ?_ | refine zd ?_)); refine zE ?_) | refine zT ?_ | refine zF ?_ | with_reducible apply At.blkX rfl)
    refine At.retA (by rw [Tryz.results127]) (he := ?_)
    simp [thirdB, hv]
theorem thirdS_s : Sound Tryz.prog 24 mThird := by
  refine Sound.mdl Tryz.func24 rfl Tryz.ntmps24 ?_
  rintro ⟨l, ids⟩ w ⟨hl, hi⟩
  refine ⟨by simp, ?_⟩
  replace hl : l.length ≤ 8796093022207 := hl
  replace hi : ids.length ≤ 8796093022207 := hi
  have hΓ : GSound Tryz.prog (look [(75, mVals), (77, mPower), (76, mHas)]) := env_cons (has_of Tryz.func75 rfl rfl) valsS_s (env_cons (has_of Tryz.func77 rfl rfl) powerS_s (env_cons (has_of Tryz.func76 rfl rfl) has_s env_nil))
  have c1 := mVals_eq l hl
  have c2 := fun x => mHas_eq ids x hi
  have c3 := mPower_eq l hl
  obtain ⟨p1, p2⟩ := powerOf_in l
  simp only [initS, argPV, List.map_cons, List.map_nil, toPL, Nat.zero_add]
  by_cases hv : valsOk l
  · have hz := sumK_zero (powC fun x => decide (x ∈ ids)) l
    repeat (first | refine zN ?_ | (refine zO ?_; (repeat (first | refine za hΓ ?_ | refine zb hΓ ?_ | refine zc ?_ | refine zd ?_)); refine zE ?_) | refine zT ?_ | refine zF ?_ | with_reducible apply At.blkX rfl)
    refine W.loopA (fun k => k ≤ l.length) (fun k : Nat => [.slot 6 (vI k), .slot 5 (vI (sumK (powC fun x => decide (x ∈ ids)) l k)), .slot 0 (vL cVal l), .slot 1 (vL cInt ids)]) (fun k => l.length - k) 0 (Nat.zero_le _) (h := ?_)
    rintro k hk
    obtain ⟨s0, s1⟩ := pow_in (p := fun x => decide (x ∈ ids)) hv k hk
    have h7 := hv.1.2
    by_cases hlt : k < l.length
    · have hrow := row_at cVal l hlt
      simp only [cVal, List.map_cons, List.map_nil] at hrow
      obtain ⟨b1, b2, b3, b4⟩ := vals_at hv hlt
      by_cases hm : l[k].1 ∈ ids
      · have hs : sumK (powC fun x => decide (x ∈ ids)) l (k + 1) = sumK (powC fun x => decide (x ∈ ids)) l k + l[k].2 := by rw [sumK_succ _ hlt]; simp [powC, hm]
        repeat (first | refine zN ?_ | (refine zO ?_; (repeat (first | refine za hΓ ?_ | refine zb hΓ ?_ | refine zc ?_ | refine zd ?_)); refine zE ?_) | refine zT ?_ | refine zF ?_ | with_reducible apply At.blkX rfl)
        exact At.roundA (k + 1) (by omega) (by omega)
      · have hs : sumK (powC fun x => decide (x ∈ ids)) l (k + 1) = sumK (powC fun x => decide (x ∈ ids)) l k := by rw [sumK_succ _ hlt]; simp [powC, hm]
        repeat (first | refine zN ?_ | (refine zO ?_; (repeat (first | refine za hΓ ?_ | refine zb hΓ ?_ | refine zc ?_ | refine zd ?_)); refine zE ?_) | refine zT ?_ | refine zF ?_ | with_reducible apply At.blkX rfl)
        exact At.roundA (k + 1) (by omega) (by omega)
    · repeat (first | refine zN ?_ | (refine zO ?_; (repeat (first | refine za hΓ ?_ | refine zb hΓ ?_ | refine zc ?_ | refine zd ?_)); refine zE ?_) | refine zT ?_ | refine zF ?_ | with_reducible apply At.blkX rfl)
      refine At.retA (by rw [Tryz.results24]) (he := ?_)
      rw [sumK_all _ (by omega)]
      simp only [thirdB, hv, decide_true, Bool.true_and, powSum]
      first | rfl | congr
  · repeat (first | refine zN ?_ | (refine zO ?_; (repeat (first | refine za hΓ ?_ | refine zb hΓ ?_ | refine zc ?_ | refine zd ?_)); refine zE ?_) | refine zT ?_ | refine zF ?_ | with_reducible apply At.blkX rfl)
    refine W.loopA (fun _ => True) (fun _ : Nat => [.slot 6 (vI 0), .slot 5 (vI 0), .slot 0 (vL cVal l), .slot 1 (vL cInt ids)]) (fun _ => 0) 0 trivial (h := ?_)
    rintro k -
    by_cases hlt : 0 < l.length
    · repeat (first | refine zN ?_ | (refine zO ?_; (repeat (first | refine za hΓ ?_ | refine zb hΓ ?_ | refine zc ?_ | refine zd ?_)); refine zE ?_) | refine zT ?_ | refine zF ?_ | with_reducible apply At.blkX rfl)
      refine At.retA (by rw [Tryz.results24]) (he := ?_)
      simp [thirdB, hv]
    · repeat (first | refine zN ?_ | (refine zO ?_; (repeat (first | refine za hΓ ?_ | refine zb hΓ ?_ | refine zc ?_ | refine zd ?_)); refine zE ?_) | refine zT ?_ | refine zF ?_ | with_reducible apply At.blkX rfl)
      refine At.retA (by rw [Tryz.results24]) (he := ?_)
      simp [thirdB, hv]


end Go.Proofs.YtfgkfcfplodaoaaGreatDoor

end
section
/-!
  Enough of spec and impl.
-/
namespace Go.Proofs.YtfgkfcfplodaoaaGreatDoor
set_option maxRecDepth 100000
set_option linter.unusedVariables false
set_option linter.unusedSimpArgs false
open Go Go.RowKit
set_option maxHeartbeats 4000000

def enoughB (l : List TVal) (ids : List Int) : Bool := decide (valsOk l) && decide (2 * powerOf l < 3 * powSum (fun x => decide (x ∈ ids)) l)
theorem enough1_s : Sound Tryz.prog 240 mIn2 := by
  refine Sound.mdl Tryz.func240 rfl Tryz.ntmps240 ?_
  rintro ⟨ids, x⟩ w hi
  refine ⟨by simp, ?_⟩
  replace hi : ids.length ≤ 8796093022207 := hi
  have hΓ : GSound Tryz.prog (look [(171, mCont)]) := env_cons (has_of Tryz.func171 rfl rfl) cont_s env_nil
  have c1 := mCont_eq ids x hi
  simp only [initS, argPV, List.map_cons, List.map_nil, toPL, Nat.zero_add]
  repeat (first | refine zN ?_ | (refine zO ?_; (repeat (first | refine za hΓ ?_ | refine zb hΓ ?_ | refine zc ?_ | refine zd ?_)); refine zE ?_) | refine zT ?_ | refine zF ?_ | with_reducible apply At.blkX rfl)
  refine At.retA (by rw [Tryz.results240]) (he := rfl)
abbrev okEnough (x : List TVal × List Int) : Prop := x.1.length ≤ 8796093022207 ∧ x.2.length ≤ 8796093022207
noncomputable def mEnough := mdl okEnough (fun x => [aL cVal x.1, aL cInt x.2]) (fun x => rB (enoughB x.1 x.2))
theorem mEnough_eq (l : List TVal) (ids : List Int) (h1 : l.length ≤ 8796093022207) (h2 : ids.length ≤ 8796093022207) : mEnough [aL cVal l, aL cInt ids] = some (rB (enoughB l ids)) := mdl_eq (by rintro ⟨a, b⟩ ⟨d, e⟩ h; simpa using h) (l, ids) ⟨h1, h2⟩
theorem enoughI_s : Sound Tryz.prog 215 mEnough := by
  refine Sound.mdl Tryz.func215 rfl Tryz.ntmps215 ?_
  rintro ⟨l, ids⟩ w ⟨hl, hi⟩
  refine ⟨by simp, ?_⟩
  replace hl : l.length ≤ 8796093022207 := hl
  replace hi : ids.length ≤ 8796093022207 := hi
  have hΓ : GSound Tryz.prog (look [(168, mVals), (172, mPower), (169, mPow 240 [[.sl (rowsF cInt ids)]] fun x => decide (x ∈ ids))]) := env_cons (has_of Tryz.func168 rfl rfl) valsI_s (env_cons (has_of Tryz.func172 rfl rfl) powerI_s (env_cons (has_of Tryz.func169 rfl rfl) (pow_s (has_of Tryz.func240 rfl rfl) enough1_s (mIn2_eq ids hi)) env_nil))
  have c1 := mVals_eq l hl
  have c3 := mPower_eq l hl
  obtain ⟨p1, p2⟩ := powerOf_in l
  simp only [initS, argPV, List.map_cons, List.map_nil, toPL, Nat.zero_add]
  by_cases hv : valsOk l
  · have c2 := mPow_eq 240 [[.sl (rowsF cInt ids)]] (fun x => decide (x ∈ ids)) l hv
    obtain ⟨q1, q2⟩ := powSum_in (fun x => decide (x ∈ ids)) hv
    repeat (first | refine zN ?_ | (refine zO ?_; (repeat (first | refine za hΓ ?_ | refine zb hΓ ?_ | refine zc ?_ | refine zd ?_)); refine zE ?_) | refine zT ?_ | refine zF ?_ | with_reducible apply At.blkX rfl)
    refine At.retA (by rw [Tryz.results215]) (he := ?_)
    simp [enoughB, hv]
  · repeat (first | refine zN ?_ | (refine zO ?_; (repeat (first | refine za hΓ ?_ | refine zb hΓ ?_ | refine zc ?_ | refine zd ?_)); refine zE ?_) | refine zT ?_ | refine zF ?_ | with_reducible apply At.blkX rfl)
    refine At.retA (by rw [Tryz.results215]) (he := ?_)
    simp [enoughB, hv]
theorem enoughS_s : Sound Tryz.prog 176 mEnough := by
  refine Sound.mdl Tryz.func176 rfl Tryz.ntmps176 ?_
  rintro ⟨l, ids⟩ w ⟨hl, hi⟩
  refine ⟨by simp, ?_⟩
  replace hl : l.length ≤ 8796093022207 := hl
  replace hi : ids.length ≤ 8796093022207 := hi
  have hΓ : GSound Tryz.prog (look [(75, mVals), (77, mPower), (76, mHas)]) := env_cons (has_of Tryz.func75 rfl rfl) valsS_s (env_cons (has_of Tryz.func77 rfl rfl) powerS_s (env_cons (has_of Tryz.func76 rfl rfl) has_s env_nil))
  have c1 := mVals_eq l hl
  have c2 := fun x => mHas_eq ids x hi
  have c3 := mPower_eq l hl
  obtain ⟨p1, p2⟩ := powerOf_in l
  simp only [initS, argPV, List.map_cons, List.map_nil, toPL, Nat.zero_add]
  by_cases hv : valsOk l
  · have hz := sumK_zero (powC fun x => decide (x ∈ ids)) l
    repeat (first | refine zN ?_ | (refine zO ?_; (repeat (first | refine za hΓ ?_ | refine zb hΓ ?_ | refine zc ?_ | refine zd ?_)); refine zE ?_) | refine zT ?_ | refine zF ?_ | with_reducible apply At.blkX rfl)
    refine W.loopA (fun k => k ≤ l.length) (fun k : Nat => [.slot 6 (vI k), .slot 5 (vI (sumK (powC fun x => decide (x ∈ ids)) l k)), .slot 0 (vL cVal l), .slot 1 (vL cInt ids)]) (fun k => l.length - k) 0 (Nat.zero_le _) (h := ?_)
    rintro k hk
    obtain ⟨s0, s1⟩ := pow_in (p := fun x => decide (x ∈ ids)) hv k hk
    have h7 := hv.1.2
    by_cases hlt : k < l.length
    · have hrow := row_at cVal l hlt
      simp only [cVal, List.map_cons, List.map_nil] at hrow
      obtain ⟨b1, b2, b3, b4⟩ := vals_at hv hlt
      by_cases hm : l[k].1 ∈ ids
      · have hs : sumK (powC fun x => decide (x ∈ ids)) l (k + 1) = sumK (powC fun x => decide (x ∈ ids)) l k + l[k].2 := by rw [sumK_succ _ hlt]; simp [powC, hm]
        repeat (first | refine zN ?_ | (refine zO ?_; (repeat (first | refine za hΓ ?_ | refine zb hΓ ?_ | refine zc ?_ | refine zd ?_)); refine zE ?_) | refine zT ?_ | refine zF ?_ | with_reducible apply At.blkX rfl)
        exact At.roundA (k + 1) (by omega) (by omega)
      · have hs : sumK (powC fun x => decide (x ∈ ids)) l (k + 1) = sumK (powC fun x => decide (x ∈ ids)) l k := by rw [sumK_succ _ hlt]; simp [powC, hm]
        repeat (first | refine zN ?_ | (refine zO ?_; (repeat (first | refine za hΓ ?_ | refine zb hΓ ?_ | refine zc ?_ | refine zd ?_)); refine zE ?_) | refine zT ?_ | refine zF ?_ | with_reducible apply At.blkX rfl)
        exact At.roundA (k + 1) (by omega) (by omega)
    · repeat (first | refine zN ?_ | (refine zO ?_; (repeat (first | refine za hΓ ?_ | refine zb hΓ ?_ | refine zc ?_ | refine zd ?_)); refine zE ?_) | refine zT ?_ | refine zF ?_ | with_reducible apply At.blkX rfl)
      refine At.retA (by rw [Tryz.results176]) (he := ?_)
      rw [sumK_all _ (by omega)]
      simp only [enoughB, hv, decide_true, Bool.true_and, powSum]
      first | rfl | congr
  · repeat (first | refine zN ?_ | (refine zO ?_; (repeat (first | refine za hΓ ?_ | refine zb hΓ ?_ | refine zc ?_ | refine zd ?_)); refine zE ?_) | refine zT ?_ | refine zF ?_ | with_reducible apply At.blkX rfl)
    refine W.loopA (fun _ => True) (fun _ : Nat => [.slot 6 (vI 0), .slot 5 (vI 0), .slot 0 (vL cVal l), .slot 1 (vL cInt ids)]) (fun _ => 0) 0 trivial (h := ?_)
    rintro k -
    by_cases hlt : 0 < l.length
    · repeat (first | refine zN ?_ | (refine zO ?_; (repeat (first | refine za hΓ ?_ | refine zb hΓ ?_ | refine zc ?_ | refine zd ?_)); refine zE ?_) | refine zT ?_ | refine zF ?_ | with_reducible apply At.blkX rfl)
      refine At.retA (by rw [Tryz.results176]) (he := ?_)
      simp [enoughB, hv]
    · repeat (first | refine zN ?_ | (refine zO ?_; (repeat (first | refine za hΓ ?_ | refine zb hΓ ?_ | refine zc ?_ | refine zd ?_)); refine zE ?_) | refine zT ?_ | refine zF ?_ | with_reducible apply At.blkX rfl)
      refine At.retA (by rw [Tryz.results176]) (he := ?_)
      simp [enoughB, hv]
end Go.Proofs.YtfgkfcfplodaoaaGreatDoor

end
