/-
  Reward of spec.
-/
import Derived.Test.YtlchfjjoendimaaEvRew
namespace Go.Proofs.Ytlchfjjoendimaa
set_option maxRecDepth 100000
set_option linter.unusedVariables false
set_option linter.unusedSimpArgs false
open Go Go.RowKit
set_option maxHeartbeats 4000000
set_option linter.unusedVariables false

theorem two {α : Type} (a : α) (f : Nat → α) : ∃ J : Nat → α, J 0 = a ∧ ∀ k, J (k + 1) = f k := ⟨fun k => match k with | 0 => a | k + 1 => f k, rfl, fun _ => rfl⟩
abbrev bAcct (a : TAcct) : List Leaf := [.sc (.int .i64 a.1), .sc (.int .i64 a.2)]
abbrev bVal (a : TVal) : List Leaf := [.sc (.int .i64 a.1), .sc (.int .i64 a.2)]
theorem acct_row {l : List TAcct} {k : Nat} (h : k < l.length) : (rowsF cAcct l)[k]? = some (bAcct l[k]) := rowsF_get cAcct l k h
theorem val_row {l : List TVal} {k : Nat} (h : k < l.length) : (rowsF cVal l)[k]? = some (bVal l[k]) := rowsF_get cVal l k h
theorem cAcct_app (l : List TAcct) (t : TAcct) : rowsF cAcct l ++ [bAcct t] = rowsF cAcct (l ++ [t]) := by rw [← rowsF_app]; rfl
theorem cIntA_app (l : List Int) (t : Int) : rowsF cInt l ++ [[.sc (.int .i64 t)]] = rowsF cInt (l ++ [t]) := by rw [← rowsF_app]; rfl
abbrev okGive (x : List TAcct × Int × Int) : Prop := Asc x.1 ∧ x.1.length ≤ 1000 ∧ (∀ a ∈ x.1, 0 ≤ a.2 ∧ a.2 ≤ 1000000000) ∧ 0 ≤ x.2.2 ∧ x.2.2 ≤ 1000000000
noncomputable def mGive := mdl okGive (fun x => [aL cAcct x.1, aI x.2.1, aI x.2.2]) (fun x => rL 122 2 cAcct (give x.2.1 x.2.2 x.1))
theorem mGive_eq (l : List TAcct) (id n : Int) (h : okGive (l, id, n)) : mGive [aL cAcct l, aI id, aI n] = some (rL 122 2 cAcct (give id n l)) := mdl_eq (by rintro ⟨a, b, c⟩ ⟨d, e, f⟩ h; simpa using h) (l, id, n) h
theorem give_s : Sound Try.prog 110 mGive := by
  refine Sound.mdl Try.func110 rfl Try.ntmps110 ?_
  rintro ⟨l, id, n⟩ w ⟨hs, hl, hb, hn0, hn1⟩
  refine ⟨by simp, ?_⟩
  dsimp only at hs hl hb hn0 hn1
  have hΓ : GSound Try.prog (look []) := env_nil
  have hnil : ([] : List (List Leaf)) = rowsF cAcct [] := rfl
  simp only [initS, argPV, List.map_cons, List.map_nil, toPL, Nat.zero_add]
  repeat (first | with_reducible apply W.seq | with_reducible apply W.block | with_reducible apply W.skip | with_reducible apply W.exit | with_reducible apply W.ret | with_reducible apply At.seqN | with_reducible apply At.blkN | with_reducible apply At.blkE | with_reducible apply At.blkR | with_reducible apply At.thenX | with_reducible apply At.thenR | with_reducible apply At.blkX rfl | ((with_reducible apply W.ops); (repeat (first | refine WL.opA hΓ (h := ?_) | refine WL.opX hΓ (h := ?_) | refine WL.opY (h := ?_) | refine WL.opZ (h := ?_))); with_reducible apply WL.nil) | refine W.condT (h := ?_) | refine W.condF (h := ?_))
  refine W.loopA (fun x : Nat × List TAcct × Bool => gfo id n (l.take x.1) = (x.2.1, x.2.2) ∧ x.1 ≤ l.length) (fun x => [.slot 0 (vL cAcct l), .slot 1 (vI id), .slot 2 (vI n), .slot 7 (one (.all 11)), .blk 11 (.arr true 122 2 (rowsF cAcct x.2.1)), .slot 8 (one (.sc (.bool x.2.2))), .slot 9 (vI x.1)]) (fun x => l.length - x.1) (0, [], false) ⟨by simp [gfo], Nat.zero_le _⟩ (h := ?_)
  rintro ⟨k, o, p⟩ ⟨hfo, hk⟩
  dsimp only at hfo hk ⊢
  have hol := gfo_len id n (l.take k)
  rw [hfo, List.length_take] at hol
  dsimp only at hol
  replace hol : o.length ≤ 2000 := by omega
  have e1 := cAcct_app o (id, n)
  dsimp only [bAcct] at e1
  clear hnil
  by_cases hlt : k < l.length
  · have hrow := acct_row hlt
    have hstep := gfo_succ id n l hlt
    obtain ⟨b0, b1⟩ := hb _ (List.getElem_mem hlt)
    rw [hfo] at hstep
    clear hfo
    generalize l[k] = x at hrow hstep b0 b1
    obtain ⟨d, e⟩ := x
    have e2 := cAcct_app o (d, e)
    have e3 := cAcct_app (o ++ [(id, n)]) (d, e)
    have e4 := cAcct_app o (d, e + n)
    have hl3 : (o ++ [(id, n)]).length ≤ 2001 := by simp; omega
    dsimp only [bAcct] at hrow e2 e3 e4 b0 b1
    unfold gst at hstep
    dsimp only at hstep
    rcases Int.lt_trichotomy d id with ha | ha | ha
    · have ha2 : ¬ d = id := by omega
      rw [if_pos ha] at hstep
      cases p with
      | true =>
        repeat (first | with_reducible apply W.seq | with_reducible apply W.block | with_reducible apply W.skip | with_reducible apply W.exit | with_reducible apply W.ret | with_reducible apply At.seqN | with_reducible apply At.blkN | with_reducible apply At.blkE | with_reducible apply At.blkR | with_reducible apply At.thenX | with_reducible apply At.thenR | with_reducible apply At.blkX rfl | ((with_reducible apply W.ops); (repeat (first | refine WL.opA hΓ (h := ?_) | refine WL.opX hΓ (h := ?_) | refine WL.opY (h := ?_) | refine WL.opZ (h := ?_))); with_reducible apply WL.nil) | refine W.condT (h := ?_) | refine W.condF (h := ?_))
        exact At.roundA (k + 1, o ++ [(d, e)], true) ⟨hstep, by dsimp only; omega⟩ (by dsimp only; omega)
      | false =>
        repeat (first | with_reducible apply W.seq | with_reducible apply W.block | with_reducible apply W.skip | with_reducible apply W.exit | with_reducible apply W.ret | with_reducible apply At.seqN | with_reducible apply At.blkN | with_reducible apply At.blkE | with_reducible apply At.blkR | with_reducible apply At.thenX | with_reducible apply At.thenR | with_reducible apply At.blkX rfl | ((with_reducible apply W.ops); (repeat (first | refine WL.opA hΓ (h := ?_) | refine WL.opX hΓ (h := ?_) | refine WL.opY (h := ?_) | refine WL.opZ (h := ?_))); with_reducible apply WL.nil) | refine W.condT (h := ?_) | refine W.condF (h := ?_))
        exact At.roundA (k + 1, o ++ [(d, e)], false) ⟨hstep, by dsimp only; omega⟩ (by dsimp only; omega)
    · subst ha
      rw [if_neg (by omega), if_pos rfl] at hstep
      cases p with
      | true =>
        repeat (first | with_reducible apply W.seq | with_reducible apply W.block | with_reducible apply W.skip | with_reducible apply W.exit | with_reducible apply W.ret | with_reducible apply At.seqN | with_reducible apply At.blkN | with_reducible apply At.blkE | with_reducible apply At.blkR | with_reducible apply At.thenX | with_reducible apply At.thenR | with_reducible apply At.blkX rfl | ((with_reducible apply W.ops); (repeat (first | refine WL.opA hΓ (h := ?_) | refine WL.opX hΓ (h := ?_) | refine WL.opY (h := ?_) | refine WL.opZ (h := ?_))); with_reducible apply WL.nil) | refine W.condT (h := ?_) | refine W.condF (h := ?_))
        exact At.roundA (k + 1, o ++ [(d, e + n)], true) ⟨hstep, by dsimp only; omega⟩ (by dsimp only; omega)
      | false =>
        repeat (first | with_reducible apply W.seq | with_reducible apply W.block | with_reducible apply W.skip | with_reducible apply W.exit | with_reducible apply W.ret | with_reducible apply At.seqN | with_reducible apply At.blkN | with_reducible apply At.blkE | with_reducible apply At.blkR | with_reducible apply At.thenX | with_reducible apply At.thenR | with_reducible apply At.blkX rfl | ((with_reducible apply W.ops); (repeat (first | refine WL.opA hΓ (h := ?_) | refine WL.opX hΓ (h := ?_) | refine WL.opY (h := ?_) | refine WL.opZ (h := ?_))); with_reducible apply WL.nil) | refine W.condT (h := ?_) | refine W.condF (h := ?_))
        exact At.roundA (k + 1, o ++ [(d, e + n)], true) ⟨hstep, by dsimp only; omega⟩ (by dsimp only; omega)
    · have ha2 : ¬ d = id := by omega
      rw [if_neg (by omega), if_neg ha2] at hstep
      cases p with
      | true =>
        rw [if_pos rfl] at hstep
        repeat (first | with_reducible apply W.seq | with_reducible apply W.block | with_reducible apply W.skip | with_reducible apply W.exit | with_reducible apply W.ret | with_reducible apply At.seqN | with_reducible apply At.blkN | with_reducible apply At.blkE | with_reducible apply At.blkR | with_reducible apply At.thenX | with_reducible apply At.thenR | with_reducible apply At.blkX rfl | ((with_reducible apply W.ops); (repeat (first | refine WL.opA hΓ (h := ?_) | refine WL.opX hΓ (h := ?_) | refine WL.opY (h := ?_) | refine WL.opZ (h := ?_))); with_reducible apply WL.nil) | refine W.condT (h := ?_) | refine W.condF (h := ?_))
        exact At.roundA (k + 1, o ++ [(d, e)], true) ⟨hstep, by dsimp only; omega⟩ (by dsimp only; omega)
      | false =>
        rw [if_neg (by simp)] at hstep
        repeat (first | with_reducible apply W.seq | with_reducible apply W.block | with_reducible apply W.skip | with_reducible apply W.exit | with_reducible apply W.ret | with_reducible apply At.seqN | with_reducible apply At.blkN | with_reducible apply At.blkE | with_reducible apply At.blkR | with_reducible apply At.thenX | with_reducible apply At.thenR | with_reducible apply At.blkX rfl | ((with_reducible apply W.ops); (repeat (first | refine WL.opA hΓ (h := ?_) | refine WL.opX hΓ (h := ?_) | refine WL.opY (h := ?_) | refine WL.opZ (h := ?_))); with_reducible apply WL.nil) | refine W.condT (h := ?_) | refine W.condF (h := ?_))
        exact At.roundA (k + 1, (o ++ [(id, n)]) ++ [(d, e)], true) ⟨hstep, by dsimp only; omega⟩ (by dsimp only; omega)
  · have hkl : k = l.length := by omega
    subst hkl
    rw [List.take_length] at hfo
    have hg := gfo_all hs hfo
    clear hfo
    cases p with
    | true =>
      rw [if_pos rfl] at hg
      subst hg
      repeat (first | with_reducible apply W.seq | with_reducible apply W.block | with_reducible apply W.skip | with_reducible apply W.exit | with_reducible apply W.ret | with_reducible apply At.seqN | with_reducible apply At.blkN | with_reducible apply At.blkE | with_reducible apply At.blkR | with_reducible apply At.thenX | with_reducible apply At.thenR | with_reducible apply At.blkX rfl | ((with_reducible apply W.ops); (repeat (first | refine WL.opA hΓ (h := ?_) | refine WL.opX hΓ (h := ?_) | refine WL.opY (h := ?_) | refine WL.opZ (h := ?_))); with_reducible apply WL.nil) | refine W.condT (h := ?_) | refine W.condF (h := ?_))
      refine At.retA (by rw [Try.results110]) (he := rfl)
    | false =>
      rw [if_neg (by simp)] at hg
      rw [hg] at e1
      repeat (first | with_reducible apply W.seq | with_reducible apply W.block | with_reducible apply W.skip | with_reducible apply W.exit | with_reducible apply W.ret | with_reducible apply At.seqN | with_reducible apply At.blkN | with_reducible apply At.blkE | with_reducible apply At.blkR | with_reducible apply At.thenX | with_reducible apply At.thenR | with_reducible apply At.blkX rfl | ((with_reducible apply W.ops); (repeat (first | refine WL.opA hΓ (h := ?_) | refine WL.opX hΓ (h := ?_) | refine WL.opY (h := ?_) | refine WL.opZ (h := ?_))); with_reducible apply WL.nil) | refine W.condT (h := ?_) | refine W.condF (h := ?_))
      refine At.retA (by rw [Try.results110]) (he := rfl)
abbrev encRw (x : List TAcct × List TVal × Int) : List Arg := [aL cAcct x.1, aL cVal x.2.1, aI x.2.2]
abbrev okRw (x : List TAcct × List TVal × Int) : Prop := x.1.length ≤ 8796093022207 ∧ x.2.1.length ≤ 8796093022207
abbrev rRws (x : List TAcct × List TVal × Int) : Res := rTL 122 2 cAcct (rewL x.1 x.2.1 x.2.2) [rSc (.bool (rewB x.1 x.2.1 x.2.2))]
abbrev rRwi (x : List TAcct × List TVal × Int) : Res := if acctsOk x.1 then rTL 122 2 cAcct (rewL x.1 x.2.1 x.2.2) [rSc (.bool (rewB x.1 x.2.1 x.2.2))] else rTN [rSc (.bool false)]
noncomputable def mRws := mdl okRw encRw rRws
noncomputable def mRwi := mdl okRw encRw rRwi
theorem encRw_inj : ∀ x y, encRw x = encRw y → x = y := by
  rintro ⟨l, a, b⟩ ⟨l2, d, e⟩ h
  simpa [encRw] using h
theorem rewS_s : Sound Try.prog 41 mRws := by
  refine Sound.mdl Try.func41 rfl Try.ntmps41 ?_
  rintro ⟨l, vals, coins⟩ w ⟨hl, hvl⟩
  refine ⟨by simp, ?_⟩
  replace hl : l.length ≤ 8796093022207 := hl
  replace hvl : vals.length ≤ 8796093022207 := hvl
  have hΓ : GSound Try.prog (look [(44, mAccts), (52, mVals), (89, mIn), (75, mPower), (110, mGive)]) := env_cons (has_of Try.func44 rfl rfl) acctsS_s (env_cons (has_of Try.func52 rfl rfl) valsS_s (env_cons (has_of Try.func89 rfl rfl) l1In_s (env_cons (has_of Try.func75 rfl rfl) powerS_s (env_cons (has_of Try.func110 rfl rfl) give_s env_nil))))
  have c1 := mAccts_eq l hl
  have c2 := mVals_eq vals hvl
  have c3 := mIn_eq
  have c4 := mPower_eq vals hvl
  have hw : wid 2 (rowsF cAcct l) := rowsF_wid (f := cAcct) (fun _ => rfl) l
  by_cases ha : acctsOk l
  · rw [decide_eq_true ha] at c1
    have hl7 : l.length ≤ 7 := ha.1
    by_cases hv : valsOk vals
    · rw [decide_eq_true hv] at c2
      have hv7 : vals.length ≤ 7 := hv.1.2
      by_cases hc : 0 ≤ coins ∧ coins ≤ 10000
      · have hP := powerOf_pos hv
        have hP2 := powerOf_in vals
        have hB : rewB l vals coins = decide (acctsOk (rwS vals coins l vals.length)) := by simp [rewB, ha, hv, hc]
        have hL : rewL l vals coins = if acctsOk (rwS vals coins l vals.length) then rwS vals coins l vals.length else l := by simp [rewL, hB, ha]
        have hz := lftA_zero vals coins
        have hz2 : rwS vals coins l 0 = l := rfl
        have hrest : restA vals coins = lftA vals coins vals.length := rfl
        simp only [initS, argPV, List.map_cons, List.map_nil, toPL, Nat.zero_add]
        repeat (first | with_reducible apply W.seq | with_reducible apply W.block | with_reducible apply W.skip | with_reducible apply W.exit | with_reducible apply W.ret | with_reducible apply At.seqN | with_reducible apply At.blkN | with_reducible apply At.blkE | with_reducible apply At.blkR | with_reducible apply At.thenX | with_reducible apply At.thenR | with_reducible apply At.blkX rfl | ((with_reducible apply W.ops); (repeat (first | refine WL.opA hΓ (h := ?_) | refine WL.opX hΓ (h := ?_) | refine WL.opY (h := ?_) | refine WL.opZ (h := ?_))); with_reducible apply WL.nil) | refine W.condT (h := ?_) | refine W.condF (h := ?_))
        refine W.loopA (fun k => k ≤ vals.length) (fun k : Nat => [.slot 0 (vL cAcct l), .slot 1 (vL cVal vals), .slot 2 (vI coins), .slot 8 (one (.all 19)), .blk 19 (.arr true 122 2 (rowsF cAcct l)), .slot 9 (vI (powerOf vals)), .slot 10 (vI (lftA vals coins k)), .slot 11 (vI k)]) (fun k => vals.length - k) 0 (Nat.zero_le _) (h := ?_)
        rintro k hk
        have s1 := lftA_in hv hc hk
        by_cases hlt : k < vals.length
        · have hrow := val_row hlt
          have s2 := lftA_in hv hc (k := k + 1) hlt
          have hs := lftA_succ (coins := coins) hlt
          have m1 := mulA_in hv hc hlt
          have m2 := shA_in hv hc hlt
          unfold shA at m2
          dsimp only [bVal] at hrow
          clear c1 c2 c3 c4 hB hL hz hz2 hrest
          repeat (first | with_reducible apply W.seq | with_reducible apply W.block | with_reducible apply W.skip | with_reducible apply W.exit | with_reducible apply W.ret | with_reducible apply At.seqN | with_reducible apply At.blkN | with_reducible apply At.blkE | with_reducible apply At.blkR | with_reducible apply At.thenX | with_reducible apply At.thenR | with_reducible apply At.blkX rfl | ((with_reducible apply W.ops); (repeat (first | refine WL.opA hΓ (h := ?_) | refine WL.opX hΓ (h := ?_) | refine WL.opY (h := ?_) | refine WL.opZ (h := ?_))); with_reducible apply WL.nil) | refine W.condT (h := ?_) | refine W.condF (h := ?_))
          exact At.roundA (k + 1) (by omega) (by omega)
        · have hkl : k = vals.length := by omega
          subst hkl
          rw [← hrest] at s1 ⊢
          clear hz hrest
          repeat (first | with_reducible apply W.seq | with_reducible apply W.block | with_reducible apply W.skip | with_reducible apply W.exit | with_reducible apply W.ret | with_reducible apply At.seqN | with_reducible apply At.blkN | with_reducible apply At.blkE | with_reducible apply At.blkR | with_reducible apply At.thenX | with_reducible apply At.thenR | with_reducible apply At.blkX rfl | ((with_reducible apply W.ops); (repeat (first | refine WL.opA hΓ (h := ?_) | refine WL.opX hΓ (h := ?_) | refine WL.opY (h := ?_) | refine WL.opZ (h := ?_))); with_reducible apply WL.nil) | refine W.condT (h := ?_) | refine W.condF (h := ?_))
          have hlen := hv.1.1
          obtain ⟨J, hJ0, hJs⟩ := two (α := St) [.slot 0 (vL cAcct l), .slot 1 (vL cVal vals), .slot 2 (vI coins), .slot 12 (one (.all 19)), .blk 19 (.arr true 122 2 (rowsF cAcct l)), .slot 9 (vI (powerOf vals)), .slot 10 (vI (restA vals coins)), .slot 13 (vI ((0 : Nat) : Int))] (fun k => [.slot 0 (vL cAcct l), .slot 1 (vL cVal vals), .slot 2 (vI coins), .slot 12 (one (.all 79)), .blk 79 (.arr true 122 2 (rowsF cAcct (rwS vals coins l (k + 1)))), .slot 9 (vI (powerOf vals)), .slot 10 (vI (restA vals coins)), .slot 13 (vI ((k + 1 : Nat) : Int))])
          refine W.loopA (fun k => k ≤ vals.length) J (fun k => vals.length - k) 0 (Nat.zero_le _) (h := ?_)
          rintro k hk
          obtain ⟨q1, q2⟩ := rwS_in ha hv hc k hk
          have c5 := mAccts_eq (rwS vals coins l k) (by have := q1.1; omega)
          by_cases hlt : k < vals.length
          · have hrow := val_row hlt
            have m1 := mulA_in hv hc hlt
            have m2 := shA_in hv hc hlt
            have m3 := nA_in hv hc hlt
            have hsucc := rwS_succ (coins := coins) (l := l) hlt
            have c6 := mGive_eq (rwS vals coins l k) vals[k].1 (nA vals coins k vals[k]) ⟨q2, by have := q1.1; dsimp only; omega, fun a ha => by have := q1.2 a ha; omega, m3.1, by dsimp only; omega⟩
            rw [← hsucc] at c6
            clear c1 c2 c3 c4 c5 hB hL hsucc q1 q2
            dsimp only [bVal] at hrow
            by_cases hr : (k : Int) < restA vals coins
            · rw [nA_pos hlt hr] at c6 m3
              unfold shA at c6 m2 m3
              cases k with
              | zero =>
                rw [hz2] at c6
                rw [hJ0]
                repeat (first | with_reducible apply W.seq | with_reducible apply W.block | with_reducible apply W.skip | with_reducible apply W.exit | with_reducible apply W.ret | with_reducible apply At.seqN | with_reducible apply At.blkN | with_reducible apply At.blkE | with_reducible apply At.blkR | with_reducible apply At.thenX | with_reducible apply At.thenR | with_reducible apply At.blkX rfl | ((with_reducible apply W.ops); (repeat (first | refine WL.opA hΓ (h := ?_) | refine WL.opX hΓ (h := ?_) | refine WL.opY (h := ?_) | refine WL.opZ (h := ?_))); with_reducible apply WL.nil) | refine W.condT (h := ?_) | refine W.condF (h := ?_))
                exact At.roundA 1 (by omega) (by omega)
              | succ k =>
                rw [hJs]
                repeat (first | with_reducible apply W.seq | with_reducible apply W.block | with_reducible apply W.skip | with_reducible apply W.exit | with_reducible apply W.ret | with_reducible apply At.seqN | with_reducible apply At.blkN | with_reducible apply At.blkE | with_reducible apply At.blkR | with_reducible apply At.thenX | with_reducible apply At.thenR | with_reducible apply At.blkX rfl | ((with_reducible apply W.ops); (repeat (first | refine WL.opA hΓ (h := ?_) | refine WL.opX hΓ (h := ?_) | refine WL.opY (h := ?_) | refine WL.opZ (h := ?_))); with_reducible apply WL.nil) | refine W.condT (h := ?_) | refine W.condF (h := ?_))
                exact At.roundA (k + 2) (by omega) (by omega)
            · rw [nA_neg hlt hr] at c6 m3
              unfold shA at c6 m2 m3
              cases k with
              | zero =>
                rw [hz2] at c6
                rw [hJ0]
                repeat (first | with_reducible apply W.seq | with_reducible apply W.block | with_reducible apply W.skip | with_reducible apply W.exit | with_reducible apply W.ret | with_reducible apply At.seqN | with_reducible apply At.blkN | with_reducible apply At.blkE | with_reducible apply At.blkR | with_reducible apply At.thenX | with_reducible apply At.thenR | with_reducible apply At.blkX rfl | ((with_reducible apply W.ops); (repeat (first | refine WL.opA hΓ (h := ?_) | refine WL.opX hΓ (h := ?_) | refine WL.opY (h := ?_) | refine WL.opZ (h := ?_))); with_reducible apply WL.nil) | refine W.condT (h := ?_) | refine W.condF (h := ?_))
                exact At.roundA 1 (by omega) (by omega)
              | succ k =>
                rw [hJs]
                repeat (first | with_reducible apply W.seq | with_reducible apply W.block | with_reducible apply W.skip | with_reducible apply W.exit | with_reducible apply W.ret | with_reducible apply At.seqN | with_reducible apply At.blkN | with_reducible apply At.blkE | with_reducible apply At.blkR | with_reducible apply At.thenX | with_reducible apply At.thenR | with_reducible apply At.blkX rfl | ((with_reducible apply W.ops); (repeat (first | refine WL.opA hΓ (h := ?_) | refine WL.opX hΓ (h := ?_) | refine WL.opY (h := ?_) | refine WL.opZ (h := ?_))); with_reducible apply WL.nil) | refine W.condT (h := ?_) | refine W.condF (h := ?_))
                exact At.roundA (k + 2) (by omega) (by omega)
          · have hkl : k = vals.length := by omega
            rw [hkl] at c5
            obtain ⟨k, rfl⟩ : ∃ k', k = k' + 1 := ⟨k - 1, by omega⟩
            rw [hJs]
            by_cases hok : acctsOk (rwS vals coins l vals.length)
            · rw [decide_eq_true hok] at c5 hB
              rw [if_pos hok] at hL
              repeat (first | with_reducible apply W.seq | with_reducible apply W.block | with_reducible apply W.skip | with_reducible apply W.exit | with_reducible apply W.ret | with_reducible apply At.seqN | with_reducible apply At.blkN | with_reducible apply At.blkE | with_reducible apply At.blkR | with_reducible apply At.thenX | with_reducible apply At.thenR | with_reducible apply At.blkX rfl | ((with_reducible apply W.ops); (repeat (first | refine WL.opA hΓ (h := ?_) | refine WL.opX hΓ (h := ?_) | refine WL.opY (h := ?_) | refine WL.opZ (h := ?_))); with_reducible apply WL.nil) | refine W.condT (h := ?_) | refine W.condF (h := ?_))
              refine At.retA (by rw [Try.results41]) (he := ?_)
              simp [hB, hL, hkl]
            · rw [decide_eq_false hok] at c5 hB
              rw [if_neg hok] at hL
              repeat (first | with_reducible apply W.seq | with_reducible apply W.block | with_reducible apply W.skip | with_reducible apply W.exit | with_reducible apply W.ret | with_reducible apply At.seqN | with_reducible apply At.blkN | with_reducible apply At.blkE | with_reducible apply At.blkR | with_reducible apply At.thenX | with_reducible apply At.thenR | with_reducible apply At.blkX rfl | ((with_reducible apply W.ops); (repeat (first | refine WL.opA hΓ (h := ?_) | refine WL.opX hΓ (h := ?_) | refine WL.opY (h := ?_) | refine WL.opZ (h := ?_))); with_reducible apply WL.nil) | refine W.condT (h := ?_) | refine W.condF (h := ?_))
              refine At.retA (by rw [Try.results41]) (he := ?_)
              simp [hB, hL]
      · have hB : rewB l vals coins = false := by simp [rewB, hc]
        have hL : rewL l vals coins = l := by simp [rewL, hB, ha]
        simp only [initS, argPV, List.map_cons, List.map_nil, toPL, Nat.zero_add]
        repeat (first | with_reducible apply W.seq | with_reducible apply W.block | with_reducible apply W.skip | with_reducible apply W.exit | with_reducible apply W.ret | with_reducible apply At.seqN | with_reducible apply At.blkN | with_reducible apply At.blkE | with_reducible apply At.blkR | with_reducible apply At.thenX | with_reducible apply At.thenR | with_reducible apply At.blkX rfl | ((with_reducible apply W.ops); (repeat (first | refine WL.opA hΓ (h := ?_) | refine WL.opX hΓ (h := ?_) | refine WL.opY (h := ?_) | refine WL.opZ (h := ?_))); with_reducible apply WL.nil) | refine W.condT (h := ?_) | refine W.condF (h := ?_))
        refine At.retA (by rw [Try.results41]) (he := ?_)
        simp [hB, hL]
    · rw [decide_eq_false hv] at c2
      have hB : rewB l vals coins = false := by simp [rewB, hv]
      have hL : rewL l vals coins = l := by simp [rewL, hB, ha]
      simp only [initS, argPV, List.map_cons, List.map_nil, toPL, Nat.zero_add]
      repeat (first | with_reducible apply W.seq | with_reducible apply W.block | with_reducible apply W.skip | with_reducible apply W.exit | with_reducible apply W.ret | with_reducible apply At.seqN | with_reducible apply At.blkN | with_reducible apply At.blkE | with_reducible apply At.blkR | with_reducible apply At.thenX | with_reducible apply At.thenR | with_reducible apply At.blkX rfl | ((with_reducible apply W.ops); (repeat (first | refine WL.opA hΓ (h := ?_) | refine WL.opX hΓ (h := ?_) | refine WL.opY (h := ?_) | refine WL.opZ (h := ?_))); with_reducible apply WL.nil) | refine W.condT (h := ?_) | refine W.condF (h := ?_))
      refine At.retA (by rw [Try.results41]) (he := ?_)
      simp [hB, hL]
  · rw [decide_eq_false ha] at c1
    have hB : rewB l vals coins = false := by simp [rewB, ha]
    have hL : rewL l vals coins = [] := by simp [rewL, hB, ha]
    simp only [initS, argPV, List.map_cons, List.map_nil, toPL, Nat.zero_add]
    repeat (first | with_reducible apply W.seq | with_reducible apply W.block | with_reducible apply W.skip | with_reducible apply W.exit | with_reducible apply W.ret | with_reducible apply At.seqN | with_reducible apply At.blkN | with_reducible apply At.blkE | with_reducible apply At.blkR | with_reducible apply At.thenX | with_reducible apply At.thenR | with_reducible apply At.blkX rfl | ((with_reducible apply W.ops); (repeat (first | refine WL.opA hΓ (h := ?_) | refine WL.opX hΓ (h := ?_) | refine WL.opY (h := ?_) | refine WL.opZ (h := ?_))); with_reducible apply WL.nil) | refine W.condT (h := ?_) | refine W.condF (h := ?_))
    refine At.retA (by rw [Try.results41]) (he := ?_)
    simp [hB, hL]
    rfl
end Go.Proofs.Ytlchfjjoendimaa
