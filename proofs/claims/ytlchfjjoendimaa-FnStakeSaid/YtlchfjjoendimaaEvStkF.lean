/-
  FnStake: what is drawn; the functions of accounts in this evaluator's words.
-/
import Derived.Test.YtlchfjjoendimaaEvDrV
import Derived.Test.YtlchfjjoendimaaEvRewI
import Derived.Test.YtlchfjjoendimaaEvStk
namespace Go.Proofs.Ytlchfjjoendimaa
set_option maxRecDepth 100000
set_option linter.unusedVariables false
set_option linter.unusedSimpArgs false
open Go Go.RowKit
set_option maxHeartbeats 4000000
set_option linter.unusedVariables false

noncomputable def mCoins := mdl (fun l : List TAcct => l.length ≤ 8796093022207) (fun l => [aL cAcct l]) (fun l => rI (coinsOf l))
theorem mCoins_eq (l : List TAcct) (h : l.length ≤ 8796093022207) : mCoins [aL cAcct l] = some (rI (coinsOf l)) := mdl_eq (by intro a b h; simpa using h) l h
theorem coinsS_s : Sound Try.prog 43 mCoins := Sound.says (fun _ => rfl) fun l vs w hok hr => by
  obtain ⟨v, rfl, h2⟩ := RepAs.one hr
  exact (coinsOf_spec v l w (rep_RdS (s := 2) (fun _ => rfl) (repA_list_inv h2)) hok).mono fun e w' hq => hq
theorem coinsI_s : Sound Try.prog 42 mCoins := Sound.says (fun _ => rfl) fun l vs w hok hr => by
  obtain ⟨v, rfl, h2⟩ := RepAs.one hr
  exact (coinsOf_impl v l w (rep_RdS (s := 2) (fun _ => rfl) (repA_list_inv h2)) hok).mono fun e w' hq => hq
abbrev okTV (x : List TAcct × Int) : Prop := x.1.length ≤ 8796093022207
noncomputable def mTVs := mdl okTV (fun x => [aL cAcct x.1, aI x.2]) (fun x => rL 95 2 cVal (toVals x.1 x.2))
noncomputable def mTVi := mdl okTV (fun x => [aL cAcct x.1, aI x.2]) (fun x => if acctsOk x.1 ∧ 1 ≤ x.2 then rL 95 2 cVal (toVals x.1 x.2) else rN)
theorem mTVs_eq (l : List TAcct) (u : Int) (h : okTV (l, u)) : mTVs [aL cAcct l, aI u] = some (rL 95 2 cVal (toVals l u)) := mdl_eq (by rintro ⟨a, b⟩ ⟨d, e⟩ h; simpa using h) (l, u) h
theorem mTVi_eq (l : List TAcct) (u : Int) (h : okTV (l, u)) : mTVi [aL cAcct l, aI u] = some (if acctsOk l ∧ 1 ≤ u then rL 95 2 cVal (toVals l u) else rN) := mdl_eq (by rintro ⟨a, b⟩ ⟨d, e⟩ h; simpa using h) (l, u) h
theorem tvs_yes {u : Int} {l : List TAcct} {k : Nat} (h : k < l.length) (hu : u ≤ l[k].2) (p : Int) (hp : p = min 1000 (l[k].2 / u)) : rowsF cVal (tvs u (l.take k)) ++ [[.sc (.int .i64 l[k].1), .sc (.int .i64 p)]] = rowsF cVal (tvs u (l.take (k + 1))) := by
  rw [tvs_next u l k h, if_pos hu, hp]
  exact cVal_app _ _ _
theorem tvs_no {u : Int} {l : List TAcct} {k : Nat} (h : k < l.length) (hu : ¬ u ≤ l[k].2) : tvs u (l.take (k + 1)) = tvs u (l.take k) := by
  rw [tvs_next u l k h, if_neg hu, List.append_nil]
theorem toValsS_s : Sound Try.prog 51 mTVs := by
  refine Sound.mdl Try.func51 rfl Try.ntmps51 ?_
  rintro ⟨l, u⟩ w hl
  refine ⟨by simp, ?_⟩
  replace hl : l.length ≤ 8796093022207 := hl
  have hΓ : GSound Try.prog (look [(44, mAccts)]) := env_cons (has_of Try.func44 rfl rfl) acctsS_s env_nil
  have c1 := mAccts_eq l hl
  have hnil : ([] : List (List Leaf)) = rowsF cVal (tvs u (l.take 0)) := rfl
  by_cases hc : acctsOk l ∧ 1 ≤ u
  · obtain ⟨ha, hu⟩ := hc
    rw [decide_eq_true ha] at c1
    have hl7 : l.length ≤ 7 := ha.1
    have hres : toVals l u = tvs u l := by unfold toVals; rw [if_pos ⟨ha, hu⟩]
    simp only [initS, argPV, List.map_cons, List.map_nil, toPL, Nat.zero_add]
    repeat (first | with_reducible apply W.seq | with_reducible apply W.block | with_reducible apply W.skip | with_reducible apply W.exit | with_reducible apply W.ret | with_reducible apply At.seqN | with_reducible apply At.blkN | with_reducible apply At.blkE | with_reducible apply At.blkR | with_reducible apply At.thenX | with_reducible apply At.thenR | with_reducible apply At.blkX rfl | ((with_reducible apply W.ops); (repeat (first | refine WL.opA hΓ (h := ?_) | refine WL.opX hΓ (h := ?_) | refine WL.opY (h := ?_) | refine WL.opZ (h := ?_))); with_reducible apply WL.nil) | refine W.condT (h := ?_) | refine W.condF (h := ?_))
    refine W.loopA (fun k => k ≤ l.length) (fun k : Nat => [.slot 0 (vL cAcct l), .slot 1 (vI u), .slot 5 (one (.all 8)), .blk 8 (.arr true 95 2 (rowsF cVal (tvs u (l.take k)))), .slot 6 (vI k)]) (fun k => l.length - k) 0 (Nat.zero_le _) (h := ?_)
    rintro k hk
    have hln := tvs_le u (l.take k)
    rw [List.length_take] at hln
    replace hln : (tvs u (l.take k)).length ≤ 7 := by omega
    clear hnil
    by_cases hlt : k < l.length
    · have hrow := acct_row hlt
      dsimp only [bAcct] at hrow
      obtain ⟨b1, b2, b3, b4⟩ := accts_at ha hlt
      have hq := Int.tdiv_eq_ediv_of_nonneg b3 (b := u)
      have hqi := tdiv_in b3 hu
      clear hres
      by_cases hge : u ≤ l[k].2
      · have hq1 := quo_pos hu hge
        have e := fun p => tvs_yes hlt hge p
        rw [← hq] at e hq1
        clear hq
        generalize hQ : l[k].2.tdiv u = q at *
        by_cases h1000 : 1000 < q
        · have e := e 1000 (by omega)
          repeat (first | with_reducible apply W.seq | with_reducible apply W.block | with_reducible apply W.skip | with_reducible apply W.exit | with_reducible apply W.ret | with_reducible apply At.seqN | with_reducible apply At.blkN | with_reducible apply At.blkE | with_reducible apply At.blkR | with_reducible apply At.thenX | with_reducible apply At.thenR | with_reducible apply At.blkX rfl | ((with_reducible apply W.ops); (repeat (first | refine WL.opA hΓ (h := ?_) | refine WL.opX hΓ (h := ?_) | refine WL.opY (h := ?_) | refine WL.opZ (h := ?_))); with_reducible apply WL.nil) | refine W.condT (h := ?_) | refine W.condF (h := ?_))
          exact At.roundA (k + 1) (by omega) (by omega)
        · have e := e q (by omega)
          repeat (first | with_reducible apply W.seq | with_reducible apply W.block | with_reducible apply W.skip | with_reducible apply W.exit | with_reducible apply W.ret | with_reducible apply At.seqN | with_reducible apply At.blkN | with_reducible apply At.blkE | with_reducible apply At.blkR | with_reducible apply At.thenX | with_reducible apply At.thenR | with_reducible apply At.blkX rfl | ((with_reducible apply W.ops); (repeat (first | refine WL.opA hΓ (h := ?_) | refine WL.opX hΓ (h := ?_) | refine WL.opY (h := ?_) | refine WL.opZ (h := ?_))); with_reducible apply WL.nil) | refine W.condT (h := ?_) | refine W.condF (h := ?_))
          exact At.roundA (k + 1) (by omega) (by omega)
      · have hq0 := quo_zero b3 (show l[k].2 < u by omega)
        have e := tvs_no hlt hge
        rw [hq0] at hq
        clear hqi
        repeat (first | with_reducible apply W.seq | with_reducible apply W.block | with_reducible apply W.skip | with_reducible apply W.exit | with_reducible apply W.ret | with_reducible apply At.seqN | with_reducible apply At.blkN | with_reducible apply At.blkE | with_reducible apply At.blkR | with_reducible apply At.thenX | with_reducible apply At.thenR | with_reducible apply At.blkX rfl | ((with_reducible apply W.ops); (repeat (first | refine WL.opA hΓ (h := ?_) | refine WL.opX hΓ (h := ?_) | refine WL.opY (h := ?_) | refine WL.opZ (h := ?_))); with_reducible apply WL.nil) | refine W.condT (h := ?_) | refine W.condF (h := ?_))
        exact At.roundA (k + 1) (by omega) (by omega)
    · have hkl : k = l.length := by omega
      subst hkl
      rw [List.take_length]
      repeat (first | with_reducible apply W.seq | with_reducible apply W.block | with_reducible apply W.skip | with_reducible apply W.exit | with_reducible apply W.ret | with_reducible apply At.seqN | with_reducible apply At.blkN | with_reducible apply At.blkE | with_reducible apply At.blkR | with_reducible apply At.thenX | with_reducible apply At.thenR | with_reducible apply At.blkX rfl | ((with_reducible apply W.ops); (repeat (first | refine WL.opA hΓ (h := ?_) | refine WL.opX hΓ (h := ?_) | refine WL.opY (h := ?_) | refine WL.opZ (h := ?_))); with_reducible apply WL.nil) | refine W.condT (h := ?_) | refine W.condF (h := ?_))
      refine At.retA (by rw [Try.results51]) (he := ?_)
      rw [hres]
  · have hres : toVals l u = [] := by unfold toVals; rw [if_neg hc]
    by_cases ha : acctsOk l
    · rw [decide_eq_true ha] at c1
      have hu : ¬ 1 ≤ u := fun h => hc ⟨ha, h⟩
      by_cases h0 : 0 < l.length
      · simp only [initS, argPV, List.map_cons, List.map_nil, toPL, Nat.zero_add]
        repeat (first | with_reducible apply W.seq | with_reducible apply W.block | with_reducible apply W.skip | with_reducible apply W.exit | with_reducible apply W.ret | with_reducible apply At.seqN | with_reducible apply At.blkN | with_reducible apply At.blkE | with_reducible apply At.blkR | with_reducible apply At.thenX | with_reducible apply At.thenR | with_reducible apply At.blkX rfl | ((with_reducible apply W.ops); (repeat (first | refine WL.opA hΓ (h := ?_) | refine WL.opX hΓ (h := ?_) | refine WL.opY (h := ?_) | refine WL.opZ (h := ?_))); with_reducible apply WL.nil) | refine W.condT (h := ?_) | refine W.condF (h := ?_))
        refine W.loopA (fun k => k = 0) (fun k : Nat => [.slot 0 (vL cAcct l), .slot 1 (vI u), .slot 5 (one (.all 8)), .blk 8 (.arr true 95 2 (rowsF cVal (tvs u (l.take 0)))), .slot 6 (vI k)]) (fun k => 0) 0 rfl (h := ?_)
        rintro k rfl
        repeat (first | with_reducible apply W.seq | with_reducible apply W.block | with_reducible apply W.skip | with_reducible apply W.exit | with_reducible apply W.ret | with_reducible apply At.seqN | with_reducible apply At.blkN | with_reducible apply At.blkE | with_reducible apply At.blkR | with_reducible apply At.thenX | with_reducible apply At.thenR | with_reducible apply At.blkX rfl | ((with_reducible apply W.ops); (repeat (first | refine WL.opA hΓ (h := ?_) | refine WL.opX hΓ (h := ?_) | refine WL.opY (h := ?_) | refine WL.opZ (h := ?_))); with_reducible apply WL.nil) | refine W.condT (h := ?_) | refine W.condF (h := ?_))
        refine At.retA (by rw [Try.results51]) (he := ?_)
        simp only [hres]
        rfl
      · simp only [initS, argPV, List.map_cons, List.map_nil, toPL, Nat.zero_add]
        repeat (first | with_reducible apply W.seq | with_reducible apply W.block | with_reducible apply W.skip | with_reducible apply W.exit | with_reducible apply W.ret | with_reducible apply At.seqN | with_reducible apply At.blkN | with_reducible apply At.blkE | with_reducible apply At.blkR | with_reducible apply At.thenX | with_reducible apply At.thenR | with_reducible apply At.blkX rfl | ((with_reducible apply W.ops); (repeat (first | refine WL.opA hΓ (h := ?_) | refine WL.opX hΓ (h := ?_) | refine WL.opY (h := ?_) | refine WL.opZ (h := ?_))); with_reducible apply WL.nil) | refine W.condT (h := ?_) | refine W.condF (h := ?_))
        refine W.loopA (fun k => k = 0) (fun k : Nat => [.slot 0 (vL cAcct l), .slot 1 (vI u), .slot 5 (one (.all 8)), .blk 8 (.arr true 95 2 (rowsF cVal (tvs u (l.take 0)))), .slot 6 (vI k)]) (fun k => 0) 0 rfl (h := ?_)
        rintro k rfl
        repeat (first | with_reducible apply W.seq | with_reducible apply W.block | with_reducible apply W.skip | with_reducible apply W.exit | with_reducible apply W.ret | with_reducible apply At.seqN | with_reducible apply At.blkN | with_reducible apply At.blkE | with_reducible apply At.blkR | with_reducible apply At.thenX | with_reducible apply At.thenR | with_reducible apply At.blkX rfl | ((with_reducible apply W.ops); (repeat (first | refine WL.opA hΓ (h := ?_) | refine WL.opX hΓ (h := ?_) | refine WL.opY (h := ?_) | refine WL.opZ (h := ?_))); with_reducible apply WL.nil) | refine W.condT (h := ?_) | refine W.condF (h := ?_))
        refine At.retA (by rw [Try.results51]) (he := ?_)
        simp only [hres]
        rfl
    · rw [decide_eq_false ha] at c1
      by_cases h0 : 0 < l.length
      · simp only [initS, argPV, List.map_cons, List.map_nil, toPL, Nat.zero_add]
        repeat (first | with_reducible apply W.seq | with_reducible apply W.block | with_reducible apply W.skip | with_reducible apply W.exit | with_reducible apply W.ret | with_reducible apply At.seqN | with_reducible apply At.blkN | with_reducible apply At.blkE | with_reducible apply At.blkR | with_reducible apply At.thenX | with_reducible apply At.thenR | with_reducible apply At.blkX rfl | ((with_reducible apply W.ops); (repeat (first | refine WL.opA hΓ (h := ?_) | refine WL.opX hΓ (h := ?_) | refine WL.opY (h := ?_) | refine WL.opZ (h := ?_))); with_reducible apply WL.nil) | refine W.condT (h := ?_) | refine W.condF (h := ?_))
        refine W.loopA (fun k => k = 0) (fun k : Nat => [.slot 0 (vL cAcct l), .slot 1 (vI u), .slot 5 (one (.all 8)), .blk 8 (.arr true 95 2 (rowsF cVal (tvs u (l.take 0)))), .slot 6 (vI k)]) (fun k => 0) 0 rfl (h := ?_)
        rintro k rfl
        repeat (first | with_reducible apply W.seq | with_reducible apply W.block | with_reducible apply W.skip | with_reducible apply W.exit | with_reducible apply W.ret | with_reducible apply At.seqN | with_reducible apply At.blkN | with_reducible apply At.blkE | with_reducible apply At.blkR | with_reducible apply At.thenX | with_reducible apply At.thenR | with_reducible apply At.blkX rfl | ((with_reducible apply W.ops); (repeat (first | refine WL.opA hΓ (h := ?_) | refine WL.opX hΓ (h := ?_) | refine WL.opY (h := ?_) | refine WL.opZ (h := ?_))); with_reducible apply WL.nil) | refine W.condT (h := ?_) | refine W.condF (h := ?_))
        refine At.retA (by rw [Try.results51]) (he := ?_)
        simp only [hres]
        rfl
      · exact absurd ⟨by omega, fun k hk => by omega⟩ ha
theorem toValsI_s : Sound Try.prog 49 mTVi := by
  refine Sound.mdl Try.func49 rfl Try.ntmps49 ?_
  rintro ⟨l, u⟩ w hl
  refine ⟨by simp, ?_⟩
  replace hl : l.length ≤ 8796093022207 := hl
  have hΓ : GSound Try.prog (look [(104, mAccts)]) := env_cons (has_of Try.func104 rfl rfl) acctsI_s env_nil
  have c1 := mAccts_eq l hl
  have hnil : ([] : List (List Leaf)) = rowsF cVal (tvs u (l.take 0)) := rfl
  by_cases ha : acctsOk l
  · rw [decide_eq_true ha] at c1
    by_cases hu : 1 ≤ u
    · have hl7 : l.length ≤ 7 := ha.1
      have hres : toVals l u = tvs u l := by unfold toVals; rw [if_pos ⟨ha, hu⟩]
      simp only [initS, argPV, List.map_cons, List.map_nil, toPL, Nat.zero_add]
      repeat (first | with_reducible apply W.seq | with_reducible apply W.block | with_reducible apply W.skip | with_reducible apply W.exit | with_reducible apply W.ret | with_reducible apply At.seqN | with_reducible apply At.blkN | with_reducible apply At.blkE | with_reducible apply At.blkR | with_reducible apply At.thenX | with_reducible apply At.thenR | with_reducible apply At.blkX rfl | ((with_reducible apply W.ops); (repeat (first | refine WL.opA hΓ (h := ?_) | refine WL.opX hΓ (h := ?_) | refine WL.opY (h := ?_) | refine WL.opZ (h := ?_))); with_reducible apply WL.nil) | refine W.condT (h := ?_) | refine W.condF (h := ?_))
      refine W.loopA (fun k => k ≤ l.length) (fun k : Nat => [.slot 16 (vL cAcct l), .slot 1 (vI u), .slot 17 (vI l.length), .slot 5 (one (.all 15)), .blk 15 (.arr true 95 2 (rowsF cVal (tvs u (l.take k)))), .slot 18 (vI k)]) (fun k => l.length - k) 0 (Nat.zero_le _) (h := ?_)
      rintro k hk
      have hln := tvs_le u (l.take k)
      rw [List.length_take] at hln
      replace hln : (tvs u (l.take k)).length ≤ 7 := by omega
      clear hnil
      by_cases hlt : k < l.length
      · have hrow := acct_row hlt
        dsimp only [bAcct] at hrow
        obtain ⟨b1, b2, b3, b4⟩ := accts_at ha hlt
        have hq := Int.tdiv_eq_ediv_of_nonneg b3 (b := u)
        have hqi := tdiv_in b3 hu
        clear hres
        by_cases hge : u ≤ l[k].2
        · have hq1 := quo_pos hu hge
          have e := fun p => tvs_yes hlt hge p
          rw [← hq] at e hq1
          clear hq
          generalize hQ : l[k].2.tdiv u = q at *
          by_cases h1000 : q < 1000
          · have e := e q (by omega)
            repeat (first | with_reducible apply W.seq | with_reducible apply W.block | with_reducible apply W.skip | with_reducible apply W.exit | with_reducible apply W.ret | with_reducible apply At.seqN | with_reducible apply At.blkN | with_reducible apply At.blkE | with_reducible apply At.blkR | with_reducible apply At.thenX | with_reducible apply At.thenR | with_reducible apply At.blkX rfl | ((with_reducible apply W.ops); (repeat (first | refine WL.opA hΓ (h := ?_) | refine WL.opX hΓ (h := ?_) | refine WL.opY (h := ?_) | refine WL.opZ (h := ?_))); with_reducible apply WL.nil) | refine W.condT (h := ?_) | refine W.condF (h := ?_))
            refine W.drawsA hΓ 10 [[], [], [1], [], [3], [], [3, 4, 5], [3, 4, 5, 6], [1, 2, 3, 4, 5, 6, 7], [1, 2, 3, 4, 5, 6, 7, 8], [0, 1, 2, 3, 4, 5, 6, 7, 8, 9], [0, 1, 2, 3, 4, 5, 6, 7, 8, 9, 10]] (rest := ?rest25) (Es := ?Es25) (st1 := ?st125) (h := ?h25) (hf := ?hf25) (hp := ?hp25) (hd := ?hd25) (hfr := ?hfr25) (hst := ?hst25) (hT := ?hT25)
            case h25 => kernel_rfl
            case hf25 =>
              repeat (first | refine FlowT.opA (h := ?_) | refine FlowT.opX (h := ?_) | refine FlowT.opY (h := ?_) | refine FlowT.opZ (h := ?_))
              exact FlowT.done
            case hp25 => rfl
            case hd25 => rfl
            case hfr25 => rfl
            case hst25 =>
              simp only [pick_nil, pick_all, List.cons_append, List.nil_append]
              rfl
            (repeat (first | refine WL.opA hΓ (h := ?_) | refine WL.opX hΓ (h := ?_) | refine WL.opY (h := ?_) | refine WL.opZ (h := ?_)))
            with_reducible apply WL.nil
            repeat (first | with_reducible apply W.seq | with_reducible apply W.block | with_reducible apply W.skip | with_reducible apply W.exit | with_reducible apply W.ret | with_reducible apply At.seqN | with_reducible apply At.blkN | with_reducible apply At.blkE | with_reducible apply At.blkR | with_reducible apply At.thenX | with_reducible apply At.thenR | with_reducible apply At.blkX rfl | ((with_reducible apply W.ops); (repeat (first | refine WL.opA hΓ (h := ?_) | refine WL.opX hΓ (h := ?_) | refine WL.opY (h := ?_) | refine WL.opZ (h := ?_))); with_reducible apply WL.nil) | refine W.condT (h := ?_) | refine W.condF (h := ?_))
            exact At.roundA (k + 1) (by omega) (by omega)
          · have e := e 1000 (by omega)
            repeat (first | with_reducible apply W.seq | with_reducible apply W.block | with_reducible apply W.skip | with_reducible apply W.exit | with_reducible apply W.ret | with_reducible apply At.seqN | with_reducible apply At.blkN | with_reducible apply At.blkE | with_reducible apply At.blkR | with_reducible apply At.thenX | with_reducible apply At.thenR | with_reducible apply At.blkX rfl | ((with_reducible apply W.ops); (repeat (first | refine WL.opA hΓ (h := ?_) | refine WL.opX hΓ (h := ?_) | refine WL.opY (h := ?_) | refine WL.opZ (h := ?_))); with_reducible apply WL.nil) | refine W.condT (h := ?_) | refine W.condF (h := ?_))
            refine W.drawsA hΓ 10 [[], [], [1], [], [3], [], [3, 4, 5], [3, 4, 5, 6], [1, 2, 3, 4, 5, 6, 7], [1, 2, 3, 4, 5, 6, 7, 8], [0, 1, 2, 3, 4, 5, 6, 7, 8, 9], [0, 1, 2, 3, 4, 5, 6, 7, 8, 9, 10]] (rest := ?rest28) (Es := ?Es28) (st1 := ?st128) (h := ?h28) (hf := ?hf28) (hp := ?hp28) (hd := ?hd28) (hfr := ?hfr28) (hst := ?hst28) (hT := ?hT28)
            case h28 => kernel_rfl
            case hf28 =>
              repeat (first | refine FlowT.opA (h := ?_) | refine FlowT.opX (h := ?_) | refine FlowT.opY (h := ?_) | refine FlowT.opZ (h := ?_))
              exact FlowT.done
            case hp28 => rfl
            case hd28 => rfl
            case hfr28 => rfl
            case hst28 =>
              simp only [pick_nil, pick_all, List.cons_append, List.nil_append]
              rfl
            (repeat (first | refine WL.opA hΓ (h := ?_) | refine WL.opX hΓ (h := ?_) | refine WL.opY (h := ?_) | refine WL.opZ (h := ?_)))
            with_reducible apply WL.nil
            repeat (first | with_reducible apply W.seq | with_reducible apply W.block | with_reducible apply W.skip | with_reducible apply W.exit | with_reducible apply W.ret | with_reducible apply At.seqN | with_reducible apply At.blkN | with_reducible apply At.blkE | with_reducible apply At.blkR | with_reducible apply At.thenX | with_reducible apply At.thenR | with_reducible apply At.blkX rfl | ((with_reducible apply W.ops); (repeat (first | refine WL.opA hΓ (h := ?_) | refine WL.opX hΓ (h := ?_) | refine WL.opY (h := ?_) | refine WL.opZ (h := ?_))); with_reducible apply WL.nil) | refine W.condT (h := ?_) | refine W.condF (h := ?_))
            exact At.roundA (k + 1) (by omega) (by omega)
        · have e := tvs_no hlt hge
          clear hqi hq
          repeat (first | with_reducible apply W.seq | with_reducible apply W.block | with_reducible apply W.skip | with_reducible apply W.exit | with_reducible apply W.ret | with_reducible apply At.seqN | with_reducible apply At.blkN | with_reducible apply At.blkE | with_reducible apply At.blkR | with_reducible apply At.thenX | with_reducible apply At.thenR | with_reducible apply At.blkX rfl | ((with_reducible apply W.ops); (repeat (first | refine WL.opA hΓ (h := ?_) | refine WL.opX hΓ (h := ?_) | refine WL.opY (h := ?_) | refine WL.opZ (h := ?_))); with_reducible apply WL.nil) | refine W.condT (h := ?_) | refine W.condF (h := ?_))
          exact At.roundA (k + 1) (by omega) (by omega)
      · have hkl : k = l.length := by omega
        subst hkl
        rw [List.take_length]
        repeat (first | with_reducible apply W.seq | with_reducible apply W.block | with_reducible apply W.skip | with_reducible apply W.exit | with_reducible apply W.ret | with_reducible apply At.seqN | with_reducible apply At.blkN | with_reducible apply At.blkE | with_reducible apply At.blkR | with_reducible apply At.thenX | with_reducible apply At.thenR | with_reducible apply At.blkX rfl | ((with_reducible apply W.ops); (repeat (first | refine WL.opA hΓ (h := ?_) | refine WL.opX hΓ (h := ?_) | refine WL.opY (h := ?_) | refine WL.opZ (h := ?_))); with_reducible apply WL.nil) | refine W.condT (h := ?_) | refine W.condF (h := ?_))
        refine At.retA (by rw [Try.results49]) (he := ?_)
        simp [ha, hu, hres]
    · simp only [initS, argPV, List.map_cons, List.map_nil, toPL, Nat.zero_add]
      repeat (first | with_reducible apply W.seq | with_reducible apply W.block | with_reducible apply W.skip | with_reducible apply W.exit | with_reducible apply W.ret | with_reducible apply At.seqN | with_reducible apply At.blkN | with_reducible apply At.blkE | with_reducible apply At.blkR | with_reducible apply At.thenX | with_reducible apply At.thenR | with_reducible apply At.blkX rfl | ((with_reducible apply W.ops); (repeat (first | refine WL.opA hΓ (h := ?_) | refine WL.opX hΓ (h := ?_) | refine WL.opY (h := ?_) | refine WL.opZ (h := ?_))); with_reducible apply WL.nil) | refine W.condT (h := ?_) | refine W.condF (h := ?_))
      refine At.retA (by rw [Try.results49]) (he := ?_)
      simp [hu]
      rfl
  · simp only [initS, argPV, List.map_cons, List.map_nil, toPL, Nat.zero_add]
    repeat (first | with_reducible apply W.seq | with_reducible apply W.block | with_reducible apply W.skip | with_reducible apply W.exit | with_reducible apply W.ret | with_reducible apply At.seqN | with_reducible apply At.blkN | with_reducible apply At.blkE | with_reducible apply At.blkR | with_reducible apply At.thenX | with_reducible apply At.thenR | with_reducible apply At.blkX rfl | ((with_reducible apply W.ops); (repeat (first | refine WL.opA hΓ (h := ?_) | refine WL.opX hΓ (h := ?_) | refine WL.opY (h := ?_) | refine WL.opZ (h := ?_))); with_reducible apply WL.nil) | refine W.condT (h := ?_) | refine W.condF (h := ?_))
    refine At.retA (by rw [Try.results49]) (he := ?_)
    simp [ha]
    rfl
def rSomeA (_ : Unit) (l : List TAcct) : Prop := l.length ≤ 5
theorem l31Some_s : SoundCu Try.prog 103 (fun _ : Unit => True) (fun _ => []) rSomeA (fun _ l => rL 122 2 cAcct l) := by
  refine SoundCu.of Try.func103 rfl Try.ntmps103 ?_
  rintro k0 - b w hc - hB
  refine ⟨by simp, ?_⟩
  simp only [initC]
  have hΓ : GSound Try.prog (look []) := env_nil
  have hBe : Has Try.prog 90 := has_of Try.func90 rfl rfl
  have hOn : Has Try.prog 68 := has_of Try.func68 rfl rfl
  have hPi : Has Try.prog 78 := has_of Try.func78 rfl rfl
  have hcu := lsNms_cu
  have hck := kill_cu
  simp only [initS, argPV, List.map_cons, List.map_nil, toPL, Nat.zero_add]
  repeat (first | with_reducible apply W.seq | with_reducible apply W.block | with_reducible apply W.skip | with_reducible apply W.exit | with_reducible apply W.ret | with_reducible apply At.seqN | with_reducible apply At.blkN | with_reducible apply At.blkE | with_reducible apply At.blkR | with_reducible apply At.thenX | with_reducible apply At.thenR | with_reducible apply At.blkX rfl | ((with_reducible apply W.ops); (repeat (first | refine WL.opA hΓ (h := ?_) | refine WL.opX hΓ (h := ?_) | refine WL.opY (h := ?_) | refine WL.opZ (h := ?_))); with_reducible apply WL.nil) | refine W.condT (h := ?_) | refine W.condF (h := ?_))
  with_reducible apply W.ops
  repeat (first | refine WL.opA hΓ (h := ?_) | refine WL.opX hΓ (h := ?_) | refine WL.opY (h := ?_) | refine WL.opZ (h := ?_))
  refine WL.opCu hBe l1Below_s k0 hc 6 (by decide) (h := ?_)
  rintro k1 n0 hk1 ⟨hn0, hn1, -⟩
  replace hn1 : n0 < 6 := hn1 (by decide)
  have hnil : rowsF cAcct [] = [] := rfl
  (repeat (first | refine WL.opA hΓ (h := ?_) | refine WL.opX hΓ (h := ?_) | refine WL.opY (h := ?_) | refine WL.opZ (h := ?_)))
  with_reducible apply WL.nil
  repeat (first | with_reducible apply W.seq | with_reducible apply W.block | with_reducible apply W.skip | with_reducible apply W.exit | with_reducible apply W.ret | with_reducible apply At.seqN | with_reducible apply At.blkN | with_reducible apply At.blkE | with_reducible apply At.blkR | with_reducible apply At.thenX | with_reducible apply At.thenR | with_reducible apply At.blkX rfl | ((with_reducible apply W.ops); (repeat (first | refine WL.opA hΓ (h := ?_) | refine WL.opX hΓ (h := ?_) | refine WL.opY (h := ?_) | refine WL.opZ (h := ?_))); with_reducible apply WL.nil) | refine W.condT (h := ?_) | refine W.condF (h := ?_))
  refine W.loopA (fun x : List TAcct × Int × Int × Cu => CuTo k0 x.2.2.2 ∧ 0 ≤ x.2.2.1 ∧ x.1.length + x.2.2.1 = n0 ∧ 0 ≤ x.2.1 ∧ x.2.1 ≤ 3 * x.1.length) (fun x => [.slot 0 (one (.ptr 999 0)), .blk 999 (.box (cuL x.2.2.2)), .slot 3 (one (.all 7)), .blk 7 (.arr true 122 2 (rowsF cAcct x.1)), .slot 4 (vI x.2.1), .slot 5 (vI x.2.2.1)]) (fun x => x.2.2.1.toNat) ([], 0, n0, k1) ⟨hk1, by dsimp only; omega, by simp, by simp, by simp⟩ (h := ?_)
  rintro ⟨l, id, n, k⟩ ⟨hk, hn, hl, hi0, hi1⟩
  dsimp only at hk hn hl hi0 hi1 ⊢
  by_cases hp : 0 < n
  · repeat (first | with_reducible apply W.seq | with_reducible apply W.block | with_reducible apply W.skip | with_reducible apply W.exit | with_reducible apply W.ret | with_reducible apply At.seqN | with_reducible apply At.blkN | with_reducible apply At.blkE | with_reducible apply At.blkR | with_reducible apply At.thenX | with_reducible apply At.thenR | with_reducible apply At.blkX rfl | ((with_reducible apply W.ops); (repeat (first | refine WL.opA hΓ (h := ?_) | refine WL.opX hΓ (h := ?_) | refine WL.opY (h := ?_) | refine WL.opZ (h := ?_))); with_reducible apply WL.nil) | refine W.condT (h := ?_) | refine W.condF (h := ?_))
    with_reducible apply W.ops
    repeat (first | refine WL.opA hΓ (h := ?_) | refine WL.opX hΓ (h := ?_) | refine WL.opY (h := ?_) | refine WL.opZ (h := ?_))
    refine WL.opCu hBe l1Below_s k hk.ok 2 (by decide) (h := ?_)
    rintro k2 r hk2 ⟨hr0, hr1, -⟩
    replace hr1 : r < 2 := hr1 (by decide)
    (repeat (first | refine WL.opA hΓ (h := ?_) | refine WL.opX hΓ (h := ?_) | refine WL.opY (h := ?_) | refine WL.opZ (h := ?_)))
    with_reducible apply WL.nil
    repeat (first | with_reducible apply W.seq | with_reducible apply W.block | with_reducible apply W.skip | with_reducible apply W.exit | with_reducible apply W.ret | with_reducible apply At.seqN | with_reducible apply At.blkN | with_reducible apply At.blkE | with_reducible apply At.blkR | with_reducible apply At.thenX | with_reducible apply At.thenR | with_reducible apply At.blkX rfl | ((with_reducible apply W.ops); (repeat (first | refine WL.opA hΓ (h := ?_) | refine WL.opX hΓ (h := ?_) | refine WL.opY (h := ?_) | refine WL.opZ (h := ?_))); with_reducible apply WL.nil) | refine W.condT (h := ?_) | refine W.condF (h := ?_))
    with_reducible apply W.ops
    repeat (first | refine WL.opA hΓ (h := ?_) | refine WL.opX hΓ (h := ?_) | refine WL.opY (h := ?_) | refine WL.opZ (h := ?_))
    refine WL.opCu hBe l1Below_s k2 hk2.ok 60 (by decide) (h := ?_)
    rintro k3 r2 hk3 ⟨hs0, hs1, -⟩
    replace hs1 : r2 < 60 := hs1 (by decide)
    have e := cAcct_app l (id + 1 + r, r2)
    dsimp only [bAcct] at e
    (repeat (first | refine WL.opA hΓ (h := ?_) | refine WL.opX hΓ (h := ?_) | refine WL.opY (h := ?_) | refine WL.opZ (h := ?_)))
    with_reducible apply WL.nil
    repeat (first | with_reducible apply W.seq | with_reducible apply W.block | with_reducible apply W.skip | with_reducible apply W.exit | with_reducible apply W.ret | with_reducible apply At.seqN | with_reducible apply At.blkN | with_reducible apply At.blkE | with_reducible apply At.blkR | with_reducible apply At.thenX | with_reducible apply At.thenR | with_reducible apply At.blkX rfl | ((with_reducible apply W.ops); (repeat (first | refine WL.opA hΓ (h := ?_) | refine WL.opX hΓ (h := ?_) | refine WL.opY (h := ?_) | refine WL.opZ (h := ?_))); with_reducible apply WL.nil) | refine W.condT (h := ?_) | refine W.condF (h := ?_))
    exact At.roundA (l ++ [(id + 1 + r, r2)], id + 1 + r, n - 1, k3) ⟨(hk.trans hk2).trans hk3, by dsimp only; omega, by simp; omega, by dsimp only; omega, by simp; omega⟩ (by dsimp only; omega)
  · have hl5 : l.length ≤ 5 := by omega
    by_cases hl0 : 0 < l.length
    · repeat (first | with_reducible apply W.seq | with_reducible apply W.block | with_reducible apply W.skip | with_reducible apply W.exit | with_reducible apply W.ret | with_reducible apply At.seqN | with_reducible apply At.blkN | with_reducible apply At.blkE | with_reducible apply At.blkR | with_reducible apply At.thenX | with_reducible apply At.thenR | with_reducible apply At.blkX rfl | ((with_reducible apply W.ops); (repeat (first | refine WL.opA hΓ (h := ?_) | refine WL.opX hΓ (h := ?_) | refine WL.opY (h := ?_) | refine WL.opZ (h := ?_))); with_reducible apply WL.nil) | refine W.condT (h := ?_) | refine W.condF (h := ?_))
      with_reducible apply W.ops
      repeat (first | refine WL.opA hΓ (h := ?_) | refine WL.opX hΓ (h := ?_) | refine WL.opY (h := ?_) | refine WL.opZ (h := ?_))
      refine WL.unG (h := ?_)
      refine WL.opCu hOn l1Once_s k hk.ok 10 (by decide) (h := ?_)
      rintro k2 o hk2 -
      (repeat (first | refine WL.opA hΓ (h := ?_) | refine WL.opX hΓ (h := ?_) | refine WL.opY (h := ?_) | refine WL.opZ (h := ?_)))
      with_reducible apply WL.nil
      cases o with
      | false =>
        repeat (first | with_reducible apply W.seq | with_reducible apply W.block | with_reducible apply W.skip | with_reducible apply W.exit | with_reducible apply W.ret | with_reducible apply At.seqN | with_reducible apply At.blkN | with_reducible apply At.blkE | with_reducible apply At.blkR | with_reducible apply At.thenX | with_reducible apply At.thenR | with_reducible apply At.blkX rfl | ((with_reducible apply W.ops); (repeat (first | refine WL.opA hΓ (h := ?_) | refine WL.opX hΓ (h := ?_) | refine WL.opY (h := ?_) | refine WL.opZ (h := ?_))); with_reducible apply WL.nil) | refine W.condT (h := ?_) | refine W.condF (h := ?_))
        refine At.retCu (by rw [Try.results103]) hB (hls := ?_) (he := ?_) k2 l (hk.trans hk2) hl5
        · rfl
        · rfl
      | true =>
        repeat (first | with_reducible apply W.seq | with_reducible apply W.block | with_reducible apply W.skip | with_reducible apply W.exit | with_reducible apply W.ret | with_reducible apply At.seqN | with_reducible apply At.blkN | with_reducible apply At.blkE | with_reducible apply At.blkR | with_reducible apply At.thenX | with_reducible apply At.thenR | with_reducible apply At.blkX rfl | ((with_reducible apply W.ops); (repeat (first | refine WL.opA hΓ (h := ?_) | refine WL.opX hΓ (h := ?_) | refine WL.opY (h := ?_) | refine WL.opZ (h := ?_))); with_reducible apply WL.nil) | refine W.condT (h := ?_) | refine W.condF (h := ?_))
        with_reducible apply W.ops
        repeat (first | refine WL.opA hΓ (h := ?_) | refine WL.opX hΓ (h := ?_) | refine WL.opY (h := ?_) | refine WL.opZ (h := ?_))
        refine WL.opCu hBe l1Below_s k2 hk2.ok (l.length : Int) ⟨by omega, by omega⟩ (h := ?_)
        rintro k3 i hk3 ⟨hi0, hi1, -⟩
        replace hi1 : i < l.length := hi1 (by omega)
        have hlt : i.toNat < l.length := by omega
        have hrow : (rowsF cAcct l)[i.toNat]? = some [.sc (.int .i64 l[i.toNat].1), .sc (.int .i64 l[i.toNat].2)] := rowsF_get cAcct l i.toNat hlt
        (repeat (first | refine WL.opA hΓ (h := ?_) | refine WL.opX hΓ (h := ?_) | refine WL.opY (h := ?_) | refine WL.opZ (h := ?_)))
        with_reducible apply WL.nil
        repeat (first | with_reducible apply W.seq | with_reducible apply W.block | with_reducible apply W.skip | with_reducible apply W.exit | with_reducible apply W.ret | with_reducible apply At.seqN | with_reducible apply At.blkN | with_reducible apply At.blkE | with_reducible apply At.blkR | with_reducible apply At.thenX | with_reducible apply At.thenR | with_reducible apply At.blkX rfl | ((with_reducible apply W.ops); (repeat (first | refine WL.opA hΓ (h := ?_) | refine WL.opX hΓ (h := ?_) | refine WL.opY (h := ?_) | refine WL.opZ (h := ?_))); with_reducible apply WL.nil) | refine W.condT (h := ?_) | refine W.condF (h := ?_))
        with_reducible apply W.ops
        repeat (first | refine WL.opA hΓ (h := ?_) | refine WL.opX hΓ (h := ?_) | refine WL.opY (h := ?_) | refine WL.opZ (h := ?_))
        refine WL.opCu hOn l1Once_s k3 hk3.ok 2 (by decide) (h := ?_)
        rintro k4 o2 hk4 -
        have hk40 := ((hk.trans hk2).trans hk3).trans hk4
        (repeat (first | refine WL.opA hΓ (h := ?_) | refine WL.opX hΓ (h := ?_) | refine WL.opY (h := ?_) | refine WL.opZ (h := ?_)))
        with_reducible apply WL.nil
        cases o2 with
        | true =>
          repeat (first | with_reducible apply W.seq | with_reducible apply W.block | with_reducible apply W.skip | with_reducible apply W.exit | with_reducible apply W.ret | with_reducible apply At.seqN | with_reducible apply At.blkN | with_reducible apply At.blkE | with_reducible apply At.blkR | with_reducible apply At.thenX | with_reducible apply At.thenR | with_reducible apply At.blkX rfl | ((with_reducible apply W.ops); (repeat (first | refine WL.opA hΓ (h := ?_) | refine WL.opX hΓ (h := ?_) | refine WL.opY (h := ?_) | refine WL.opZ (h := ?_))); with_reducible apply WL.nil) | refine W.condT (h := ?_) | refine W.condF (h := ?_))
          with_reducible apply W.ops
          repeat (first | refine WL.opA hΓ (h := ?_) | refine WL.opX hΓ (h := ?_) | refine WL.opY (h := ?_) | refine WL.opZ (h := ?_))
          refine WL.opCu hPi l1PickInt_s k4 hk4.ok [-1, 999999, 1000000, 1000001] ⟨by decide, by decide⟩ (h := ?_)
          rintro k5 r hk5 -
          (repeat (first | refine WL.opA hΓ (h := ?_) | refine WL.opX hΓ (h := ?_) | refine WL.opY (h := ?_) | refine WL.opZ (h := ?_)))
          with_reducible apply WL.nil
          repeat (first | with_reducible apply W.seq | with_reducible apply W.block | with_reducible apply W.skip | with_reducible apply W.exit | with_reducible apply W.ret | with_reducible apply At.seqN | with_reducible apply At.blkN | with_reducible apply At.blkE | with_reducible apply At.blkR | with_reducible apply At.thenX | with_reducible apply At.thenR | with_reducible apply At.blkX rfl | ((with_reducible apply W.ops); (repeat (first | refine WL.opA hΓ (h := ?_) | refine WL.opX hΓ (h := ?_) | refine WL.opY (h := ?_) | refine WL.opZ (h := ?_))); with_reducible apply WL.nil) | refine W.condT (h := ?_) | refine W.condF (h := ?_))
          refine At.retCu (by rw [Try.results103]) hB (hls := ?_) (he := ?_) k5 (l.set i.toNat (l[i.toNat].1, r)) (hk40.trans hk5) (show (l.set i.toNat _).length ≤ 5 by simp; omega)
          · rfl
          · exact congrArg (fun x => Res.comp false [RL.own true 122 2 x]) (rowsF_set cAcct l i.toNat (_, r))
        | false =>
          repeat (first | with_reducible apply W.seq | with_reducible apply W.block | with_reducible apply W.skip | with_reducible apply W.exit | with_reducible apply W.ret | with_reducible apply At.seqN | with_reducible apply At.blkN | with_reducible apply At.blkE | with_reducible apply At.blkR | with_reducible apply At.thenX | with_reducible apply At.thenR | with_reducible apply At.blkX rfl | ((with_reducible apply W.ops); (repeat (first | refine WL.opA hΓ (h := ?_) | refine WL.opX hΓ (h := ?_) | refine WL.opY (h := ?_) | refine WL.opZ (h := ?_))); with_reducible apply WL.nil) | refine W.condT (h := ?_) | refine W.condF (h := ?_))
          with_reducible apply W.ops
          repeat (first | refine WL.opA hΓ (h := ?_) | refine WL.opX hΓ (h := ?_) | refine WL.opY (h := ?_) | refine WL.opZ (h := ?_))
          refine WL.opCu hPi l1PickInt_s k4 hk4.ok [0, 2, 99, 100] ⟨by decide, by decide⟩ (h := ?_)
          rintro k5 r hk5 -
          (repeat (first | refine WL.opA hΓ (h := ?_) | refine WL.opX hΓ (h := ?_) | refine WL.opY (h := ?_) | refine WL.opZ (h := ?_)))
          with_reducible apply WL.nil
          repeat (first | with_reducible apply W.seq | with_reducible apply W.block | with_reducible apply W.skip | with_reducible apply W.exit | with_reducible apply W.ret | with_reducible apply At.seqN | with_reducible apply At.blkN | with_reducible apply At.blkE | with_reducible apply At.blkR | with_reducible apply At.thenX | with_reducible apply At.thenR | with_reducible apply At.blkX rfl | ((with_reducible apply W.ops); (repeat (first | refine WL.opA hΓ (h := ?_) | refine WL.opX hΓ (h := ?_) | refine WL.opY (h := ?_) | refine WL.opZ (h := ?_))); with_reducible apply WL.nil) | refine W.condT (h := ?_) | refine W.condF (h := ?_))
          refine At.retCu (by rw [Try.results103]) hB (hls := ?_) (he := ?_) k5 (l.set i.toNat (r, l[i.toNat].2)) (hk40.trans hk5) (show (l.set i.toNat _).length ≤ 5 by simp; omega)
          · rfl
          · exact congrArg (fun x => Res.comp false [RL.own true 122 2 x]) (rowsF_set cAcct l i.toNat (r, _))
    · repeat (first | with_reducible apply W.seq | with_reducible apply W.block | with_reducible apply W.skip | with_reducible apply W.exit | with_reducible apply W.ret | with_reducible apply At.seqN | with_reducible apply At.blkN | with_reducible apply At.blkE | with_reducible apply At.blkR | with_reducible apply At.thenX | with_reducible apply At.thenR | with_reducible apply At.blkX rfl | ((with_reducible apply W.ops); (repeat (first | refine WL.opA hΓ (h := ?_) | refine WL.opX hΓ (h := ?_) | refine WL.opY (h := ?_) | refine WL.opZ (h := ?_))); with_reducible apply WL.nil) | refine W.condT (h := ?_) | refine W.condF (h := ?_))
      refine At.retCu (by rw [Try.results103]) hB (hls := ?_) (he := ?_) k l hk hl5
      · rfl
      · rfl
def rDrRw (_ : List Nat) (y : List TAcct × List TVal × Int) : Prop := y.1.length ≤ 5 ∧ y.2.1.length ≤ 8
abbrev resRw (_ : List Nat) (y : List TAcct × List TVal × Int) : Res := .tup [(false, [.own true 122 2 (rowsF cAcct y.1)]), (false, [.own true 95 2 (rowsF cVal y.2.1)]), rSc (.int .i64 y.2.2)]
theorem DrawReward_s : SoundR Try.prog 39 CodeOk (fun bs => [aL cU8 bs]) rDrRw resRw := by
  refine SoundR.ofXA Try.func39 rfl Try.ntmps39 (by decide) ?_
  rintro bs v w hcode
  simp only [initX]
  have hΓ : GSound Try.prog (look []) := env_nil
  have hNw : Has Try.prog 66 := has_of Try.func66 rfl rfl
  have hSo : Has Try.prog 103 := has_of Try.func103 rfl rfl
  have hAn : Has Try.prog 67 := has_of Try.func67 rfl rfl
  have hPi : Has Try.prog 78 := has_of Try.func78 rfl rfl
  have hcu := lsNms_cu
  have hck := kill_cu
  repeat (first | with_reducible apply W.seq | with_reducible apply W.block | with_reducible apply W.skip | with_reducible apply W.exit | with_reducible apply W.ret | with_reducible apply At.seqN | with_reducible apply At.blkN | with_reducible apply At.blkE | with_reducible apply At.blkR | with_reducible apply At.thenX | with_reducible apply At.thenR | with_reducible apply At.blkX rfl | ((with_reducible apply W.ops); (repeat (first | refine WL.opA hΓ (h := ?_) | refine WL.opX hΓ (h := ?_) | refine WL.opY (h := ?_) | refine WL.opZ (h := ?_))); with_reducible apply WL.nil) | refine W.condT (h := ?_) | refine W.condF (h := ?_))
  with_reducible apply W.ops
  repeat (first | refine WL.opA hΓ (h := ?_) | refine WL.opX hΓ (h := ?_) | refine WL.opY (h := ?_) | refine WL.opZ (h := ?_))
  refine WL.opNew hNw l1New_s v bs hcode (h := ?_)
  intro k0 hk0
  (repeat (first | refine WL.opA hΓ (h := ?_) | refine WL.opX hΓ (h := ?_) | refine WL.opY (h := ?_) | refine WL.opZ (h := ?_)))
  with_reducible apply WL.nil
  repeat (first | with_reducible apply W.seq | with_reducible apply W.block | with_reducible apply W.skip | with_reducible apply W.exit | with_reducible apply W.ret | with_reducible apply At.seqN | with_reducible apply At.blkN | with_reducible apply At.blkE | with_reducible apply At.blkR | with_reducible apply At.thenX | with_reducible apply At.thenR | with_reducible apply At.blkX rfl | ((with_reducible apply W.ops); (repeat (first | refine WL.opA hΓ (h := ?_) | refine WL.opX hΓ (h := ?_) | refine WL.opY (h := ?_) | refine WL.opZ (h := ?_))); with_reducible apply WL.nil) | refine W.condT (h := ?_) | refine W.condF (h := ?_))
  with_reducible apply W.ops
  repeat (first | refine WL.opA hΓ (h := ?_) | refine WL.opX hΓ (h := ?_) | refine WL.opY (h := ?_) | refine WL.opZ (h := ?_))
  refine WL.opCu hSo l31Some_s k0 hk0 () trivial (h := ?_)
  rintro k1 l hk1 hl
  replace hl : l.length ≤ 5 := hl
  (repeat (first | refine WL.opA hΓ (h := ?_) | refine WL.opX hΓ (h := ?_) | refine WL.opY (h := ?_) | refine WL.opZ (h := ?_)))
  with_reducible apply WL.nil
  repeat (first | with_reducible apply W.seq | with_reducible apply W.block | with_reducible apply W.skip | with_reducible apply W.exit | with_reducible apply W.ret | with_reducible apply At.seqN | with_reducible apply At.blkN | with_reducible apply At.blkE | with_reducible apply At.blkR | with_reducible apply At.thenX | with_reducible apply At.thenR | with_reducible apply At.blkX rfl | ((with_reducible apply W.ops); (repeat (first | refine WL.opA hΓ (h := ?_) | refine WL.opX hΓ (h := ?_) | refine WL.opY (h := ?_) | refine WL.opZ (h := ?_))); with_reducible apply WL.nil) | refine W.condT (h := ?_) | refine W.condF (h := ?_))
  with_reducible apply W.ops
  repeat (first | refine WL.opA hΓ (h := ?_) | refine WL.opX hΓ (h := ?_) | refine WL.opY (h := ?_) | refine WL.opZ (h := ?_))
  refine WL.opCu hAn l6Any_s k1 hk1.ok () trivial (h := ?_)
  rintro k2 vals hk2 hv
  replace hv : vals.length ≤ 8 := hv
  (repeat (first | refine WL.opA hΓ (h := ?_) | refine WL.opX hΓ (h := ?_) | refine WL.opY (h := ?_) | refine WL.opZ (h := ?_)))
  with_reducible apply WL.nil
  repeat (first | with_reducible apply W.seq | with_reducible apply W.block | with_reducible apply W.skip | with_reducible apply W.exit | with_reducible apply W.ret | with_reducible apply At.seqN | with_reducible apply At.blkN | with_reducible apply At.blkE | with_reducible apply At.blkR | with_reducible apply At.thenX | with_reducible apply At.thenR | with_reducible apply At.blkX rfl | ((with_reducible apply W.ops); (repeat (first | refine WL.opA hΓ (h := ?_) | refine WL.opX hΓ (h := ?_) | refine WL.opY (h := ?_) | refine WL.opZ (h := ?_))); with_reducible apply WL.nil) | refine W.condT (h := ?_) | refine W.condF (h := ?_))
  with_reducible apply W.ops
  repeat (first | refine WL.opA hΓ (h := ?_) | refine WL.opX hΓ (h := ?_) | refine WL.opY (h := ?_) | refine WL.opZ (h := ?_))
  refine WL.opCu hPi l1PickInt_s k2 hk2.ok [0, 1, 10, 100, 10000, 10001, -1] ⟨by decide, by decide⟩ (h := ?_)
  rintro k3 r hk3 -
  (repeat (first | refine WL.opA hΓ (h := ?_) | refine WL.opX hΓ (h := ?_) | refine WL.opY (h := ?_) | refine WL.opZ (h := ?_)))
  with_reducible apply WL.nil
  repeat (first | with_reducible apply W.seq | with_reducible apply W.block | with_reducible apply W.skip | with_reducible apply W.exit | with_reducible apply W.ret | with_reducible apply At.seqN | with_reducible apply At.blkN | with_reducible apply At.blkE | with_reducible apply At.blkR | with_reducible apply At.thenX | with_reducible apply At.thenR | with_reducible apply At.blkX rfl | ((with_reducible apply W.ops); (repeat (first | refine WL.opA hΓ (h := ?_) | refine WL.opX hΓ (h := ?_) | refine WL.opY (h := ?_) | refine WL.opZ (h := ?_))); with_reducible apply WL.nil) | refine W.condT (h := ?_) | refine W.condF (h := ?_))
  refine At.retRA (by rw [Try.results39]) (he := ?_) (l, vals, r) ⟨by dsimp only; omega, by dsimp only; omega⟩
  rfl
def rDrSl (_ : List Nat) (y : List TAcct × List Int × Int) : Prop := y.1.length ≤ 5 ∧ y.2.1.length ≤ 7
abbrev resSl (_ : List Nat) (y : List TAcct × List Int × Int) : Res := .tup [(false, [.own true 122 2 (rowsF cAcct y.1)]), (false, [.own true 3 1 (rowsF cInt y.2.1)]), rSc (.int .i64 y.2.2)]
theorem DrawSlash_s : SoundR Try.prog 45 CodeOk (fun bs => [aL cU8 bs]) rDrSl resSl := by
  refine SoundR.ofXA Try.func45 rfl Try.ntmps45 (by decide) ?_
  rintro bs v w hcode
  simp only [initX]
  have hΓ : GSound Try.prog (look []) := env_nil
  have hNw : Has Try.prog 66 := has_of Try.func66 rfl rfl
  have hSo : Has Try.prog 103 := has_of Try.func103 rfl rfl
  have hOn : Has Try.prog 68 := has_of Try.func68 rfl rfl
  have hPi : Has Try.prog 78 := has_of Try.func78 rfl rfl
  have hnil : rowsF cInt [] = [] := rfl
  have hcu := lsNms_cu
  have hck := kill_cu
  repeat (first | with_reducible apply W.seq | with_reducible apply W.block | with_reducible apply W.skip | with_reducible apply W.exit | with_reducible apply W.ret | with_reducible apply At.seqN | with_reducible apply At.blkN | with_reducible apply At.blkE | with_reducible apply At.blkR | with_reducible apply At.thenX | with_reducible apply At.thenR | with_reducible apply At.blkX rfl | ((with_reducible apply W.ops); (repeat (first | refine WL.opA hΓ (h := ?_) | refine WL.opX hΓ (h := ?_) | refine WL.opY (h := ?_) | refine WL.opZ (h := ?_))); with_reducible apply WL.nil) | refine W.condT (h := ?_) | refine W.condF (h := ?_))
  with_reducible apply W.ops
  repeat (first | refine WL.opA hΓ (h := ?_) | refine WL.opX hΓ (h := ?_) | refine WL.opY (h := ?_) | refine WL.opZ (h := ?_))
  refine WL.opNew hNw l1New_s v bs hcode (h := ?_)
  intro k0 hk0
  (repeat (first | refine WL.opA hΓ (h := ?_) | refine WL.opX hΓ (h := ?_) | refine WL.opY (h := ?_) | refine WL.opZ (h := ?_)))
  with_reducible apply WL.nil
  repeat (first | with_reducible apply W.seq | with_reducible apply W.block | with_reducible apply W.skip | with_reducible apply W.exit | with_reducible apply W.ret | with_reducible apply At.seqN | with_reducible apply At.blkN | with_reducible apply At.blkE | with_reducible apply At.blkR | with_reducible apply At.thenX | with_reducible apply At.thenR | with_reducible apply At.blkX rfl | ((with_reducible apply W.ops); (repeat (first | refine WL.opA hΓ (h := ?_) | refine WL.opX hΓ (h := ?_) | refine WL.opY (h := ?_) | refine WL.opZ (h := ?_))); with_reducible apply WL.nil) | refine W.condT (h := ?_) | refine W.condF (h := ?_))
  with_reducible apply W.ops
  repeat (first | refine WL.opA hΓ (h := ?_) | refine WL.opX hΓ (h := ?_) | refine WL.opY (h := ?_) | refine WL.opZ (h := ?_))
  refine WL.opCu hSo l31Some_s k0 hk0 () trivial (h := ?_)
  rintro k1 l hk1 hl
  replace hl : l.length ≤ 5 := hl
  (repeat (first | refine WL.opA hΓ (h := ?_) | refine WL.opX hΓ (h := ?_) | refine WL.opY (h := ?_) | refine WL.opZ (h := ?_)))
  with_reducible apply WL.nil
  repeat (first | with_reducible apply W.seq | with_reducible apply W.block | with_reducible apply W.skip | with_reducible apply W.exit | with_reducible apply W.ret | with_reducible apply At.seqN | with_reducible apply At.blkN | with_reducible apply At.blkE | with_reducible apply At.blkR | with_reducible apply At.thenX | with_reducible apply At.thenR | with_reducible apply At.blkX rfl | ((with_reducible apply W.ops); (repeat (first | refine WL.opA hΓ (h := ?_) | refine WL.opX hΓ (h := ?_) | refine WL.opY (h := ?_) | refine WL.opZ (h := ?_))); with_reducible apply WL.nil) | refine W.condT (h := ?_) | refine W.condF (h := ?_))
  refine W.loopA (fun x : Int × List Int × Cu => CuOk x.2.2 ∧ 1 ≤ x.1 ∧ x.1 ≤ 7 ∧ x.2.1.length + 1 ≤ x.1) (fun x => [.slot 5 (one (.ptr 10 0)), .blk 10 (.box (cuL x.2.2)), .slot 6 (one (.all 12)), .blk 12 (.arr true 122 2 (rowsF cAcct l)), .slot 7 (one (.all 13)), .blk 13 (.arr true 3 1 (rowsF cInt x.2.1)), .slot 8 (vI x.1)]) (fun x => (7 - x.1).toNat) (1, [], k1) ⟨hk1.ok, by dsimp only; omega, by dsimp only; omega, by simp⟩ (h := ?_)
  rintro ⟨i, ids, k⟩ ⟨hk, hi1, hi7, hids⟩
  dsimp only at hk hi1 hi7 hids ⊢
  by_cases hlt : i < 7
  · repeat (first | with_reducible apply W.seq | with_reducible apply W.block | with_reducible apply W.skip | with_reducible apply W.exit | with_reducible apply W.ret | with_reducible apply At.seqN | with_reducible apply At.blkN | with_reducible apply At.blkE | with_reducible apply At.blkR | with_reducible apply At.thenX | with_reducible apply At.thenR | with_reducible apply At.blkX rfl | ((with_reducible apply W.ops); (repeat (first | refine WL.opA hΓ (h := ?_) | refine WL.opX hΓ (h := ?_) | refine WL.opY (h := ?_) | refine WL.opZ (h := ?_))); with_reducible apply WL.nil) | refine W.condT (h := ?_) | refine W.condF (h := ?_))
    with_reducible apply W.ops
    repeat (first | refine WL.opA hΓ (h := ?_) | refine WL.opX hΓ (h := ?_) | refine WL.opY (h := ?_) | refine WL.opZ (h := ?_))
    refine WL.opCu hOn l1Once_s k hk 3 (by decide) (h := ?_)
    rintro k2 o hk2 -
    (repeat (first | refine WL.opA hΓ (h := ?_) | refine WL.opX hΓ (h := ?_) | refine WL.opY (h := ?_) | refine WL.opZ (h := ?_)))
    with_reducible apply WL.nil
    cases o with
    | true =>
      have e := cInt_app ids i
      repeat (first | with_reducible apply W.seq | with_reducible apply W.block | with_reducible apply W.skip | with_reducible apply W.exit | with_reducible apply W.ret | with_reducible apply At.seqN | with_reducible apply At.blkN | with_reducible apply At.blkE | with_reducible apply At.blkR | with_reducible apply At.thenX | with_reducible apply At.thenR | with_reducible apply At.blkX rfl | ((with_reducible apply W.ops); (repeat (first | refine WL.opA hΓ (h := ?_) | refine WL.opX hΓ (h := ?_) | refine WL.opY (h := ?_) | refine WL.opZ (h := ?_))); with_reducible apply WL.nil) | refine W.condT (h := ?_) | refine W.condF (h := ?_))
      exact At.roundA (i + 1, ids ++ [i], k2) ⟨hk2.ok, by dsimp only; omega, by dsimp only; omega, by simp; omega⟩ (by dsimp only; omega)
    | false =>
      repeat (first | with_reducible apply W.seq | with_reducible apply W.block | with_reducible apply W.skip | with_reducible apply W.exit | with_reducible apply W.ret | with_reducible apply At.seqN | with_reducible apply At.blkN | with_reducible apply At.blkE | with_reducible apply At.blkR | with_reducible apply At.thenX | with_reducible apply At.thenR | with_reducible apply At.blkX rfl | ((with_reducible apply W.ops); (repeat (first | refine WL.opA hΓ (h := ?_) | refine WL.opX hΓ (h := ?_) | refine WL.opY (h := ?_) | refine WL.opZ (h := ?_))); with_reducible apply WL.nil) | refine W.condT (h := ?_) | refine W.condF (h := ?_))
      exact At.roundA (i + 1, ids, k2) ⟨hk2.ok, by dsimp only; omega, by dsimp only; omega, by dsimp only; omega⟩ (by dsimp only; omega)
  · repeat (first | with_reducible apply W.seq | with_reducible apply W.block | with_reducible apply W.skip | with_reducible apply W.exit | with_reducible apply W.ret | with_reducible apply At.seqN | with_reducible apply At.blkN | with_reducible apply At.blkE | with_reducible apply At.blkR | with_reducible apply At.thenX | with_reducible apply At.thenR | with_reducible apply At.blkX rfl | ((with_reducible apply W.ops); (repeat (first | refine WL.opA hΓ (h := ?_) | refine WL.opX hΓ (h := ?_) | refine WL.opY (h := ?_) | refine WL.opZ (h := ?_))); with_reducible apply WL.nil) | refine W.condT (h := ?_) | refine W.condF (h := ?_))
    with_reducible apply W.ops
    repeat (first | refine WL.opA hΓ (h := ?_) | refine WL.opX hΓ (h := ?_) | refine WL.opY (h := ?_) | refine WL.opZ (h := ?_))
    refine WL.opCu hPi l1PickInt_s k hk [1, 2, 3, 20, 100, 0, 101] ⟨by decide, by decide⟩ (h := ?_)
    rintro k3 r hk3 -
    (repeat (first | refine WL.opA hΓ (h := ?_) | refine WL.opX hΓ (h := ?_) | refine WL.opY (h := ?_) | refine WL.opZ (h := ?_)))
    with_reducible apply WL.nil
    repeat (first | with_reducible apply W.seq | with_reducible apply W.block | with_reducible apply W.skip | with_reducible apply W.exit | with_reducible apply W.ret | with_reducible apply At.seqN | with_reducible apply At.blkN | with_reducible apply At.blkE | with_reducible apply At.blkR | with_reducible apply At.thenX | with_reducible apply At.thenR | with_reducible apply At.blkX rfl | ((with_reducible apply W.ops); (repeat (first | refine WL.opA hΓ (h := ?_) | refine WL.opX hΓ (h := ?_) | refine WL.opY (h := ?_) | refine WL.opZ (h := ?_))); with_reducible apply WL.nil) | refine W.condT (h := ?_) | refine W.condF (h := ?_))
    refine At.retRA (by rw [Try.results45]) (he := ?_) (l, ids, r) ⟨by dsimp only; omega, by dsimp only; omega⟩
    rfl
def rDrTV (_ : List Nat) (y : List TAcct × Int) : Prop := y.1.length ≤ 5
abbrev resTV (_ : List Nat) (y : List TAcct × Int) : Res := .tup [(false, [.own true 122 2 (rowsF cAcct y.1)]), rSc (.int .i64 y.2)]
theorem DrawToVals_s : SoundR Try.prog 48 CodeOk (fun bs => [aL cU8 bs]) rDrTV resTV := by
  refine SoundR.ofXA Try.func48 rfl Try.ntmps48 (by decide) ?_
  rintro bs v w hcode
  simp only [initX]
  have hΓ : GSound Try.prog (look []) := env_nil
  have hNw : Has Try.prog 66 := has_of Try.func66 rfl rfl
  have hSo : Has Try.prog 103 := has_of Try.func103 rfl rfl
  have hPi : Has Try.prog 78 := has_of Try.func78 rfl rfl
  have hcu := lsNms_cu
  have hck := kill_cu
  repeat (first | with_reducible apply W.seq | with_reducible apply W.block | with_reducible apply W.skip | with_reducible apply W.exit | with_reducible apply W.ret | with_reducible apply At.seqN | with_reducible apply At.blkN | with_reducible apply At.blkE | with_reducible apply At.blkR | with_reducible apply At.thenX | with_reducible apply At.thenR | with_reducible apply At.blkX rfl | ((with_reducible apply W.ops); (repeat (first | refine WL.opA hΓ (h := ?_) | refine WL.opX hΓ (h := ?_) | refine WL.opY (h := ?_) | refine WL.opZ (h := ?_))); with_reducible apply WL.nil) | refine W.condT (h := ?_) | refine W.condF (h := ?_))
  with_reducible apply W.ops
  repeat (first | refine WL.opA hΓ (h := ?_) | refine WL.opX hΓ (h := ?_) | refine WL.opY (h := ?_) | refine WL.opZ (h := ?_))
  refine WL.opNew hNw l1New_s v bs hcode (h := ?_)
  intro k0 hk0
  (repeat (first | refine WL.opA hΓ (h := ?_) | refine WL.opX hΓ (h := ?_) | refine WL.opY (h := ?_) | refine WL.opZ (h := ?_)))
  with_reducible apply WL.nil
  repeat (first | with_reducible apply W.seq | with_reducible apply W.block | with_reducible apply W.skip | with_reducible apply W.exit | with_reducible apply W.ret | with_reducible apply At.seqN | with_reducible apply At.blkN | with_reducible apply At.blkE | with_reducible apply At.blkR | with_reducible apply At.thenX | with_reducible apply At.thenR | with_reducible apply At.blkX rfl | ((with_reducible apply W.ops); (repeat (first | refine WL.opA hΓ (h := ?_) | refine WL.opX hΓ (h := ?_) | refine WL.opY (h := ?_) | refine WL.opZ (h := ?_))); with_reducible apply WL.nil) | refine W.condT (h := ?_) | refine W.condF (h := ?_))
  with_reducible apply W.ops
  repeat (first | refine WL.opA hΓ (h := ?_) | refine WL.opX hΓ (h := ?_) | refine WL.opY (h := ?_) | refine WL.opZ (h := ?_))
  refine WL.opCu hSo l31Some_s k0 hk0 () trivial (h := ?_)
  rintro k1 l hk1 hl
  replace hl : l.length ≤ 5 := hl
  (repeat (first | refine WL.opA hΓ (h := ?_) | refine WL.opX hΓ (h := ?_) | refine WL.opY (h := ?_) | refine WL.opZ (h := ?_)))
  with_reducible apply WL.nil
  repeat (first | with_reducible apply W.seq | with_reducible apply W.block | with_reducible apply W.skip | with_reducible apply W.exit | with_reducible apply W.ret | with_reducible apply At.seqN | with_reducible apply At.blkN | with_reducible apply At.blkE | with_reducible apply At.blkR | with_reducible apply At.thenX | with_reducible apply At.thenR | with_reducible apply At.blkX rfl | ((with_reducible apply W.ops); (repeat (first | refine WL.opA hΓ (h := ?_) | refine WL.opX hΓ (h := ?_) | refine WL.opY (h := ?_) | refine WL.opZ (h := ?_))); with_reducible apply WL.nil) | refine W.condT (h := ?_) | refine W.condF (h := ?_))
  with_reducible apply W.ops
  repeat (first | refine WL.opA hΓ (h := ?_) | refine WL.opX hΓ (h := ?_) | refine WL.opY (h := ?_) | refine WL.opZ (h := ?_))
  refine WL.opCu hPi l1PickInt_s k1 hk1.ok [1, 10, 7, 0, -1, 100] ⟨by decide, by decide⟩ (h := ?_)
  rintro k3 r hk3 -
  (repeat (first | refine WL.opA hΓ (h := ?_) | refine WL.opX hΓ (h := ?_) | refine WL.opY (h := ?_) | refine WL.opZ (h := ?_)))
  with_reducible apply WL.nil
  repeat (first | with_reducible apply W.seq | with_reducible apply W.block | with_reducible apply W.skip | with_reducible apply W.exit | with_reducible apply W.ret | with_reducible apply At.seqN | with_reducible apply At.blkN | with_reducible apply At.blkE | with_reducible apply At.blkR | with_reducible apply At.thenX | with_reducible apply At.thenR | with_reducible apply At.blkX rfl | ((with_reducible apply W.ops); (repeat (first | refine WL.opA hΓ (h := ?_) | refine WL.opX hΓ (h := ?_) | refine WL.opY (h := ?_) | refine WL.opZ (h := ?_))); with_reducible apply WL.nil) | refine W.condT (h := ?_) | refine W.condF (h := ?_))
  refine At.retRA (by rw [Try.results48]) (he := ?_) (l, r) (by show l.length ≤ 5; omega)
  rfl
noncomputable def mSameV := mdl (fun l : List TVal => l.length ≤ 8796093022207) (fun l => [aL cVal l, aL cVal l]) (fun _ => rB true)
theorem mSameV_eq (l : List TVal) (h : l.length ≤ 8796093022207) : mSameV [aL cVal l, aL cVal l] = some (rB true) := mdl_eq (by intro a b h; simpa using h) l h
theorem sameV_s : Sound Try.prog 50 mSameV := by
  refine Sound.mdl Try.func50 rfl Try.ntmps50 ?_
  rintro l w hl
  refine ⟨by simp, ?_⟩
  replace hl : l.length ≤ 8796093022207 := hl
  have hΓ : GSound Try.prog (look []) := env_nil
  simp only [initS, argPV, List.map_cons, List.map_nil, toPL, Nat.zero_add]
  repeat (first | with_reducible apply W.seq | with_reducible apply W.block | with_reducible apply W.skip | with_reducible apply W.exit | with_reducible apply W.ret | with_reducible apply At.seqN | with_reducible apply At.blkN | with_reducible apply At.blkE | with_reducible apply At.blkR | with_reducible apply At.thenX | with_reducible apply At.thenR | with_reducible apply At.blkX rfl | ((with_reducible apply W.ops); (repeat (first | refine WL.opA hΓ (h := ?_) | refine WL.opX hΓ (h := ?_) | refine WL.opY (h := ?_) | refine WL.opZ (h := ?_))); with_reducible apply WL.nil) | refine W.condT (h := ?_) | refine W.condF (h := ?_))
  refine W.loopA (fun k => k ≤ l.length) (fun k : Nat => [.slot 0 (vL cVal l), .slot 1 (vL cVal l), .slot 5 (vI k)]) (fun k => l.length - k) 0 (Nat.zero_le _) (h := ?_)
  rintro k hk
  by_cases hlt : k < l.length
  · have hrow := val_row hlt
    dsimp only [bVal] at hrow
    repeat (first | with_reducible apply W.seq | with_reducible apply W.block | with_reducible apply W.skip | with_reducible apply W.exit | with_reducible apply W.ret | with_reducible apply At.seqN | with_reducible apply At.blkN | with_reducible apply At.blkE | with_reducible apply At.blkR | with_reducible apply At.thenX | with_reducible apply At.thenR | with_reducible apply At.blkX rfl | ((with_reducible apply W.ops); (repeat (first | refine WL.opA hΓ (h := ?_) | refine WL.opX hΓ (h := ?_) | refine WL.opY (h := ?_) | refine WL.opZ (h := ?_))); with_reducible apply WL.nil) | refine W.condT (h := ?_) | refine W.condF (h := ?_))
    refine W.drawsA hΓ 9 [[], [], [0, 1], [0, 1, 2], [], [], [4, 5], [4, 5, 6], [0, 1, 2, 3, 4, 5, 6, 7]] (rest := ?rest128) (Es := ?Es128) (st1 := ?st1128) (h := ?h128) (hf := ?hf128) (hp := ?hp128) (hd := ?hd128) (hfr := ?hfr128) (hst := ?hst128) (hT := ?hT128)
    case h128 => kernel_rfl
    case hf128 =>
      repeat (first | refine FlowT.opA (h := ?_) | refine FlowT.opX (h := ?_) | refine FlowT.opY (h := ?_) | refine FlowT.opZ (h := ?_))
      exact FlowT.done
    case hp128 => rfl
    case hd128 => rfl
    case hfr128 => rfl
    case hst128 =>
      simp only [pick_nil, pick_all, List.cons_append, List.nil_append]
      rfl
    (repeat (first | refine WL.opA hΓ (h := ?_) | refine WL.opX hΓ (h := ?_) | refine WL.opY (h := ?_) | refine WL.opZ (h := ?_)))
    with_reducible apply WL.nil
    repeat (first | with_reducible apply W.seq | with_reducible apply W.block | with_reducible apply W.skip | with_reducible apply W.exit | with_reducible apply W.ret | with_reducible apply At.seqN | with_reducible apply At.blkN | with_reducible apply At.blkE | with_reducible apply At.blkR | with_reducible apply At.thenX | with_reducible apply At.thenR | with_reducible apply At.blkX rfl | ((with_reducible apply W.ops); (repeat (first | refine WL.opA hΓ (h := ?_) | refine WL.opX hΓ (h := ?_) | refine WL.opY (h := ?_) | refine WL.opZ (h := ?_))); with_reducible apply WL.nil) | refine W.condT (h := ?_) | refine W.condF (h := ?_))
    exact At.roundA (k + 1) (by omega) (by omega)
  · repeat (first | with_reducible apply W.seq | with_reducible apply W.block | with_reducible apply W.skip | with_reducible apply W.exit | with_reducible apply W.ret | with_reducible apply At.seqN | with_reducible apply At.blkN | with_reducible apply At.blkE | with_reducible apply At.blkR | with_reducible apply At.thenX | with_reducible apply At.thenR | with_reducible apply At.blkX rfl | ((with_reducible apply W.ops); (repeat (first | refine WL.opA hΓ (h := ?_) | refine WL.opX hΓ (h := ?_) | refine WL.opY (h := ?_) | refine WL.opZ (h := ?_))); with_reducible apply WL.nil) | refine W.condT (h := ?_) | refine W.condF (h := ?_))
    refine At.retA (by rw [Try.results50]) (he := rfl)
end Go.Proofs.Ytlchfjjoendimaa
