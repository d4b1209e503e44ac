/-
  The law FnStake.
-/
import Derived.Test.YtlchfjjoendimaaEvStkF
import Derived.Test.YtlchfjjoendimaaEvFresh
namespace Go.Proofs.Ytlchfjjoendimaa
set_option maxRecDepth 100000
set_option linter.unusedVariables false
set_option linter.unusedSimpArgs false
open Go Go.RowKit
set_option maxHeartbeats 4000000
set_option linter.unusedVariables false

noncomputable def mSlS := mdl okSlash eSlash (slashR 122)
noncomputable def mSlI := mdl okSlash eSlash fun x => if acctsOk x.1 then slashR 122 x else rTN ([.int .i64 0, .bool false].map rSc)
theorem slashN_in {l : List TAcct} {ids : List Int} {part : Int} : 0 ≤ slashN l ids part ∧ slashN l ids part ≤ 7000000 := by
  by_cases ha : acctsOk l
  · have h1 := slash_coins (ids := ids) (part := part) ha
    have h2 := coins_in l
    have h3 := coins_in (slashL l ids part)
    refine ⟨?_, by omega⟩
    unfold slashN
    split
    · rename_i h
      have := sumK_in (c := cutA ids part) (l := l) (m := 1000000) (fun k hk => by
        obtain ⟨_, _, b3, b4⟩ := accts_at ha hk
        have := tdiv_in b3 h.2.1
        unfold cutA
        split <;> omega) l.length (Nat.le_refl _)
      rw [sumK_all _ (Nat.le_refl _)] at this
      exact this.1
    · omega
  · unfold slashN
    rw [if_neg (fun h => ha h.1)]
    omega
theorem lawStake_s : Sound Try.prog 6 (mdl (fun bs : List Nat => bs.length ≤ 9223372036854775807 ∧ ∀ n ∈ bs, n < 256) (fun bs => [aL cU8 bs]) fun _ => rB true) := by
  refine Sound.mdl Try.func6 rfl Try.ntmps6 ?_
  rintro bs w ⟨hlen, hbs⟩
  refine ⟨by simp, ?_⟩
  have g1 := env_cons (has_of Try.func9 rfl rfl) big_s (env_cons (has_of Try.func40 rfl rfl) rewI_s (env_cons (has_of Try.func41 rfl rfl) rewS_s (env_cons (has_of Try.func42 rfl rfl) coinsI_s (env_cons (has_of Try.func43 rfl rfl) coinsS_s (env_cons (has_of Try.func44 rfl rfl) acctsS_s (env_cons (has_of Try.func46 rfl rfl) slashI_s (env_cons (has_of Try.func47 rfl rfl) slashS_s (env_cons (has_of Try.func49 rfl rfl) toValsI_s (env_cons (has_of Try.func51 rfl rfl) toValsS_s (env_cons (has_of Try.func50 rfl rfl) sameV_s (env_cons (has_of Try.func52 rfl rfl) valsS_s env_nil)))))))))))
  have hΓ : GSound Try.prog (look [(9, mBig), (40, mRwi), (41, mRws), (42, mCoins), (43, mCoins), (44, mAccts), (46, mSlI), (47, mSlS), (49, mTVi), (51, mTVs), (50, mSameV), (52, mVals)]) := g1
  clear g1
  have hDR : Has Try.prog 39 := has_of Try.func39 rfl rfl
  have hDS : Has Try.prog 45 := has_of Try.func45 rfl rfl
  have hDT : Has Try.prog 48 := has_of Try.func48 rfl rfl
  have hnA : rowsF cAcct [] = [] := rfl
  have hnV : rowsF cVal [] = [] := rfl
  have c0 := mBig_eq bs hlen
  simp only [initS, argPV, List.map_cons, List.map_nil, toPL, Nat.zero_add]
  by_cases hb : 1048576 < bs.length
  · repeat (first | with_reducible apply W.seq | with_reducible apply W.block | with_reducible apply W.skip | with_reducible apply W.exit | with_reducible apply W.ret | with_reducible apply At.seqN | with_reducible apply At.blkN | with_reducible apply At.blkE | with_reducible apply At.blkR | with_reducible apply At.thenX | with_reducible apply At.thenR | with_reducible apply At.blkX rfl | ((with_reducible apply W.ops); (repeat (first | refine WL.opA hΓ (h := ?_) | refine WL.opX hΓ (h := ?_) | refine WL.opY (h := ?_) | refine WL.opZ (h := ?_))); with_reducible apply WL.nil) | refine W.condT (h := ?_) | refine W.condF (h := ?_))
    refine At.retA (by rw [Try.results6]) (he := rfl)
  · have hcode := CodeOk.le (bs := bs) (by omega) hbs
    clear hbs
    repeat (first | with_reducible apply W.seq | with_reducible apply W.block | with_reducible apply W.skip | with_reducible apply W.exit | with_reducible apply W.ret | with_reducible apply At.seqN | with_reducible apply At.blkN | with_reducible apply At.blkE | with_reducible apply At.blkR | with_reducible apply At.thenX | with_reducible apply At.thenR | with_reducible apply At.blkX rfl | ((with_reducible apply W.ops); (repeat (first | refine WL.opA hΓ (h := ?_) | refine WL.opX hΓ (h := ?_) | refine WL.opY (h := ?_) | refine WL.opZ (h := ?_))); with_reducible apply WL.nil) | refine W.condT (h := ?_) | refine W.condF (h := ?_))
    with_reducible apply W.ops
    repeat (first | refine WL.opA hΓ (h := ?_) | refine WL.opX hΓ (h := ?_) | refine WL.opY (h := ?_) | refine WL.opZ (h := ?_))
    refine WL.opRA hDR DrawReward_s bs hcode (h := ?_)
    rintro ⟨l, vals, coins⟩ ⟨hl, hv⟩
    dsimp only at hl hv ⊢
    (repeat (first | refine WL.opA hΓ (h := ?_) | refine WL.opX hΓ (h := ?_) | refine WL.opY (h := ?_) | refine WL.opZ (h := ?_)))
    with_reducible apply WL.nil
    have c1 := mdl_eq (ok := okRw) (g := rRwi) encRw_inj (l, vals, coins) ⟨by dsimp only; omega, by dsimp only; omega⟩
    have c2 := mdl_eq (ok := okRw) (g := rRws) encRw_inj (l, vals, coins) ⟨by dsimp only; omega, by dsimp only; omega⟩
    replace c1 : mRwi [aL cAcct l, aL cVal vals, aI coins] = some (rRwi (l, vals, coins)) := c1
    replace c2 : mRws [aL cAcct l, aL cVal vals, aI coins] = some (rRws (l, vals, coins)) := c2
    have hLl := rewL_le l vals coins
    have c3 := mCoins_eq l (by omega)
    have c4 := mCoins_eq (rewL l vals coins) (by omega)
    have c5 := mAccts_eq (rewL l vals coins) (by omega)
    have i1 := coins_in l
    have i2 := coins_in (rewL l vals coins)
    clear c0 hlen
    cases hB : rewB l vals coins with
    | true =>
      obtain ⟨y1, y2⟩ := rew_yes hB
      have hB2 := hB
      simp only [rewB, Bool.and_eq_true, decide_eq_true_eq] at hB2
      obtain ⟨⟨⟨hla, -⟩, hco⟩, -⟩ := hB2
      simp only [rRwi, rRws, if_pos hla, hB] at c1 c2
      rw [decide_eq_true y2] at c5
      clear hB hla y2 hnA
      repeat (first | with_reducible apply W.seq | with_reducible apply W.block | with_reducible apply W.skip | with_reducible apply W.exit | with_reducible apply W.ret | with_reducible apply At.seqN | with_reducible apply At.blkN | with_reducible apply At.blkE | with_reducible apply At.blkR | with_reducible apply At.thenX | with_reducible apply At.thenR | with_reducible apply At.blkX rfl | ((with_reducible apply W.ops); (repeat (first | refine WL.opA hΓ (h := ?_) | refine WL.opX hΓ (h := ?_) | refine WL.opY (h := ?_) | refine WL.opZ (h := ?_))); with_reducible apply WL.nil) | refine W.condT (h := ?_) | refine W.condF (h := ?_))
      clear c1 c2 c3 c4 c5 i1 i2 y1 hco
      with_reducible apply W.ops
      repeat (first | refine WL.opA hΓ (h := ?_) | refine WL.opX hΓ (h := ?_) | refine WL.opY (h := ?_) | refine WL.opZ (h := ?_))
      refine WL.opRA hDS DrawSlash_s bs hcode (h := ?_)
      rintro ⟨m, ids, p⟩ ⟨hm, hi⟩
      dsimp only at hm hi ⊢
      (repeat (first | refine WL.opA hΓ (h := ?_) | refine WL.opX hΓ (h := ?_) | refine WL.opY (h := ?_) | refine WL.opZ (h := ?_)))
      with_reducible apply WL.nil
      have e1 := mdl_eq (ok := okSlash) (g := fun x => if acctsOk x.1 then slashR 122 x else rTN ([.int .i64 0, .bool false].map rSc)) eSlash_inj (m, ids, p) ⟨by dsimp only; omega, by dsimp only; omega⟩
      have e2 := mdl_eq (ok := okSlash) (g := slashR 122) eSlash_inj (m, ids, p) ⟨by dsimp only; omega, by dsimp only; omega⟩
      rw [slashR_eq] at e1 e2
      replace e2 : mSlS [aL cAcct m, aL cInt ids, aI p] = some (rTL 122 2 cAcct (slashL m ids p) [rSc (.int .i64 (slashN m ids p)), rSc (.bool (slashB m ids p))]) := e2
      replace e1 : mSlI [aL cAcct m, aL cInt ids, aI p] = some (if acctsOk m then rTL 122 2 cAcct (slashL m ids p) [rSc (.int .i64 (slashN m ids p)), rSc (.bool (slashB m ids p))] else rTN [rSc (.int .i64 0), rSc (.bool false)]) := e1
      have hSl := slashL_le m ids p
      have e3 := mCoins_eq m (by omega)
      have e4 := mCoins_eq (slashL m ids p) (by omega)
      have e5 := mAccts_eq m (by omega)
      have j1 := coins_in m
      have j2 := coins_in (slashL m ids p)
      have j3 := slashN_in (l := m) (ids := ids) (part := p)
      by_cases hma : acctsOk m
      · have hs := slash_coins (ids := ids) (part := p) hma
        rw [if_pos hma] at e1
        rw [decide_eq_true hma] at e5
        clear hma
        repeat (first | with_reducible apply W.seq | with_reducible apply W.block | with_reducible apply W.skip | with_reducible apply W.exit | with_reducible apply W.ret | with_reducible apply At.seqN | with_reducible apply At.blkN | with_reducible apply At.blkE | with_reducible apply At.blkR | with_reducible apply At.thenX | with_reducible apply At.thenR | with_reducible apply At.blkX rfl | ((with_reducible apply W.ops); (repeat (first | refine WL.opA hΓ (h := ?_) | refine WL.opX hΓ (h := ?_) | refine WL.opY (h := ?_) | refine WL.opZ (h := ?_))); with_reducible apply WL.nil) | refine W.condT (h := ?_) | refine W.condF (h := ?_))
        with_reducible apply W.ops
        repeat (first | refine WL.opA hΓ (h := ?_) | refine WL.opX hΓ (h := ?_) | refine WL.opY (h := ?_) | refine WL.opZ (h := ?_))
        refine WL.opRA hDT DrawToVals_s bs hcode (h := ?_)
        rintro ⟨a, u⟩ ha
        replace ha : a.length ≤ 5 := ha
        dsimp only
        (repeat (first | refine WL.opA hΓ (h := ?_) | refine WL.opX hΓ (h := ?_) | refine WL.opY (h := ?_) | refine WL.opZ (h := ?_)))
        with_reducible apply WL.nil
        have d1 := mTVi_eq a u (show a.length ≤ _ by omega)
        have d2 := mTVs_eq a u (show a.length ≤ _ by omega)
        have hvl := toVals_le a u
        have d3 := mSameV_eq (toVals a u) (by omega)
        have d4 := mVals_eq (toVals a u) (by omega)
        by_cases hu : acctsOk a ∧ 1 ≤ u
        · rw [if_pos hu] at d1
          clear hu hnV
          by_cases hz : toVals a u = []
          · have hz0 : (toVals a u).length = 0 := by rw [hz]; rfl
            clear hz
            repeat (first | with_reducible apply W.seq | with_reducible apply W.block | with_reducible apply W.skip | with_reducible apply W.exit | with_reducible apply W.ret | with_reducible apply At.seqN | with_reducible apply At.blkN | with_reducible apply At.blkE | with_reducible apply At.blkR | with_reducible apply At.thenX | with_reducible apply At.thenR | with_reducible apply At.blkX rfl | ((with_reducible apply W.ops); (repeat (first | refine WL.opA hΓ (h := ?_) | refine WL.opX hΓ (h := ?_) | refine WL.opY (h := ?_) | refine WL.opZ (h := ?_))); with_reducible apply WL.nil) | refine W.condT (h := ?_) | refine W.condF (h := ?_))
            refine At.retA (by rw [Try.results6]) (he := rfl)
          · rw [decide_eq_true (toVals_ok hz)] at d4
            by_cases hz0 : (toVals a u).length = 0
            · exact absurd (List.length_eq_zero_iff.1 hz0) hz
            · clear hz
              repeat (first | with_reducible apply W.seq | with_reducible apply W.block | with_reducible apply W.skip | with_reducible apply W.exit | with_reducible apply W.ret | with_reducible apply At.seqN | with_reducible apply At.blkN | with_reducible apply At.blkE | with_reducible apply At.blkR | with_reducible apply At.thenX | with_reducible apply At.thenR | with_reducible apply At.blkX rfl | ((with_reducible apply W.ops); (repeat (first | refine WL.opA hΓ (h := ?_) | refine WL.opX hΓ (h := ?_) | refine WL.opY (h := ?_) | refine WL.opZ (h := ?_))); with_reducible apply WL.nil) | refine W.condT (h := ?_) | refine W.condF (h := ?_))
              refine At.retA (by rw [Try.results6]) (he := rfl)
        · rw [if_neg hu] at d1
          have hres : toVals a u = [] := by unfold toVals; rw [if_neg hu]
          rw [hres] at d2 d3 d4
          clear hres hu
          simp only [aL, rL, hnV] at d2 d3
          repeat (first | with_reducible apply W.seq | with_reducible apply W.block | with_reducible apply W.skip | with_reducible apply W.exit | with_reducible apply W.ret | with_reducible apply At.seqN | with_reducible apply At.blkN | with_reducible apply At.blkE | with_reducible apply At.blkR | with_reducible apply At.thenX | with_reducible apply At.thenR | with_reducible apply At.blkX rfl | ((with_reducible apply W.ops); (repeat (first | refine WL.opA hΓ (h := ?_) | refine WL.opX hΓ (h := ?_) | refine WL.opY (h := ?_) | refine WL.opZ (h := ?_))); with_reducible apply WL.nil) | refine W.condT (h := ?_) | refine W.condF (h := ?_))
          refine At.retA (by rw [Try.results6]) (he := rfl)
      · rw [if_neg hma] at e1
        rw [decide_eq_false hma] at e5
        have hB : slashB m ids p = false := decide_eq_false fun h => hma h.1
        have hN : slashN m ids p = 0 := by unfold slashN; rw [if_neg (fun h => hma h.1)]
        rw [hB, hN] at e2
        clear hma hB hN j3
        repeat (first | with_reducible apply W.seq | with_reducible apply W.block | with_reducible apply W.skip | with_reducible apply W.exit | with_reducible apply W.ret | with_reducible apply At.seqN | with_reducible apply At.blkN | with_reducible apply At.blkE | with_reducible apply At.blkR | with_reducible apply At.thenX | with_reducible apply At.thenR | with_reducible apply At.blkX rfl | ((with_reducible apply W.ops); (repeat (first | refine WL.opA hΓ (h := ?_) | refine WL.opX hΓ (h := ?_) | refine WL.opY (h := ?_) | refine WL.opZ (h := ?_))); with_reducible apply WL.nil) | refine W.condT (h := ?_) | refine W.condF (h := ?_))
        with_reducible apply W.ops
        repeat (first | refine WL.opA hΓ (h := ?_) | refine WL.opX hΓ (h := ?_) | refine WL.opY (h := ?_) | refine WL.opZ (h := ?_))
        refine WL.opRA hDT DrawToVals_s bs hcode (h := ?_)
        rintro ⟨a, u⟩ ha
        replace ha : a.length ≤ 5 := ha
        dsimp only
        (repeat (first | refine WL.opA hΓ (h := ?_) | refine WL.opX hΓ (h := ?_) | refine WL.opY (h := ?_) | refine WL.opZ (h := ?_)))
        with_reducible apply WL.nil
        have d1 := mTVi_eq a u (show a.length ≤ _ by omega)
        have d2 := mTVs_eq a u (show a.length ≤ _ by omega)
        have hvl := toVals_le a u
        have d3 := mSameV_eq (toVals a u) (by omega)
        have d4 := mVals_eq (toVals a u) (by omega)
        by_cases hu : acctsOk a ∧ 1 ≤ u
        · rw [if_pos hu] at d1
          clear hu hnV
          by_cases hz : toVals a u = []
          · have hz0 : (toVals a u).length = 0 := by rw [hz]; rfl
            clear hz
            repeat (first | with_reducible apply W.seq | with_reducible apply W.block | with_reducible apply W.skip | with_reducible apply W.exit | with_reducible apply W.ret | with_reducible apply At.seqN | with_reducible apply At.blkN | with_reducible apply At.blkE | with_reducible apply At.blkR | with_reducible apply At.thenX | with_reducible apply At.thenR | with_reducible apply At.blkX rfl | ((with_reducible apply W.ops); (repeat (first | refine WL.opA hΓ (h := ?_) | refine WL.opX hΓ (h := ?_) | refine WL.opY (h := ?_) | refine WL.opZ (h := ?_))); with_reducible apply WL.nil) | refine W.condT (h := ?_) | refine W.condF (h := ?_))
            refine At.retA (by rw [Try.results6]) (he := rfl)
          · rw [decide_eq_true (toVals_ok hz)] at d4
            by_cases hz0 : (toVals a u).length = 0
            · exact absurd (List.length_eq_zero_iff.1 hz0) hz
            · clear hz
              repeat (first | with_reducible apply W.seq | with_reducible apply W.block | with_reducible apply W.skip | with_reducible apply W.exit | with_reducible apply W.ret | with_reducible apply At.seqN | with_reducible apply At.blkN | with_reducible apply At.blkE | with_reducible apply At.blkR | with_reducible apply At.thenX | with_reducible apply At.thenR | with_reducible apply At.blkX rfl | ((with_reducible apply W.ops); (repeat (first | refine WL.opA hΓ (h := ?_) | refine WL.opX hΓ (h := ?_) | refine WL.opY (h := ?_) | refine WL.opZ (h := ?_))); with_reducible apply WL.nil) | refine W.condT (h := ?_) | refine W.condF (h := ?_))
              refine At.retA (by rw [Try.results6]) (he := rfl)
        · rw [if_neg hu] at d1
          have hres : toVals a u = [] := by unfold toVals; rw [if_neg hu]
          rw [hres] at d2 d3 d4
          clear hres hu
          simp only [aL, rL, hnV] at d2 d3
          repeat (first | with_reducible apply W.seq | with_reducible apply W.block | with_reducible apply W.skip | with_reducible apply W.exit | with_reducible apply W.ret | with_reducible apply At.seqN | with_reducible apply At.blkN | with_reducible apply At.blkE | with_reducible apply At.blkR | with_reducible apply At.thenX | with_reducible apply At.thenR | with_reducible apply At.blkX rfl | ((with_reducible apply W.ops); (repeat (first | refine WL.opA hΓ (h := ?_) | refine WL.opX hΓ (h := ?_) | refine WL.opY (h := ?_) | refine WL.opZ (h := ?_))); with_reducible apply WL.nil) | refine W.condT (h := ?_) | refine W.condF (h := ?_))
          refine At.retA (by rw [Try.results6]) (he := rfl)
    | false =>
      have y1 := rew_no hB
      by_cases hla : acctsOk l
      · simp only [rRwi, rRws, if_pos hla, hB] at c1 c2
        clear hB hla hnA
        repeat (first | with_reducible apply W.seq | with_reducible apply W.block | with_reducible apply W.skip | with_reducible apply W.exit | with_reducible apply W.ret | with_reducible apply At.seqN | with_reducible apply At.blkN | with_reducible apply At.blkE | with_reducible apply At.blkR | with_reducible apply At.thenX | with_reducible apply At.thenR | with_reducible apply At.blkX rfl | ((with_reducible apply W.ops); (repeat (first | refine WL.opA hΓ (h := ?_) | refine WL.opX hΓ (h := ?_) | refine WL.opY (h := ?_) | refine WL.opZ (h := ?_))); with_reducible apply WL.nil) | refine W.condT (h := ?_) | refine W.condF (h := ?_))
        clear c1 c2 c3 c4 c5 i1 i2 y1
        with_reducible apply W.ops
        repeat (first | refine WL.opA hΓ (h := ?_) | refine WL.opX hΓ (h := ?_) | refine WL.opY (h := ?_) | refine WL.opZ (h := ?_))
        refine WL.opRA hDS DrawSlash_s bs hcode (h := ?_)
        rintro ⟨m, ids, p⟩ ⟨hm, hi⟩
        dsimp only at hm hi ⊢
        (repeat (first | refine WL.opA hΓ (h := ?_) | refine WL.opX hΓ (h := ?_) | refine WL.opY (h := ?_) | refine WL.opZ (h := ?_)))
        with_reducible apply WL.nil
        have e1 := mdl_eq (ok := okSlash) (g := fun x => if acctsOk x.1 then slashR 122 x else rTN ([.int .i64 0, .bool false].map rSc)) eSlash_inj (m, ids, p) ⟨by dsimp only; omega, by dsimp only; omega⟩
        have e2 := mdl_eq (ok := okSlash) (g := slashR 122) eSlash_inj (m, ids, p) ⟨by dsimp only; omega, by dsimp only; omega⟩
        rw [slashR_eq] at e1 e2
        replace e2 : mSlS [aL cAcct m, aL cInt ids, aI p] = some (rTL 122 2 cAcct (slashL m ids p) [rSc (.int .i64 (slashN m ids p)), rSc (.bool (slashB m ids p))]) := e2
        replace e1 : mSlI [aL cAcct m, aL cInt ids, aI p] = some (if acctsOk m then rTL 122 2 cAcct (slashL m ids p) [rSc (.int .i64 (slashN m ids p)), rSc (.bool (slashB m ids p))] else rTN [rSc (.int .i64 0), rSc (.bool false)]) := e1
        have hSl := slashL_le m ids p
        have e3 := mCoins_eq m (by omega)
        have e4 := mCoins_eq (slashL m ids p) (by omega)
        have e5 := mAccts_eq m (by omega)
        have j1 := coins_in m
        have j2 := coins_in (slashL m ids p)
        have j3 := slashN_in (l := m) (ids := ids) (part := p)
        by_cases hma : acctsOk m
        · have hs := slash_coins (ids := ids) (part := p) hma
          rw [if_pos hma] at e1
          rw [decide_eq_true hma] at e5
          clear hma
          repeat (first | with_reducible apply W.seq | with_reducible apply W.block | with_reducible apply W.skip | with_reducible apply W.exit | with_reducible apply W.ret | with_reducible apply At.seqN | with_reducible apply At.blkN | with_reducible apply At.blkE | with_reducible apply At.blkR | with_reducible apply At.thenX | with_reducible apply At.thenR | with_reducible apply At.blkX rfl | ((with_reducible apply W.ops); (repeat (first | refine WL.opA hΓ (h := ?_) | refine WL.opX hΓ (h := ?_) | refine WL.opY (h := ?_) | refine WL.opZ (h := ?_))); with_reducible apply WL.nil) | refine W.condT (h := ?_) | refine W.condF (h := ?_))
          with_reducible apply W.ops
          repeat (first | refine WL.opA hΓ (h := ?_) | refine WL.opX hΓ (h := ?_) | refine WL.opY (h := ?_) | refine WL.opZ (h := ?_))
          refine WL.opRA hDT DrawToVals_s bs hcode (h := ?_)
          rintro ⟨a, u⟩ ha
          replace ha : a.length ≤ 5 := ha
          dsimp only
          (repeat (first | refine WL.opA hΓ (h := ?_) | refine WL.opX hΓ (h := ?_) | refine WL.opY (h := ?_) | refine WL.opZ (h := ?_)))
          with_reducible apply WL.nil
          have d1 := mTVi_eq a u (show a.length ≤ _ by omega)
          have d2 := mTVs_eq a u (show a.length ≤ _ by omega)
          have hvl := toVals_le a u
          have d3 := mSameV_eq (toVals a u) (by omega)
          have d4 := mVals_eq (toVals a u) (by omega)
          by_cases hu : acctsOk a ∧ 1 ≤ u
          · rw [if_pos hu] at d1
            clear hu hnV
            by_cases hz : toVals a u = []
            · have hz0 : (toVals a u).length = 0 := by rw [hz]; rfl
              clear hz
              repeat (first | with_reducible apply W.seq | with_reducible apply W.block | with_reducible apply W.skip | with_reducible apply W.exit | with_reducible apply W.ret | with_reducible apply At.seqN | with_reducible apply At.blkN | with_reducible apply At.blkE | with_reducible apply At.blkR | with_reducible apply At.thenX | with_reducible apply At.thenR | with_reducible apply At.blkX rfl | ((with_reducible apply W.ops); (repeat (first | refine WL.opA hΓ (h := ?_) | refine WL.opX hΓ (h := ?_) | refine WL.opY (h := ?_) | refine WL.opZ (h := ?_))); with_reducible apply WL.nil) | refine W.condT (h := ?_) | refine W.condF (h := ?_))
              refine At.retA (by rw [Try.results6]) (he := rfl)
            · rw [decide_eq_true (toVals_ok hz)] at d4
              by_cases hz0 : (toVals a u).length = 0
              · exact absurd (List.length_eq_zero_iff.1 hz0) hz
              · clear hz
                repeat (first | with_reducible apply W.seq | with_reducible apply W.block | with_reducible apply W.skip | with_reducible apply W.exit | with_reducible apply W.ret | with_reducible apply At.seqN | with_reducible apply At.blkN | with_reducible apply At.blkE | with_reducible apply At.blkR | with_reducible apply At.thenX | with_reducible apply At.thenR | with_reducible apply At.blkX rfl | ((with_reducible apply W.ops); (repeat (first | refine WL.opA hΓ (h := ?_) | refine WL.opX hΓ (h := ?_) | refine WL.opY (h := ?_) | refine WL.opZ (h := ?_))); with_reducible apply WL.nil) | refine W.condT (h := ?_) | refine W.condF (h := ?_))
                refine At.retA (by rw [Try.results6]) (he := rfl)
          · rw [if_neg hu] at d1
            have hres : toVals a u = [] := by unfold toVals; rw [if_neg hu]
            rw [hres] at d2 d3 d4
            clear hres hu
            simp only [aL, rL, hnV] at d2 d3
            repeat (first | with_reducible apply W.seq | with_reducible apply W.block | with_reducible apply W.skip | with_reducible apply W.exit | with_reducible apply W.ret | with_reducible apply At.seqN | with_reducible apply At.blkN | with_reducible apply At.blkE | with_reducible apply At.blkR | with_reducible apply At.thenX | with_reducible apply At.thenR | with_reducible apply At.blkX rfl | ((with_reducible apply W.ops); (repeat (first | refine WL.opA hΓ (h := ?_) | refine WL.opX hΓ (h := ?_) | refine WL.opY (h := ?_) | refine WL.opZ (h := ?_))); with_reducible apply WL.nil) | refine W.condT (h := ?_) | refine W.condF (h := ?_))
            refine At.retA (by rw [Try.results6]) (he := rfl)
        · rw [if_neg hma] at e1
          rw [decide_eq_false hma] at e5
          have hB : slashB m ids p = false := decide_eq_false fun h => hma h.1
          have hN : slashN m ids p = 0 := by unfold slashN; rw [if_neg (fun h => hma h.1)]
          rw [hB, hN] at e2
          clear hma hB hN j3
          repeat (first | with_reducible apply W.seq | with_reducible apply W.block | with_reducible apply W.skip | with_reducible apply W.exit | with_reducible apply W.ret | with_reducible apply At.seqN | with_reducible apply At.blkN | with_reducible apply At.blkE | with_reducible apply At.blkR | with_reducible apply At.thenX | with_reducible apply At.thenR | with_reducible apply At.blkX rfl | ((with_reducible apply W.ops); (repeat (first | refine WL.opA hΓ (h := ?_) | refine WL.opX hΓ (h := ?_) | refine WL.opY (h := ?_) | refine WL.opZ (h := ?_))); with_reducible apply WL.nil) | refine W.condT (h := ?_) | refine W.condF (h := ?_))
          with_reducible apply W.ops
          repeat (first | refine WL.opA hΓ (h := ?_) | refine WL.opX hΓ (h := ?_) | refine WL.opY (h := ?_) | refine WL.opZ (h := ?_))
          refine WL.opRA hDT DrawToVals_s bs hcode (h := ?_)
          rintro ⟨a, u⟩ ha
          replace ha : a.length ≤ 5 := ha
          dsimp only
          (repeat (first | refine WL.opA hΓ (h := ?_) | refine WL.opX hΓ (h := ?_) | refine WL.opY (h := ?_) | refine WL.opZ (h := ?_)))
          with_reducible apply WL.nil
          have d1 := mTVi_eq a u (show a.length ≤ _ by omega)
          have d2 := mTVs_eq a u (show a.length ≤ _ by omega)
          have hvl := toVals_le a u
          have d3 := mSameV_eq (toVals a u) (by omega)
          have d4 := mVals_eq (toVals a u) (by omega)
          by_cases hu : acctsOk a ∧ 1 ≤ u
          · rw [if_pos hu] at d1
            clear hu hnV
            by_cases hz : toVals a u = []
            · have hz0 : (toVals a u).length = 0 := by rw [hz]; rfl
              clear hz
              repeat (first | with_reducible apply W.seq | with_reducible apply W.block | with_reducible apply W.skip | with_reducible apply W.exit | with_reducible apply W.ret | with_reducible apply At.seqN | with_reducible apply At.blkN | with_reducible apply At.blkE | with_reducible apply At.blkR | with_reducible apply At.thenX | with_reducible apply At.thenR | with_reducible apply At.blkX rfl | ((with_reducible apply W.ops); (repeat (first | refine WL.opA hΓ (h := ?_) | refine WL.opX hΓ (h := ?_) | refine WL.opY (h := ?_) | refine WL.opZ (h := ?_))); with_reducible apply WL.nil) | refine W.condT (h := ?_) | refine W.condF (h := ?_))
              refine At.retA (by rw [Try.results6]) (he := rfl)
            · rw [decide_eq_true (toVals_ok hz)] at d4
              by_cases hz0 : (toVals a u).length = 0
              · exact absurd (List.length_eq_zero_iff.1 hz0) hz
              · clear hz
                repeat (first | with_reducible apply W.seq | with_reducible apply W.block | with_reducible apply W.skip | with_reducible apply W.exit | with_reducible apply W.ret | with_reducible apply At.seqN | with_reducible apply At.blkN | with_reducible apply At.blkE | with_reducible apply At.blkR | with_reducible apply At.thenX | with_reducible apply At.thenR | with_reducible apply At.blkX rfl | ((with_reducible apply W.ops); (repeat (first | refine WL.opA hΓ (h := ?_) | refine WL.opX hΓ (h := ?_) | refine WL.opY (h := ?_) | refine WL.opZ (h := ?_))); with_reducible apply WL.nil) | refine W.condT (h := ?_) | refine W.condF (h := ?_))
                refine At.retA (by rw [Try.results6]) (he := rfl)
          · rw [if_neg hu] at d1
            have hres : toVals a u = [] := by unfold toVals; rw [if_neg hu]
            rw [hres] at d2 d3 d4
            clear hres hu
            simp only [aL, rL, hnV] at d2 d3
            repeat (first | with_reducible apply W.seq | with_reducible apply W.block | with_reducible apply W.skip | with_reducible apply W.exit | with_reducible apply W.ret | with_reducible apply At.seqN | with_reducible apply At.blkN | with_reducible apply At.blkE | with_reducible apply At.blkR | with_reducible apply At.thenX | with_reducible apply At.thenR | with_reducible apply At.blkX rfl | ((with_reducible apply W.ops); (repeat (first | refine WL.opA hΓ (h := ?_) | refine WL.opX hΓ (h := ?_) | refine WL.opY (h := ?_) | refine WL.opZ (h := ?_))); with_reducible apply WL.nil) | refine W.condT (h := ?_) | refine W.condF (h := ?_))
            refine At.retA (by rw [Try.results6]) (he := rfl)
      · have hz : rewL l vals coins = [] := by unfold rewL; rw [hB, if_neg (by simp), if_neg hla]
        simp only [rRwi, rRws, if_neg hla, hB] at c1 c2
        rw [hz] at c2 c4 y1
        simp only [aL, hnA] at c2 c4
        clear hB hla hz hnA
        repeat (first | with_reducible apply W.seq | with_reducible apply W.block | with_reducible apply W.skip | with_reducible apply W.exit | with_reducible apply W.ret | with_reducible apply At.seqN | with_reducible apply At.blkN | with_reducible apply At.blkE | with_reducible apply At.blkR | with_reducible apply At.thenX | with_reducible apply At.thenR | with_reducible apply At.blkX rfl | ((with_reducible apply W.ops); (repeat (first | refine WL.opA hΓ (h := ?_) | refine WL.opX hΓ (h := ?_) | refine WL.opY (h := ?_) | refine WL.opZ (h := ?_))); with_reducible apply WL.nil) | refine W.condT (h := ?_) | refine W.condF (h := ?_))
        clear c1 c2 c3 c4 c5 i1 i2 y1
        with_reducible apply W.ops
        repeat (first | refine WL.opA hΓ (h := ?_) | refine WL.opX hΓ (h := ?_) | refine WL.opY (h := ?_) | refine WL.opZ (h := ?_))
        refine WL.opRA hDS DrawSlash_s bs hcode (h := ?_)
        rintro ⟨m, ids, p⟩ ⟨hm, hi⟩
        dsimp only at hm hi ⊢
        (repeat (first | refine WL.opA hΓ (h := ?_) | refine WL.opX hΓ (h := ?_) | refine WL.opY (h := ?_) | refine WL.opZ (h := ?_)))
        with_reducible apply WL.nil
        have e1 := mdl_eq (ok := okSlash) (g := fun x => if acctsOk x.1 then slashR 122 x else rTN ([.int .i64 0, .bool false].map rSc)) eSlash_inj (m, ids, p) ⟨by dsimp only; omega, by dsimp only; omega⟩
        have e2 := mdl_eq (ok := okSlash) (g := slashR 122) eSlash_inj (m, ids, p) ⟨by dsimp only; omega, by dsimp only; omega⟩
        rw [slashR_eq] at e1 e2
        replace e2 : mSlS [aL cAcct m, aL cInt ids, aI p] = some (rTL 122 2 cAcct (slashL m ids p) [rSc (.int .i64 (slashN m ids p)), rSc (.bool (slashB m ids p))]) := e2
        replace e1 : mSlI [aL cAcct m, aL cInt ids, aI p] = some (if acctsOk m then rTL 122 2 cAcct (slashL m ids p) [rSc (.int .i64 (slashN m ids p)), rSc (.bool (slashB m ids p))] else rTN [rSc (.int .i64 0), rSc (.bool false)]) := e1
        have hSl := slashL_le m ids p
        have e3 := mCoins_eq m (by omega)
        have e4 := mCoins_eq (slashL m ids p) (by omega)
        have e5 := mAccts_eq m (by omega)
        have j1 := coins_in m
        have j2 := coins_in (slashL m ids p)
        have j3 := slashN_in (l := m) (ids := ids) (part := p)
        by_cases hma : acctsOk m
        · have hs := slash_coins (ids := ids) (part := p) hma
          rw [if_pos hma] at e1
          rw [decide_eq_true hma] at e5
          clear hma
          repeat (first | with_reducible apply W.seq | with_reducible apply W.block | with_reducible apply W.skip | with_reducible apply W.exit | with_reducible apply W.ret | with_reducible apply At.seqN | with_reducible apply At.blkN | with_reducible apply At.blkE | with_reducible apply At.blkR | with_reducible apply At.thenX | with_reducible apply At.thenR | with_reducible apply At.blkX rfl | ((with_reducible apply W.ops); (repeat (first | refine WL.opA hΓ (h := ?_) | refine WL.opX hΓ (h := ?_) | refine WL.opY (h := ?_) | refine WL.opZ (h := ?_))); with_reducible apply WL.nil) | refine W.condT (h := ?_) | refine W.condF (h := ?_))
          with_reducible apply W.ops
          repeat (first | refine WL.opA hΓ (h := ?_) | refine WL.opX hΓ (h := ?_) | refine WL.opY (h := ?_) | refine WL.opZ (h := ?_))
          refine WL.opRA hDT DrawToVals_s bs hcode (h := ?_)
          rintro ⟨a, u⟩ ha
          replace ha : a.length ≤ 5 := ha
          dsimp only
          (repeat (first | refine WL.opA hΓ (h := ?_) | refine WL.opX hΓ (h := ?_) | refine WL.opY (h := ?_) | refine WL.opZ (h := ?_)))
          with_reducible apply WL.nil
          have d1 := mTVi_eq a u (show a.length ≤ _ by omega)
          have d2 := mTVs_eq a u (show a.length ≤ _ by omega)
          have hvl := toVals_le a u
          have d3 := mSameV_eq (toVals a u) (by omega)
          have d4 := mVals_eq (toVals a u) (by omega)
          by_cases hu : acctsOk a ∧ 1 ≤ u
          · rw [if_pos hu] at d1
            clear hu hnV
            by_cases hz : toVals a u = []
            · have hz0 : (toVals a u).length = 0 := by rw [hz]; rfl
              clear hz
              repeat (first | with_reducible apply W.seq | with_reducible apply W.block | with_reducible apply W.skip | with_reducible apply W.exit | with_reducible apply W.ret | with_reducible apply At.seqN | with_reducible apply At.blkN | with_reducible apply At.blkE | with_reducible apply At.blkR | with_reducible apply At.thenX | with_reducible apply At.thenR | with_reducible apply At.blkX rfl | ((with_reducible apply W.ops); (repeat (first | refine WL.opA hΓ (h := ?_) | refine WL.opX hΓ (h := ?_) | refine WL.opY (h := ?_) | refine WL.opZ (h := ?_))); with_reducible apply WL.nil) | refine W.condT (h := ?_) | refine W.condF (h := ?_))
              refine At.retA (by rw [Try.results6]) (he := rfl)
            · rw [decide_eq_true (toVals_ok hz)] at d4
              by_cases hz0 : (toVals a u).length = 0
              · exact absurd (List.length_eq_zero_iff.1 hz0) hz
              · clear hz
                repeat (first | with_reducible apply W.seq | with_reducible apply W.block | with_reducible apply W.skip | with_reducible apply W.exit | with_reducible apply W.ret | with_reducible apply At.seqN | with_reducible apply At.blkN | with_reducible apply At.blkE | with_reducible apply At.blkR | with_reducible apply At.thenX | with_reducible apply At.thenR | with_reducible apply At.blkX rfl | ((with_reducible apply W.ops); (repeat (first | refine WL.opA hΓ (h := ?_) | refine WL.opX hΓ (h := ?_) | refine WL.opY (h := ?_) | refine WL.opZ (h := ?_))); with_reducible apply WL.nil) | refine W.condT (h := ?_) | refine W.condF (h := ?_))
                refine At.retA (by rw [Try.results6]) (he := rfl)
          · rw [if_neg hu] at d1
            have hres : toVals a u = [] := by unfold toVals; rw [if_neg hu]
            rw [hres] at d2 d3 d4
            clear hres hu
            simp only [aL, rL, hnV] at d2 d3
            repeat (first | with_reducible apply W.seq | with_reducible apply W.block | with_reducible apply W.skip | with_reducible apply W.exit | with_reducible apply W.ret | with_reducible apply At.seqN | with_reducible apply At.blkN | with_reducible apply At.blkE | with_reducible apply At.blkR | with_reducible apply At.thenX | with_reducible apply At.thenR | with_reducible apply At.blkX rfl | ((with_reducible apply W.ops); (repeat (first | refine WL.opA hΓ (h := ?_) | refine WL.opX hΓ (h := ?_) | refine WL.opY (h := ?_) | refine WL.opZ (h := ?_))); with_reducible apply WL.nil) | refine W.condT (h := ?_) | refine W.condF (h := ?_))
            refine At.retA (by rw [Try.results6]) (he := rfl)
        · rw [if_neg hma] at e1
          rw [decide_eq_false hma] at e5
          have hB : slashB m ids p = false := decide_eq_false fun h => hma h.1
          have hN : slashN m ids p = 0 := by unfold slashN; rw [if_neg (fun h => hma h.1)]
          rw [hB, hN] at e2
          clear hma hB hN j3
          repeat (first | with_reducible apply W.seq | with_reducible apply W.block | with_reducible apply W.skip | with_reducible apply W.exit | with_reducible apply W.ret | with_reducible apply At.seqN | with_reducible apply At.blkN | with_reducible apply At.blkE | with_reducible apply At.blkR | with_reducible apply At.thenX | with_reducible apply At.thenR | with_reducible apply At.blkX rfl | ((with_reducible apply W.ops); (repeat (first | refine WL.opA hΓ (h := ?_) | refine WL.opX hΓ (h := ?_) | refine WL.opY (h := ?_) | refine WL.opZ (h := ?_))); with_reducible apply WL.nil) | refine W.condT (h := ?_) | refine W.condF (h := ?_))
          with_reducible apply W.ops
          repeat (first | refine WL.opA hΓ (h := ?_) | refine WL.opX hΓ (h := ?_) | refine WL.opY (h := ?_) | refine WL.opZ (h := ?_))
          refine WL.opRA hDT DrawToVals_s bs hcode (h := ?_)
          rintro ⟨a, u⟩ ha
          replace ha : a.length ≤ 5 := ha
          dsimp only
          (repeat (first | refine WL.opA hΓ (h := ?_) | refine WL.opX hΓ (h := ?_) | refine WL.opY (h := ?_) | refine WL.opZ (h := ?_)))
          with_reducible apply WL.nil
          have d1 := mTVi_eq a u (show a.length ≤ _ by omega)
          have d2 := mTVs_eq a u (show a.length ≤ _ by omega)
          have hvl := toVals_le a u
          have d3 := mSameV_eq (toVals a u) (by omega)
          have d4 := mVals_eq (toVals a u) (by omega)
          by_cases hu : acctsOk a ∧ 1 ≤ u
          · rw [if_pos hu] at d1
            clear hu hnV
            by_cases hz : toVals a u = []
            · have hz0 : (toVals a u).length = 0 := by rw [hz]; rfl
              clear hz
              repeat (first | with_reducible apply W.seq | with_reducible apply W.block | with_reducible apply W.skip | with_reducible apply W.exit | with_reducible apply W.ret | with_reducible apply At.seqN | with_reducible apply At.blkN | with_reducible apply At.blkE | with_reducible apply At.blkR | with_reducible apply At.thenX | with_reducible apply At.thenR | with_reducible apply At.blkX rfl | ((with_reducible apply W.ops); (repeat (first | refine WL.opA hΓ (h := ?_) | refine WL.opX hΓ (h := ?_) | refine WL.opY (h := ?_) | refine WL.opZ (h := ?_))); with_reducible apply WL.nil) | refine W.condT (h := ?_) | refine W.condF (h := ?_))
              refine At.retA (by rw [Try.results6]) (he := rfl)
            · rw [decide_eq_true (toVals_ok hz)] at d4
              by_cases hz0 : (toVals a u).length = 0
              · exact absurd (List.length_eq_zero_iff.1 hz0) hz
              · clear hz
                repeat (first | with_reducible apply W.seq | with_reducible apply W.block | with_reducible apply W.skip | with_reducible apply W.exit | with_reducible apply W.ret | with_reducible apply At.seqN | with_reducible apply At.blkN | with_reducible apply At.blkE | with_reducible apply At.blkR | with_reducible apply At.thenX | with_reducible apply At.thenR | with_reducible apply At.blkX rfl | ((with_reducible apply W.ops); (repeat (first | refine WL.opA hΓ (h := ?_) | refine WL.opX hΓ (h := ?_) | refine WL.opY (h := ?_) | refine WL.opZ (h := ?_))); with_reducible apply WL.nil) | refine W.condT (h := ?_) | refine W.condF (h := ?_))
                refine At.retA (by rw [Try.results6]) (he := rfl)
          · rw [if_neg hu] at d1
            have hres : toVals a u = [] := by unfold toVals; rw [if_neg hu]
            rw [hres] at d2 d3 d4
            clear hres hu
            simp only [aL, rL, hnV] at d2 d3
            repeat (first | with_reducible apply W.seq | with_reducible apply W.block | with_reducible apply W.skip | with_reducible apply W.exit | with_reducible apply W.ret | with_reducible apply At.seqN | with_reducible apply At.blkN | with_reducible apply At.blkE | with_reducible apply At.blkR | with_reducible apply At.thenX | with_reducible apply At.thenR | with_reducible apply At.blkX rfl | ((with_reducible apply W.ops); (repeat (first | refine WL.opA hΓ (h := ?_) | refine WL.opX hΓ (h := ?_) | refine WL.opY (h := ?_) | refine WL.opZ (h := ?_))); with_reducible apply WL.nil) | refine W.condT (h := ?_) | refine W.condF (h := ?_))
            refine At.retA (by rw [Try.results6]) (he := rfl)
end Go.Proofs.Ytlchfjjoendimaa
