/-
  Put together: PEvChain PEvSmall.
-/
import Derived.Test.YtfgkfcfplodaoaaGreatDoorHPEvChM
set_option linter.unusedSimpArgs false
set_option linter.unusedVariables false
set_option maxRecDepth 100000
section
namespace Go.Proofs.YtfgkfcfplodaoaaGreatDoor
open Go Go.RowKit
set_option maxHeartbeats 8000000
abbrev rBk (b : TBlock) : Res := .comp true (rowsBk b)
noncomputable def mCopyB := mdl okBkS (fun b => [aBk b]) rBk
theorem mCopyB_eq (b : TBlock) (h : okBkS b) : mCopyB [aBk b] = some (rBk b) := mdl_eq aBk_inj b h
theorem copyBS_s : Sound Tryz.prog 46 mCopyB := by
  refine Sound.mdl Tryz.func46 rfl Tryz.ntmps46 ?_
  rintro ⟨⟨h, t, la, va, ne, da⟩, b1, b2, ⟨ch, cr, ci, cs⟩⟩ w ⟨h1, h2, h3⟩
  refine ⟨by simp, ?_⟩
  dsimp only at h1 h2 h3
  have hΓ : GSound Tryz.prog (look []) := env_nil
  have k1 := rowsF_len cVal b1
  have k2 := rowsF_len cVal b2
  have k3 := rowsF_len cCSig cs
  have w1 := rowsF_wid (f := cVal) (s := 2) (fun _ => rfl) b1
  have w2 := rowsF_wid (f := cVal) (s := 2) (fun _ => rfl) b2
  have w3 := rowsF_wid (f := cCSig) (s := 2) (fun _ => rfl) cs
  simp only [initS, argPV, List.map_cons, List.map_nil, toPL, Nat.zero_add]
  refine zR ?_
  refine At.retA (by rw [Tryz.results46]) (he := rfl)
noncomputable def mIdsV := mdl (fun l : List TVal => l.length ≤ 1048576) (fun l => [aL cVal l]) (fun l => rL 3 1 cInt (idsV l))
theorem mIdsV_eq (l : List TVal) (h : l.length ≤ 1048576) : mIdsV [aL cVal l] = some (rL 3 1 cInt (idsV l)) := mdl_eq (by intro a b h; simpa using h) l h
theorem idsV_s : Sound Tryz.prog 45 mIdsV := by
  refine Sound.mdl Tryz.func45 rfl Tryz.ntmps45 ?_
  rintro l w hl
  refine ⟨by simp, ?_⟩
  replace hl : l.length ≤ 1048576 := hl
  have hΓ : GSound Tryz.prog (look []) := env_nil
  have hlen := rowsF_len cVal l
  have hnil : rowsF cInt [] = [] := rfl
  simp only [initS, argPV, List.map_cons, List.map_nil, toPL, Nat.zero_add]
  refine zR ?_
  refine W.loopA (fun k => k ≤ l.length) (fun k : Nat => [.slot 0 (vL cVal l), .slot 3 (one (.all 5)), .blk 5 (.arr .ft 3 1 (rowsF cInt (idsV (l.take k)))), .slot 4 (vI k)]) (fun k => l.length - k) 0 (Nat.zero_le _) (h := ?_)
  rintro k hk
  have hkl : (idsV (l.take k)).length ≤ 1048576 := by rw [idsV_len, List.length_take]; omega
  by_cases hlt : k < l.length
  · have hrow := val_row hlt
    have e1 := cInt_app (idsV (l.take k)) l[k].1
    have e2 : idsV (l.take k) ++ [l[k].1] = idsV (l.take (k + 1)) := by unfold idsV; rw [List.take_succ_eq_append_getElem hlt, List.map_append]; rfl
    rw [e2] at e1
    clear e2
    generalize l[k] = v at *
    obtain ⟨i, q⟩ := v
    dsimp only at e1
    refine zR ?_
    exact At.roundA (k + 1) (by omega) (by omega)
  · have hke : k = l.length := by omega
    subst hke
    have hv : idsV (l.take l.length) = idsV l := by rw [List.take_length]
    refine zR ?_
    refine At.retA (by rw [Tryz.results45]) (he := ?_)
    first | rfl | rw [hv]
abbrev aFor (x : THeader × Int × List Int) : List Arg := [aHd x.1, aI x.2.1, aL cInt x.2.2]
theorem aFor_inj : ∀ x y, aFor x = aFor y → x = y := by
  rintro ⟨⟨a, b, c, d, e, f⟩, r, l⟩ ⟨⟨a', b', c', d', e', f'⟩, r', l'⟩ h
  simp at h
  simp [h]
noncomputable def mFor := mdl (fun x : THeader × Int × List Int => 0 < x.2.2.length ∧ x.2.2.length ≤ 1048576) aFor (fun x => .comp true (rowsCm (cmFor x.1 x.2.1 x.2.2)))
theorem mFor_eq (h : THeader) (r : Int) (l : List Int) (h0 : 0 < l.length) (hl : l.length ≤ 1048576) : mFor [aHd h, aI r, aL cInt l] = some (.comp true (rowsCm (cmFor h r l))) := mdl_eq aFor_inj (h, r, l) ⟨h0, hl⟩
theorem cCSig_app (l : List TCSig) (x : TCSig) : rowsF cCSig l ++ [[.sc (.int .i64 x.1), .sc (.string x.2)]] = rowsF cCSig (l ++ [x]) := by rw [← rowsF_app]; rfl
def asEvChain0 : List (List Nat) := [[], [0], [], [], [2, 3], [2, 3, 4], [], [], [6, 7], [6, 7, 8], [], [], [], [11, 12], [11, 12, 13], [10, 11, 12, 13, 14], [10, 11, 12, 13, 14, 15], [6, 7, 8, 9, 10, 11, 12, 13, 14, 15, 16], [2, 3, 4, 5, 6, 7, 8, 9, 10, 11, 12, 13, 14, 15, 16, 17], [2, 3, 4, 5, 6, 7, 8, 9, 10, 11, 12, 13, 14, 15, 16, 17, 18], [0, 1, 2, 3, 4, 5, 6, 7, 8, 9, 10, 11, 12, 13, 14, 15, 16, 17, 18, 19], [0, 1, 2, 3, 4, 5, 6, 7, 8, 9, 10, 11, 12, 13, 14, 15, 16, 17, 18, 19, 20], [0, 1, 2, 3, 4, 5, 6, 7, 8, 9, 10, 11, 12, 13, 14, 15, 16, 17, 18, 19, 20, 21]]
theorem for_s : Sound Tryz.prog 44 mFor := by
  refine Sound.mdl Tryz.func44 rfl Tryz.ntmps44 ?_
  rintro ⟨⟨h, t, la, va, ne, da⟩, r, l⟩ w ⟨hl0, hl⟩
  refine ⟨by simp, ?_⟩
  dsimp only at hl0 hl
  have hΓ : GSound Tryz.prog (look [(13, mHeadId), (79, mL9Vote), (98, mDig), (97, mSign)]) := env_cons (has_of Tryz.func13 rfl rfl) headIdS_s (env_cons (has_of Tryz.func79 rfl rfl) l9Vote_s (env_cons (has_of Tryz.func98 rfl rfl) digS_s (env_cons (has_of Tryz.func97 rfl rfl) signS_s env_nil)))
  have hlen := rowsF_len cInt l
  have c1 := mHeadId_eq (h, t, la, va, ne, da)
  have hres : cmFor (h, t, la, va, ne, da) r l = (h, r, headId (h, t, la, va, ne, da), l.map (cmSig (h, t, la, va, ne, da) r)) := rfl
  have hsig : ∀ v, cmSig (h, t, la, va, ne, da) r v = (v, signS v (digS (h, r, 2, headId (h, t, la, va, ne, da), v))) := fun v => rfl
  dsimp only [aHd] at c1
  generalize cmSig (h, t, la, va, ne, da) r = sg at *
  generalize headId (h, t, la, va, ne, da) = id at *
  replace hres := Lib.hid hres
  simp only [initS, argPV, List.map_cons, List.map_nil, toPL, Nat.zero_add]
  refine zR ?_
  refine W.drawB hΓ 7 [[], [0], [], [], [3], [0, 1, 2, 3, 4], [], [0, 1, 2, 3, 4, 5, 6]] (Es := ?Es14) (rest := ?rest14) (st1 := ?st114) ?_
  refine zL ?_
  refine zE ?_
  refine zR ?_
  obtain ⟨J, hJ0, hJs⟩ := twoC (α := St) [.slot 8 (vI ((0 : Nat) : Int)), .slot 2 (vL cInt l), .slot 6 (one (.ptr 6 0)), .blk 6 (.box [.sc (.int .i64 0), .sc (.int .i64 0), .sc (.string ByteArray.empty), .nil]), .slot 7 (one (.ptr 7 0)), .blk 7 (.box [.sc (.int .i64 h), .sc (.int .i64 r), .sc (.string id), .nil])] (fun k => [.slot 8 (vI ((k + 1 : Nat) : Int)), .slot 2 (vL cInt l), .slot 6 (one (.ptr 6 0)), .blk 6 (.box [.sc (.int .i64 0), .sc (.int .i64 0), .sc (.string ByteArray.empty), .nil]), .slot 7 (one (.ptr 7 0)), .blk 7 (.box [.sc (.int .i64 h), .sc (.int .i64 r), .sc (.string id), .all 41]), .blk 41 (.arr .ft 127 2 (rowsF cCSig ((l.take (k + 1)).map sg)))])
  refine W.loopA (fun k => k ≤ l.length) J (fun k => l.length - k) 0 (Nat.zero_le _) (hs := ?_) (h := ?_)
  · rw [hJ0]
    exact subP
  rintro k hk
  have hsigv : ∀ v : Int, mSign [aI v, aS (digS (h, r, 2, id, v))] = some (rS (signS v (digS (h, r, 2, id, v)))) := fun v => mSign_eq v _ (Nat.le_trans (digS_size _) (by omega))
  by_cases hlt : k < l.length
  · have hrow : (rowsF cInt l)[k]? = some [.sc (.int .i64 l[k])] := rowsF_get cInt l k hlt
    have e1 := cCSig_app ((l.take k).map sg) (sg l[k])
    have e2 : (l.take k).map sg ++ [sg l[k]] = (l.take (k + 1)).map sg := by rw [List.take_succ_eq_append_getElem hlt, List.map_append]; rfl
    rw [e2, hsig] at e1
    dsimp only at e1
    have hkl : ((l.take k).map sg).length ≤ 1048576 := by rw [List.length_map, List.length_take]; omega
    have c4 := hsigv l[k]
    have c3 := mDig_eq (h, r, 2, id, l[k])
    dsimp only [aVt] at c3
    clear hsig e2 hsigv
    generalize l[k] = v at *
    have hj1 := hJs k
    rcases Nat.eq_zero_or_pos k with rfl | hp0
    · have c2 := mL9Vote_eq (h, r, id, []) v (Nat.zero_le _)
      have hnil : rowsF cCSig [] = [] := rfl
      have hn2 : (l.take 0).map sg = [] := rfl
      have hn3 : rowsF cInt [] = [] := rfl
      rw [hn2, hnil, List.nil_append] at e1
      dsimp only [aCm, rVt] at c2
      rw [hnil] at c2
      replace e1 := Lib.hid e1
      rw [hJ0]
      clear hn2 hkl
      refine zR ?_
      refine W.drawB hΓ 20 asEvChain0 (Es := ?Es17) (rest := ?rest17) (st1 := ?st117) ?_
      refine zL ?_
      refine zE ?_
      refine zR ?_
      refine At.roundA (0 + 1) (by omega) (by omega) (hs := ?_)
      rw [hj1, ← e1.out]
      exact subP
    · obtain ⟨j, rfl⟩ : ∃ j, k = j + 1 := ⟨k - 1, by omega⟩
      have c2 := mL9Vote_eq (h, r, id, (l.take (j + 1)).map sg) v (show ((l.take (j + 1)).map sg).length ≤ 8796093022207 by omega)
      dsimp only [aCm, rVt] at c2
      rw [hJs j]
      generalize (l.take (j + 1)).map sg = L at *
      have hj1 := Lib.hid hj1
      refine zR ?_
      refine W.drawB hΓ 20 asEvChain0 (Es := ?Es20) (rest := ?rest20) (st1 := ?st120) ?_
      refine zL ?_
      refine zE ?_
      refine zR ?_
      refine At.roundA (j + 1 + 1) (by omega) (by omega) (hs := ?_)
      rw [hj1.out]
      exact subP
  · obtain ⟨j, rfl⟩ : ∃ j, k = j + 1 := ⟨k - 1, by omega⟩
    have hv : (l.take (j + 1)).map sg = l.map sg := by rw [List.take_of_length_le (by omega)]
    rw [hJs j, hv]
    clear hsig hsigv hv
    refine zR ?_
    refine At.retA (by rw [Tryz.results44]) (he := ?_)
    rw [hres.out]
abbrev okCh (x : ByteArray × Int) : Prop := x.1.size ≤ 1048576
noncomputable def mChain := mdl okCh (fun x => [aS x.1, aI x.2]) (fun x => rBN (chainOf x.1 x.2))
theorem mChain_eq (s : ByteArray) (n : Int) (h : s.size ≤ 1048576) : mChain [aS s, aI n] = some (rBN (chainOf s n)) := mdl_eq (by rintro ⟨a, b⟩ ⟨c, d⟩ h; simpa using h) (s, n) h
theorem cnL_ok (s : ByteArray) {n : Nat} (h : n ≤ 12) : okBl (cnL s n) ∧ ∀ b ∈ cnL s n, b.2.1.length ≤ 7 ∧ b.2.2.1.length ≤ 7 ∧ b.2.2.2.2.2.2.length ≤ 7 := by
  have key : ∀ b ∈ cnL s n, b.2.1.length ≤ 7 ∧ b.2.2.1.length ≤ 7 ∧ b.2.2.2.2.2.2.length ≤ 7 := fun b hb => by
    unfold cnL at hb
    obtain ⟨k, hk, rfl⟩ := List.mem_map.1 hb
    have hk := List.mem_range.1 hk
    have h1 := cnS_ok s k (by omega)
    have h2 := h1.vals.1.2
    refine ⟨h2, h1.next.1.2, ?_⟩
    show ((idsV (cnVals s k (cnS s k))).map _).length ≤ 7
    rw [List.length_map, idsV_len]
    exact h2
  refine ⟨⟨by rw [cnL_len]; omega, fun b hb => ?_⟩, key⟩
  obtain ⟨h1, h2, h3⟩ := key b hb
  exact ⟨by omega, by omega, by omega⟩
theorem chain_s : Sound Tryz.prog 10 mChain := by
  refine Sound.mdl Tryz.func10 rfl Tryz.ntmps10 ?_
  rintro ⟨s, n⟩ w hs
  refine ⟨by simp, ?_⟩
  replace hs : s.size ≤ 1048576 := hs
  have hΓ : GSound Tryz.prog (look [(39, mIn), (41, mDecZ), (40, mSha), (42, mChV), (43, mVHash), (45, mIdsV), (44, mFor), (46, mCopyB), (13, mHeadId)]) := env_cons (has_of Tryz.func39 rfl rfl) l1In_s (env_cons (has_of Tryz.func41 rfl rfl) decZS_s (env_cons (has_of Tryz.func40 rfl rfl) shaSpec_s (env_cons (has_of Tryz.func42 rfl rfl) chV_s (env_cons (has_of Tryz.func43 rfl rfl) vhashS_s (env_cons (has_of Tryz.func45 rfl rfl) idsV_s (env_cons (has_of Tryz.func44 rfl rfl) for_s (env_cons (has_of Tryz.func46 rfl rfl) copyBS_s (env_cons (has_of Tryz.func13 rfl rfl) headIdS_s env_nil))))))))
  have c0 := mIn_eq n 1 12
  have hnil : bkRows [] = [] := rfl
  have hnv : rowsF cVal [] = [] := rfl
  by_cases hn : 1 ≤ n ∧ n ≤ 12
  · rw [decide_eq_true hn] at c0
    have hv : chainOf s n = cnL s n.toNat := if_pos hn
    simp only [initS, argPV, List.map_cons, List.map_nil, toPL, Nat.zero_add]
    refine zR ?_
    refine W.toNd 16 (h := ?_)
    obtain ⟨J, hJ0, hJs⟩ := twoC (α := St) [.slot 0 (one (.sc (.string s))), .slot 1 (vI n), .slot 5 (one (.all 16)), .blk 16 (.arr .nd 36 12 (bkRows (cnL s 0))), .slot 6 (one (.all 21)), .blk 21 (.arr .ft 76 2 (rowsF cVal (vals0 (shaH s 1) 0))), .slot 7 (vI 0), .slot 8 (one (.sc (.string ByteArray.empty))), .slot 9 (vI 1)] (fun k => [.slot 0 (one (.sc (.string s))), .slot 1 (vI n), .slot 5 (one (.all 16)), .blk 16 (.arr .nd 36 12 (bkRows (cnL s (k + 1)))), .slot 6 (vL cVal (cnS s (k + 1)).1), .slot 7 (vI (cnS s (k + 1)).2.1), .slot 8 (one (.sc (.string (cnS s (k + 1)).2.2))), .slot 9 (vI ((k + 1 + 1 : Nat) : Int))])
    refine W.loopA (fun k => k ≤ n.toNat) J (fun k => n.toNat - k) 0 (Nat.zero_le _) (hs := ?_) (h := ?_)
    · rw [hJ0]
      exact subP
    rintro k hk
    by_cases hlt : ((k + 1 : Nat) : Int) ≤ n
    · have c1 := mDecZ_eq ((k + 1 : Nat) : Int) ⟨by omega, by omega⟩
      have hdl := (decZ_len ((k + 1 : Nat) : Int)).2
      have c2 := mSha_eq (s ++ bsS (decZ ((k + 1 : Nat) : Int))) (by rw [ByteArray.size_append, bsS_size']; omega)
      have hsh : shaS (s ++ bsS (decZ ((k + 1 : Nat) : Int))) = shaH s (k + 1) := rfl
      rw [hsh] at c2
      clear hsh
      have hcs : (s ++ bsS (decZ ((k + 1 : Nat) : Int))).size ≤ 16777216 := by rw [ByteArray.size_append, bsS_size']; omega
      have h32 : (shaH s (k + 1)).size = 32 := shaS_size _
      have hbs : (bsS (decZ ((k + 1 : Nat) : Int))).size ≤ 11 := by rw [bsS_size']; exact hdl
      refine (fun (key : W Tryz.prog none0 w 104 [.slot 0 (one (.sc (.string s))), .slot 1 (vI n), .slot 5 (one (.all 16)), .blk 16 (.arr .nd 36 12 (bkRows (cnL s k))), .slot 6 (vL cVal (cnVals s k (cnS s k))), .slot 7 (vI (cnS s k).2.1), .slot 8 (one (.sc (.string (cnS s k).2.2))), .slot 9 (vI ((k + 1 : Nat) : Int)), .slot 10 (one (.sc (.string (shaH s (k + 1)))))] ?codeC ?postC) => ?mainC) ?partC
      case mainC =>
        by_cases hk0 : k = 0
        · have vz : cnVals s k (cnS s k) = vals0 (shaH s 1) 4 := by rw [hk0]; exact if_pos rfl
          have y1 : ((k + 1 : Nat) : Int) = 1 := by omega
          have y2 : cnL s k = cnL s 0 := by rw [hk0]
          have y3 : (cnS s k).2.1 = 0 := by rw [hk0]; rfl
          have y4 : (cnS s k).2.2 = ByteArray.empty := by rw [hk0]; rfl
          have y5 : shaH s (k + 1) = shaH s 1 := by rw [hk0]
          have hJk : J k = [.slot 0 (one (.sc (.string s))), .slot 1 (vI n), .slot 5 (one (.all 16)), .blk 16 (.arr .nd 36 12 (bkRows (cnL s 0))), .slot 6 (one (.all 21)), .blk 21 (.arr .ft 76 2 (rowsF cVal (vals0 (shaH s 1) 0))), .slot 7 (vI 0), .slot 8 (one (.sc (.string ByteArray.empty))), .slot 9 (vI 1)] := by rw [hk0]; exact hJ0
          rw [vz, y1, y2, y3, y4, y5] at key
          rw [y1, y5] at c2
          rw [y1] at c1 hcs hbs
          rw [y5] at h32
          have hN := byteN_eq (shaH s 1)
          rw [hJk]
          have hlt1 : (1 : Int) ≤ n := hn.1
          clear y1 y2 y3 y4 y5 vz hJk
          refine zR ?_
          refine W.loopA (fun j => j ≤ 4) (fun j : Nat => [.slot 0 (one (.sc (.string s))), .slot 1 (vI n), .slot 5 (one (.all 16)), .blk 16 (.arr .nd 36 12 (bkRows (cnL s 0))), .slot 6 (one (.all 21)), .blk 21 (.arr .ft 76 2 (rowsF cVal (vals0 (shaH s 1) j))), .slot 7 (vI 0), .slot 8 (one (.sc (.string ByteArray.empty))), .slot 9 (vI 1), .slot 10 (one (.sc (.string (shaH s 1)))), .slot 11 (vI j)]) (fun j => 4 - j) 0 (Nat.zero_le _) (h := ?_)
          rintro j hj
          have hvl := vals0_len (shaH s 1) j
          by_cases hj4 : j < 4
          · have ib := byte_at (s := shaH s 1) (i := j) (by omega)
            have bl := byteN_lt (shaH s 1) j
            have tm := tmod_in (a := ((byteN (shaH s 1) j : Nat) : Int)) (m := 5) (by omega) (by omega)
            have e1 := cVal_app (vals0 (shaH s 1) j) ((j : Int) + 1) (1 + (bytZ (shaH s 1) j).tmod 5)
            rw [← vals0_next] at e1
            unfold bytZ at e1
            refine zR ?_
            exact At.roundA (j + 1) (by omega) (by omega)
          · have hj4 : j = 4 := by omega
            rw [hj4]
            clear hj4
            refine zR ?_
            refine W.frzA 6 21 (h := ?_)
            refine W.subA [.slot 0 (one (.sc (.string s))), .slot 1 (vI n), .slot 5 (one (.all 16)), .blk 16 (.arr .nd 36 12 (bkRows (cnL s 0))), .slot 6 (vL cVal (vals0 (shaH s 1) 4)), .slot 7 (vI 0), .slot 8 (one (.sc (.string ByteArray.empty))), .slot 9 (vI 1), .slot 10 (one (.sc (.string (shaH s 1))))] (h := ?_)
            exact key
        · have vz : cnVals s k (cnS s k) = (cnS s k).1 := if_neg hk0
          have hne : ¬ ((k + 1 : Nat) : Int) = 1 := by omega
          have hJk : J k = [.slot 0 (one (.sc (.string s))), .slot 1 (vI n), .slot 5 (one (.all 16)), .blk 16 (.arr .nd 36 12 (bkRows (cnL s k))), .slot 6 (vL cVal (cnS s k).1), .slot 7 (vI (cnS s k).2.1), .slot 8 (one (.sc (.string (cnS s k).2.2))), .slot 9 (vI ((k + 1 : Nat) : Int))] := by
            obtain ⟨j, hj⟩ : ∃ j, k = j + 1 := ⟨k - 1, by omega⟩
            rw [hj]
            exact hJs j
          rw [vz] at key
          rw [hJk]
          generalize cnS s k = st at *
          clear hJk vz
          refine zR ?_
          refine W.loopA (fun j => j = 0) (fun _ : Nat => [.slot 0 (one (.sc (.string s))), .slot 1 (vI n), .slot 5 (one (.all 16)), .blk 16 (.arr .nd 36 12 (bkRows (cnL s k))), .slot 6 (vL cVal st.1), .slot 7 (vI st.2.1), .slot 8 (one (.sc (.string st.2.2))), .slot 9 (vI ((k + 1 : Nat) : Int)), .slot 10 (one (.sc (.string (shaH s (k + 1))))), .slot 11 (vI 0)]) (fun _ => 0) 0 rfl (h := ?_)
          rintro _ -
          refine zR ?_
          refine W.subA [.slot 0 (one (.sc (.string s))), .slot 1 (vI n), .slot 5 (one (.all 16)), .blk 16 (.arr .nd 36 12 (bkRows (cnL s k))), .slot 6 (vL cVal st.1), .slot 7 (vI st.2.1), .slot 8 (one (.sc (.string st.2.2))), .slot 9 (vI ((k + 1 : Nat) : Int)), .slot 10 (one (.sc (.string (shaH s (k + 1)))))] (h := ?_)
          exact key
      case partC =>
        have hok := cnS_ok s k (by omega)
        have v7 := hok.vals.1
        have n7 := hok.next.1
        have t0 := hok.t0
        have t1 := hok.t1
        have hS : cnS s (k + 1) = ((chV (cnVals s k (cnS s k)) (1 + ((byteN (shaH s (k + 1)) 4 : Nat) : Int).tmod 6, ((byteN (shaH s (k + 1)) 5 : Nat) : Int).tmod 4)).1, (cnS s k).2.1 + 1 + ((byteN (shaH s (k + 1)) 6 : Nat) : Int).tmod 5, headId (((k + 1 : Nat) : Int), (cnS s k).2.1 + 1 + ((byteN (shaH s (k + 1)) 6 : Nat) : Int).tmod 5, (cnS s k).2.2, vhash (cnVals s k (cnS s k)), vhash (chV (cnVals s k (cnS s k)) (1 + ((byteN (shaH s (k + 1)) 4 : Nat) : Int).tmod 6, ((byteN (shaH s (k + 1)) 5 : Nat) : Int).tmod 4)).1, bsS (decZ ((byteN (shaH s (k + 1)) 7 : Nat) : Int)))) := rfl
        have hB : bkRows (cnL s k) ++ [bkRow (((((k + 1 : Nat) : Int), (cnS s k).2.1 + 1 + ((byteN (shaH s (k + 1)) 6 : Nat) : Int).tmod 5, (cnS s k).2.2, vhash (cnVals s k (cnS s k)), vhash (chV (cnVals s k (cnS s k)) (1 + ((byteN (shaH s (k + 1)) 4 : Nat) : Int).tmod 6, ((byteN (shaH s (k + 1)) 5 : Nat) : Int).tmod 4)).1, bsS (decZ ((byteN (shaH s (k + 1)) 7 : Nat) : Int))), cnVals s k (cnS s k), (chV (cnVals s k (cnS s k)) (1 + ((byteN (shaH s (k + 1)) 4 : Nat) : Int).tmod 6, ((byteN (shaH s (k + 1)) 5 : Nat) : Int).tmod 4)).1, cmFor ((((k + 1 : Nat) : Int), (cnS s k).2.1 + 1 + ((byteN (shaH s (k + 1)) 6 : Nat) : Int).tmod 5, (cnS s k).2.2, vhash (cnVals s k (cnS s k)), vhash (chV (cnVals s k (cnS s k)) (1 + ((byteN (shaH s (k + 1)) 4 : Nat) : Int).tmod 6, ((byteN (shaH s (k + 1)) 5 : Nat) : Int).tmod 4)).1, bsS (decZ ((byteN (shaH s (k + 1)) 7 : Nat) : Int))) : THeader) 0 (idsV (cnVals s k (cnS s k)))) : TBlock)] = bkRows (cnL s (k + 1)) := by
          rw [cnL_next]
          unfold bkRows
          rw [List.map_append]
          rfl
        have n7 : (chV (cnVals s k (cnS s k)) (1 + ((byteN (shaH s (k + 1)) 4 : Nat) : Int).tmod 6, ((byteN (shaH s (k + 1)) 5 : Nat) : Int).tmod 4)).1.length ≤ 7 := n7.2
        have hbl : (bkRows (cnL s k)).length = k := by rw [bkRows_len, cnL_len]
        have hJk := hJs k
        rw [hS] at hJk
        have c3 := mChV_eq (cnVals s k (cnS s k)) (1 + ((byteN (shaH s (k + 1)) 4 : Nat) : Int).tmod 6, ((byteN (shaH s (k + 1)) 5 : Nat) : Int).tmod 4) (by omega)
        have hrw : rowsF cVal [(1 + ((byteN (shaH s (k + 1)) 4 : Nat) : Int).tmod 6, ((byteN (shaH s (k + 1)) 5 : Nat) : Int).tmod 4)] = [[.sc (.int .i64 (1 + ((byteN (shaH s (k + 1)) 4 : Nat) : Int).tmod 6)), .sc (.int .i64 (((byteN (shaH s (k + 1)) 5 : Nat) : Int).tmod 4))]] := rfl
        dsimp only [aL] at c3
        rw [hrw] at c3
        generalize cnVals s k (cnS s k) = vv at *
        generalize hx : chV vv (1 + ((byteN (shaH s (k + 1)) 4 : Nat) : Int).tmod 6, ((byteN (shaH s (k + 1)) 5 : Nat) : Int).tmod 4) = nxp at *
        obtain ⟨nx, nb⟩ := nxp
        replace n7 : nx.length ≤ 7 := n7
        clear hx hS hrw hok hJ0 hJs hv c0 c1 c2 hdl hcs hbs
        generalize cnS s k = st at *
        obtain ⟨sv, tm, la⟩ := st
        generalize cnL s (k + 1) = L1 at *
        generalize cnL s k = L0 at *
        generalize shaH s (k + 1) = b at *
        dsimp only at c3 t0 t1 hB hJk ⊢
        have i4 := byte_at (s := b) (i := 4) (by omega)
        have i5 := byte_at (s := b) (i := 5) (by omega)
        have i6 := byte_at (s := b) (i := 6) (by omega)
        have i7 := byte_at (s := b) (i := 7) (by omega)
        have hN := byteN_eq b
        have l4 := byteN_lt b 4
        have l5 := byteN_lt b 5
        have l6 := byteN_lt b 6
        have l7 := byteN_lt b 7
        have m4 := tmod_in (a := ((byteN b 4 : Nat) : Int)) (m := 6) (by omega) (by omega)
        have m5 := tmod_in (a := ((byteN b 5 : Nat) : Int)) (m := 4) (by omega) (by omega)
        have m6 := tmod_in (a := ((byteN b 6 : Nat) : Int)) (m := 5) (by omega) (by omega)
        have c4 := mVHash_eq vv (by omega)
        have c5 := mVHash_eq nx (by omega)
        have c6 := mDecZ_eq ((byteN b 7 : Nat) : Int) ⟨by omega, by omega⟩
        have c7 := mIdsV_eq vv (by omega)
        have il := idsV_len vv
        generalize hh : ((((k + 1 : Nat) : Int), tm + 1 + ((byteN b 6 : Nat) : Int).tmod 5, la, vhash vv, vhash nx, bsS (decZ ((byteN b 7 : Nat) : Int))) : THeader) = hd at hB hJk
        have c8 := mFor_eq hd 0 (idsV vv) (by omega) (by omega)
        have c9 := mCopyB_eq (hd, vv, nx, cmFor hd 0 (idsV vv)) ⟨show vv.length ≤ _ by omega, show nx.length ≤ _ by omega, show ((idsV vv).map (cmSig hd 0)).length ≤ _ by rw [List.length_map]; omega⟩
        have c10 := mHeadId_eq hd
        have e1 : cmFor hd 0 (idsV vv) = (hd.1, 0, headId hd, (idsV vv).map (cmSig hd 0)) := rfl
        rw [e1] at c8 c9 hB
        generalize (idsV vv).map (cmSig hd 0) = sg at *
        generalize idsV vv = ids at *
        generalize headId hd = hid at *
        subst hh
        dsimp only [aHd, aBk, rBk, rowsBk, rowsCm, bkRow] at c8 c9 c10 hB
        generalize vhash vv = h1 at *
        generalize vhash nx = h2 at *
        generalize bsS (decZ ((byteN b 7 : Nat) : Int)) = da at *
        have hJk := Lib.hid hJk
        clear e1
        refine W.drawB hΓ 18 [[], [], [1], [1, 2], [1, 2, 3], [1, 2, 3, 4], [], [6], [6, 7], [6, 7, 8], [1, 2, 3, 4, 5, 6, 7, 8, 9], [1, 2, 3, 4, 5, 6, 7, 8, 9, 10], [0, 1, 2, 3, 4, 5, 6, 7, 8, 9, 10, 11], [0, 1, 2, 3, 4, 5, 6, 7, 8, 9, 10, 11, 12], [0, 1, 2, 3, 4, 5, 6, 7, 8, 9, 10, 11, 12, 13], [0, 1, 2, 3, 4, 5, 6, 7, 8, 9, 10, 11, 12, 13], [0, 1, 2, 3, 4, 5, 6, 7, 8, 9, 10, 11, 12, 13, 14], [0, 1, 2, 3, 4, 5, 6, 7, 8, 9, 10, 11, 12, 13, 14, 15, 16]] (Es := ?Es32) (rest := ?rest32) (st1 := ?st132) ?_
        refine zL ?_
        refine zE ?_
        refine zR ?_
        refine W.drawB hΓ 13 [[], [], [], [], [3], [], [3, 4, 5], [], [7], [7, 8], [3, 4, 5, 6, 7, 8, 9], [0, 1, 2, 3, 4, 5, 6, 7, 8, 9, 10], [], [0, 1, 2, 3, 4, 5, 6, 7, 8, 9, 10, 11, 12]] (Es := ?Es34) (rest := ?rest34) (st1 := ?st134) ?_
        refine zL ?_
        refine zE ?_
        refine zR ?_
        refine W.drawB hΓ 9 [[], [], [], [], [], [4], [3, 4, 5], [0, 1, 2, 3, 4, 5, 6], [], [0, 1, 2, 3, 4, 5, 6, 7, 8]] (Es := ?Es36) (rest := ?rest36) (st1 := ?st136) ?_
        refine zL ?_
        refine zE ?_
        refine zR ?_
        refine At.frzA 6 65 (h := ?_)
        refine At.roundA (k + 1) (by omega) (by omega) (hs := ?_)
        rw [hJk.out]
        exact subP
    · have hke : k = n.toNat := by omega
      have hv2 := hv
      rcases Nat.eq_zero_or_pos k with rfl | hp0
      · omega
      · obtain ⟨j, rfl⟩ : ∃ j, k = j + 1 := ⟨k - 1, by omega⟩
        rw [hJs j]
        rw [← hke] at hv
        generalize cnS s (j + 1) = st at *
        refine zR ?_
        refine At.retA (by rw [Tryz.results10]) (he := ?_)
        rw [hv, hke]
  · rw [decide_eq_false hn] at c0
    have hv : chainOf s n = [] := if_neg hn
    simp only [initS, argPV, List.map_cons, List.map_nil, toPL, Nat.zero_add]
    refine zR ?_
    refine At.toNd 16 (h := ?_)
    refine At.retA (by rw [Tryz.results10]) (he := ?_)
    rw [hv]
    rfl
end Go.Proofs.YtfgkfcfplodaoaaGreatDoor

end
section
namespace Go.Proofs.YtfgkfcfplodaoaaGreatDoor
open Go Go.RowKit
set_option maxHeartbeats 8000000
def okS : ByteArray := { data := #[111, 107] }
def noS : ByteArray := { data := #[110, 111] }
noncomputable def mOkay := mdl (fun _ : Bool => True) (fun b => [aB b]) (fun b => rS (if b = true then okS else noS))
theorem mOkay_eq (b : Bool) : mOkay [aB b] = some (rS (if b = true then okS else noS)) := mdl_eq (by intro a b h; simpa using h) b trivial
theorem okay_s : Sound Tryz.prog 148 mOkay := by
  refine Sound.mdl Tryz.func148 rfl Tryz.ntmps148 ?_
  rintro b w -
  refine ⟨by simp, ?_⟩
  have hΓ : GSound Tryz.prog (look []) := env_nil
  simp only [initS, argPV, List.map_cons, List.map_nil, toPL, Nat.zero_add]
  cases b with
  | true =>
    refine zR ?_
    refine At.retA (by rw [Tryz.results148]) (he := rfl)
  | false =>
    refine zR ?_
    refine At.retA (by rw [Tryz.results148]) (he := rfl)
def spF (s : ByteArray) (c : Nat) (st : List ByteArray × Nat) (k : Nat) : List ByteArray × Nat := if byteN s k = c then (st.1 ++ [s.extract st.2 k], k + 1) else st
def spK (s : ByteArray) (c k : Nat) : List ByteArray × Nat := (List.range k).foldl (spF s c) ([], 0)
def splitS (s : ByteArray) (c : Nat) : List ByteArray := (spK s c s.size).1 ++ [s.extract (spK s c s.size).2 s.size]
theorem spK_succ (s : ByteArray) (c k : Nat) : spK s c (k + 1) = spF s c (spK s c k) k := by
  unfold spK
  rw [List.range_succ, List.foldl_append]
  rfl
theorem spK_le (s : ByteArray) (c : Nat) : ∀ k, (spK s c k).2 ≤ k ∧ (spK s c k).1.length ≤ k
  | 0 => ⟨Nat.le_refl _, Nat.le_refl _⟩
  | k + 1 => by
    obtain ⟨h1, h2⟩ := spK_le s c k
    rw [spK_succ]
    unfold spF
    split
    · exact ⟨Nat.le_refl _, by simp; omega⟩
    · exact ⟨by omega, by omega⟩
abbrev aU8 (c : Nat) : Arg := .val false [.sc (.int .u8 (c : Int))]
noncomputable def mSplit := mdl (fun x : ByteArray × Nat => x.1.size ≤ 1048576 ∧ x.2 < 256) (fun x => [aS x.1, aU8 x.2]) (fun x => rL 9 1 cStr (splitS x.1 x.2))
theorem mSplit_eq (s : ByteArray) (c : Nat) (h : s.size ≤ 1048576) (hc : c < 256) : mSplit [aS s, aU8 c] = some (rL 9 1 cStr (splitS s c)) := mdl_eq (by
  rintro ⟨a, b⟩ ⟨a', b'⟩ h
  simp at h
  exact Prod.ext h.1 (by have := h.2; omega)) (s, c) ⟨h, hc⟩
theorem split_s : Sound Tryz.prog 47 mSplit := by
  refine Sound.mdl Tryz.func47 rfl Tryz.ntmps47 ?_
  rintro ⟨s, c⟩ w ⟨hs, hc⟩
  refine ⟨by simp, ?_⟩
  replace hs : s.size ≤ 1048576 := hs
  replace hc : c < 256 := hc
  have hΓ : GSound Tryz.prog (look []) := env_nil
  have hnil : rowsF cStr [] = [] := rfl
  have hv : splitS s c = (spK s c s.size).1 ++ [s.extract (spK s c s.size).2 s.size] := rfl
  have hN := byteN_eq s
  replace hv := Lib.hid hv
  simp only [initS, argPV, List.map_cons, List.map_nil, toPL, Nat.zero_add]
  refine zR ?_
  refine W.loopA (fun k => k ≤ s.size) (fun k : Nat => [.slot 0 (one (.sc (.string s))), .slot 1 (one (.sc (.int .u8 (c : Int)))), .slot 5 (one (.all 8)), .blk 8 (.arr .ft 9 1 (rowsF cStr (spK s c k).1)), .slot 6 (vI ((spK s c k).2 : Nat)), .slot 7 (vI k)]) (fun k => s.size - k) 0 (Nat.zero_le _) (h := ?_)
  rintro k hk
  obtain ⟨hle, hln⟩ := spK_le s c k
  by_cases hlt : k < s.size
  · have ib := byte_at hlt
    have bl := byteN_lt s k
    have hsu := spK_succ s c k
    unfold spF at hsu
    have happ := cStr_appT (spK s c k).1 (s.extract (spK s c k).2 k)
    by_cases h1 : byteN s k = c
    · rw [if_pos h1] at hsu
      have h1' : ((byteN s k : Nat) : Int) = (c : Int) := by rw [h1]
      generalize spK s c k = st at *
      obtain ⟨L, p⟩ := st
      dsimp only at *
      replace hsu := Lib.hid hsu
      refine zR ?_
      refine At.roundA (k + 1) (by omega) (by omega) (hs := ?_)
      rw [hsu.out]
      exact subP
    · rw [if_neg h1] at hsu
      have h1' : ¬ ((byteN s k : Nat) : Int) = (c : Int) := by omega
      generalize spK s c k = st at *
      replace hsu := Lib.hid hsu
      clear happ
      refine zR ?_
      refine At.roundA (k + 1) (by omega) (by omega) (hs := ?_)
      rw [hsu.out]
      exact subP
  · have hke : k = s.size := by omega
    subst hke
    have happ := cStr_appT (spK s c s.size).1 (s.extract (spK s c s.size).2 s.size)
    generalize spK s c s.size = st at *
    obtain ⟨L, p⟩ := st
    dsimp only at *
    refine zR ?_
    refine At.retA (by rw [Tryz.results47]) (he := ?_)
    rw [hv.out]
end Go.Proofs.YtfgkfcfplodaoaaGreatDoor

end
