/-
  Put together: PEvPeerB PEvStoreF PEvSkip PEvLight.
-/
import Derived.Test.YtfgkfcfplodaoaaGreatDoorG35
set_option linter.unusedSimpArgs false
set_option linter.unusedVariables false
set_option maxRecDepth 100000
section
namespace Go.Proofs.YtfgkfcfplodaoaaGreatDoor
open Go Go.RowKit
set_option maxHeartbeats 8000000
def bnd (l : List TPeer) (now id : Int) : Bool := l.any fun p => decide (p.1 = id) && decide (now < p.2.2.1)
def banK (l : List TPeer) (now : Int) (k : Nat) : List Int := ((List.range k).map fun j : Nat => (j : Int) + 1).filter (bnd l now)
def banL (l : List TPeer) (now : Int) : List Int := banK l now 99
theorem banK_len (l : List TPeer) (now : Int) (k : Nat) : (banK l now k).length ≤ k := by
  unfold banK
  refine Nat.le_trans (List.length_filter_le _ _) ?_
  simp
theorem banK_up (l : List TPeer) (now : Int) (k : Nat) : (banK l now k).Pairwise (· < ·) := by
  unfold banK
  refine List.Pairwise.filter _ ?_
  rw [List.pairwise_map]
  exact List.pairwise_lt_range.imp fun h => by omega
theorem banL_mem {l : List TPeer} {now x : Int} : x ∈ banL l now ↔ (1 ≤ x ∧ x ≤ 99) ∧ bnd l now x = true := by
  unfold banL banK
  rw [List.mem_filter, List.mem_map]
  constructor
  · rintro ⟨⟨k, hk, rfl⟩, h⟩
    have := List.mem_range.1 hk
    exact ⟨⟨by omega, by omega⟩, h⟩
  · rintro ⟨⟨h1, h2⟩, h⟩
    exact ⟨⟨(x - 1).toNat, List.mem_range.2 (by omega), by omega⟩, h⟩
theorem tab_inj {t : TTab} (h : tabOk t) {i j : Nat} (hi : i < t.1.length) (hj : j < t.1.length) (e : t.1[i].1 = t.1[j].1) : i = j := by
  have h1 := (h.2 i hi).2
  have h2 := (h.2 j hj).2
  rw [peerD_get hi] at h1
  rw [peerD_get hj] at h2
  rw [e, h2] at h1
  omega
def outB (l : List TPeer) (now : Int) (k : Nat) : List Int := ((l.take k).filter fun p => decide (now < p.2.2.1)).map fun p => p.1
theorem outB_succ {l : List TPeer} {now : Int} {k : Nat} (hk : k < l.length) : outB l now (k + 1) = outB l now k ++ (if now < l[k].2.2.1 then [l[k].1] else []) := by
  unfold outB
  rw [List.take_add_one, List.getElem?_eq_getElem hk, List.filter_append, List.map_append]
  congr 1
  by_cases h : now < l[k].2.2.1 <;> simp [h]
theorem outB_len (l : List TPeer) (now : Int) (k : Nat) : (outB l now k).length ≤ k := by
  unfold outB
  rw [List.length_map]
  refine Nat.le_trans (List.length_filter_le _ _) ?_
  rw [List.length_take]
  omega
theorem outB_of {l : List TPeer} {n now : Int} {l' : List Int} (h : tabOk (l, n)) (hp : l'.Perm (outB l now l.length)) (hs : l'.Pairwise (· ≤ ·)) : l' = banL l now := by
  have hnd : (outB l now l.length).Nodup := by
    unfold outB
    rw [List.take_length]
    have h1 : (l.map fun p => p.1).Nodup := by
      rw [List.nodup_iff_pairwise_ne, List.pairwise_iff_getElem]
      intro i j hi hj hij e
      rw [List.length_map] at hi hj
      rw [List.getElem_map, List.getElem_map] at e
      have := tab_inj h (i := i) (j := j) hi hj e
      omega
    exact h1.sublist (List.filter_sublist.map _)
  have hnd' : l'.Nodup := hp.nodup_iff.2 hnd
  have hlt : l'.Pairwise (· < ·) := by
    have := hs.and (List.nodup_iff_pairwise_ne.1 hnd')
    exact this.imp fun ⟨a, b⟩ => by omega
  refine strict_ext hlt (banK_up l now 99) fun x => ?_
  rw [hp.mem_iff]
  show x ∈ outB l now l.length ↔ x ∈ banL l now
  rw [banL_mem]
  unfold outB bnd
  rw [List.take_length, List.mem_map, List.any_eq_true]
  constructor
  · rintro ⟨p, hp, rfl⟩
    obtain ⟨h1, h2⟩ := List.mem_filter.1 hp
    obtain ⟨j, hj, rfl⟩ := List.getElem_of_mem h1
    exact ⟨(tabOk_at h (k := j) hj).1, l[j], h1, by simpa using h2⟩
  · rintro ⟨_, p, hp, hq⟩
    simp only [Bool.and_eq_true, decide_eq_true_eq] at hq
    exact ⟨p, List.mem_filter.2 ⟨hp, by simpa using hq.2⟩, hq.1⟩
noncomputable def mBan := mdl (fun x : TTab × Int => tabOk x.1 ∧ (0 ≤ x.2 ∧ x.2 ≤ 1000000)) (fun x => [aTab x.1, aI x.2]) (fun x => rL 3 1 cInt (banL x.1.1 x.2))
theorem mBan_eq (t : TTab) (now : Int) (h : tabOk t) (hn : 0 ≤ now ∧ now ≤ 1000000) : mBan [aTab t, aI now] = some (rL 3 1 cInt (banL t.1 now)) := mdl_eq (by
  rintro ⟨⟨a, b⟩, c⟩ ⟨⟨d, e⟩, f⟩ h
  simp at h
  simp [h]) (t, now) ⟨h, hn⟩
theorem banI_s : Sound Tryz.prog 145 mBan := by
  refine Sound.mdl Tryz.func145 rfl Tryz.ntmps145 ?_
  rintro ⟨⟨l, n⟩, now⟩ w ⟨ht, hn0, hn1⟩
  refine ⟨by simp, ?_⟩
  replace ht : tabOk (l, n) := ht
  replace hn0 : 0 ≤ now := hn0
  replace hn1 : now ≤ 1000000 := hn1
  have hΓ : GSound Tryz.prog (look [(189, mTab), (125, mTime)]) := env_cons (has_of Tryz.func189 rfl rfl) tabI_s (env_cons (has_of Tryz.func125 rfl rfl) isTime_s env_nil)
  have hSo : Has Tryz.prog 174 := has_of Tryz.func174 rfl rfl
  have hl6 : l.length ≤ 6 := tabOk_len ht
  have c1 := mTab_eq (l, n) (show l.length ≤ _ by omega)
  rw [decide_eq_true ht] at c1
  have c2 := mTime_eq now
  rw [decide_eq_true ⟨hn0, hn1⟩] at c2
  have hlen := rowsF_len cPeer l
  have hfin := fun l' => outB_of (l := l) (n := n) (now := now) (l' := l') ht
  replace hfin := Lib.hid hfin
  clear ht
  have hz : rowsF cInt (outB l now 0) = [] := rfl
  simp only [initS, argPV, List.map_cons, List.map_nil, toPL, Nat.zero_add]
  refine zR ?_
  refine W.loopA (fun k => k ≤ l.length) (fun k : Nat => [.slot 1 (vI now), .slot 5 (one (.all 16)), .blk 16 (.arr .ft 3 1 (rowsF cInt (outB l now k))), .slot 18 (vL cPeer l), .slot 19 (vI l.length), .slot 20 (vI k)]) (fun k => l.length - k) 0 (Nat.zero_le _) (h := ?_)
  clear c1 c2 hz
  rintro k hk
  have hol := outB_len l now k
  by_cases hlt : k < l.length
  · have hrow := cPeer_row l k hlt
    have hsu := outB_succ (l := l) (now := now) hlt
    by_cases hu : now < l[k].2.2.1
    · rw [if_pos hu] at hsu
      have e : rowsF cInt (outB l now k) ++ [[.sc (.int .i64 l[k].1)]] = rowsF cInt (outB l now (k + 1)) := by rw [hsu, ← rowsF_app]; rfl
      clear hsu
      generalize l[k] = x at *
      refine zR ?_
      exact At.roundA (k + 1) (by omega) (by omega)
    · rw [if_neg hu, List.append_nil] at hsu
      generalize l[k] = x at *
      refine zR ?_
      refine At.roundA (k + 1) (by omega) (by omega) (hs := ?_)
      rw [hsu]
      exact subP
  · have hke : k = l.length := by omega
    subst hke
    refine zR ?_
    refine zO ?_
    refine zL ?_
    refine WL.opSort1A (n := 16) hSo sortI_s (fun _ => rfl) (outB l now l.length) (by omega) (h := ?_)
    rintro l' hp hs
    refine zL ?_
    refine zE ?_
    have hcv := hfin.out l' hp hs
    clear hp hs
    subst hcv
    refine zR ?_
    refine At.retA (by rw [Tryz.results145]) (he := rfl)
end Go.Proofs.YtfgkfcfplodaoaaGreatDoor

end
section
namespace Go.Proofs.YtfgkfcfplodaoaaGreatDoor
open Go Go.RowKit
set_option maxHeartbeats 8000000
theorem getStI_s : Sound Tryz.prog 197 mGetSt := by
  refine Sound.mdl Tryz.func197 rfl Tryz.ntmps197 ?_
  rintro ⟨⟨l, n⟩, m⟩ w hl
  refine ⟨by simp, ?_⟩
  replace hl : l.length ≤ 8796093022207 := hl
  have hΓ : GSound Tryz.prog (look [(235, mSto)]) := env_cons (has_of Tryz.func235 rfl rfl) stoI_s env_nil
  have c1 := mSto_eq (l, n) hl
  have hv : getHd (l, n) m = if decide (storeOk (l, n)) then findHd l m else (zHd, false) := rfl
  have hlen := rowsF_len cHeader l
  simp only [initS, argPV, List.map_cons, List.map_nil, toPL, Nat.zero_add]
  cases hok : decide (storeOk (l, n)) with
  | true =>
    rw [hok] at c1 hv
    replace hv : getHd (l, n) m = findHd l m := hv
    clear hok
    have hv := Lib.hid hv
    refine zR ?_
    refine W.loopA (fun k => k ≤ l.length ∧ ∀ j, j < k → ¬ (hdD l j).1 = m) (fun k : Nat => [.slot 1 (vI m), .slot 4 (one (.ptr 4 0)), .blk 4 (.box [.sc (.int .i64 0), .sc (.int .i64 0), .sc (.string ByteArray.empty), .sc (.string ByteArray.empty), .sc (.string ByteArray.empty), .sc (.string ByteArray.empty)]), .slot 13 (vL cHeader l), .slot 14 (vI l.length), .slot 15 (vI k)]) (fun k => l.length - k) 0 ⟨Nat.zero_le _, fun j hj => by omega⟩ (h := ?_)
    rintro k ⟨hk, hI⟩
    by_cases hlt : k < l.length
    · have hrow := hdD_row hlt
      by_cases h1 : (hdD l k).1 = m
      · have hf := findHd_at hlt hI h1
        rw [hf] at hv
        have hv := Lib.hid hv.out
        clear hI hf
        generalize hdD l k = x at *
        obtain ⟨x1, x2, x3, x4, x5, x6⟩ := x
        dsimp only [lHd] at hrow h1
        subst h1
        refine zR ?_
        refine At.retA (by rw [Tryz.results197]) (he := ?_)
        rw [hv.out]
      · have hnx : ∀ j, j < k + 1 → ¬ (hdD l j).1 = m := fun j hj => by
          rcases Nat.lt_or_ge j k with h2 | h2
          · exact hI j h2
          · have : j = k := by omega
            subst this
            exact h1
        have hnx := Lib.hid hnx
        clear hI
        generalize hdD l k = x at hrow h1
        obtain ⟨x1, x2, x3, x4, x5, x6⟩ := x
        dsimp only [lHd] at hrow h1
        refine zR ?_
        exact At.roundA (k + 1) ⟨by omega, hnx.out⟩ (by omega)
    · have hf := findHd_no (l := l) (n := m) (fun j hj => hI j (by omega))
      rw [hf] at hv
      have hv := Lib.hid hv.out
      clear hI hf
      refine zR ?_
      refine At.retA (by rw [Tryz.results197]) (he := ?_)
      rw [hv.out]
      rfl
  | false =>
    rw [hok] at c1 hv
    replace hv : getHd (l, n) m = (zHd, false) := hv
    clear hok
    have hv := Lib.hid hv
    refine zR ?_
    refine At.retA (by rw [Tryz.results197]) (he := ?_)
    rw [hv.out]
    rfl
noncomputable def addSt (t : TStore) (h : THeader) : TStore × Bool := if decide (storeOk (t.1 ++ [h], t.2)) then ((t.1 ++ [h], t.2), true) else (t, false)
abbrev rStoB (y : TStore × Bool) : Res := .tup [(true, rSto y.1), rSc (.bool y.2)]
noncomputable def mAddSt := mdl (fun x : TStore × THeader => storeOk x.1) (fun x => [aSto x.1, aHd x.2]) (fun x => rStoB (addSt x.1 x.2))
theorem mAddSt_eq (t : TStore) (h : THeader) (ht : storeOk t) : mAddSt [aSto t, aHd h] = some (rStoB (addSt t h)) := mdl_eq (by
  rintro ⟨⟨a, b⟩, c⟩ ⟨⟨d, e⟩, f⟩ h
  have h1 : aSto (a, b) = aSto (d, e) := by injection h
  have h2 : [aHd c] = [aHd f] := by injection h
  rw [aHd_inj _ _ h2, aSto_inj h1]) (t, h) ht
noncomputable def mSyncSt := mdl storeOk (fun t => [aSto t]) (fun t => rStoB ((t.1, (t.1.length : Int)), true))
theorem mSyncSt_eq (t : TStore) (h : storeOk t) : mSyncSt [aSto t] = some (rStoB ((t.1, (t.1.length : Int)), true)) := mdl_eq (fun a b h => aSto_inj (by simpa using h)) t h
theorem addStI_s : Sound Tryz.prog 199 mAddSt := by
  refine Sound.mdl Tryz.func199 rfl Tryz.ntmps199 ?_
  rintro ⟨⟨l, n⟩, ⟨x1, x2, x3, x4, x5, x6⟩⟩ w ht
  refine ⟨by simp, ?_⟩
  replace ht : storeOk (l, n) := ht
  have hΓ : GSound Tryz.prog (look [(235, mSto), (236, mCopySt)]) := env_cons (has_of Tryz.func235 rfl rfl) stoI_s (env_cons (has_of Tryz.func236 rfl rfl) copySt_s env_nil)
  have hl6 : l.length ≤ 20 := ht.1.1
  have c1 := mSto_eq (l, n) (show l.length ≤ _ by omega)
  rw [decide_eq_true ht] at c1
  have c2 := mCopySt_eq (l, n) (show l.length ≤ _ by omega)
  have c3 := mSto_eq (l ++ [(x1, x2, x3, x4, x5, x6)], n) (show (l ++ [(x1, x2, x3, x4, x5, x6)]).length ≤ _ by simp; omega)
  have hlen := rowsF_len cHeader l
  have happ := cHeader_app l (x1, x2, x3, x4, x5, x6)
  dsimp only [lHd] at happ
  have hv : addSt (l, n) (x1, x2, x3, x4, x5, x6) = if decide (storeOk (l ++ [(x1, x2, x3, x4, x5, x6)], n)) then ((l ++ [(x1, x2, x3, x4, x5, x6)], n), true) else ((l, n), false) := rfl
  clear ht
  simp only [initS, argPV, List.map_cons, List.map_nil, toPL, Nat.zero_add]
  cases hok : decide (storeOk (l ++ [(x1, x2, x3, x4, x5, x6)], n)) with
  | true =>
    rw [hok] at c3 hv
    replace hv : addSt (l, n) (x1, x2, x3, x4, x5, x6) = ((l ++ [(x1, x2, x3, x4, x5, x6)], n), true) := hv
    clear hok
    have hv := Lib.hid hv
    refine zR ?_
    refine At.retA (by rw [Tryz.results199]) (he := ?_)
    rw [hv.out]
  | false =>
    rw [hok] at c3 hv
    replace hv : addSt (l, n) (x1, x2, x3, x4, x5, x6) = ((l, n), false) := hv
    clear hok
    have hv := Lib.hid hv
    refine zR ?_
    refine At.retA (by rw [Tryz.results199]) (he := ?_)
    rw [hv.out]
theorem syncStI_s : Sound Tryz.prog 200 mSyncSt := by
  refine Sound.mdl Tryz.func200 rfl Tryz.ntmps200 ?_
  rintro ⟨l, n⟩ w ht
  refine ⟨by simp, ?_⟩
  replace ht : storeOk (l, n) := ht
  have hΓ : GSound Tryz.prog (look [(235, mSto), (236, mCopySt)]) := env_cons (has_of Tryz.func235 rfl rfl) stoI_s (env_cons (has_of Tryz.func236 rfl rfl) copySt_s env_nil)
  have hl6 : l.length ≤ 20 := ht.1.1
  have c1 := mSto_eq (l, n) (show l.length ≤ _ by omega)
  rw [decide_eq_true ht] at c1
  have c2 := mCopySt_eq (l, n) (show l.length ≤ _ by omega)
  have hlen := rowsF_len cHeader l
  clear ht
  simp only [initS, argPV, List.map_cons, List.map_nil, toPL, Nat.zero_add]
  refine zR ?_
  refine At.retA (by rw [Tryz.results200]) (he := rfl)
end Go.Proofs.YtfgkfcfplodaoaaGreatDoor

end
section
namespace Go.Proofs.YtfgkfcfplodaoaaGreatDoor
open Go Go.RowKit
set_option maxHeartbeats 8000000
abbrev rowsAn (a : TAnchor) : List RL := [.ro (.sc (.int .i64 a.1.1)), .ro (.sc (.int .i64 a.1.2.1)), .ro (.sc (.string a.1.2.2.1)), .ro (.sc (.string a.1.2.2.2.1)), .ro (.sc (.string a.1.2.2.2.2.1)), .ro (.sc (.string a.1.2.2.2.2.2)), .own .ft 76 2 (rowsF cVal a.2)]
abbrev rAn (a : TAnchor) : Res := .comp true (rowsAn a)
abbrev okAn (a : TAnchor) : Prop := a.2.length ≤ 1048576
noncomputable def mCopyA := mdl okAn (fun a => [aAn a]) rAn
theorem mCopyA_eq (a : TAnchor) (h : okAn a) : mCopyA [aAn a] = some (rAn a) := mdl_eq aAn_inj a h
noncomputable def mCopyV := mdl (fun l : List TVal => l.length ≤ 1048576) (fun l => [aL cVal l]) (fun l => rL 76 2 cVal l)
theorem mCopyV_eq (l : List TVal) (h : l.length ≤ 1048576) : mCopyV [aL cVal l] = some (rL 76 2 cVal l) := mdl_eq (by intro a b h; simpa using h) l h
theorem copyV_s : Sound Tryz.prog 70 mCopyV := by
  refine Sound.mdl Tryz.func70 rfl Tryz.ntmps70 ?_
  rintro l w hl
  refine ⟨by simp, ?_⟩
  replace hl : l.length ≤ 1048576 := hl
  have hΓ : GSound Tryz.prog (look []) := env_nil
  have hlen := rowsF_len cVal l
  have hw : wid 2 (rowsF cVal l) := rowsF_wid (f := cVal) (s := 2) (fun _ => rfl) l
  simp only [initS, argPV, List.map_cons, List.map_nil, toPL, Nat.zero_add]
  refine zR ?_
  refine At.retA (by rw [Tryz.results70]) (he := rfl)
theorem copyAI_s : Sound Tryz.prog 60 mCopyA := by
  refine Sound.mdl Tryz.func60 rfl Tryz.ntmps60 ?_
  rintro ⟨⟨h, t, la, va, ne, da⟩, l⟩ w hl
  refine ⟨by simp, ?_⟩
  replace hl : l.length ≤ 1048576 := hl
  have hΓ : GSound Tryz.prog (look [(70, mCopyV)]) := env_cons (has_of Tryz.func70 rfl rfl) copyV_s env_nil
  have c1 := mCopyV_eq l hl
  simp only [initS, argPV, List.map_cons, List.map_nil, toPL, Nat.zero_add]
  refine zR ?_
  refine W.drawB hΓ 6 [[], [0], [], [2], [2, 3], [0, 1, 2, 3, 4], [0, 1, 2, 3, 4, 5]] (Es := ?Es12) (rest := ?rest12) (st1 := ?st112) ?_
  refine zL ?_
  refine zE ?_
  refine zR ?_
  refine At.retA (by rw [Tryz.results60]) (he := rfl)
abbrev rSk (a : TAnchor) (k : Int) : Res := .tup [(true, rowsAn a), rSc (.int .i64 k)]
theorem anchor_num {a : TAnchor} (h : decide (anchorOk a) = true) : (1 ≤ a.1.1 ∧ a.1.1 ≤ 1000000) ∧ (0 ≤ a.1.2.1 ∧ a.1.2.1 ≤ 1000000) := by
  have := of_decide_eq_true h
  exact ⟨this.1.1, this.1.2.1⟩
theorem trust_num {t : TTrust} (h : decide (trustOk t) = true) : (1 ≤ t.1 ∧ t.1 ≤ 100000) ∧ (0 ≤ t.2 ∧ t.2 ≤ 1000) := of_decide_eq_true h
theorem exp_of {t : TTrust} {n : Int} (h : decide (trustOk t) = true) (hn : 0 ≤ n ∧ n ≤ 1000000) : expT t n = n + t.1 := if_pos ⟨of_decide_eq_true h, hn⟩
end Go.Proofs.YtfgkfcfplodaoaaGreatDoor

end
section
namespace Go.Proofs.YtfgkfcfplodaoaaGreatDoor
open Go Go.RowKit
set_option maxHeartbeats 8000000
abbrev TLight := TTrust × Int × TAnchor × TStore × TTab × Int
abbrev lLt (x : TLight) : List Leaf := [.sc (.int .i64 x.1.1), .sc (.int .i64 x.1.2), .sc (.int .i64 x.2.1), .sc (.int .i64 x.2.2.1.1.1), .sc (.int .i64 x.2.2.1.1.2.1), .sc (.string x.2.2.1.1.2.2.1), .sc (.string x.2.2.1.1.2.2.2.1), .sc (.string x.2.2.1.1.2.2.2.2.1), .sc (.string x.2.2.1.1.2.2.2.2.2), .sl (rowsF cVal x.2.2.1.2), .sl (rowsF cHeader x.2.2.2.1.1), .sc (.int .i64 x.2.2.2.1.2), .sl (rowsF cPeer x.2.2.2.2.1.1), .sc (.int .i64 x.2.2.2.2.1.2), .sc (.int .i64 x.2.2.2.2.2)]
abbrev aLt (x : TLight) : Arg := .val true (lLt x)
abbrev rLt (x : TLight) : List RL := [.ro (.sc (.int .i64 x.1.1)), .ro (.sc (.int .i64 x.1.2)), .ro (.sc (.int .i64 x.2.1)), .ro (.sc (.int .i64 x.2.2.1.1.1)), .ro (.sc (.int .i64 x.2.2.1.1.2.1)), .ro (.sc (.string x.2.2.1.1.2.2.1)), .ro (.sc (.string x.2.2.1.1.2.2.2.1)), .ro (.sc (.string x.2.2.1.1.2.2.2.2.1)), .ro (.sc (.string x.2.2.1.1.2.2.2.2.2)), .own .ft 76 2 (rowsF cVal x.2.2.1.2), .own .ft 30 6 (rowsF cHeader x.2.2.2.1.1), .ro (.sc (.int .i64 x.2.2.2.1.2)), .own .ft 209 4 (rowsF cPeer x.2.2.2.2.1.1), .ro (.sc (.int .i64 x.2.2.2.2.1.2)), .ro (.sc (.int .i64 x.2.2.2.2.2))]
theorem aLt_inj {a b : TLight} (h : aLt a = aLt b) : a = b := by
  obtain ⟨⟨p, s⟩, st, ⟨⟨h1, h2, h3, h4, h5, h6⟩, v⟩, ⟨l, n⟩, ⟨q, m⟩, now⟩ := a
  obtain ⟨⟨p', s'⟩, st', ⟨⟨h1', h2', h3', h4', h5', h6'⟩, v'⟩, ⟨l', n'⟩, ⟨q', m'⟩, now'⟩ := b
  simp at h
  simp [h]
abbrev okLtW (x : TLight) : Prop := x.2.2.1.2.length ≤ 8796093022207 ∧ x.2.2.2.1.1.length ≤ 8796093022207 ∧ x.2.2.2.2.1.1.length ≤ 8796093022207
abbrev okLtC (x : TLight) : Prop := x.2.2.1.2.length ≤ 1048576 ∧ x.2.2.2.1.1.length ≤ 1048576 ∧ x.2.2.2.2.1.1.length ≤ 1048576
def lightOk (x : TLight) : Prop := trustOk x.1 ∧ anchorOk x.2.2.1 ∧ storeOk x.2.2.2.1 ∧ tabOk x.2.2.2.2.1 ∧ (1 ≤ x.2.1 ∧ x.2.1 ≤ 2) ∧ (0 ≤ x.2.2.2.2.2 ∧ x.2.2.2.2.2 ≤ 1000000) ∧ 0 < x.2.2.2.1.1.length ∧ hdD x.2.2.2.1.1 (x.2.2.2.1.1.length - 1) = x.2.2.1.1
open Classical in
noncomputable instance (x : TLight) : Decidable (lightOk x) := Classical.propDecidable _
noncomputable def mCopyL := mdl okLtC (fun x => [aLt x]) (fun x => .comp true (rLt x))
theorem mCopyL_eq (x : TLight) (h : okLtC x) : mCopyL [aLt x] = some (.comp true (rLt x)) := mdl_eq (fun a b h => aLt_inj (by injection h)) x h
noncomputable def mLight := mdl okLtW (fun x => [aLt x]) (fun x => rB (decide (lightOk x)))
theorem mLight_eq (x : TLight) (h : okLtW x) : mLight [aLt x] = some (rB (decide (lightOk x))) := mdl_eq (fun a b h => aLt_inj (by injection h)) x h
theorem copyLI_s : Sound Tryz.prog 196 mCopyL := by
  refine Sound.mdl Tryz.func196 rfl Tryz.ntmps196 ?_
  rintro ⟨⟨p, s⟩, st, ⟨⟨h1, h2, h3, h4, h5, h6⟩, v⟩, ⟨l, n⟩, ⟨q, m⟩, now⟩ w ⟨hv, hl, hq⟩
  refine ⟨by simp, ?_⟩
  replace hv : v.length ≤ 1048576 := hv
  replace hl : l.length ≤ 1048576 := hl
  replace hq : q.length ≤ 1048576 := hq
  have hΓ : GSound Tryz.prog (look [(60, mCopyA), (236, mCopySt), (190, mCopyT)]) := env_cons (has_of Tryz.func60 rfl rfl) copyAI_s (env_cons (has_of Tryz.func236 rfl rfl) copySt_s (env_cons (has_of Tryz.func190 rfl rfl) copyTI_s env_nil))
  have c1 := mCopyA_eq ((h1, h2, h3, h4, h5, h6), v) hv
  have c2 := mCopySt_eq (l, n) hl
  have c3 := mCopyT_eq (q, m) hq
  simp only [initS, argPV, List.map_cons, List.map_nil, toPL, Nat.zero_add]
  refine zR ?_
  refine At.retA (by rw [Tryz.results196]) (he := rfl)
def asEvLight0 : List (List Nat) := [[], [0], [0, 1], [0, 1, 2], [0, 1, 2, 3], [0, 1, 2, 3, 4], [0, 1, 2, 3, 4, 5], [0, 1, 2, 3, 4, 5, 6], [0, 1, 2, 3, 4, 5, 6, 7], [0, 1, 2, 3, 4, 5, 6, 7, 8], [0, 1, 2, 3, 4, 5, 6, 7, 8, 9], [0, 1, 2, 3, 4, 5, 6, 7, 8, 9, 10], [0, 1, 2, 3, 4, 5, 6, 7, 8, 9, 10, 11], [0, 1, 2, 3, 4, 5, 6, 7, 8, 9, 10, 11, 12], [0, 1, 2, 3, 4, 5, 6, 7, 8, 9, 10, 11, 12, 13], [0, 1, 2, 3, 4, 5, 6, 7, 8, 9, 10, 11, 12, 13, 14], [0, 1, 2, 3, 4, 5, 6, 7, 8, 9, 10, 11, 12], [0, 1, 2, 3, 4, 5, 6, 7, 8, 9, 10, 11, 12, 16], [0, 1, 2, 3, 4, 5, 6, 7, 8, 9, 10, 11, 12, 13, 14, 15, 16, 17], [0, 1, 2, 3, 4, 5, 6, 7, 8, 9, 10, 11, 12, 13, 14, 15, 16, 17, 18], [0, 1, 2, 3, 4, 5, 6, 7, 8, 9, 10, 11, 12], [0, 1, 2, 3, 4, 5, 6, 7, 8, 9, 10, 11, 12, 20], [0, 1, 2, 3, 4, 5, 6, 7, 8, 9, 10, 11, 12, 20, 21], [0, 1, 2, 3, 4, 5, 6, 7, 8, 9, 10, 11, 12, 13, 14, 15, 16, 17, 18, 19, 20, 21, 22], [0, 1, 2, 3, 4, 5, 6, 7, 8, 9, 10, 11, 12, 13, 14, 15, 16, 17, 18, 19, 20, 21, 22, 23], [0, 1, 2, 3, 4, 5, 6, 7, 8, 9, 10, 11, 12, 13, 14, 15, 16, 17, 18, 19, 20, 21, 22, 23, 24]]
theorem lightI_s : Sound Tryz.prog 195 mLight := by
  refine Sound.mdl Tryz.func195 rfl Tryz.ntmps195 ?_
  rintro ⟨⟨p, s⟩, st, ⟨⟨h1, h2, h3, h4, h5, h6⟩, v⟩, ⟨l, n⟩, ⟨q, m⟩, now⟩ w ⟨hv, hl, hq⟩
  refine ⟨by simp, ?_⟩
  replace hv : v.length ≤ 8796093022207 := hv
  replace hl : l.length ≤ 8796093022207 := hl
  replace hq : q.length ≤ 8796093022207 := hq
  have hΓ : GSound Tryz.prog (look [(122, mTrust), (123, mAnchor), (235, mSto), (189, mTab), (139, mWithin), (125, mTime)]) := env_cons (has_of Tryz.func122 rfl rfl) trustI_s (env_cons (has_of Tryz.func123 rfl rfl) anchorI_s (env_cons (has_of Tryz.func235 rfl rfl) stoI_s (env_cons (has_of Tryz.func189 rfl rfl) tabI_s (env_cons (has_of Tryz.func139 rfl rfl) within_s (env_cons (has_of Tryz.func125 rfl rfl) isTime_s env_nil)))))
  have c1 := mTrust_eq (p, s)
  have c2 := mAnchor_eq ((h1, h2, h3, h4, h5, h6), v) hv
  have c3 := mSto_eq (l, n) hl
  have c4 := mTab_eq (q, m) hq
  have c5 := mWithin_eq st 1 2
  have c6 := mTime_eq now
  have hlen := rowsF_len cHeader l
  simp only [initS, argPV, List.map_cons, List.map_nil, toPL, Nat.zero_add]
  by_cases g1 : trustOk (p, s)
  · have k1 := g1
    rw [decide_eq_true g1] at c1
    by_cases g2 : anchorOk ((h1, h2, h3, h4, h5, h6), v)
    · have k2 := g2
      rw [decide_eq_true g2] at c2
      by_cases g3 : storeOk (l, n)
      · have k3 := g3
        rw [decide_eq_true g3] at c3
        by_cases g4 : tabOk (q, m)
        · have k4 := g4
          rw [decide_eq_true g4] at c4
          by_cases g5 : 1 ≤ st ∧ st ≤ 2
          · have k5 := g5
            rw [decide_eq_true g5] at c5
            by_cases g6 : 0 ≤ now ∧ now ≤ 1000000
            · have k6 := g6
              rw [decide_eq_true g6] at c6
              by_cases g7 : 0 < l.length
              · have k7 := g7
                have hrow : (rowsF cHeader l)[l.length - 1]? = some (lHd (hdD l (l.length - 1))) := hdD_row (by omega)
                have hv : decide (lightOk ((p, s), st, ((h1, h2, h3, h4, h5, h6), v), (l, n), (q, m), now)) = decide (hdD l (l.length - 1) = (h1, h2, h3, h4, h5, h6)) := decide_eq_decide.2 ⟨fun h => h.2.2.2.2.2.2.2, fun h => ⟨g1, g2, g3, g4, g5, g6, g7, h⟩⟩
                replace hv := Lib.hid hv
                have ek : ((l.length : Int) - 1).toNat = l.length - 1 := by omega
                clear g1 g2 g3 g4 k1 k2 k3 k4 k5 k6
                generalize hdD l (l.length - 1) = y at *
                obtain ⟨y1, y2, y3, y4, y5, y6⟩ := y
                dsimp only [lHd] at hrow
                refine zR ?_
                refine W.drawB hΓ 26 asEvLight0 (Es := ?Es8) (rest := ?rest8) (st1 := ?st18) ?_
                refine zL ?_
                refine zE ?_
                refine zR ?_
                refine At.retA (by rw [Tryz.results195]) (he := ?_)
                rw [hv.out]
                simp [Prod.ext_iff]
              · have hbd : decide (lightOk ((p, s), st, ((h1, h2, h3, h4, h5, h6), v), (l, n), (q, m), now)) = false := decide_eq_false fun h => g7 h.2.2.2.2.2.2.1
                replace hbd := Lib.hid hbd
                refine zR ?_
                refine W.drawB hΓ 26 asEvLight0 (Es := ?Es12) (rest := ?rest12) (st1 := ?st112) ?_
                refine zL ?_
                refine zE ?_
                refine zR ?_
                refine At.retA (by rw [Tryz.results195]) (he := ?_)
                rw [hbd.out]
            · have hbd : decide (lightOk ((p, s), st, ((h1, h2, h3, h4, h5, h6), v), (l, n), (q, m), now)) = false := decide_eq_false fun h => g6 h.2.2.2.2.2.1
              replace hbd := Lib.hid hbd
              rw [decide_eq_false g6] at c6
              refine zR ?_
              refine W.drawB hΓ 26 asEvLight0 (Es := ?Es16) (rest := ?rest16) (st1 := ?st116) ?_
              refine zL ?_
              refine zE ?_
              refine zR ?_
              refine At.retA (by rw [Tryz.results195]) (he := ?_)
              rw [hbd.out]
          · have hbd : decide (lightOk ((p, s), st, ((h1, h2, h3, h4, h5, h6), v), (l, n), (q, m), now)) = false := decide_eq_false fun h => g5 h.2.2.2.2.1
            replace hbd := Lib.hid hbd
            rw [decide_eq_false g5] at c5
            clear c6
            refine zR ?_
            refine W.drawB hΓ 26 asEvLight0 (Es := ?Es20) (rest := ?rest20) (st1 := ?st120) ?_
            refine zL ?_
            refine zE ?_
            refine zR ?_
            refine At.retA (by rw [Tryz.results195]) (he := ?_)
            rw [hbd.out]
        · have hbd : decide (lightOk ((p, s), st, ((h1, h2, h3, h4, h5, h6), v), (l, n), (q, m), now)) = false := decide_eq_false fun h => g4 h.2.2.2.1
          replace hbd := Lib.hid hbd
          rw [decide_eq_false g4] at c4
          clear c5 c6
          refine zR ?_
          refine At.retA (by rw [Tryz.results195]) (he := ?_)
          rw [hbd.out]
      · have hbd : decide (lightOk ((p, s), st, ((h1, h2, h3, h4, h5, h6), v), (l, n), (q, m), now)) = false := decide_eq_false fun h => g3 h.2.2.1
        replace hbd := Lib.hid hbd
        rw [decide_eq_false g3] at c3
        clear c4 c5 c6
        refine zR ?_
        refine At.retA (by rw [Tryz.results195]) (he := ?_)
        rw [hbd.out]
    · have hbd : decide (lightOk ((p, s), st, ((h1, h2, h3, h4, h5, h6), v), (l, n), (q, m), now)) = false := decide_eq_false fun h => g2 h.2.1
      replace hbd := Lib.hid hbd
      rw [decide_eq_false g2] at c2
      clear c3 c4 c5 c6
      refine zR ?_
      refine At.retA (by rw [Tryz.results195]) (he := ?_)
      rw [hbd.out]
  · have hbd : decide (lightOk ((p, s), st, ((h1, h2, h3, h4, h5, h6), v), (l, n), (q, m), now)) = false := decide_eq_false fun h => g1 h.1
    replace hbd := Lib.hid hbd
    rw [decide_eq_false g1] at c1
    clear c2 c3 c4 c5 c6
    refine zR ?_
    refine At.retA (by rw [Tryz.results195]) (he := ?_)
    rw [hbd.out]
end Go.Proofs.YtfgkfcfplodaoaaGreatDoor

end
