/-
  Put together: PEvChI PEvFeed PEvIds.
-/
import Derived.Test.YtfgkfcfplodaoaaGreatDoorHPEvBkOf
import Derived.Test.YtfgkfcfplodaoaaGreatDoorG42
set_option linter.unusedSimpArgs false
set_option linter.unusedVariables false
set_option maxRecDepth 100000
section
namespace Go.Proofs.YtfgkfcfplodaoaaGreatDoor
open Go Go.RowKit
set_option maxHeartbeats 16000000
theorem stB_cn (s : ByteArray) (k : Nat) : stB (cnB s k) = cnS s (k + 1) := rfl
theorem headId_zero : headId zHd = ByteArray.empty := headId_no fun h => by
  have := h.1.1
  exact absurd this (by decide)
abbrev rBO (l : List TBlock) : Res := .comp false [.own .no 36 12 (bkRows l)]
noncomputable def mChainI := mdl okCh (fun x => [aS x.1, aI x.2]) (fun x => if 1 ≤ x.2 ∧ x.2 ≤ 12 then rBO (chainOf x.1 x.2) else rN)
theorem mChainI_eq (s : ByteArray) (n : Int) (h : s.size ≤ 1048576) : mChainI [aS s, aI n] = some (if 1 ≤ n ∧ n ≤ 12 then rBO (chainOf s n) else rN) := mdl_eq (enc := fun x : ByteArray × Int => [aS x.1, aI x.2]) (by rintro ⟨a, b⟩ ⟨c, d⟩ h; simpa using h) (s, n) h
theorem chainI_s : SoundM Tryz.prog 100 mChainI := by
  refine SoundM.mdl Tryz.func100 rfl Tryz.ntmps100 ?_
  rintro ⟨s, n⟩ w hs
  refine ⟨rfl, by simp, ?_⟩
  simp only [frE]
  generalize hFW : (fun k : Nat => w.heap[k]?) = FW
  generalize hFO : oldF w = FO
  replace hs : s.size ≤ 1048576 := hs
  have hΓ : GSound Tryz.prog (look [(139, mWithin), (140, mBlkOf)]) := env_cons (has_of Tryz.func139 rfl rfl) within_s (env_cons (has_of Tryz.func140 rfl rfl) blkOf_s env_nil)
  have c0 := mWithin_eq n 1 12
  have hnil : bkRows [] = [] := rfl
  by_cases hn : 1 ≤ n ∧ n ≤ 12
  · rw [decide_eq_true hn] at c0
    have hv : chainOf s n = cnL s n.toNat := if_pos hn
    simp only [initS, argPV, List.map_cons, List.map_nil, toPL, Nat.zero_add]
    refine zR ?_
    obtain ⟨J, hJ0, hJs⟩ := twoC (α := St) [.blk 998 (.arr (.fr FO FW) 0 1 []), .slot 0 (one (.sc (.string s))), .slot 1 (vI n), .slot 5 (one (.all 11)), .blk 11 (.arr .ft 36 12 (bkRows (cnL s 0))), .slot 6 (one (.ptr 6 0)), .blk 6 (.box [.sc (.int .i64 0), .sc (.int .i64 0), .sc (.string ByteArray.empty), .sc (.string ByteArray.empty), .sc (.string ByteArray.empty), .sc (.string ByteArray.empty), .nil, .nil, .sc (.int .i64 0), .sc (.int .i64 0), .sc (.string ByteArray.empty), .nil]), .slot 7 (vI ((0 + 1 : Nat) : Int))] (fun k => [.blk 998 (.arr (.fr FO FW) 0 1 []), .slot 0 (one (.sc (.string s))), .slot 1 (vI n), .slot 5 (one (.all 11)), .blk 11 (.arr .no 36 12 (bkRows (cnL s (k + 1)))), .slot 6 (one (.ptr 6 0)), .blk 6 (.box ((bkRow (cnB s k)).map toPL)), .slot 7 (vI ((k + 1 + 1 : Nat) : Int))])
    refine W.loopA (fun k => k ≤ n.toNat) J (fun k => n.toNat - k) 0 (Nat.zero_le _) (hs := ?_) (h := ?_)
    · rw [hJ0]
      exact subP
    rintro k hk
    by_cases hlt : ((k + 1 : Nat) : Int) ≤ n
    · have hok := cnS_ok s k (by omega)
      have hap : bkRows (cnL s k) ++ [bkRow (cnB s k)] = bkRows (cnL s (k + 1)) := by
        rw [cnL_next]
        unfold bkRows
        rw [List.map_append]
        rfl
      have hbl : (bkRows (cnL s k)).length = k := by rw [bkRows_len, cnL_len]
      have hjk := hJs k
      rcases Nat.eq_zero_or_pos k with rfl | hp0
      · have hst : stB (zHd, [], [], (0, 0, ByteArray.empty, [])) = cnS s 0 := by
          show (([] : List TVal), (0 : Int), headId zHd) = _
          rw [headId_zero]
          rfl
        have c1 := mBlkOf_eq s 0 (zHd, [], [], (0, 0, ByteArray.empty, [])) ⟨hs, show (0 : Nat) < 12 by omega, ⟨Nat.zero_le _, Nat.zero_le _, Nat.zero_le _⟩, by rw [hst]; exact hok⟩
        rw [hst] at c1
        have hcb : cnBlk s 0 (cnS s 0) = cnB s 0 := rfl
        rw [hcb] at c1
        rw [hJ0]
        generalize cnB s 0 = B at *
        obtain ⟨⟨h, t, la, va, ne, da⟩, b1, b2, ⟨ch, cr, ci, cs⟩⟩ := B
        generalize cnL s (0 + 1) = L1 at *
        generalize cnL s 0 = L0 at *
        dsimp only [zHd, aBk, rBk, rowsBk, rowsCm, bkRow, List.map_cons, List.map_nil, toPL] at c1 hap hjk
        have hn1 : rowsF cVal [] = [] := rfl
        have hn2 : rowsF cCSig [] = [] := rfl
        rw [hn1, hn2] at c1
        replace hjk := Lib.hid hjk
        clear hst hcb hok
        replace c1 := Lib.hid c1
        refine zR ?_
        replace c1 := c1.out
        refine zO ?_
        refine zL ?_
        refine zE ?_
        repeat (refine zN ?_)
        refine W.frzB 6 (h := ?_)
        refine zR ?_
        refine At.roundA (0 + 1) (by omega) (by omega) (hs := ?_)
        rw [hjk.out]
        simp only [List.map_cons, List.map_nil, toPL]
        exact subP
      · obtain ⟨j, rfl⟩ : ∃ j, k = j + 1 := ⟨k - 1, by omega⟩
        have h7 := (cnL_ok s (n := j + 1) (by omega)).2 (cnB s j) (by rw [cnL_next]; simp)
        have c1 := mBlkOf_eq s (j + 1) (cnB s j) ⟨hs, show j + 1 < 12 by omega, ⟨show (cnB s j).2.1.length ≤ 1048576 by omega, show (cnB s j).2.2.1.length ≤ 1048576 by omega, show (cnB s j).2.2.2.2.2.2.length ≤ 1048576 by omega⟩, by rw [stB_cn]; exact hok⟩
        clear h7
        rw [stB_cn] at c1
        have hcb : cnBlk s (j + 1) (cnS s (j + 1)) = cnB s (j + 1) := rfl
        rw [hcb] at c1
        rw [hJs j]
        generalize cnB s (j + 1) = B at *
        generalize cnB s j = B0 at *
        obtain ⟨⟨h, t, la, va, ne, da⟩, b1, b2, ⟨ch, cr, ci, cs⟩⟩ := B
        obtain ⟨⟨h', t', la', va', ne', da'⟩, b1', b2', ⟨ch', cr', ci', cs'⟩⟩ := B0
        generalize cnL s (j + 1 + 1) = L1 at *
        generalize cnL s (j + 1) = L0 at *
        dsimp only [aBk, rBk, rowsBk, rowsCm, bkRow, List.map_cons, List.map_nil, toPL] at c1 hap hjk ⊢
        replace hjk := Lib.hid hjk
        clear hcb hok
        replace c1 := Lib.hid c1
        refine zR ?_
        replace c1 := c1.out
        refine zO ?_
        refine zL ?_
        refine zE ?_
        repeat (refine zN ?_)
        refine W.frzB 6 (h := ?_)
        refine zR ?_
        refine At.roundA (j + 1 + 1) (by omega) (by omega) (hs := ?_)
        rw [hjk.out]
        simp only [List.map_cons, List.map_nil, toPL]
        exact subP
    · have hke : k = n.toNat := by omega
      rcases Nat.eq_zero_or_pos k with rfl | hp0
      · omega
      · obtain ⟨j, rfl⟩ : ∃ j, k = j + 1 := ⟨k - 1, by omega⟩
        rw [hJs j]
        rw [← hke] at hv
        generalize cnB s j = B at *
        obtain ⟨⟨h, t, la, va, ne, da⟩, b1, b2, ⟨ch, cr, ci, cs⟩⟩ := B
        dsimp only [bkRow, List.map_cons, List.map_nil, toPL]
        refine zR ?_
        subst hFW; subst hFO
        refine At.retMA (by rw [Tryz.results100]) (he := ?_)
        show _ = if 1 ≤ n ∧ n ≤ 12 then rBO (chainOf s n) else rN
        rw [if_pos hn, hv, hke]
        rfl
  · rw [decide_eq_false hn] at c0
    have hv : chainOf s n = [] := if_neg hn
    simp only [initS, argPV, List.map_cons, List.map_nil, toPL, Nat.zero_add]
    refine zR ?_
    subst hFW; subst hFO
    refine At.retMA (by rw [Tryz.results100]) (he := ?_)
    show _ = if 1 ≤ n ∧ n ≤ 12 then rBO (chainOf s n) else rN
    rw [if_neg hn]
    rfl
end Go.Proofs.YtfgkfcfplodaoaaGreatDoor

end
section
namespace Go.Proofs.YtfgkfcfplodaoaaGreatDoor
open Go Go.RowKit
set_option maxHeartbeats 16000000
def feedNo (x : TLight) (id : Int) : Prop := ¬ x.2.1 = 1 ∨ atP x.2.2.2.2.1.1 id < 0 ∨ id ∈ banL x.2.2.2.2.1.1 x.2.2.2.2.2
instance (x : TLight) (id : Int) : Decidable (feedNo x id) := by unfold feedNo; infer_instance
def verL (x : TLight) (b : TBlock) : Int := verifyC x.1 x.2.2.1 b.1 b.2.2.1 b.2.2.2 x.2.2.2.2.2
def feedC (x : TLight) (id : Int) (b : TBlock) : Int := if feedNo x id then 1 else verL x b
noncomputable def feedY (x : TLight) (id : Int) (b : TBlock) : TLight := (x.1, x.2.1, (b.1, b.2.2.1), ((addSt x.2.2.2.1 b.1).1.1, ((addSt x.2.2.2.1 b.1).1.1.length : Int)), goodT x.2.2.2.2.1 id, x.2.2.2.2.2)
def feedZ (x : TLight) (id : Int) : TLight := (x.1, x.2.1, x.2.2.1, x.2.2.2.1, lieT x.2.2.2.2.1 id x.2.2.2.2.2, x.2.2.2.2.2)
noncomputable def feedX (x : TLight) (id : Int) (b : TBlock) : TLight := if feedNo x id then x else if verL x b = 0 then feedY x id b else if 5 ≤ verL x b then feedZ x id else x
theorem feed_no {x : TLight} {id : Int} {b : TBlock} (h : feedNo x id) : feedX x id b = x ∧ feedC x id b = 1 := ⟨if_pos h, if_pos h⟩
theorem feed_go {x : TLight} {id : Int} {b : TBlock} (h1 : x.2.1 = 1) (h2 : 0 ≤ atP x.2.2.2.2.1.1 id) (h3 : ¬ id ∈ banL x.2.2.2.2.1.1 x.2.2.2.2.2) : feedX x id b = (if verL x b = 0 then feedY x id b else if 5 ≤ verL x b then feedZ x id else x) ∧ feedC x id b = verL x b := by
  have hn : ¬ feedNo x id := fun h => by
    rcases h with h | h | h
    · exact h h1
    · omega
    · exact h3 h
  exact ⟨if_neg hn, if_neg hn⟩
abbrev TFeed := TLight × Int × TBlock
abbrev aFeed (x : TFeed) : List Arg := [aLt x.1, aI x.2.1, aBk x.2.2]
theorem aFeed_inj : ∀ x y, aFeed x = aFeed y → x = y := by
  rintro ⟨a, i, b⟩ ⟨a', i', b'⟩ h
  have h1 : aLt a = aLt a' := by injection h
  have h2 : [aBk b] = [aBk b'] := by injection h with _ h; injection h
  have h3 : aI i = aI i' := by injection h with _ h; injection h
  have h4 : i = i' := by simpa using h3
  rw [aLt_inj h1, aBk_inj _ _ h2, h4]
abbrev okFeed (x : TFeed) : Prop := lightOk x.1 ∧ okBkS x.2.2 ∧ x.1.2.2.2.1.1.length < 20
abbrev rLtI (x : TLight) (n : Int) : Res := .tup [(true, rLt x), rSc (.int .i64 n)]
noncomputable def mFeed := mdl okFeed aFeed (fun x => rLtI (feedX x.1 x.2.1 x.2.2) (feedC x.1 x.2.1 x.2.2))
theorem mFeed_eq (x : TLight) (id : Int) (b : TBlock) (h : okFeed (x, id, b)) : mFeed [aLt x, aI id, aBk b] = some (rLtI (feedX x id b) (feedC x id b)) := mdl_eq aFeed_inj (x, id, b) h
theorem addSt_ok {t : TStore} {h : THeader} (ht : storeOk t) : storeOk (addSt t h).1 := by
  unfold addSt
  split
  · rename_i h1
    exact of_decide_eq_true h1
  · exact ht
theorem feedI_s : Sound Tryz.prog 153 mFeed := by
  refine Sound.mdl Tryz.func153 rfl Tryz.ntmps153 ?_
  rintro ⟨⟨⟨p, s⟩, st, ⟨⟨h1, h2, h3, h4, h5, h6⟩, v⟩, ⟨l, n⟩, ⟨q, m⟩, now⟩, id, ⟨⟨h, t, la, va, ne, da⟩, b1, b2, ⟨ch, cr, ci, cs⟩⟩⟩ w ⟨hx, ⟨hb1, hb2, hb3⟩, hl20⟩
  refine ⟨by simp, ?_⟩
  replace hx : lightOk ((p, s), st, ((h1, h2, h3, h4, h5, h6), v), (l, n), (q, m), now) := hx
  replace hl20 : l.length < 20 := hl20
  dsimp only at hb1 hb2 hb3
  have hΓ : GSound Tryz.prog (look [(195, mLight), (196, mCopyL), (193, mAtP), (145, mBan), (171, mCont), (61, mVerify), (199, mAddSt), (200, mSyncSt), (201, mGood), (202, mLie)]) := env_cons (has_of Tryz.func195 rfl rfl) lightI_s (env_cons (has_of Tryz.func196 rfl rfl) copyLI_s (env_cons (has_of Tryz.func193 rfl rfl) atPI_s (env_cons (has_of Tryz.func145 rfl rfl) banI_s (env_cons (has_of Tryz.func171 rfl rfl) cont_s (env_cons (has_of Tryz.func61 rfl rfl) verifyI_s (env_cons (has_of Tryz.func199 rfl rfl) addStI_s (env_cons (has_of Tryz.func200 rfl rfl) syncStI_s (env_cons (has_of Tryz.func201 rfl rfl) goodI_s (env_cons (has_of Tryz.func202 rfl rfl) lieI_s env_nil)))))))))
  have hn := lightOk_len hx
  dsimp only at hn
  have hst : storeOk (l, n) := hx.2.2.1
  have htb : tabOk (q, m) := hx.2.2.2.1
  have hnow : 0 ≤ now ∧ now ≤ 1000000 := hx.2.2.2.2.2.1
  have c1 := mLight_eq ((p, s), st, ((h1, h2, h3, h4, h5, h6), v), (l, n), (q, m), now) ⟨show v.length ≤ _ by omega, show l.length ≤ _ by omega, show q.length ≤ _ by omega⟩
  rw [decide_eq_true hx] at c1
  have c2 := mCopyL_eq ((p, s), st, ((h1, h2, h3, h4, h5, h6), v), (l, n), (q, m), now) ⟨show v.length ≤ _ by omega, show l.length ≤ _ by omega, show q.length ≤ _ by omega⟩
  have c3 := mAtP_eq (q, m) id (show q.length ≤ _ by omega)
  have c4 := mBan_eq (q, m) now htb hnow
  have hbl : (banL q now).length ≤ 99 := banK_len q now 99
  have c5 := mCont_eq (banL q now) id (by omega)
  have c6 := mVerify_eq (p, s) ((h1, h2, h3, h4, h5, h6), v) (h, t, la, va, ne, da) b2 (ch, cr, ci, cs) now ⟨show v.length ≤ _ by omega, hb2, hb3⟩
  have c7 := mAddSt_eq (l, n) (h, t, la, va, ne, da) hst
  have has : storeOk (addSt (l, n) (h, t, la, va, ne, da)).1 := addSt_ok hst
  have c8 := mSyncSt_eq _ has
  have hal := storeOk_len has
  have c9 := mGood_eq (q, m) id htb
  have c10 := mLie_eq (q, m) id now htb hnow
  have hno : feedNo ((p, s), st, ((h1, h2, h3, h4, h5, h6), v), (l, n), (q, m), now) id → _ := fun h' => feed_no (b := ((h, t, la, va, ne, da), b1, b2, (ch, cr, ci, cs))) h'
  have hgo := fun a1 a2 a3 => feed_go (x := ((p, s), st, ((h1, h2, h3, h4, h5, h6), v), (l, n), (q, m), now)) (id := id) (b := ((h, t, la, va, ne, da), b1, b2, (ch, cr, ci, cs))) a1 a2 a3
  have hN : feedNo ((p, s), st, ((h1, h2, h3, h4, h5, h6), v), (l, n), (q, m), now) id = (¬ st = 1 ∨ atP q id < 0 ∨ id ∈ banL q now) := rfl
  rw [hN] at hno
  have hA : verifyA (p, s) ((h1, h2, h3, h4, h5, h6), v) (h, t, la, va, ne, da) b2 (ch, cr, ci, cs) now = if verifyC (p, s) ((h1, h2, h3, h4, h5, h6), v) (h, t, la, va, ne, da) b2 (ch, cr, ci, cs) now = 0 then ((h, t, la, va, ne, da), b2) else ((h1, h2, h3, h4, h5, h6), v) := rfl
  rw [hA] at c6
  unfold verL feedY feedZ at hgo
  dsimp only at c3 c4 hgo c7 c8 hal
  have hlen1 := rowsF_len cVal v
  have hlen2 := rowsF_len cHeader l
  have hlen3 := rowsF_len cPeer q
  have hlen4 := rowsF_len cInt (banL q now)
  clear hN hA hx hst htb has
  generalize hvc : verifyC (p, s) ((h1, h2, h3, h4, h5, h6), v) (h, t, la, va, ne, da) b2 (ch, cr, ci, cs) now = vc at *
  clear hvc
  generalize addSt (l, n) (h, t, la, va, ne, da) = ad at *
  obtain ⟨⟨l', n'⟩, ab⟩ := ad
  generalize goodT (q, m) id = gt at *
  obtain ⟨q1, m1⟩ := gt
  generalize lieT (q, m) id now = lt at *
  obtain ⟨q2, m2⟩ := lt
  generalize atP q id = ap at *
  generalize banL q now = bl at *
  dsimp only at c7 c8 hgo hal
  have hlen5 := rowsF_len cHeader l'
  simp only [initS, argPV, List.map_cons, List.map_nil, toPL, Nat.zero_add]
  by_cases g1 : st = 1
  · by_cases g2 : ap < 0
    · have hv := Lib.hid (hno (.inr (.inl g2)))
      clear hno hgo
      subst g1
      refine zR ?_
      refine At.retA (by rw [Tryz.results153]) (he := ?_)
      show rLtI ((p, s), 1, ((h1, h2, h3, h4, h5, h6), v), (l, n), (q, m), now) 1 = _
      rw [hv.out.1, hv.out.2]
    · by_cases g3 : id ∈ bl
      · have hv := Lib.hid (hno (.inr (.inr g3)))
        clear hno hgo
        rw [decide_eq_true g3] at c5
        subst g1
        refine zR ?_
        refine At.retA (by rw [Tryz.results153]) (he := ?_)
        show rLtI ((p, s), 1, ((h1, h2, h3, h4, h5, h6), v), (l, n), (q, m), now) 1 = _
        rw [hv.out.1, hv.out.2]
      · have hv := hgo g1 (by omega) g3
        clear hno hgo
        rw [decide_eq_false g3] at c5
        subst g1
        by_cases g4 : vc = 0
        · rw [if_pos g4] at hv c6
          replace hv := Lib.hid hv
          subst g4
          refine zR ?_
          refine At.retA (by rw [Tryz.results153]) (he := ?_)
          rw [hv.out.1, hv.out.2]
        · rw [if_neg g4] at hv c6
          by_cases g5 : 5 ≤ vc
          · rw [if_pos g5] at hv
            replace hv := Lib.hid hv
            refine zR ?_
            refine At.retA (by rw [Tryz.results153]) (he := ?_)
            rw [hv.out.1, hv.out.2]
          · rw [if_neg g5] at hv
            replace hv := Lib.hid hv
            refine zR ?_
            refine At.retA (by rw [Tryz.results153]) (he := ?_)
            rw [hv.out.1, hv.out.2]
  · have hv := Lib.hid (hno (.inl g1))
    clear hno hgo
    refine zR ?_
    refine At.retA (by rw [Tryz.results153]) (he := ?_)
    rw [hv.out.1, hv.out.2]
end Go.Proofs.YtfgkfcfplodaoaaGreatDoor

end
section
namespace Go.Proofs.YtfgkfcfplodaoaaGreatDoor
open Go Go.RowKit
set_option maxHeartbeats 8000000
abbrev TDesk := List TBlock × TLight × Bool
abbrev lDk (d : TDesk) : List Leaf := .sl (bkRows d.1) :: (lLt d.2.1 ++ [.sc (.bool d.2.2)])
def idsD (L : List TBlock) : List ByteArray := L.map fun b => headId b.1
theorem lDk_inj {a b : TDesk} (h : lDk a = lDk b) : a = b := by
  obtain ⟨a1, a2, a3⟩ := a
  obtain ⟨b1, b2, b3⟩ := b
  simp only [lDk, List.cons.injEq] at h
  obtain ⟨h1, h2⟩ := h
  have h3 := List.append_inj h2 rfl
  have h4 : aLt a2 = aLt b2 := by show Arg.val true _ = _; rw [h3.1]
  have h5 : a3 = b3 := by simpa using h3.2
  have h6 : aBS a1 = aBS b1 := by
    injection h1 with h1
    show Arg.val false [.sl _] = _
    rw [h1]
  have h7 := aBS_inj a1 b1 (by rw [h6])
  rw [h7, aLt_inj h4, h5]
noncomputable def mIds := mdl (fun d : TDesk => d.1.length ≤ 1048576) (fun d => [.row (lDk d) 0]) (fun d => rL 9 1 cStr (idsD d.1))
theorem mIds_eq (d : TDesk) (h : d.1.length ≤ 1048576) : mIds [.row (lDk d) 0] = some (rL 9 1 cStr (idsD d.1)) := mdl_eq (fun a b h => lDk_inj (by injection h with h _; injection h)) d h
theorem bkRow_at (l : List TBlock) (k : Nat) (h : k < l.length) : (bkRows l)[k]? = some (bkRow l[k]) := by
  unfold bkRows
  rw [List.getElem?_map, List.getElem?_eq_getElem h]
  rfl
theorem ids_s : Sound Tryz.prog 143 mIds := by
  refine Sound.mdl Tryz.func143 rfl Tryz.ntmps143 ?_
  rintro ⟨L, ⟨⟨p, s⟩, st, ⟨⟨h1, h2, h3, h4, h5, h6⟩, v⟩, ⟨l, n⟩, ⟨q, m⟩, now⟩, hs⟩ w hl
  refine ⟨by simp, ?_⟩
  replace hl : L.length ≤ 1048576 := hl
  have hΓ : GSound Tryz.prog (look [(144, mHeadId)]) := env_cons (has_of Tryz.func144 rfl rfl) headIdI_s env_nil
  have hlen := bkRows_len L
  have hnil : rowsF cStr [] = [] := rfl
  simp only [initS, argPV, List.map_cons, List.map_nil, toPL, Nat.zero_add]
  refine zR ?_
  refine W.loopA (fun k => k ≤ L.length) (fun k : Nat => [.slot 10 (one (.sl (bkRows L))), .slot 11 (vI L.length), .slot 12 (vI k), .slot 3 (one (.all 6)), .blk 6 (.arr .ft 9 1 (rowsF cStr (idsD (L.take k))))]) (fun k => L.length - k) 0 (Nat.zero_le _) (h := ?_)
  rintro k hk
  have hkl : (idsD (L.take k)).length ≤ 1048576 := by unfold idsD; rw [List.length_map, List.length_take]; omega
  by_cases hlt : k < L.length
  · have hrow := bkRow_at L k hlt
    have c1 := mHeadId_eq L[k].1
    have hL : idsD (L.take (k + 1)) = idsD (L.take k) ++ [headId L[k].1] := by
      unfold idsD
      rw [List.take_succ_eq_append_getElem hlt, List.map_append]
      rfl
    have happ := cStr_appT (idsD (L.take k)) (headId L[k].1)
    rw [← hL] at happ
    clear hL
    generalize hL1 : idsD (L.take (k + 1)) = L1 at *
    generalize idsD (L.take k) = L0 at *
    generalize L[k] = B at *
    obtain ⟨⟨h, t, la, va, ne, da⟩, b1, b2, ⟨ch, cr, ci, cs⟩⟩ := B
    generalize headId (h, t, la, va, ne, da) = x at *
    dsimp only [aHd, bkRow] at c1 hrow happ
    replace hL1 := Lib.hid hL1
    refine zR ?_
    refine At.roundA (k + 1) (by omega) (by omega) (hs := ?_)
    rw [hL1.out]
    exact subP
  · have ht : L.take k = L := List.take_of_length_le (by omega)
    rw [ht]
    clear ht hkl
    refine zR ?_
    refine At.retA (by rw [Tryz.results143]) (he := rfl)
end Go.Proofs.YtfgkfcfplodaoaaGreatDoor

end
