/-
  Put together: PEvOneI PEvTwoI.
-/
import Derived.Test.YtfgkfcfplodaoaaGreatDoorG45
set_option linter.unusedSimpArgs false
set_option linter.unusedVariables false
set_option maxRecDepth 100000
section
namespace Go.Proofs.YtfgkfcfplodaoaaGreatDoor
open Go Go.RowKit
set_option maxHeartbeats 16000000
def proofW : ByteArray := { data := #[112, 114, 111, 111, 102] }
def peerW : ByteArray := { data := #[112, 101, 101, 114] }
def tickW : ByteArray := { data := #[116, 105, 99, 107] }
def seenW : ByteArray := { data := #[115, 101, 101, 110] }
def expW : ByteArray := { data := #[101, 120, 112, 105, 114, 101, 100] }
def folW : ByteArray := { data := #[102, 111, 108, 108, 111, 119] }
def putP (x : TLight) (t : TTab) : TLight := (x.1, x.2.1, x.2.2.1, x.2.2.2.1, t, x.2.2.2.2.2)
def proofD (d : TDesk) (n : Int) : ByteArray := if 0 ≤ bkAt d.1 n then decT (pathL (bkAt d.1 n).toNat (idsD d.1)).length else noneW
def peerX (x : TLight) (n : Int) : TLight := putP x (addT x.2.2.2.2.1 n false).1
def peerT (x : TLight) (n : Int) : ByteArray := if (addT x.2.2.2.2.1 n false).2 = true then okS else noS
def tickT (x : TLight) (n : Int) : ByteArray := if tickB x n = true then (if (tickL x n).2.1 = 2 then expW else folW) else noS
noncomputable def seenT (x : TLight) (n : Int) : ByteArray := if (getHd x.2.2.2.1 n).2 = true then hexS (headId (getHd x.2.2.2.1 n).1) else noneW
noncomputable def oneD (d : TDesk) (w : ByteArray) (n : Int) : TDesk × ByteArray :=
  if w = proofW then (d, proofD d n)
  else if w = peerW then (if d.2.2 = true then ((d.1, peerX d.2.1 n, true), peerT d.2.1 n) else (d, noneW))
  else if w = tickW then (if d.2.2 = true then ((d.1, tickL d.2.1 n, true), tickT d.2.1 n) else (d, noneW))
  else if w = seenW then (d, if d.2.2 = true then seenT d.2.1 n else noneW)
  else (d, whatW)
theorem one_ways (d : TDesk) (w : ByteArray) (n : Int) :
    (decide (w = (⟨#[112, 114, 111, 111, 102]⟩ : ByteArray)) = true ∧ oneD d w n = (d, proofD d n)) ∨
    (decide (w = (⟨#[112, 114, 111, 111, 102]⟩ : ByteArray)) = false ∧ decide (w = (⟨#[112, 101, 101, 114]⟩ : ByteArray)) = true ∧ oneD d w n = if d.2.2 = true then ((d.1, peerX d.2.1 n, true), peerT d.2.1 n) else (d, noneW)) ∨
    (decide (w = (⟨#[112, 114, 111, 111, 102]⟩ : ByteArray)) = false ∧ decide (w = (⟨#[112, 101, 101, 114]⟩ : ByteArray)) = false ∧ decide (w = (⟨#[116, 105, 99, 107]⟩ : ByteArray)) = true ∧ oneD d w n = if d.2.2 = true then ((d.1, tickL d.2.1 n, true), tickT d.2.1 n) else (d, noneW)) ∨
    (decide (w = (⟨#[112, 114, 111, 111, 102]⟩ : ByteArray)) = false ∧ decide (w = (⟨#[112, 101, 101, 114]⟩ : ByteArray)) = false ∧ decide (w = (⟨#[116, 105, 99, 107]⟩ : ByteArray)) = false ∧ decide (w = (⟨#[115, 101, 101, 110]⟩ : ByteArray)) = true ∧ oneD d w n = (d, if d.2.2 = true then seenT d.2.1 n else noneW)) ∨
    (decide (w = (⟨#[112, 114, 111, 111, 102]⟩ : ByteArray)) = false ∧ decide (w = (⟨#[112, 101, 101, 114]⟩ : ByteArray)) = false ∧ decide (w = (⟨#[116, 105, 99, 107]⟩ : ByteArray)) = false ∧ decide (w = (⟨#[115, 101, 101, 110]⟩ : ByteArray)) = false ∧ oneD d w n = (d, whatW)) := by
  by_cases h1 : w = proofW
  · exact .inl ⟨decide_eq_true h1, if_pos h1⟩
  by_cases h2 : w = peerW
  · exact .inr (.inl ⟨decide_eq_false h1, decide_eq_true h2, (if_neg h1).trans (if_pos h2)⟩)
  by_cases h3 : w = tickW
  · exact .inr (.inr (.inl ⟨decide_eq_false h1, decide_eq_false h2, decide_eq_true h3, (if_neg h1).trans ((if_neg h2).trans (if_pos h3))⟩))
  by_cases h4 : w = seenW
  · exact .inr (.inr (.inr (.inl ⟨decide_eq_false h1, decide_eq_false h2, decide_eq_false h3, decide_eq_true h4, (if_neg h1).trans ((if_neg h2).trans ((if_neg h3).trans (if_pos h4)))⟩)))
  · exact .inr (.inr (.inr (.inr ⟨decide_eq_false h1, decide_eq_false h2, decide_eq_false h3, decide_eq_false h4, (if_neg h1).trans ((if_neg h2).trans ((if_neg h3).trans (if_neg h4)))⟩)))
theorem oneD_ok {d : TDesk} (h : deskOk d) (w : ByteArray) (n : Int) : deskOk (oneD d w n).1 := by
  rcases one_ways d w n with ⟨-, e⟩ | ⟨-, -, e⟩ | ⟨-, -, -, e⟩ | ⟨-, -, -, -, e⟩ | ⟨-, -, -, -, e⟩ <;> rw [e]
  · exact h
  · split
    · rename_i hs
      exact ⟨h.1, fun _ => cli_peers (h.2 hs) (addT_ok (h.2 hs).1.2.2.2.1 n false)⟩
    · exact h
  · split
    · rename_i hs
      exact ⟨h.1, fun _ => cli_tick (h.2 hs) n⟩
    · exact h
  · exact h
  · exact h
theorem idsD_len (L : List TBlock) : (idsD L).length = L.length := by unfold idsD; rw [List.length_map]
abbrev TOne := TDesk × ByteArray × Int
theorem one_s : SoundDk Tryz.prog 104 (fun x : TOne => deskOk x.1) (fun x => lDk x.1) (fun x => [aS x.2.1, aI x.2.2]) (fun x => lDk (oneD x.1 x.2.1 x.2.2).1) (fun x => .string (oneD x.1 x.2.1 x.2.2).2) := by
  refine SoundDk.of Tryz.func104 rfl Tryz.ntmps104 ?_
  rintro ⟨⟨L, ⟨⟨p, s⟩, st, ⟨⟨h1, h2, h3, h4, h5, h6⟩, v⟩, ⟨l, n⟩, ⟨q, m⟩, now⟩, hs⟩, wd, nn⟩ b w hx hB
  refine ⟨by simp, ?_⟩
  simp only [initC, List.map_cons, List.map_nil, toPL]
  simp only [initS, argPV, Nat.reduceAdd, lDk, lLt, List.cons_append, List.nil_append, List.map_cons, List.map_nil, toPL]
  replace hx : deskOk (L, ((p, s), st, ((h1, h2, h3, h4, h5, h6), v), (l, n), (q, m), now), hs) := hx
  have hΓ : GSound Tryz.prog (look [(143, mIds), (59, mBkAt), (146, mPa), (101, mDecZ), (147, mAddP), (148, mOkay), (149, mTick), (150, mSeen), (144, mHeadId), (141, mHex)]) := env_cons (has_of Tryz.func143 rfl rfl) ids_s (env_cons (has_of Tryz.func59 rfl rfl) bkAt_s (env_cons (has_of Tryz.func146 rfl rfl) tpathI_s (env_cons (has_of Tryz.func101 rfl rfl) decZI_s (env_cons (has_of Tryz.func147 rfl rfl) addPI_s (env_cons (has_of Tryz.func148 rfl rfl) okay_s (env_cons (has_of Tryz.func149 rfl rfl) tickI_s (env_cons (has_of Tryz.func150 rfl rfl) seenI_s (env_cons (has_of Tryz.func144 rfl rfl) headIdI_s (env_cons (has_of Tryz.func141 rfl rfl) hexI_s env_nil)))))))))
  have hl12 : L.length ≤ 12 := hx.1.1
  have hcl : hs = true → cliOk ((p, s), st, ((h1, h2, h3, h4, h5, h6), v), (l, n), (q, m), now) := hx.2
  have hways := one_ways (L, ((p, s), st, ((h1, h2, h3, h4, h5, h6), v), (l, n), (q, m), now), hs) wd nn
  rcases hways with ⟨t1, hb⟩ | ⟨t1, t2, hb⟩ | ⟨t1, t2, t3, hb⟩ | ⟨t1, t2, t3, t4, hb⟩ | ⟨t1, t2, t3, t4, hb⟩
  · have c1 := mBkAt_eq L nn (by omega)
    have hP : proofD (L, ((p, s), st, ((h1, h2, h3, h4, h5, h6), v), (l, n), (q, m), now), hs) nn = if 0 ≤ bkAt L nn then decT (pathL (bkAt L nn).toNat (idsD L)).length else noneW := rfl
    have hw := bkAt_ch hx.1 nn
    dsimp only at hw
    rcases hw with ⟨k, hk, -, e⟩ | ⟨-, e⟩
    · rw [e] at c1 hP
      rw [if_pos (by omega), Int.toNat_natCast] at hP
      have c2 := mIds_eq (L, ((p, s), st, ((h1, h2, h3, h4, h5, h6), v), (l, n), (q, m), now), hs) (show L.length ≤ _ by omega)
      have hid := idsD_ok hl12
      have hidl := idsD_len L
      have c3 := mPa_eq (idsD L) k ⟨⟨by omega, by omega⟩, hid.2⟩ (by omega)
      have hpl := pathL_len _ k (idsD L) rfl
      have c4 := mDecZ_eq ((pathL k (idsD L)).length : Int) ⟨by omega, by omega⟩
      have hrl := rowsF_len cStr (pathL k (idsD L))
      simp only [lDk, lLt, List.cons_append, List.nil_append] at c2
      rw [hP] at hb
      clear hx hcl hid e hP
      replace hb := Lib.hid hb
      generalize idsD L = I at *
      generalize pathL k I = T at *
      replace hidl := Lib.hid hidl
      refine zR ?_
      refine At.retDkA (by rw [Tryz.results104]) hB (hc := ?_) (he := ?_) 
      · rw [hb.out] <;> rfl
      · rw [hb.out] <;> rfl
    · rw [e] at c1 hP
      rw [if_neg (by omega)] at hP
      rw [hP] at hb
      clear hx hcl e hP
      replace hb := Lib.hid hb
      refine zR ?_
      refine At.retDkA (by rw [Tryz.results104]) hB (hc := ?_) (he := ?_) 
      · rw [hb.out] <;> rfl
      · rw [hb.out] <;> rfl
  · cases hs with
    | false =>
      replace hb := hb.trans (if_neg Bool.false_ne_true)
      replace hb := Lib.hid hb
      clear hx hcl
      refine zR ?_
      refine At.retDkA (by rw [Tryz.results104]) hB (hc := ?_) (he := ?_) 
      · rw [hb.out] <;> rfl
      · rw [hb.out] <;> rfl
    | true =>
      replace hb := hb.trans (if_pos rfl)
      have hc := hcl rfl
      have htb : tabOk (q, m) := hc.1.2.2.2.1
      have c1 := mAddP_eq (q, m) nn false htb
      have hP : peerX ((p, s), st, ((h1, h2, h3, h4, h5, h6), v), (l, n), (q, m), now) nn = ((p, s), st, ((h1, h2, h3, h4, h5, h6), v), (l, n), (addT (q, m) nn false).1, now) := rfl
      have hT : peerT ((p, s), st, ((h1, h2, h3, h4, h5, h6), v), (l, n), (q, m), now) nn = if (addT (q, m) nn false).2 = true then okS else noS := rfl
      dsimp only at hb
      rw [hP, hT] at hb
      clear hx hcl hc htb hP hT
      generalize addT (q, m) nn false = y at *
      obtain ⟨⟨q', m'⟩, y2⟩ := y
      have c2 := mOkay_eq y2
      dsimp only at hb c1
      generalize (if y2 = true then okS else noS) = X at *
      replace hb := Lib.hid hb
      refine zR ?_
      refine At.retDkA (by rw [Tryz.results104]) hB (hc := ?_) (he := ?_) 
      · rw [hb.out] <;> rfl
      · rw [hb.out] <;> rfl
  · cases hs with
    | false =>
      replace hb := hb.trans (if_neg Bool.false_ne_true)
      replace hb := Lib.hid hb
      clear hx hcl
      refine zR ?_
      refine At.retDkA (by rw [Tryz.results104]) hB (hc := ?_) (he := ?_) 
      · rw [hb.out] <;> rfl
      · rw [hb.out] <;> rfl
    | true =>
      replace hb := hb.trans (if_pos rfl)
      have hc := hcl rfl
      have c1 := mTick_eq ((p, s), st, ((h1, h2, h3, h4, h5, h6), v), (l, n), (q, m), now) nn hc.1
      have hT : tickT ((p, s), st, ((h1, h2, h3, h4, h5, h6), v), (l, n), (q, m), now) nn = if tickB ((p, s), st, ((h1, h2, h3, h4, h5, h6), v), (l, n), (q, m), now) nn = true then (if (tickL ((p, s), st, ((h1, h2, h3, h4, h5, h6), v), (l, n), (q, m), now) nn).2.1 = 2 then expW else folW) else noS := rfl
      dsimp only at hb
      rw [hT] at hb
      clear hx hcl hc hT
      generalize tickL ((p, s), st, ((h1, h2, h3, h4, h5, h6), v), (l, n), (q, m), now) nn = y at *
      generalize tickB ((p, s), st, ((h1, h2, h3, h4, h5, h6), v), (l, n), (q, m), now) nn = z at *
      obtain ⟨⟨p', s'⟩, st', ⟨⟨h1', h2', h3', h4', h5', h6'⟩, v'⟩, ⟨l', n'⟩, ⟨q', m'⟩, now'⟩ := y
      dsimp only at hb
      cases z with
      | false =>
        rw [if_neg (by decide)] at hb
        replace hb := Lib.hid hb
        refine zR ?_
        refine At.retDkA (by rw [Tryz.results104]) hB (hc := ?_) (he := ?_) 
        · rw [hb.out] <;> rfl
        · rw [hb.out] <;> rfl
      | true =>
        rw [if_pos rfl] at hb
        by_cases hst : st' = 2
        · subst hst
          rw [if_pos rfl] at hb
          replace hb := Lib.hid hb
          refine zR ?_
          refine At.retDkA (by rw [Tryz.results104]) hB (hc := ?_) (he := ?_) 
          · rw [hb.out] <;> rfl
          · rw [hb.out] <;> rfl
        · rw [if_neg hst] at hb
          replace hb := Lib.hid hb
          refine zR ?_
          refine At.retDkA (by rw [Tryz.results104]) hB (hc := ?_) (he := ?_) 
          · rw [hb.out] <;> rfl
          · rw [hb.out] <;> rfl
  · cases hs with
    | false =>
      replace hb := hb.trans (congrArg (Prod.mk _) (if_neg Bool.false_ne_true))
      replace hb := Lib.hid hb
      clear hx hcl
      refine zR ?_
      refine At.retDkA (by rw [Tryz.results104]) hB (hc := ?_) (he := ?_) 
      · rw [hb.out] <;> rfl
      · rw [hb.out] <;> rfl
    | true =>
      replace hb := hb.trans (congrArg (Prod.mk _) (if_pos rfl))
      have hc := hcl rfl
      have c1 := mSeen_eq ((p, s), st, ((h1, h2, h3, h4, h5, h6), v), (l, n), (q, m), now) nn hc.1
      have hT : seenT ((p, s), st, ((h1, h2, h3, h4, h5, h6), v), (l, n), (q, m), now) nn = if (getHd (l, n) nn).2 = true then hexS (headId (getHd (l, n) nn).1) else noneW := rfl
      dsimp only at hb c1
      rw [hT] at hb
      clear hx hcl hc hT
      generalize getHd (l, n) nn = y at *
      obtain ⟨⟨y1, y2, y3, y4, y5, y6⟩, z⟩ := y
      dsimp only at hb c1
      cases z with
      | false =>
        rw [if_neg (by decide)] at hb
        replace hb := Lib.hid hb
        refine zR ?_
        refine At.retDkA (by rw [Tryz.results104]) hB (hc := ?_) (he := ?_) 
        · rw [hb.out] <;> rfl
        · rw [hb.out] <;> rfl
      | true =>
        rw [if_pos rfl] at hb
        have c2 := mHeadId_eq (y1, y2, y3, y4, y5, y6)
        have hz := headId_size (y1, y2, y3, y4, y5, y6)
        have c3 := mHex_eq (headId (y1, y2, y3, y4, y5, y6)) (by omega)
        generalize headId (y1, y2, y3, y4, y5, y6) = I at *
        generalize hexS I = X at *
        replace hb := Lib.hid hb
        refine zR ?_
        refine At.retDkA (by rw [Tryz.results104]) hB (hc := ?_) (he := ?_) 
        · rw [hb.out] <;> rfl
        · rw [hb.out] <;> rfl
  · replace hb := Lib.hid hb
    clear hx hcl
    refine zR ?_
    refine At.retDkA (by rw [Tryz.results104]) hB (hc := ?_) (he := ?_) 
    · rw [hb.out] <;> rfl
    · rw [hb.out] <;> rfl
end Go.Proofs.YtfgkfcfplodaoaaGreatDoor

end
section
namespace Go.Proofs.YtfgkfcfplodaoaaGreatDoor
open Go Go.RowKit
set_option maxHeartbeats 16000000
def startW : ByteArray := { data := #[115, 116, 97, 114, 116] }
def feedW : ByteArray := { data := #[102, 101, 101, 100] }
def lieW : ByteArray := { data := #[108, 105, 101] }
def lieB (b : TBlock) : TBlock := ((b.1.1, b.1.2.1, b.1.2.2.1, b.1.2.2.2.1, b.1.2.2.2.2.1, lieW), b.2)
noncomputable def startD (d : TDesk) (a b : Int) : TDesk × ByteArray :=
  if d.1.length = 0 then (d, noneW)
  else if newB (a, b) (d.1.getD 0 zBk) (d.1.getD 0 zBk).1.2.1 = true then ((d.1, newX (a, b) (d.1.getD 0 zBk) (d.1.getD 0 zBk).1.2.1, true), okS) else (d, noS)
noncomputable def feedD (d : TDesk) (a b : Int) (lie : Bool) : TDesk × ByteArray :=
  if d.2.2 = true ∧ 0 ≤ bkAt d.1 b then
    ((d.1, feedX d.2.1 a (if lie = true then lieB (d.1.getD (bkAt d.1 b).toNat zBk) else d.1.getD (bkAt d.1 b).toNat zBk), true), decT (feedC d.2.1 a (if lie = true then lieB (d.1.getD (bkAt d.1 b).toNat zBk) else d.1.getD (bkAt d.1 b).toNat zBk)))
  else (d, noneW)
noncomputable def twoD (d : TDesk) (w : ByteArray) (a b : Int) : TDesk × ByteArray :=
  if w = startW then startD d a b
  else if w = feedW then feedD d a b false
  else if w = lieW then feedD d a b true
  else (d, whatW)
theorem two_ways (d : TDesk) (w : ByteArray) (a b : Int) :
    (decide (w = (⟨#[115, 116, 97, 114, 116]⟩ : ByteArray)) = true ∧ twoD d w a b = startD d a b) ∨
    (decide (w = (⟨#[115, 116, 97, 114, 116]⟩ : ByteArray)) = false ∧ decide (w = (⟨#[102, 101, 101, 100]⟩ : ByteArray)) = true ∧ decide (w = (⟨#[108, 105, 101]⟩ : ByteArray)) = false ∧ twoD d w a b = feedD d a b false) ∨
    (decide (w = (⟨#[115, 116, 97, 114, 116]⟩ : ByteArray)) = false ∧ decide (w = (⟨#[102, 101, 101, 100]⟩ : ByteArray)) = false ∧ decide (w = (⟨#[108, 105, 101]⟩ : ByteArray)) = true ∧ twoD d w a b = feedD d a b true) ∨
    (decide (w = (⟨#[115, 116, 97, 114, 116]⟩ : ByteArray)) = false ∧ decide (w = (⟨#[102, 101, 101, 100]⟩ : ByteArray)) = false ∧ decide (w = (⟨#[108, 105, 101]⟩ : ByteArray)) = false ∧ twoD d w a b = (d, whatW)) := by
  by_cases h1 : w = startW
  · exact .inl ⟨decide_eq_true h1, if_pos h1⟩
  by_cases h2 : w = feedW
  · exact .inr (.inl ⟨decide_eq_false h1, decide_eq_true h2, decide_eq_false (fun h => by rw [h2] at h; exact absurd h (by decide)), (if_neg h1).trans (if_pos h2)⟩)
  by_cases h3 : w = lieW
  · exact .inr (.inr (.inl ⟨decide_eq_false h1, decide_eq_false h2, decide_eq_true h3, (if_neg h1).trans ((if_neg h2).trans (if_pos h3))⟩))
  · exact .inr (.inr (.inr ⟨decide_eq_false h1, decide_eq_false h2, decide_eq_false h3, (if_neg h1).trans ((if_neg h2).trans (if_neg h3))⟩))
theorem bkD_get {L : List TBlock} {k : Nat} (h : k < L.length) : L.getD k zBk = L[k] := by
  rw [List.getD_eq_getElem?_getD, List.getElem?_eq_getElem h]
  rfl
theorem startD_ok {d : TDesk} (h : deskOk d) (a b : Int) : deskOk (startD d a b).1 := by
  unfold startD
  split
  · exact h
  rename_i h0
  split
  · rename_i hn
    have hk : 0 < d.1.length := by omega
    refine ⟨h.1, fun _ => cli_new hn ?_⟩
    rw [bkD_get hk]
    exact (h.1.2 0 hk).2
  · exact h
theorem feedD_ok {d : TDesk} (h : deskOk d) (a b : Int) (lie : Bool) : deskOk (feedD d a b lie).1 := by
  unfold feedD
  split
  · rename_i hn
    refine ⟨h.1, fun _ => cli_feed (h.2 hn.1) a ?_⟩
    rcases bkAt_ch h.1 b with ⟨k, hk, -, e⟩ | ⟨-, e⟩
    · rw [e, Int.toNat_natCast, bkD_get hk]
      have := (h.1.2 k hk).2
      have h12 := h.1.1
      split
      · show d.1[k].1.1 ≤ 12
        omega
      · omega
    · have := hn.2
      omega
  · exact h
theorem twoD_ok {d : TDesk} (h : deskOk d) (w : ByteArray) (a b : Int) : deskOk (twoD d w a b).1 := by
  rcases two_ways d w a b with ⟨-, e⟩ | ⟨-, -, -, e⟩ | ⟨-, -, -, e⟩ | ⟨-, -, -, e⟩ <;> rw [e]
  · exact startD_ok h a b
  · exact feedD_ok h a b false
  · exact feedD_ok h a b true
  · exact h
theorem verC_in (t : TTrust) (a : TAnchor) (h : THeader) (n : List TVal) (c : TCommit) (now : Int) : 0 ≤ verifyC t a h n c now ∧ verifyC t a h n c now ≤ 9 := by
  unfold verifyC
  repeat (split <;> try omega)
theorem feedC_in (x : TLight) (id : Int) (b : TBlock) : 0 ≤ feedC x id b ∧ feedC x id b ≤ 9 := by
  unfold feedC
  split
  · omega
  · exact verC_in _ _ _ _ _ _
abbrev TTwo := TDesk × ByteArray × Int × Int
theorem two_s : SoundDk Tryz.prog 105 (fun x : TTwo => deskOk x.1) (fun x => lDk x.1) (fun x => [aS x.2.1, aI x.2.2.1, aI x.2.2.2]) (fun x => lDk (twoD x.1 x.2.1 x.2.2.1 x.2.2.2).1) (fun x => .string (twoD x.1 x.2.1 x.2.2.1 x.2.2.2).2) := by
  refine SoundDk.of Tryz.func105 rfl Tryz.ntmps105 ?_
  rintro ⟨⟨L, ⟨⟨p, s⟩, st, ⟨⟨h1, h2, h3, h4, h5, h6⟩, v⟩, ⟨l, n⟩, ⟨q, m⟩, now⟩, hs⟩, wd, na, nb⟩ b w hx hB
  refine ⟨by simp, ?_⟩
  simp only [initC, List.map_cons, List.map_nil, toPL]
  simp only [initS, argPV, Nat.reduceAdd, lDk, lLt, List.cons_append, List.nil_append, List.map_cons, List.map_nil, toPL]
  replace hx : deskOk (L, ((p, s), st, ((h1, h2, h3, h4, h5, h6), v), (l, n), (q, m), now), hs) := hx
  have hΓ : GSound Tryz.prog (look [(59, mBkAt), (101, mDecZ), (148, mOkay), (151, mNew), (152, mCopyB), (153, mFeed)]) := env_cons (has_of Tryz.func59 rfl rfl) bkAt_s (env_cons (has_of Tryz.func101 rfl rfl) decZI_s (env_cons (has_of Tryz.func148 rfl rfl) okay_s (env_cons (has_of Tryz.func151 rfl rfl) newI_s (env_cons (has_of Tryz.func152 rfl rfl) copyBI_s (env_cons (has_of Tryz.func153 rfl rfl) feedI_s env_nil)))))
  have hl12 : L.length ≤ 12 := hx.1.1
  have hlen := bkRows_len L
  have hcl : hs = true → cliOk ((p, s), st, ((h1, h2, h3, h4, h5, h6), v), (l, n), (q, m), now) := hx.2
  have hways := two_ways (L, ((p, s), st, ((h1, h2, h3, h4, h5, h6), v), (l, n), (q, m), now), hs) wd na nb
  rcases hways with ⟨t1, hb⟩ | ⟨t1, t2, t3, hb⟩ | ⟨t1, t2, t3, hb⟩ | ⟨t1, t2, t3, hb⟩
  · have hS : startD (L, ((p, s), st, ((h1, h2, h3, h4, h5, h6), v), (l, n), (q, m), now), hs) na nb = if L.length = 0 then ((L, ((p, s), st, ((h1, h2, h3, h4, h5, h6), v), (l, n), (q, m), now), hs), noneW) else if newB (na, nb) (L.getD 0 zBk) (L.getD 0 zBk).1.2.1 = true then ((L, newX (na, nb) (L.getD 0 zBk) (L.getD 0 zBk).1.2.1, true), okS) else ((L, ((p, s), st, ((h1, h2, h3, h4, h5, h6), v), (l, n), (q, m), now), hs), noS) := rfl
    rw [hS] at hb
    clear hS
    rcases Nat.eq_zero_or_pos L.length with h0 | h0
    · rw [if_pos h0] at hb
      have hL : L = [] := List.length_eq_zero_iff.1 h0
      subst hL
      have hnil : bkRows [] = [] := rfl
      replace hb := Lib.hid hb
      clear hx hcl
      refine zR ?_
      refine At.retDkA (by rw [Tryz.results105]) hB (hc := ?_) (he := ?_) 
      · rw [hb.out] <;> rfl
      · rw [hb.out] <;> rfl
    · rw [if_neg (by omega), bkD_get h0] at hb
      have hok := (hx.1.2 0 h0).1
      have hrow := bkRow_at L 0 h0
      have c1 := mNew_eq (na, nb) L[0] L[0].1.2.1 hok
      clear hx hcl hok
      have hL : L.length = 0 → False := fun h => by omega
      generalize L[0] = B at *
      have c2 := mOkay_eq (newB (na, nb) B B.1.2.1)
      generalize hz : newB (na, nb) B B.1.2.1 = z at *
      obtain ⟨⟨x1, x2, x3, x4, x5, x6⟩, b1, b2, ⟨ch, cr, ci, cs⟩⟩ := B
      dsimp only [newX, aBk, rowsCm, bkRow] at hb hrow c1
      clear hz
      cases z with
      | true =>
        dsimp only [rNew] at c1
        rw [if_pos rfl] at hb c1 c2
        replace hb := Lib.hid hb
        have hne : decide (((bkRows L).length : Int) = 0) = false := decide_eq_false (by omega)
        refine zR ?_
        refine At.retDkA (by rw [Tryz.results105]) hB (hc := ?_) (he := ?_) 
        · rw [hb.out] <;> rfl
        · rw [hb.out] <;> rfl
      | false =>
        dsimp only [rNew] at c1
        rw [if_neg Bool.false_ne_true] at hb c1 c2
        replace hb := Lib.hid hb
        have hne : decide (((bkRows L).length : Int) = 0) = false := decide_eq_false (by omega)
        refine zR ?_
        refine At.retDkA (by rw [Tryz.results105]) hB (hc := ?_) (he := ?_) 
        · rw [hb.out] <;> rfl
        · rw [hb.out] <;> rfl
  · have hS : feedD (L, ((p, s), st, ((h1, h2, h3, h4, h5, h6), v), (l, n), (q, m), now), hs) na nb false = if hs = true ∧ 0 ≤ bkAt L nb then ((L, feedX ((p, s), st, ((h1, h2, h3, h4, h5, h6), v), (l, n), (q, m), now) na (L.getD (bkAt L nb).toNat zBk), true), decT (feedC ((p, s), st, ((h1, h2, h3, h4, h5, h6), v), (l, n), (q, m), now) na (L.getD (bkAt L nb).toNat zBk))) else ((L, ((p, s), st, ((h1, h2, h3, h4, h5, h6), v), (l, n), (q, m), now), hs), noneW) := rfl
    rw [hS] at hb
    clear hS
    have c1 := mBkAt_eq L nb (by omega)
    have hw := bkAt_ch hx.1 nb
    dsimp only at hw
    rcases hw with ⟨k, hk, -, e⟩ | ⟨-, e⟩
    · rw [e] at c1 hb
      cases hs with
      | false =>
        rw [if_neg (fun h => by cases h.1)] at hb
        replace hb := Lib.hid hb
        clear hx hcl e
        refine zR ?_
        refine At.retDkA (by rw [Tryz.results105]) hB (hc := ?_) (he := ?_) 
        · rw [hb.out] <;> rfl
        · rw [hb.out] <;> rfl
      | true =>
        rw [if_pos ⟨rfl, by omega⟩, Int.toNat_natCast, bkD_get hk] at hb
        have hc := hcl rfl
        have hok := (hx.1.2 k hk).1
        have hrow := bkRow_at L k hk
        have c2 := mCopyB_eq L[k] hok
        have c3 := mFeed_eq ((p, s), st, ((h1, h2, h3, h4, h5, h6), v), (l, n), (q, m), now) na L[k] ⟨hc.1, hok, by have := hc.2.2; dsimp only at this ⊢; omega⟩
        have hin := feedC_in ((p, s), st, ((h1, h2, h3, h4, h5, h6), v), (l, n), (q, m), now) na L[k]
        have c4 := mDecZ_eq (feedC ((p, s), st, ((h1, h2, h3, h4, h5, h6), v), (l, n), (q, m), now) na L[k]) ⟨by omega, by omega⟩
        clear hx hcl e hc hok
        generalize L[k] = B at *
        generalize feedX ((p, s), st, ((h1, h2, h3, h4, h5, h6), v), (l, n), (q, m), now) na B = Y at *
        generalize feedC ((p, s), st, ((h1, h2, h3, h4, h5, h6), v), (l, n), (q, m), now) na B = Z at *
        obtain ⟨⟨x1, x2, x3, x4, x5, x6⟩, b1, b2, ⟨ch, cr, ci, cs⟩⟩ := B
        obtain ⟨⟨p', s'⟩, st', ⟨⟨h1', h2', h3', h4', h5', h6'⟩, v'⟩, ⟨l', n'⟩, ⟨q', m'⟩, now'⟩ := Y
        dsimp only [aBk, rBk, rowsBk, rowsCm, bkRow] at hrow c2 c3
        replace hb := Lib.hid hb
        have hne : decide ((k : Int) < 0) = false := decide_eq_false (by omega)
        refine zR ?_
        refine W.lateB hΓ 11 [[], [0], [0, 1], [0, 1, 2], [], [], [0, 1, 2, 3, 4, 5], [0, 1, 2, 3, 4, 5, 6], [0, 1, 2, 3, 4, 5, 6, 7], [0, 1, 2, 3, 4, 5, 6, 7], [], [0, 1, 2, 3, 4, 5, 6, 7, 8, 10], [0, 1, 2, 3, 4, 5, 6, 7, 8, 9, 10, 11]] [9] (rest := ?rest11) (Es := ?Es11) (st1 := ?st111) (stA := ?stA11) (t := ?t11) (x := ?x11) (y := ?y11) (ty := ?ty11) (pos := ?pos11) (after := ?af11) (n := ?n11) (b := ?b11) ?_
        refine zL ?_
        refine zE ?_
        refine zR ?_
        refine At.retDkA (by rw [Tryz.results105]) hB (hc := ?_) (he := ?_) 
        · rw [hb.out] <;> rfl
        · rw [hb.out] <;> rfl
    · rw [e, if_neg (fun h => by have := h.2; omega)] at hb
      rw [e] at c1
      clear hx hcl e
      replace hb := Lib.hid hb
      cases hs with
      | false =>
        refine zR ?_
        refine At.retDkA (by rw [Tryz.results105]) hB (hc := ?_) (he := ?_) 
        · rw [hb.out] <;> rfl
        · rw [hb.out] <;> rfl
      | true =>
        refine zR ?_
        refine At.retDkA (by rw [Tryz.results105]) hB (hc := ?_) (he := ?_) 
        · rw [hb.out] <;> rfl
        · rw [hb.out] <;> rfl
  · have hS : feedD (L, ((p, s), st, ((h1, h2, h3, h4, h5, h6), v), (l, n), (q, m), now), hs) na nb true = if hs = true ∧ 0 ≤ bkAt L nb then ((L, feedX ((p, s), st, ((h1, h2, h3, h4, h5, h6), v), (l, n), (q, m), now) na (lieB (L.getD (bkAt L nb).toNat zBk)), true), decT (feedC ((p, s), st, ((h1, h2, h3, h4, h5, h6), v), (l, n), (q, m), now) na (lieB (L.getD (bkAt L nb).toNat zBk)))) else ((L, ((p, s), st, ((h1, h2, h3, h4, h5, h6), v), (l, n), (q, m), now), hs), noneW) := rfl
    rw [hS] at hb
    clear hS
    have c1 := mBkAt_eq L nb (by omega)
    have hw := bkAt_ch hx.1 nb
    dsimp only at hw
    rcases hw with ⟨k, hk, -, e⟩ | ⟨-, e⟩
    · rw [e] at c1 hb
      cases hs with
      | false =>
        rw [if_neg (fun h => by cases h.1)] at hb
        replace hb := Lib.hid hb
        clear hx hcl e
        refine zR ?_
        refine At.retDkA (by rw [Tryz.results105]) hB (hc := ?_) (he := ?_) 
        · rw [hb.out] <;> rfl
        · rw [hb.out] <;> rfl
      | true =>
        rw [if_pos ⟨rfl, by omega⟩, Int.toNat_natCast, bkD_get hk] at hb
        have hc := hcl rfl
        have hok := (hx.1.2 k hk).1
        have hrow := bkRow_at L k hk
        have c2 := mCopyB_eq L[k] hok
        have c3 := mFeed_eq ((p, s), st, ((h1, h2, h3, h4, h5, h6), v), (l, n), (q, m), now) na (lieB L[k]) ⟨hc.1, hok, by have := hc.2.2; dsimp only at this ⊢; omega⟩
        have hin := feedC_in ((p, s), st, ((h1, h2, h3, h4, h5, h6), v), (l, n), (q, m), now) na (lieB L[k])
        have c4 := mDecZ_eq (feedC ((p, s), st, ((h1, h2, h3, h4, h5, h6), v), (l, n), (q, m), now) na (lieB L[k])) ⟨by omega, by omega⟩
        clear hx hcl e hc hok
        generalize L[k] = B at *
        generalize feedX ((p, s), st, ((h1, h2, h3, h4, h5, h6), v), (l, n), (q, m), now) na (lieB B) = Y at *
        generalize feedC ((p, s), st, ((h1, h2, h3, h4, h5, h6), v), (l, n), (q, m), now) na (lieB B) = Z at *
        obtain ⟨⟨x1, x2, x3, x4, x5, x6⟩, b1, b2, ⟨ch, cr, ci, cs⟩⟩ := B
        obtain ⟨⟨p', s'⟩, st', ⟨⟨h1', h2', h3', h4', h5', h6'⟩, v'⟩, ⟨l', n'⟩, ⟨q', m'⟩, now'⟩ := Y
        dsimp only [lieB, lieW, aBk, rBk, rowsBk, rowsCm, bkRow] at hrow c2 c3
        replace hb := Lib.hid hb
        have hne : decide ((k : Int) < 0) = false := decide_eq_false (by omega)
        refine zR ?_
        refine W.lateB hΓ 11 [[], [0], [0, 1], [0, 1, 2], [], [], [0, 1, 2, 3, 4, 5], [0, 1, 2, 3, 4, 5, 6], [0, 1, 2, 3, 4, 5, 6, 7], [0, 1, 2, 3, 4, 5, 6, 7], [], [0, 1, 2, 3, 4, 5, 6, 7, 8, 10], [0, 1, 2, 3, 4, 5, 6, 7, 8, 9, 10, 11]] [9] (rest := ?rest21) (Es := ?Es21) (st1 := ?st121) (stA := ?stA21) (t := ?t21) (x := ?x21) (y := ?y21) (ty := ?ty21) (pos := ?pos21) (after := ?af21) (n := ?n21) (b := ?b21) ?_
        refine zL ?_
        refine zE ?_
        refine zR ?_
        refine At.retDkA (by rw [Tryz.results105]) hB (hc := ?_) (he := ?_) 
        · rw [hb.out] <;> rfl
        · rw [hb.out] <;> rfl
    · rw [e, if_neg (fun h => by have := h.2; omega)] at hb
      rw [e] at c1
      clear hx hcl e
      replace hb := Lib.hid hb
      cases hs with
      | false =>
        refine zR ?_
        refine At.retDkA (by rw [Tryz.results105]) hB (hc := ?_) (he := ?_) 
        · rw [hb.out] <;> rfl
        · rw [hb.out] <;> rfl
      | true =>
        refine zR ?_
        refine At.retDkA (by rw [Tryz.results105]) hB (hc := ?_) (he := ?_) 
        · rw [hb.out] <;> rfl
        · rw [hb.out] <;> rfl
  · replace hb := Lib.hid hb
    clear hx hcl
    refine zR ?_
    refine At.retDkA (by rw [Tryz.results105]) hB (hc := ?_) (he := ?_) 
    · rw [hb.out] <;> rfl
    · rw [hb.out] <;> rfl
end Go.Proofs.YtfgkfcfplodaoaaGreatDoor

end
