/-
  Put together: PEvWorksQ PEvDeskI.
-/
import Derived.Test.YtfgkfcfplodaoaaGreatDoorHPEvWorksP
set_option linter.unusedSimpArgs false
set_option linter.unusedVariables false
set_option maxRecDepth 100000
section
namespace Go.Proofs.YtfgkfcfplodaoaaGreatDoor
open Go Go.RowKit
set_option maxHeartbeats 4000000
def scriptL (x : Nat) : List Nat := [99, 104, 97, 105, 110, 32, x, 32, 51, 10, 115, 116, 97, 114, 116, 32, 49, 48, 48, 32, 50, 48, 10, 112, 101, 101, 114, 32, 49, 10, 112, 101, 101, 114, 32, 50, 10, 108, 105, 101, 32, 50, 32, 50, 10, 102, 101, 101, 100, 32, 50, 32, 50, 10, 98, 97, 110, 110, 101, 100, 10, 102, 101, 101, 100, 32, 49, 32, 50, 10, 102, 101, 101, 100, 32, 49, 32, 51, 10, 116, 105, 112, 10, 116, 105, 99, 107, 32, 49, 48, 48, 48, 10, 102, 101, 101, 100, 32, 49, 32, 50, 10]
def linesL (x : Nat) : List (List Nat) := [[99, 104, 97, 105, 110, 32, x, 32, 51], [115, 116, 97, 114, 116, 32, 49, 48, 48, 32, 50, 48], [112, 101, 101, 114, 32, 49], [112, 101, 101, 114, 32, 50], [108, 105, 101, 32, 50, 32, 50], [102, 101, 101, 100, 32, 50, 32, 50], [98, 97, 110, 110, 101, 100], [102, 101, 101, 100, 32, 49, 32, 50], [102, 101, 101, 100, 32, 49, 32, 51], [116, 105, 112], [116, 105, 99, 107, 32, 49, 48, 48, 48], [102, 101, 101, 100, 32, 49, 32, 50], []]
theorem split_all : ∀ i, i < 26 → splitN (scriptL (97 + i)) 10 = linesL (97 + i) := by decide +kernel
theorem split_one : ∀ i, i < 26 → splitN [99, 104, 97, 105, 110, 32, 97 + i, 32, 51] 32 = [[99, 104, 97, 105, 110], [97 + i], [51]] := by decide +kernel
theorem dec_lit {n : Int} {l : List Nat} (h : decZ n = l) : decT n = bsS l := by unfold decT; rw [h]
theorem script_small {x : Nat} (h : x < 256) : ∀ y ∈ scriptL x, y < 256 := by
  intro y hy
  unfold scriptL at hy
  simp only [List.mem_cons, List.not_mem_nil, or_false] at hy
  omega
theorem words_2 : splitS (bsS [115, 116, 97, 114, 116, 32, 49, 48, 48, 32, 50, 48]) 32 = [startW, decT 100, decT 20] := by
  rw [splitS_eq (by decide), show splitN [115, 116, 97, 114, 116, 32, 49, 48, 48, 32, 50, 48] 32 = [[115, 116, 97, 114, 116], [49, 48, 48], [50, 48]] by decide +kernel]
  rfl
theorem words_3 : splitS (bsS [112, 101, 101, 114, 32, 49]) 32 = [peerW, decT 1] := by
  rw [splitS_eq (by decide), show splitN [112, 101, 101, 114, 32, 49] 32 = [[112, 101, 101, 114], [49]] by decide +kernel]
  rfl
theorem words_4 : splitS (bsS [112, 101, 101, 114, 32, 50]) 32 = [peerW, decT 2] := by
  rw [splitS_eq (by decide), show splitN [112, 101, 101, 114, 32, 50] 32 = [[112, 101, 101, 114], [50]] by decide +kernel]
  rfl
theorem words_5 : splitS (bsS [108, 105, 101, 32, 50, 32, 50]) 32 = [lieW, decT 2, decT 2] := by
  rw [splitS_eq (by decide), show splitN [108, 105, 101, 32, 50, 32, 50] 32 = [[108, 105, 101], [50], [50]] by decide +kernel]
  rfl
theorem words_6 : splitS (bsS [102, 101, 101, 100, 32, 50, 32, 50]) 32 = [feedW, decT 2, decT 2] := by
  rw [splitS_eq (by decide), show splitN [102, 101, 101, 100, 32, 50, 32, 50] 32 = [[102, 101, 101, 100], [50], [50]] by decide +kernel]
  rfl
theorem words_7 : splitS (bsS [98, 97, 110, 110, 101, 100]) 32 = [bannedW] := by
  rw [splitS_eq (by decide), show splitN [98, 97, 110, 110, 101, 100] 32 = [[98, 97, 110, 110, 101, 100]] by decide +kernel]
  rfl
theorem words_8 : splitS (bsS [102, 101, 101, 100, 32, 49, 32, 50]) 32 = [feedW, decT 1, decT 2] := by
  rw [splitS_eq (by decide), show splitN [102, 101, 101, 100, 32, 49, 32, 50] 32 = [[102, 101, 101, 100], [49], [50]] by decide +kernel]
  rfl
theorem words_9 : splitS (bsS [102, 101, 101, 100, 32, 49, 32, 51]) 32 = [feedW, decT 1, decT 3] := by
  rw [splitS_eq (by decide), show splitN [102, 101, 101, 100, 32, 49, 32, 51] 32 = [[102, 101, 101, 100], [49], [51]] by decide +kernel]
  rfl
theorem words_10 : splitS (bsS [116, 105, 112]) 32 = [tipW] := by
  rw [splitS_eq (by decide), show splitN [116, 105, 112] 32 = [[116, 105, 112]] by decide +kernel]
  rfl
theorem words_11 : splitS (bsS [116, 105, 99, 107, 32, 49, 48, 48, 48]) 32 = [tickW, decT 1000] := by
  rw [splitS_eq (by decide), show splitN [116, 105, 99, 107, 32, 49, 48, 48, 48] 32 = [[116, 105, 99, 107], [49, 48, 48, 48]] by decide +kernel]
  rfl
theorem words_12 : splitS (bsS [102, 101, 101, 100, 32, 49, 32, 50]) 32 = [feedW, decT 1, decT 2] := by
  rw [splitS_eq (by decide), show splitN [102, 101, 101, 100, 32, 49, 32, 50] 32 = [[102, 101, 101, 100], [49], [50]] by decide +kernel]
  rfl
theorem words_1 (i : Nat) (h : i < 26) : splitS (bsS [99, 104, 97, 105, 110, 32, 97 + i, 32, 51]) 32 = [chainW, bsS [97 + i], decT 3] := by
  rw [splitS_eq (fun y hy => by simp only [List.mem_cons, List.not_mem_nil, or_false] at hy; omega), split_one i h]
  rfl
theorem step_of {d d' : TDesk} {out o t : ByteArray} {W : List ByteArray} (ht : ¬ t = ByteArray.empty) (hW : splitS t 32 = W) (h : lineD d W = (d', o)) : stepI (d, out) t = (d', out ++ o ++ (⟨#[10]⟩ : ByteArray)) := by
  unfold stepI
  rw [if_neg ht, hW, h]
theorem ne_emp {l : List Nat} (h : 0 < l.length) : ¬ bsS l = ByteArray.empty := fun e => by
  have := bsS_size l
  rw [e] at this
  have h0 : ByteArray.empty.size = 0 := rfl
  omega
theorem dk1 (s : ByteArray) : lineD ([], zLt, false) [chainW, s, decT 3] = ((cnL s 3, zLt, false), decT 3) := by
  rw [line_chain _ s ⟨by decide, by decide⟩, cn3, cnL_len]
  rfl
theorem dk2 (s : ByteArray) : lineD (cnL s 3, zLt, false) [startW, decT 100, decT 20] = ((cnL s 3, CL s 1 0 [(cnB s 0).1] 1 P0 (cnB s 0).1.2.1, true), okS) := by
  rw [line_two _ (by decide) ⟨by decide, by decide⟩ ⟨by decide, by decide⟩]
  have e := (bk_at s (k := 0) (by decide)).2
  have hs := start_ok s
  unfold twoD
  rw [if_pos rfl]
  unfold startD
  rw [if_neg (by show ¬ (cnL s 3).length = 0; rw [cnL_len]; decide)]
  dsimp only
  rw [e, hs, if_pos rfl]
  rfl
theorem dk3 (s : ByteArray) (st : Int) (hs : List THeader) (n now : Int) : lineD (cnL s 3, CL s st 0 hs n P0 now, true) [peerW, decT 1] = ((cnL s 3, CL s st 0 hs n P1 now, true), okS) := by
  rw [line_one _ _ ⟨by decide, by decide⟩]
  unfold oneD
  rw [if_neg (by decide), if_pos rfl, if_pos rfl]
  unfold peerX peerT
  dsimp only
  rw [add1]
  rfl
theorem dk4 (s : ByteArray) (st : Int) (hs : List THeader) (n now : Int) : lineD (cnL s 3, CL s st 0 hs n P1 now, true) [peerW, decT 2] = ((cnL s 3, CL s st 0 hs n P2 now, true), okS) := by
  rw [line_one _ _ ⟨by decide, by decide⟩]
  unfold oneD
  rw [if_neg (by decide), if_pos rfl, if_pos rfl]
  unfold peerX peerT
  dsimp only
  rw [add2]
  rfl
theorem feedD_of {s : ByteArray} {x : TLight} {k : Nat} (h : k < 3) (id : Int) (lie : Bool) : feedD (cnL s 3, x, true) id ((k + 1 : Nat) : Int) lie = ((cnL s 3, feedX x id (if lie = true then lieB (cnB s k) else cnB s k), true), decT (feedC x id (if lie = true then lieB (cnB s k) else cnB s k))) := by
  obtain ⟨e1, e2⟩ := bk_at s h
  unfold feedD
  dsimp only
  rw [e1, if_pos ⟨rfl, by omega⟩, Int.toNat_natCast, e2]
theorem feedD_2 {s : ByteArray} {x : TLight} (id : Int) (lie : Bool) : feedD (cnL s 3, x, true) id 2 lie = ((cnL s 3, feedX x id (if lie = true then lieB (cnB s 1) else cnB s 1), true), decT (feedC x id (if lie = true then lieB (cnB s 1) else cnB s 1))) := feedD_of (k := 1) (by decide) id lie
theorem feedD_3 {s : ByteArray} {x : TLight} (id : Int) (lie : Bool) : feedD (cnL s 3, x, true) id 3 lie = ((cnL s 3, feedX x id (if lie = true then lieB (cnB s 2) else cnB s 2), true), decT (feedC x id (if lie = true then lieB (cnB s 2) else cnB s 2))) := feedD_of (k := 2) (by decide) id lie
theorem t_in (s : ByteArray) : (0 ≤ (cnB s 0).1.2.1 ∧ (cnB s 0).1.2.1 ≤ 5) ∧ (cnB s 0).1.2.1 < (cnB s 1).1.2.1 ∧ (cnB s 1).1.2.1 < (cnB s 2).1.2.1 ∧ (cnB s 1).1.2.1 ≤ 10 ∧ (cnB s 2).1.2.1 ≤ 15 := by
  have h0 := cnB_t s (k := 0) (by decide)
  have h1 := cnB_t s (k := 1) (by decide)
  have h2 := cnB_t s (k := 2) (by decide)
  have u0 := cnB_up s (show 0 < 1 by decide)
  have u1 := cnB_up s (show 1 < 2 by decide)
  omega
theorem dk5 (s : ByteArray) (hne : ¬ headId (lieB (cnB s 1)).1 = headId (cnB s 1).1) : lineD (cnL s 3, CL s 1 0 [(cnB s 0).1] 1 P2 (cnB s 0).1.2.1, true) [lieW, decT 2, decT 2] = ((cnL s 3, CL s 1 0 [(cnB s 0).1] 1 (P3 (cnB s 0).1.2.1) (cnB s 0).1.2.1, true), decT 9) := by
  have ht := t_in s
  rw [line_two _ (by decide) ⟨by decide, by decide⟩ ⟨by decide, by decide⟩]
  unfold twoD
  rw [if_neg (by decide), if_neg (by decide), if_pos rfl, feedD_2, if_pos rfl]
  have hv : verL (CL s 1 0 [(cnB s 0).1] 1 P2 (cnB s 0).1.2.1) (lieB (cnB s 1)) = 9 := cn_lie s (k := 0) (by decide) tr_ok ⟨ht.1.1, (by show (cnB s 0).1.2.1 ≤ 1000000; omega)⟩ (by show (cnB s 0).1.2.1 ≤ (cnB s 0).1.2.1 + 100; omega) (by show (cnB s 1).1.2.1 ≤ (cnB s 0).1.2.1 + 20; omega) hne
  obtain ⟨e1, e2⟩ := feed_go (x := CL s 1 0 [(cnB s 0).1] 1 P2 (cnB s 0).1.2.1) (id := 2) (b := lieB (cnB s 1)) rfl at2 (fun h => by
    have := (banL_mem.1 h).2
    rw [bnd2 ht.1.1] at this
    cases this)
  rw [e1, e2, hv, if_neg (by decide), if_pos (by decide)]
  show ((cnL s 3, feedZ (CL s 1 0 [(cnB s 0).1] 1 P2 (cnB s 0).1.2.1) 2, true), decT 9) = _
  unfold feedZ
  dsimp only
  rw [lie2]
theorem dk6 (s : ByteArray) : lineD (cnL s 3, CL s 1 0 [(cnB s 0).1] 1 (P3 (cnB s 0).1.2.1) (cnB s 0).1.2.1, true) [feedW, decT 2, decT 2] = ((cnL s 3, CL s 1 0 [(cnB s 0).1] 1 (P3 (cnB s 0).1.2.1) (cnB s 0).1.2.1, true), decT 1) := by
  have ht := t_in s
  rw [line_two _ (by decide) ⟨by decide, by decide⟩ ⟨by decide, by decide⟩]
  unfold twoD
  rw [if_neg (by decide), if_pos rfl, feedD_2]
  obtain ⟨e1, e2⟩ := feed_no (x := CL s 1 0 [(cnB s 0).1] 1 (P3 (cnB s 0).1.2.1) (cnB s 0).1.2.1) (id := 2) (b := cnB s 1) (.inr (.inr (by
    show (2 : Int) ∈ banL (P3 (cnB s 0).1.2.1).1 (cnB s 0).1.2.1
    rw [ban3 ht.1.1]
    decide)))
  show ((cnL s 3, feedX _ _ (cnB s 1), true), decT (feedC _ _ (cnB s 1))) = _
  rw [e1, e2]
theorem dk7 (s : ByteArray) : lineD (cnL s 3, CL s 1 0 [(cnB s 0).1] 1 (P3 (cnB s 0).1.2.1) (cnB s 0).1.2.1, true) [bannedW] = ((cnL s 3, CL s 1 0 [(cnB s 0).1] 1 (P3 (cnB s 0).1.2.1) (cnB s 0).1.2.1, true), ByteArray.empty ++ decT 2) := by
  have ht := t_in s
  rw [line_bare]
  unfold bareD
  rw [if_neg (by decide), if_neg (by decide), if_pos rfl, if_pos rfl]
  unfold banD
  dsimp only
  rw [ban3 ht.1.1]
  rfl
theorem st_two (s : ByteArray) : addSt ([(cnB s 0).1], 1) (cnB s 1).1 = (([(cnB s 0).1, (cnB s 1).1], 1), true) ∧ addSt ([(cnB s 0).1, (cnB s 1).1], 2) (cnB s 2).1 = (([(cnB s 0).1, (cnB s 1).1, (cnB s 2).1], 2), true) := by
  have h0 := st_one _ (hd_cn s (k := 0) (by decide))
  have h1 := addSt_yes (h := (cnB s 1).1) h0 (by show 0 < 1; decide) (by show 1 < 20; decide) (hd_cn s (by decide)) (link_cn s 0)
  have h2 : storeOk ([(cnB s 0).1, (cnB s 1).1], 1) := by
    have := addSt_ok (h := (cnB s 1).1) h0
    rw [h1] at this
    exact this
  have h3 : storeOk ([(cnB s 0).1, (cnB s 1).1], 2) := ⟨⟨by show 2 ≤ 20; decide, by show (0 : Int) ≤ 2; decide, by show (2 : Int) ≤ 2; decide⟩, h2.2⟩
  exact ⟨h1, addSt_yes (h := (cnB s 2).1) h3 (by show 0 < 2; decide) (by show 2 < 20; decide) (hd_cn s (by decide)) (link_cn s 1)⟩
theorem not_ban {t : Int} (h : 0 ≤ t) : ¬ (1 : Int) ∈ banL (P3 t).1 t := by
  rw [ban3 h]
  decide
theorem dk8 (s : ByteArray) : lineD (cnL s 3, CL s 1 0 [(cnB s 0).1] 1 (P3 (cnB s 0).1.2.1) (cnB s 0).1.2.1, true) [feedW, decT 1, decT 2] = ((cnL s 3, CL s 1 1 [(cnB s 0).1, (cnB s 1).1] 2 (P3 (cnB s 0).1.2.1) (cnB s 0).1.2.1, true), decT 0) := by
  have ht := t_in s
  rw [line_two _ (by decide) ⟨by decide, by decide⟩ ⟨by decide, by decide⟩]
  unfold twoD
  rw [if_neg (by decide), if_pos rfl, feedD_2]
  have hv : verL (CL s 1 0 [(cnB s 0).1] 1 (P3 (cnB s 0).1.2.1) (cnB s 0).1.2.1) (cnB s 1) = 0 := cn_ver s (k := 0) (by decide) tr_ok ⟨ht.1.1, (by show (cnB s 0).1.2.1 ≤ 1000000; omega)⟩ (by show (cnB s 0).1.2.1 ≤ (cnB s 0).1.2.1 + 100; omega) (by show (cnB s 1).1.2.1 ≤ (cnB s 0).1.2.1 + 20; omega)
  obtain ⟨e1, e2⟩ := feed_go (x := CL s 1 0 [(cnB s 0).1] 1 (P3 (cnB s 0).1.2.1) (cnB s 0).1.2.1) (id := 1) (b := cnB s 1) rfl (at1 _) (not_ban ht.1.1)
  show ((cnL s 3, feedX _ _ (cnB s 1), true), decT (feedC _ _ (cnB s 1))) = _
  rw [e1, e2, hv, if_pos rfl]
  unfold feedY
  dsimp only
  rw [(st_two s).1, good1]
  rfl
theorem dk9 (s : ByteArray) : lineD (cnL s 3, CL s 1 1 [(cnB s 0).1, (cnB s 1).1] 2 (P3 (cnB s 0).1.2.1) (cnB s 0).1.2.1, true) [feedW, decT 1, decT 3] = ((cnL s 3, CL s 1 2 [(cnB s 0).1, (cnB s 1).1, (cnB s 2).1] 3 (P3 (cnB s 0).1.2.1) (cnB s 0).1.2.1, true), decT 0) := by
  have ht := t_in s
  rw [line_two _ (by decide) ⟨by decide, by decide⟩ ⟨by decide, by decide⟩]
  unfold twoD
  rw [if_neg (by decide), if_pos rfl, feedD_3]
  have hv : verL (CL s 1 1 [(cnB s 0).1, (cnB s 1).1] 2 (P3 (cnB s 0).1.2.1) (cnB s 0).1.2.1) (cnB s 2) = 0 := cn_ver s (k := 1) (by decide) tr_ok ⟨ht.1.1, (by show (cnB s 0).1.2.1 ≤ 1000000; omega)⟩ (by show (cnB s 0).1.2.1 ≤ (cnB s 1).1.2.1 + 100; omega) (by show (cnB s 2).1.2.1 ≤ (cnB s 0).1.2.1 + 20; omega)
  obtain ⟨e1, e2⟩ := feed_go (x := CL s 1 1 [(cnB s 0).1, (cnB s 1).1] 2 (P3 (cnB s 0).1.2.1) (cnB s 0).1.2.1) (id := 1) (b := cnB s 2) rfl (at1 _) (not_ban ht.1.1)
  show ((cnL s 3, feedX _ _ (cnB s 2), true), decT (feedC _ _ (cnB s 2))) = _
  rw [e1, e2, hv, if_pos rfl]
  unfold feedY
  dsimp only
  rw [(st_two s).2, good1]
  rfl
theorem dk10 (s : ByteArray) : lineD (cnL s 3, CL s 1 2 [(cnB s 0).1, (cnB s 1).1, (cnB s 2).1] 3 (P3 (cnB s 0).1.2.1) (cnB s 0).1.2.1, true) [tipW] = ((cnL s 3, CL s 1 2 [(cnB s 0).1, (cnB s 1).1, (cnB s 2).1] 3 (P3 (cnB s 0).1.2.1) (cnB s 0).1.2.1, true), decT 3 ++ spW ++ hexS (headId (cnB s 2).1)) := by
  rw [line_bare]
  unfold bareD
  rw [if_neg (by decide), if_pos rfl, if_pos rfl]
  rfl
theorem dk11 (s : ByteArray) : lineD (cnL s 3, CL s 1 2 [(cnB s 0).1, (cnB s 1).1, (cnB s 2).1] 3 (P3 (cnB s 0).1.2.1) (cnB s 0).1.2.1, true) [tickW, decT 1000] = ((cnL s 3, CL s 2 2 [(cnB s 0).1, (cnB s 1).1, (cnB s 2).1] 3 (P3 (cnB s 0).1.2.1) ((cnB s 0).1.2.1 + 1000), true), expW) := by
  have ht := t_in s
  rw [line_one _ _ ⟨by decide, by decide⟩]
  unfold oneD
  rw [if_neg (by decide), if_neg (by decide), if_pos rfl, if_pos rfl]
  have hb : tickB (CL s 1 2 [(cnB s 0).1, (cnB s 1).1, (cnB s 2).1] 3 (P3 (cnB s 0).1.2.1) (cnB s 0).1.2.1) 1000 = true := by
    unfold tickB
    dsimp only
    rw [decide_eq_true (show (1 : Int) ≤ 1000 ∧ (1000 : Int) ≤ 1000 by decide), decide_eq_true (show 0 ≤ (cnB s 0).1.2.1 + 1000 ∧ (cnB s 0).1.2.1 + 1000 ≤ 1000000 by omega)]
    rfl
  have hl : tickL (CL s 1 2 [(cnB s 0).1, (cnB s 1).1, (cnB s 2).1] 3 (P3 (cnB s 0).1.2.1) (cnB s 0).1.2.1) 1000 = CL s 2 2 [(cnB s 0).1, (cnB s 1).1, (cnB s 2).1] 3 (P3 (cnB s 0).1.2.1) ((cnB s 0).1.2.1 + 1000) := by
    unfold tickL
    rw [if_pos hb]
    unfold tickX
    dsimp only
    rw [exp_at ⟨by omega, by omega⟩, if_pos (show (cnB s 2).1.2.1 + 100 < (cnB s 0).1.2.1 + 1000 by omega)]
  have hT : tickT (CL s 1 2 [(cnB s 0).1, (cnB s 1).1, (cnB s 2).1] 3 (P3 (cnB s 0).1.2.1) (cnB s 0).1.2.1) 1000 = expW := by
    unfold tickT
    rw [if_pos hb, hl]
    exact if_pos rfl
  show ((cnL s 3, tickL _ 1000, true), tickT _ 1000) = _
  rw [hT, hl]
theorem dk12 (s : ByteArray) : lineD (cnL s 3, CL s 2 2 [(cnB s 0).1, (cnB s 1).1, (cnB s 2).1] 3 (P3 (cnB s 0).1.2.1) ((cnB s 0).1.2.1 + 1000), true) [feedW, decT 1, decT 2] = ((cnL s 3, CL s 2 2 [(cnB s 0).1, (cnB s 1).1, (cnB s 2).1] 3 (P3 (cnB s 0).1.2.1) ((cnB s 0).1.2.1 + 1000), true), decT 1) := by
  rw [line_two _ (by decide) ⟨by decide, by decide⟩ ⟨by decide, by decide⟩]
  unfold twoD
  rw [if_neg (by decide), if_pos rfl, feedD_2]
  obtain ⟨e1, e2⟩ := feed_no (x := CL s 2 2 [(cnB s 0).1, (cnB s 1).1, (cnB s 2).1] 3 (P3 (cnB s 0).1.2.1) ((cnB s 0).1.2.1 + 1000)) (id := 1) (b := cnB s 1) (.inl (by show ¬ (2 : Int) = 1; decide))
  show ((cnL s 3, feedX _ _ (cnB s 1), true), decT (feedC _ _ (cnB s 1))) = _
  rw [e1, e2]
theorem out_eq (K : List Nat) (H : ByteArray) (hH : H = bsS K) : ByteArray.empty ++ decT 3 ++ (⟨#[10]⟩ : ByteArray) ++ okS ++ (⟨#[10]⟩ : ByteArray) ++ okS ++ (⟨#[10]⟩ : ByteArray) ++ okS ++ (⟨#[10]⟩ : ByteArray) ++ decT 9 ++ (⟨#[10]⟩ : ByteArray) ++ decT 1 ++ (⟨#[10]⟩ : ByteArray) ++ (ByteArray.empty ++ decT 2) ++ (⟨#[10]⟩ : ByteArray) ++ decT 0 ++ (⟨#[10]⟩ : ByteArray) ++ decT 0 ++ (⟨#[10]⟩ : ByteArray) ++ (decT 3 ++ spW ++ H) ++ (⟨#[10]⟩ : ByteArray) ++ expW ++ (⟨#[10]⟩ : ByteArray) ++ decT 1 ++ (⟨#[10]⟩ : ByteArray) = bsS [51, 10, 111, 107, 10, 111, 107, 10, 111, 107, 10, 57, 10, 49, 10, 50, 10, 48, 10, 48, 10, 51, 32] ++ H ++ bsS [10, 101, 120, 112, 105, 114, 101, 100, 10, 49, 10] := by
  have n0 : decT 0 = bsS [48] := dec_lit (by decide)
  have n1 : decT 1 = bsS [49] := dec_lit (by decide)
  have n2 : decT 2 = bsS [50] := dec_lit (by decide)
  have n3 : decT 3 = bsS [51] := dec_lit (by decide)
  have n9 : decT 9 = bsS [57] := dec_lit (by decide)
  have a1 : okS = bsS [111, 107] := rfl
  have a2 : expW = bsS [101, 120, 112, 105, 114, 101, 100] := rfl
  have a3 : spW = bsS [32] := rfl
  have a4 : (⟨#[10]⟩ : ByteArray) = bsS [10] := rfl
  have a5 : ByteArray.empty = bsS [] := rfl
  rw [n0, n1, n2, n3, n9, a1, a2, a3, a4, a5, hH]
  clear n0 n1 n2 n3 n9 a1 a2 a3 a4 a5 hH
  simp only [bsS_app]
  refine congrArg bsS ?_
  simp only [List.append_assoc, List.cons_append, List.nil_append]
theorem desk_works {x : Nat} (h1 : 97 ≤ x) (h2 : x ≤ 122) : deskI (bsS (scriptL x)) = bsS [51, 10, 111, 107, 10, 111, 107, 10, 111, 107, 10, 57, 10, 49, 10, 50, 10, 48, 10, 48, 10, 51, 32] ++ hexS (headId (cnB (bsS [x]) 2).1) ++ bsS [10, 101, 120, 112, 105, 114, 101, 100, 10, 49, 10] := by
  obtain ⟨i, hi, rfl⟩ : ∃ i, i < 26 ∧ x = 97 + i := ⟨x - 97, by omega, by omega⟩
  have hl := lie_all (97 + i) h1 h2 lieW rfl
  have hsp : splitS (bsS (scriptL (97 + i))) 10 = (linesL (97 + i)).map bsS := by
    rw [splitS_eq (script_small (by omega)), split_all i hi]
  have hlen : (scriptL (97 + i)).length = 102 := rfl
  have hli : linesI (bsS (scriptL (97 + i))) = [bsS [99, 104, 97, 105, 110, 32, 97 + i, 32, 51], bsS [115, 116, 97, 114, 116, 32, 49, 48, 48, 32, 50, 48], bsS [112, 101, 101, 114, 32, 49], bsS [112, 101, 101, 114, 32, 50], bsS [108, 105, 101, 32, 50, 32, 50], bsS [102, 101, 101, 100, 32, 50, 32, 50], bsS [98, 97, 110, 110, 101, 100], bsS [102, 101, 101, 100, 32, 49, 32, 50], bsS [102, 101, 101, 100, 32, 49, 32, 51], bsS [116, 105, 112], bsS [116, 105, 99, 107, 32, 49, 48, 48, 48], bsS [102, 101, 101, 100, 32, 49, 32, 50]] := by
    unfold linesI
    rw [hsp]
    rw [if_pos (by rfl)]
    rfl
  unfold deskI
  rw [hli, if_neg (by rw [bsS_size, hlen]; show ¬ (20000 < 102 ∨ 80 < 12); decide)]
  have hrun : runI [bsS [99, 104, 97, 105, 110, 32, 97 + i, 32, 51], bsS [115, 116, 97, 114, 116, 32, 49, 48, 48, 32, 50, 48], bsS [112, 101, 101, 114, 32, 49], bsS [112, 101, 101, 114, 32, 50], bsS [108, 105, 101, 32, 50, 32, 50], bsS [102, 101, 101, 100, 32, 50, 32, 50], bsS [98, 97, 110, 110, 101, 100], bsS [102, 101, 101, 100, 32, 49, 32, 50], bsS [102, 101, 101, 100, 32, 49, 32, 51], bsS [116, 105, 112], bsS [116, 105, 99, 107, 32, 49, 48, 48, 48], bsS [102, 101, 101, 100, 32, 49, 32, 50]] = stepI (stepI (stepI (stepI (stepI (stepI (stepI (stepI (stepI (stepI (stepI (stepI (([], zLt, false), ByteArray.empty) (bsS [99, 104, 97, 105, 110, 32, 97 + i, 32, 51])) (bsS [115, 116, 97, 114, 116, 32, 49, 48, 48, 32, 50, 48])) (bsS [112, 101, 101, 114, 32, 49])) (bsS [112, 101, 101, 114, 32, 50])) (bsS [108, 105, 101, 32, 50, 32, 50])) (bsS [102, 101, 101, 100, 32, 50, 32, 50])) (bsS [98, 97, 110, 110, 101, 100])) (bsS [102, 101, 101, 100, 32, 49, 32, 50])) (bsS [102, 101, 101, 100, 32, 49, 32, 51])) (bsS [116, 105, 112])) (bsS [116, 105, 99, 107, 32, 49, 48, 48, 48])) (bsS [102, 101, 101, 100, 32, 49, 32, 50]) := rfl
  rw [hrun]
  rw [step_of (ne_emp (by show 0 < 9; decide)) (words_1 i hi) (dk1 _), step_of (ne_emp (by show 0 < 12; decide)) words_2 (dk2 _), step_of (ne_emp (by show 0 < 6; decide)) words_3 (dk3 _ _ _ _ _), step_of (ne_emp (by show 0 < 6; decide)) words_4 (dk4 _ _ _ _ _), step_of (ne_emp (by show 0 < 7; decide)) words_5 (dk5 _ hl), step_of (ne_emp (by show 0 < 8; decide)) words_6 (dk6 _), step_of (ne_emp (by show 0 < 6; decide)) words_7 (dk7 _), step_of (ne_emp (by show 0 < 8; decide)) words_8 (dk8 _), step_of (ne_emp (by show 0 < 8; decide)) words_9 (dk9 _), step_of (ne_emp (by show 0 < 3; decide)) words_10 (dk10 _), step_of (ne_emp (by show 0 < 9; decide)) words_11 (dk11 _), step_of (ne_emp (by show 0 < 8; decide)) words_12 (dk12 _)]
  exact out_eq (hexK (headId (cnB (bsS [97 + i]) 2).1) (headId (cnB (bsS [97 + i]) 2).1).size) (hexS (headId (cnB (bsS [97 + i]) 2).1)) rfl
end Go.Proofs.YtfgkfcfplodaoaaGreatDoor

end
section
namespace Go.Proofs.YtfgkfcfplodaoaaGreatDoor
open Go Go.RowKit
set_option maxHeartbeats 16000000
def dkL (d : TDesk) : List PL := (lDk d).map toPL
theorem lsNms_dk (d : TDesk) : lsNms (dkL d) = [] := rfl
theorem kill_dk (n : Nat) (d : TDesk) : (dkL d).map (PL.kill n) = dkL d := rfl
theorem dkL_0 : dkL (runI []).1 = [.sl [], .sc (.int .i64 0), .sc (.int .i64 0), .sc (.int .i64 0), .sc (.int .i64 0), .sc (.int .i64 0), .sc (.string ByteArray.empty), .sc (.string ByteArray.empty), .sc (.string ByteArray.empty), .sc (.string ByteArray.empty), .sl [], .sl [], .sc (.int .i64 0), .sl [], .sc (.int .i64 0), .sc (.int .i64 0), .sc (.bool false)] := rfl
noncomputable def mDeskI := mdl (fun s : ByteArray => s.size ≤ 1048575) (fun s => [aS s]) (fun s => rS (deskI s))
theorem mDeskI_eq (s : ByteArray) (h : s.size ≤ 1048575) : mDeskI [aS s] = some (rS (deskI s)) := mdl_eq (enc := fun s : ByteArray => [aS s]) (by intro a b h; simpa using h) s h
theorem deskI_s : Sound Tryz.prog 11 mDeskI := by
  refine Sound.mdl Tryz.func11 rfl Tryz.ntmps11 ?_
  rintro s w hs
  refine ⟨by simp, ?_⟩
  replace hs : s.size ≤ 1048575 := hs
  have hΓ : GSound Tryz.prog (look [(47, mSplit)]) := env_cons (has_of Tryz.func47 rfl rfl) split_s env_nil
  have c1 : mSplit [aS s, .val false [.sc (.int .u8 10)]] = some (rL 9 1 cStr (splitS s 10)) := mSplit_eq s 10 (by omega) (by decide)
  obtain ⟨⟨h0, h1⟩, h2⟩ := splitS_small s 10
  obtain ⟨hm1, hm2⟩ := linesI_small s
  have hM : linesI s = if (splitS s 10).getD ((splitS s 10).length - 1) ByteArray.empty = ByteArray.empty then (splitS s 10).take ((splitS s 10).length - 1) else splitS s 10 := rfl
  have hD : deskI s = if 20000 < s.size ∨ 80 < (linesI s).length then ByteArray.empty else (runI (linesI s)).2 := rfl
  replace hD := Lib.hid hD
  generalize linesI s = M at *
  generalize splitS s 10 = L at *
  have hrow := Lib.hid (row_s (l := L) (k := L.length - 1) (by omega))
  have hlen := rowsF_len cStr L
  have ek : ((L.length : Int) - 1).toNat = L.length - 1 := by omega
  have hll : 1 ≤ L.length := h0
  have hll2 : L.length ≤ 1048577 := by omega
  have x0 := row_ex (l := L) (k := 0) h0
  have e1 := rowsF_take cStr L (L.length - 1)
  generalize L.getD (L.length - 1) ByteArray.empty = t at *
  replace hM := Lib.hid hM
  replace e1 := Lib.hid e1
  clear h2
  simp only [initS, argPV, List.map_cons, List.map_nil, toPL, Nat.zero_add]
  refine zR ?_
  refine W.frzA 3 9 (h := ?_)
  replace hrow := hrow.out
  refine (fun (key : W Tryz.prog none0 w ?nK [.slot 0 (one (.sc (.string s))), .slot 3 (one (.sl (rowsF cStr M)))] ?codeK ?postK) => ?mainK) ?partK
  case mainK =>
    refine W.subA [.slot 0 (one (.sc (.string s))), .slot 3 (one (.sl (rowsF cStr L)))] (h := ?_)
    replace hM := hM.out
    by_cases ht : t = ByteArray.empty
    · rw [if_pos ht] at hM
      have t1 : decide (t = (⟨#[]⟩ : ByteArray)) = true := decide_eq_true ht
      have e3 := e1.out
      rw [← hM] at e3
      replace hM := Lib.hid hM
      clear ht
      refine zR ?_
      refine W.subA [.slot 0 (one (.sc (.string s))), .slot 3 (one (.sl (rowsF cStr M)))] (h := ?_)
      exact key
    · rw [if_neg ht] at hM
      have t1 : decide (t = (⟨#[]⟩ : ByteArray)) = false := decide_eq_false ht
      rw [hM] at key
      clear ht
      replace hM := Lib.hid hM
      refine zR ?_
      refine W.subA [.slot 0 (one (.sc (.string s))), .slot 3 (one (.sl (rowsF cStr L)))] (h := ?_)
      exact key
  case partK =>
    clear hM hrow hlen ek hll hll2 x0 e1 h0 h1 c1
    have hlen := rowsF_len cStr M
    replace hD := hD.out
    by_cases q1 : 20000 < s.size
    · rw [if_pos (.inl q1)] at hD
      replace hD := Lib.hid hD
      have t1 : decide ((20000 : Int) < (s.size : Int)) = true := decide_eq_true (by omega)
      refine zR ?_
      refine At.retA (by rw [Tryz.results11]) (he := ?_)
      rw [hD.out]
      rfl
    · by_cases q2 : 80 < M.length
      · rw [if_pos (.inr q2)] at hD
        replace hD := Lib.hid hD
        refine zR ?_
        refine At.retA (by rw [Tryz.results11]) (he := ?_)
        rw [hD.out]
        rfl
      · rw [if_neg (by omega)] at hD
        replace hD := Lib.hid hD
        refine zR ?_
        refine W.frzB 31 (h := ?_)
        have hld := lsNms_dk
        have hkd := kill_dk
        refine W.loopA (fun k => k ≤ M.length) (fun k : Nat => [.slot 32 (one (.sl (rowsF cStr M))), .slot 33 (vI M.length), .slot 34 (vI k), .slot 4 (one (.ptr 31 0)), .blk 31 (.box (dkL (runI (M.take k)).1)), .slot 5 (one (.sc (.string (runI (M.take k)).2)))]) (fun k => M.length - k) 0 (Nat.zero_le _) (hs := ?_) (h := ?_)
        · rw [List.take_zero, dkL_0]
          exact subP
        rintro k hk
        by_cases hlt : k < M.length
        · have hrow := cStr_rowN M k hlt
          have hok := runI_ok (M.take k)
          have hos : (runI (M.take k)).2.size ≤ 96080 := Nat.le_trans (runI_size (M.take k)) (by rw [List.length_take]; omega)
          have hst : runI (M.take (k + 1)) = stepI (runI (M.take k)) M[k] := by rw [List.take_succ_eq_append_getElem hlt, runI_snoc]
          have hsz := hm2 M[k] (List.getElem_mem hlt)
          replace hst := Lib.hid hst
          generalize runI (M.take k) = y at *
          obtain ⟨d, out⟩ := y
          generalize M[k] = t at *
          by_cases ht : t = ByteArray.empty
          · have t1 : decide (t = (⟨#[]⟩ : ByteArray)) = true := decide_eq_true ht
            replace hst := hst.out
            unfold stepI at hst
            rw [if_pos ht] at hst
            replace hst := Lib.hid hst
            clear ht hok
            refine zR ?_
            refine At.roundA (k + 1) (by omega) (by omega) (hs := ?_)
            rw [hst.out]
            exact subP
          · have t1 : decide (t = (⟨#[]⟩ : ByteArray)) = false := decide_eq_false ht
            replace hst := hst.out
            unfold stepI at hst
            rw [if_neg ht] at hst
            obtain ⟨⟨w0, w1⟩, w2⟩ := splitS_small t 32
            have c2 : mSplit [aS t, .val false [.sc (.int .u8 32)]] = some (rL 9 1 cStr (splitS t 32)) := mSplit_eq t 32 (by omega) (by decide)
            have hW : okW (splitS t 32) := ⟨by omega, fun x hx => by have := w2 x hx; omega⟩
            clear ht w2
            generalize splitS t 32 = W at *
            dsimp only at hst hok hos
            have hls := lineD_size d W
            have hnl := nl_size
            have hol : (out ++ (lineD d W).2).size ≤ 97280 := app_size hos hls (by decide)
            replace hst := Lib.hid hst
            refine zR ?_
            refine zO ?_
            refine zL ?_
            refine WL.frzA 43 43 (h := ?_)
            refine WL.subA [.slot 32 (one (.sl (rowsF cStr M))), .slot 33 (vI M.length), .slot 34 (vI k), .slot 4 (one (.ptr 31 0)), .slot 40 (one (.sc (.string out))), .slot 41 (one (.ptr 31 0)), .slot 43 (one (.sl (rowsF cStr W))), .blk 31 (.box (dkL d))] (h := ?_)
            refine WL.opDkA (has_of Tryz.func48 rfl rfl) line_s (d, W) ⟨hok, hW, w0⟩ (st1 := [.slot 44 (one (.sc (.string (lineD d W).2))), .blk 31 (.box (dkL (lineD d W).1)), .slot 32 (one (.sl (rowsF cStr M))), .slot 33 (vI M.length), .slot 34 (vI k), .slot 4 (one (.ptr 31 0)), .slot 40 (one (.sc (.string out))), .slot 41 (one (.ptr 31 0)), .slot 43 (one (.sl (rowsF cStr W))), .blk 31 (.box (dkL d))]) (h := ?_)
            refine zL ?_
            refine zE ?_
            refine zR ?_
            refine At.roundA (k + 1) (by omega) (by omega) (hs := ?_)
            rw [hst.out]
            exact subP
        · have hke : M.take k = M := List.take_of_length_le (by omega)
          rw [hke]
          clear hke
          refine zR ?_
          refine At.retA (by rw [Tryz.results11]) (he := ?_)
          rw [hD.out]
end Go.Proofs.YtfgkfcfplodaoaaGreatDoor

end
