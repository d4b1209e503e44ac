/-
  Put together: PEvDeskP PEvBare.
-/
import Derived.Test.YtfgkfcfplodaoaaGreatDoorG44
set_option linter.unusedSimpArgs false
set_option linter.unusedVariables false
set_option maxRecDepth 100000
section
namespace Go.Proofs.YtfgkfcfplodaoaaGreatDoor
open Go Go.RowKit
set_option maxHeartbeats 4000000
theorem atP_no {l : List TPeer} {id : Int} : atP l id = -1 ↔ ∀ p ∈ l, ¬ p.1 = id := by
  rcases idxP_cases' (fun p : TPeer => decide (p.1 = id)) l with ⟨k, hk, h1, h2, _⟩ | ⟨h1, h2⟩
  · have h3 : atP l id = (k : Int) := h1
    constructor
    · intro h
      omega
    · intro h
      exact absurd (of_decide_eq_true h2) (h _ (List.getElem_mem hk))
  · constructor
    · intro _ p hp e
      obtain ⟨j, hj, rfl⟩ := List.getElem_of_mem hp
      have := h2 j hj
      simp only [decide_eq_false_iff_not] at this
      exact this e
    · intro _
      exact h1
theorem tabOk_iff {t : TTab} : tabOk t ↔ (t.1.length ≤ 6 ∧ 0 ≤ t.2 ∧ t.2 ≤ 1000000) ∧ (∀ p ∈ t.1, peerOk p) ∧ (t.1.map fun p => p.1).Pairwise fun a b => ¬ a = b := by
  constructor
  · intro h
    refine ⟨h.1, fun p hp => ?_, ?_⟩
    · obtain ⟨j, hj, rfl⟩ := List.getElem_of_mem hp
      exact tabOk_at h hj
    · rw [List.pairwise_map, List.pairwise_iff_getElem]
      intro i j hi hj hij e
      have := tab_inj h hi hj e
      omega
  · rintro ⟨h1, h2, h3⟩
    rw [List.pairwise_map, List.pairwise_iff_getElem] at h3
    refine ⟨h1, fun j hj => ⟨by rw [peerD_get hj]; exact h2 _ (List.getElem_mem hj), ?_⟩⟩
    rw [peerD_get hj]
    rcases atP_cases t.1 t.1[j].1 with ⟨k, hk, e1, e2⟩ | e
    · rw [e1]
      rcases Nat.lt_trichotomy k j with h | h | h
      · exact absurd e2 (h3 k j hk hj h)
      · rw [h]
      · exact absurd e2.symm (h3 j k hj hk h)
    · exact absurd rfl (atP_no.1 e _ (List.getElem_mem hj))
theorem setT_ok {l : List TPeer} {n : Int} (h : tabOk (l, n)) {k : Nat} (hk : k < l.length) {b : Bool} {c d : Int} (hp : peerOk (l[k].1, b, c, d)) : tabOk (l.set k (l[k].1, b, c, d), n) := by
  obtain ⟨h1, h2, h3⟩ := tabOk_iff.1 h
  refine tabOk_iff.2 ⟨⟨by show (l.set k _).length ≤ 6; rw [List.length_set]; exact h1.1, h1.2⟩, fun p hm => ?_, ?_⟩
  · rcases List.mem_or_eq_of_mem_set hm with h' | rfl
    · exact h2 p h'
    · exact hp
  · show ((l.set k _).map fun p => p.1).Pairwise _
    have e : (l.set k (l[k].1, b, c, d)).map (fun p => p.1) = l.map (fun p => p.1) := by
      rw [List.map_set]
      have e2 : l[k].1 = (l.map fun p => p.1)[k]'(by rw [List.length_map]; exact hk) := by rw [List.getElem_map]
      show (l.map fun p => p.1).set k l[k].1 = _
      rw [e2, List.set_getElem_self]
    rw [e]
    exact h3
theorem goodT_ok {t : TTab} (h : tabOk t) (id : Int) : tabOk (goodT t id) := by
  obtain ⟨l, n⟩ := t
  rcases atP_cases l id with ⟨k, hk, e1, e2⟩ | e
  · rw [goodT_at hk e1 (a := l[k].1) (b := l[k].2.1) (c := l[k].2.2.1) (d := l[k].2.2.2) rfl]
    have hp := tabOk_at h hk
    exact setT_ok h hk ⟨hp.1, hp.2.1, ⟨by show (0 : Int) ≤ 0; omega, by show (0 : Int) ≤ 20; omega⟩⟩
  · rw [goodT_no e]
    exact h
theorem lieT_ok {t : TTab} (h : tabOk t) (id : Int) {now : Int} (hn : 0 ≤ now ∧ now ≤ 1000000) : tabOk (lieT t id now) := by
  obtain ⟨l, n⟩ := t
  rcases atP_cases l id with ⟨k, hk, e1, e2⟩ | e
  · rw [lieT_at hk e1 (a := l[k].1) (b := l[k].2.1) (c := l[k].2.2.1) (d := l[k].2.2.2) rfl]
    have hp := tabOk_at h hk
    have hd : 0 ≤ l[k].2.2.2 ∧ l[k].2.2.2 ≤ 20 := hp.2.2
    have hl := lieN_in hd.1
    exact setT_ok h hk ⟨hp.1, ⟨by dsimp only; omega, by dsimp only; omega⟩, ⟨by dsimp only; omega, by dsimp only; omega⟩⟩
  · rw [lieT_no e]
    exact h
theorem appT_ok {l : List TPeer} {n : Int} {id : Int} {pin : Bool} (h1 : l.length ≤ 5 ∧ 0 ≤ n ∧ n ≤ 1000000) (h2 : ∀ p ∈ l, peerOk p) (h3 : (l.map fun p : TPeer => p.1).Pairwise fun a b => ¬ a = b) (hi : 1 ≤ id ∧ id ≤ 99) (hno : ∀ p ∈ l, ¬ p.1 = id) : tabOk (l ++ [(id, pin, 0, 0)], n) := by
  refine tabOk_iff.2 ⟨⟨?_, h1.2⟩, fun p hm => ?_, ?_⟩
  · show (l ++ [(id, pin, 0, 0)]).length ≤ 6
    rw [List.length_append]
    simp only [List.length_cons, List.length_nil]
    omega
  · rcases List.mem_append.1 hm with h | h
    · exact h2 p h
    · rw [List.mem_singleton.1 h]
      exact ⟨hi, ⟨by show (0 : Int) ≤ 0; omega, by show (0 : Int) ≤ 1000320; omega⟩, ⟨by show (0 : Int) ≤ 0; omega, by show (0 : Int) ≤ 20; omega⟩⟩
  · show ((l ++ [(id, pin, 0, 0)]).map fun p : TPeer => p.1).Pairwise _
    rw [List.map_append, List.pairwise_append]
    refine ⟨h3, List.pairwise_singleton _ _, fun a ha b hb => ?_⟩
    obtain ⟨p, hp, rfl⟩ := List.mem_map.1 ha
    have hb' : b = id := List.mem_singleton.1 hb
    rw [hb']
    exact hno p hp
theorem addT_ok {t : TTab} (h : tabOk t) (id : Int) (pin : Bool) : tabOk (addT t id pin).1 := by
  obtain ⟨l, n⟩ := t
  obtain ⟨h1, h2, h3⟩ := tabOk_iff.1 h
  by_cases hn : 0 ≤ atP l id ∨ ¬ (1 ≤ id ∧ id ≤ 99)
  · rw [addT_no (t := (l, n)) hn]
    exact h
  · have hi : 1 ≤ id ∧ id ≤ 99 := Decidable.of_not_not fun q => hn (.inr q)
    have ha : atP l id = -1 := by
      rcases atP_cases l id with ⟨k, hk, e1, e2⟩ | e
      · exact absurd (.inl (by omega)) hn
      · exact e
    by_cases hl : l.length < 6
    · rw [addT_room (t := (l, n)) ha hi hl]
      show tabOk (l ++ [(id, pin, 0, 0)], n)
      exact appT_ok ⟨by omega, h1.2⟩ h2 h3 hi (atP_no.1 ha)
    · rcases freeP_cases l with ⟨k, hk, e1, _⟩ | ⟨e, _⟩
      · rw [addT_swap (t := (l, n)) ha hi hl e1]
        show tabOk (l.eraseIdx k ++ [(id, pin, 0, 0)], n)
        have hsub : (l.eraseIdx k).Sublist l := List.eraseIdx_sublist l k
        refine appT_ok ⟨?_, h1.2⟩ (fun p hp => h2 p (hsub.subset hp)) (h3.sublist (hsub.map _)) hi fun p hp => atP_no.1 ha p (hsub.subset hp)
        rw [List.length_eraseIdx_of_lt hk]
        have : l.length ≤ 6 := h1.1
        omega
      · rw [addT_full (t := (l, n)) ha hi hl e]
        exact h
def cliOk (x : TLight) : Prop := lightOk x ∧ (hdD x.2.2.2.1.1 0).1 = 1 ∧ x.2.2.2.1.1.length ≤ 12
theorem cli_at {l : List THeader} {n : Int} (h : storeOk (l, n)) (h0 : (hdD l 0).1 = 1) : ∀ j, j < l.length → (hdD l j).1 = ((j + 1 : Nat) : Int)
  | 0, _ => h0
  | j + 1, hj => by
    have h1 := cli_at h h0 j (by omega)
    have h2 := ((h.2 (j + 1) hj).2 (by omega)).1
    rw [h2]
    show (hdD l j).1 + 1 = _
    rw [h1]
    omega
theorem cli_anchor {x : TLight} (h : cliOk x) : x.2.2.1.1.1 = (x.2.2.2.1.1.length : Int) := by
  obtain ⟨hl, h0, _⟩ := h
  obtain ⟨p, st, an, ⟨l, n⟩, tb, now⟩ := x
  obtain ⟨_, _, hs, _, _, _, hp, he⟩ := hl
  dsimp only at hs h0 hp he ⊢
  rw [← he, cli_at (n := n) hs h0 _ (by omega)]
  omega
theorem cli_peers {x : TLight} (h : cliOk x) {t : TTab} (ht : tabOk t) : cliOk (x.1, x.2.1, x.2.2.1, x.2.2.2.1, t, x.2.2.2.2.2) := by
  obtain ⟨⟨a1, a2, a3, a4, a5, a6, a7, a8⟩, b, c⟩ := h
  exact ⟨⟨a1, a2, a3, ht, a5, a6, a7, a8⟩, b, c⟩
theorem cli_new {t : TTrust} {b : TBlock} {now : Int} (h : newB t b now = true) (hb : b.1.1 = 1) : cliOk (newX t b now) := by
  unfold newB at h
  rw [Bool.and_eq_true, Bool.and_eq_true] at h
  exact ⟨of_decide_eq_true h.2.1, hb, by show [b.1].length ≤ 12; simp⟩
theorem cli_tick {x : TLight} (h : cliOk x) (d : Int) : cliOk (tickL x d) := by
  unfold tickL
  split
  · rename_i hb
    unfold tickB at hb
    rw [Bool.and_eq_true] at hb
    have h2 := of_decide_eq_true hb.2
    obtain ⟨⟨a1, a2, a3, a4, a5, a6, a7, a8⟩, b, c⟩ := h
    refine ⟨⟨a1, a2, a3, a4, ?_, h2, a7, a8⟩, b, c⟩
    show 1 ≤ (if _ then (2 : Int) else x.2.1) ∧ (if _ then (2 : Int) else x.2.1) ≤ 2
    split
    · omega
    · exact a5
  · exact h
theorem ver_zero {t : TTrust} {a : TAnchor} {h : THeader} {n : List TVal} {c : TCommit} {now : Int} (hv : verifyC t a h n c now = 0) :
    headOk h ∧ h.1 = a.1.1 + 1 ∧ a.1.2.1 < h.2.1 ∧ h.2.2.1 = headId a.1 ∧ h.2.2.2.1 = a.1.2.2.2.2.1 ∧ h.2.2.2.2.1 = vhash n := by
  unfold verifyC at hv
  split at hv
  · omega
  rename_i h1
  split at hv
  · omega
  split at hv
  · omega
  split at hv
  · omega
  rename_i h4
  split at hv
  · omega
  rename_i h5
  split at hv
  · omega
  rename_i h6
  split at hv
  · omega
  rename_i h7
  split at hv
  · omega
  rename_i h8
  exact ⟨(Decidable.of_not_not h1).2.2.1, by omega, by omega, Classical.not_not.1 h6, Classical.not_not.1 h7, Classical.not_not.1 h8⟩
theorem hdD_app {l : List THeader} {h : THeader} {j : Nat} (hj : j < l.length) : hdD (l ++ [h]) j = hdD l j := by
  rw [hdD_get (show j < (l ++ [h]).length by rw [List.length_append]; omega), hdD_get hj, List.getElem_append_left hj]
theorem hdD_last {l : List THeader} {h : THeader} : hdD (l ++ [h]) l.length = h := by
  rw [hdD_get (show l.length < (l ++ [h]).length by rw [List.length_append]; simp), List.getElem_append_right (Nat.le_refl _)]
  simp
theorem addSt_yes {l : List THeader} {n : Int} {h : THeader} (hs : storeOk (l, n)) (hl : 0 < l.length) (hl20 : l.length < 20) (hh : headOk h) (hk : linkOk (hdD l (l.length - 1)) h) : addSt (l, n) h = ((l ++ [h], n), true) := by
  unfold addSt
  refine if_pos (decide_eq_true ?_)
  have hlen : (l ++ [h]).length = l.length + 1 := by rw [List.length_append]; rfl
  have hn : 0 ≤ n ∧ n ≤ (l.length : Int) := hs.1.2
  refine ⟨⟨by show (l ++ [h]).length ≤ 20; omega, hn.1, by show n ≤ ((l ++ [h]).length : Int); omega⟩, fun j hj => ?_⟩
  show hdAt (l ++ [h]) j
  replace hj : j < (l ++ [h]).length := hj
  rcases Nat.lt_or_ge j l.length with h1 | h1
  · have h2 := hs.2 j h1
    unfold hdAt at h2 ⊢
    rw [hdD_app h1]
    refine ⟨h2.1, fun h3 => ?_⟩
    rw [hdD_app (show j - 1 < l.length by omega)]
    exact h2.2 h3
  · have h2 : j = l.length := by omega
    subst h2
    unfold hdAt
    rw [hdD_last]
    refine ⟨hh, fun h3 => ?_⟩
    rw [hdD_app (show l.length - 1 < l.length by omega)]
    exact hk
theorem cli_feed {x : TLight} (h : cliOk x) (id : Int) {b : TBlock} (hb : b.1.1 ≤ 12) : cliOk (feedX x id b) := by
  unfold feedX
  split
  · exact h
  split
  · rename_i hv
    have hc := cli_anchor h
    obtain ⟨⟨a1, a2, a3, a4, a5, a6, a7, a8⟩, b0, c⟩ := h
    obtain ⟨p, st, an, ⟨l, n⟩, tb, now⟩ := x
    dsimp only at a1 a2 a3 a4 a5 a6 a7 a8 b0 c hc
    obtain ⟨v1, v2, v3, v4, v5, v6⟩ := ver_zero hv
    have hadd : addSt (l, n) b.1 = ((l ++ [b.1], n), true) := addSt_yes a3 a7 (by omega) v1 ⟨by rw [a8]; exact v2, by rw [a8]; exact v4, by rw [a8]; exact v3, by rw [a8]; exact v5⟩
    have hlen : (l ++ [b.1]).length = l.length + 1 := by rw [List.length_append]; rfl
    have hst : storeOk (l ++ [b.1], n) := by
      have := addSt_ok (h := b.1) a3
      rw [hadd] at this
      exact this
    have hst2 : storeOk (l ++ [b.1], ((l ++ [b.1]).length : Int)) := ⟨⟨hst.1.1, by show (0 : Int) ≤ ((l ++ [b.1]).length : Int); omega, Int.le_refl _⟩, hst.2⟩
    have he : feedY (p, st, an, (l, n), tb, now) id b = (p, st, (b.1, b.2.2.1), (l ++ [b.1], ((l ++ [b.1]).length : Int)), goodT tb id, now) := by
      unfold feedY
      dsimp only
      rw [hadd]
    rw [he]
    have v2' : b.1.1 = an.1.1 + 1 := v2
    have hvo : valsOk b.2.2.1 := by
      refine Decidable.of_not_not fun q => ?_
      have v6' : b.1.2.2.2.2.1 = vhash b.2.2.1 := v6
      rw [vhash_no q] at v6'
      have h8 : (b.1.2.2.2.2.1.size : Int) = 8 := v1.2.2.2.1
      rw [v6'] at h8
      exact absurd h8 (by decide)
    refine ⟨⟨a1, ⟨v1, hvo, v6.symm⟩, hst2, goodT_ok a4 id, a5, a6, by show 0 < (l ++ [b.1]).length; omega, ?_⟩, ?_, by show (l ++ [b.1]).length ≤ 12; omega⟩
    · show hdD (l ++ [b.1]) ((l ++ [b.1]).length - 1) = b.1
      rw [hlen]
      exact hdD_last
    · show (hdD (l ++ [b.1]) 0).1 = 1
      rw [hdD_app a7]
      exact b0
  split
  · exact cli_peers h (lieT_ok h.1.2.2.2.1 id h.1.2.2.2.2.2.1)
  · exact h
def chOk (L : List TBlock) : Prop := L.length ≤ 12 ∧ ∀ j, (h : j < L.length) → okBkS L[j] ∧ L[j].1.1 = ((j + 1 : Nat) : Int)
def deskOk (d : TDesk) : Prop := chOk d.1 ∧ (d.2.2 = true → cliOk d.2.1)
theorem chOk_nil : chOk [] := ⟨by simp, fun j h => absurd h (by simp)⟩
theorem chOk_cn (s : ByteArray) {n : Nat} (h : n ≤ 12) : chOk (cnL s n) := by
  refine ⟨by rw [cnL_len]; exact h, fun j hj => ?_⟩
  have hj' : j < n := by rwa [cnL_len] at hj
  have e : (cnL s n)[j] = cnB s j := by
    have := cnL_get s hj'
    rw [List.getElem?_eq_getElem hj] at this
    injection this
  obtain ⟨h1, h2, h3⟩ := (cnL_ok s h).2 (cnL s n)[j] (List.getElem_mem hj)
  rw [e] at h1 h2 h3 ⊢
  exact ⟨⟨by omega, by omega, by omega⟩, rfl⟩
theorem chOk_of (s : ByteArray) (n : Int) : chOk (chainOf s n) := by
  unfold chainOf
  split
  · exact chOk_cn s (by omega)
  · exact chOk_nil
theorem bkAt_ch {L : List TBlock} (h : chOk L) (n : Int) : (∃ k, k < L.length ∧ n = ((k + 1 : Nat) : Int) ∧ bkAt L n = (k : Int)) ∨ ((n < 1 ∨ (L.length : Int) < n) ∧ bkAt L n = -1) := by
  rcases idxP_cases' (bkP n) L with ⟨k, hk, h1, h2, _⟩ | ⟨h1, h2⟩
  · have h3 : L[k].1.1 = n := of_decide_eq_true h2
    rw [(h.2 k hk).2] at h3
    exact .inl ⟨k, hk, h3.symm, h1⟩
  · refine .inr ⟨?_, h1⟩
    by_cases q : n < 1 ∨ (L.length : Int) < n
    · exact q
    · have hk : n.toNat - 1 < L.length := by omega
      have h3 := h2 (n.toNat - 1) hk
      have h4 := (h.2 (n.toNat - 1) hk).2
      have h5 : ¬ L[n.toNat - 1].1.1 = n := of_decide_eq_false h3
      rw [h4] at h5
      omega
end Go.Proofs.YtfgkfcfplodaoaaGreatDoor

end
section
namespace Go.Proofs.YtfgkfcfplodaoaaGreatDoor
open Go Go.RowKit
set_option maxHeartbeats 8000000
def rootW : ByteArray := { data := #[114, 111, 111, 116] }
def tipW : ByteArray := { data := #[116, 105, 112] }
def bannedW : ByteArray := { data := #[98, 97, 110, 110, 101, 100] }
def noneW : ByteArray := { data := #[110, 111, 110, 101] }
def whatW : ByteArray := { data := #[119, 104, 97, 116] }
def spW : ByteArray := { data := #[32] }
def decT (n : Int) : ByteArray := bsS (decZ n)
def joinS (l : List Int) : Nat → ByteArray
  | 0 => ByteArray.empty
  | k + 1 => (if 0 < k then joinS l k ++ spW else joinS l k) ++ decT (l.getD k 0)
def tipD (x : TLight) : ByteArray := decT x.2.2.1.1.1 ++ spW ++ hexS (headId x.2.2.1.1)
def banD (x : TLight) : ByteArray := joinS (banL x.2.2.2.2.1.1 x.2.2.2.2.2) (banL x.2.2.2.2.1.1 x.2.2.2.2.2).length
def bareD (d : TDesk) (w : ByteArray) : ByteArray :=
  if w = rootW then hexS (tree (idsD d.1))
  else if w = tipW then (if d.2.2 = true then tipD d.2.1 else noneW)
  else if w = bannedW then (if d.2.2 = true then banD d.2.1 else noneW)
  else whatW
theorem decT_size (n : Int) : (decT n).size ≤ 11 := by
  unfold decT
  rw [bsS_size]
  exact (decZ_len n).2
theorem hexS_size (s : ByteArray) : (hexS s).size = 2 * s.size := by
  unfold hexS
  rw [bsS_size, hexK_len]
theorem joinS_size (l : List Int) : ∀ k, (joinS l k).size ≤ 12 * k
  | 0 => Nat.le_refl _
  | k + 1 => by
    have h1 := joinS_size l k
    have h2 := decT_size (l.getD k 0)
    have h3 : spW.size = 1 := rfl
    show ((if 0 < k then joinS l k ++ spW else joinS l k) ++ decT (l.getD k 0)).size ≤ _
    rw [ByteArray.size_append]
    split
    · rw [ByteArray.size_append]
      omega
    · omega
theorem sp_size : (⟨#[32]⟩ : ByteArray).size ≤ 1 := Nat.le_refl _
theorem emp_size : ByteArray.empty.size ≤ 0 := Nat.le_refl _
theorem app_size {a b : ByteArray} {m n k : Nat} (h1 : a.size ≤ m) (h2 : b.size ≤ n) (h : m + n ≤ k) : (a ++ b).size ≤ k := by
  rw [ByteArray.size_append]
  omega
theorem bare_ways (d : TDesk) (w : ByteArray) :
    (decide (w = (⟨#[114, 111, 111, 116]⟩ : ByteArray)) = true ∧ bareD d w = hexS (tree (idsD d.1))) ∨
    (decide (w = (⟨#[114, 111, 111, 116]⟩ : ByteArray)) = false ∧ decide (w = (⟨#[116, 105, 112]⟩ : ByteArray)) = true ∧ bareD d w = if d.2.2 = true then tipD d.2.1 else noneW) ∨
    (decide (w = (⟨#[114, 111, 111, 116]⟩ : ByteArray)) = false ∧ decide (w = (⟨#[116, 105, 112]⟩ : ByteArray)) = false ∧ decide (w = (⟨#[98, 97, 110, 110, 101, 100]⟩ : ByteArray)) = true ∧ bareD d w = if d.2.2 = true then banD d.2.1 else noneW) ∨
    (decide (w = (⟨#[114, 111, 111, 116]⟩ : ByteArray)) = false ∧ decide (w = (⟨#[116, 105, 112]⟩ : ByteArray)) = false ∧ decide (w = (⟨#[98, 97, 110, 110, 101, 100]⟩ : ByteArray)) = false ∧ bareD d w = whatW) := by
  by_cases h1 : w = rootW
  · exact .inl ⟨decide_eq_true h1, if_pos h1⟩
  by_cases h2 : w = tipW
  · exact .inr (.inl ⟨decide_eq_false h1, decide_eq_true h2, (if_neg h1).trans (if_pos h2)⟩)
  by_cases h3 : w = bannedW
  · exact .inr (.inr (.inl ⟨decide_eq_false h1, decide_eq_false h2, decide_eq_true h3, (if_neg h1).trans ((if_neg h2).trans (if_pos h3))⟩))
  · exact .inr (.inr (.inr ⟨decide_eq_false h1, decide_eq_false h2, decide_eq_false h3, (if_neg h1).trans ((if_neg h2).trans (if_neg h3))⟩))
abbrev encBare (x : TDesk × ByteArray) : List Arg := [.row (lDk x.1) 0, aS x.2]
theorem encBare_inj : ∀ x y, encBare x = encBare y → x = y := by
  rintro ⟨d, a⟩ ⟨e, b⟩ h
  have h1 : lDk d = lDk e := by injection h with h _; injection h
  have h2 : aS a = aS b := by injection h with _ h; injection h
  have h3 : a = b := by simpa using h2
  rw [lDk_inj h1, h3]
noncomputable def mBare := mdl (fun x : TDesk × ByteArray => deskOk x.1) encBare (fun x => rS (bareD x.1 x.2))
theorem mBare_eq (d : TDesk) (w : ByteArray) (h : deskOk d) : mBare [.row (lDk d) 0, aS w] = some (rS (bareD d w)) := mdl_eq encBare_inj (d, w) h
theorem idsD_ok {L : List TBlock} (h : L.length ≤ 12) : okT (idsD L) := ⟨by unfold idsD; rw [List.length_map]; omega, fun x hx => by
  unfold idsD at hx
  obtain ⟨b, _, rfl⟩ := List.mem_map.1 hx
  have := headId_size b.1
  omega⟩
theorem bare_s : Sound Tryz.prog 103 mBare := by
  refine Sound.mdl Tryz.func103 rfl Tryz.ntmps103 ?_
  rintro ⟨⟨L, ⟨⟨p, s⟩, st, ⟨⟨h1, h2, h3, h4, h5, h6⟩, v⟩, ⟨l, n⟩, ⟨q, m⟩, now⟩, hs⟩, wd⟩ w hx
  refine ⟨by simp, ?_⟩
  replace hx : deskOk (L, ((p, s), st, ((h1, h2, h3, h4, h5, h6), v), (l, n), (q, m), now), hs) := hx
  have hΓ : GSound Tryz.prog (look [(143, mIds), (142, mTree), (141, mHex), (101, mDecZ), (144, mHeadId), (145, mBan)]) := env_cons (has_of Tryz.func143 rfl rfl) ids_s (env_cons (has_of Tryz.func142 rfl rfl) treeI_s (env_cons (has_of Tryz.func141 rfl rfl) hexI_s (env_cons (has_of Tryz.func101 rfl rfl) decZI_s (env_cons (has_of Tryz.func144 rfl rfl) headIdI_s (env_cons (has_of Tryz.func145 rfl rfl) banI_s env_nil)))))
  have hl12 : L.length ≤ 12 := hx.1.1
  have hcl : hs = true → cliOk ((p, s), st, ((h1, h2, h3, h4, h5, h6), v), (l, n), (q, m), now) := hx.2
  rcases bare_ways (L, ((p, s), st, ((h1, h2, h3, h4, h5, h6), v), (l, n), (q, m), now), hs) wd with ⟨t1, hb⟩ | ⟨t1, t2, hb⟩ | ⟨t1, t2, t3, hb⟩ | ⟨t1, t2, t3, hb⟩
  · have c1 := mIds_eq (L, ((p, s), st, ((h1, h2, h3, h4, h5, h6), v), (l, n), (q, m), now), hs) (show L.length ≤ _ by omega)
    have hid := idsD_ok hl12
    have c2 := mTree_eq (idsD L) hid
    have ht := tree_size (idsD L)
    have c3 := mHex_eq (tree (idsD L)) (by omega)
    dsimp only at c1 hb
    replace hb := Lib.hid hb
    clear hx hcl hid
    generalize idsD L = I at *
    generalize tree I = T at *
    generalize hexS T = X at *
    simp only [initS, argPV, List.map_cons, List.map_nil, toPL, Nat.zero_add]
    refine zR ?_
    refine At.retA (by rw [Tryz.results103]) (he := ?_)
    rw [hb.out]
  · cases hs with
    | false =>
      replace hb := hb.trans (if_neg Bool.false_ne_true)
      replace hb := Lib.hid hb
      clear hx hcl
      simp only [initS, argPV, List.map_cons, List.map_nil, toPL, Nat.zero_add]
      refine zR ?_
      refine At.retA (by rw [Tryz.results103]) (he := ?_)
      rw [hb.out]
      rfl
    | true =>
      replace hb := hb.trans (if_pos rfl)
      have hc := hcl rfl
      have hh : headOk (h1, h2, h3, h4, h5, h6) := hc.1.2.1.1
      have hh1 : 1 ≤ h1 ∧ h1 ≤ 1000000 := hh.1
      have c1 := mDecZ_eq h1 ⟨by omega, by omega⟩
      have c2 := mHeadId_eq (h1, h2, h3, h4, h5, h6)
      have hz := headId_size (h1, h2, h3, h4, h5, h6)
      have c3 := mHex_eq (headId (h1, h2, h3, h4, h5, h6)) (by omega)
      have hT : tipD ((p, s), st, ((h1, h2, h3, h4, h5, h6), v), (l, n), (q, m), now) = bsS (decZ h1) ++ (⟨#[32]⟩ : ByteArray) ++ hexS (headId (h1, h2, h3, h4, h5, h6)) := rfl
      dsimp only at hb
      rw [hT] at hb
      clear hx hcl hc hh hh1 hT
      dsimp only [aHd] at c2
      have hD : (bsS (decZ h1)).size ≤ 11 := decT_size h1
      have hX : (hexS (headId (h1, h2, h3, h4, h5, h6))).size ≤ 16 := by rw [hexS_size]; omega
      have hsp := sp_size
      have hDs : (bsS (decZ h1) ++ (⟨#[32]⟩ : ByteArray)).size ≤ 12 := app_size hD sp_size (Nat.le_refl _)
      replace hb := Lib.hid hb
      generalize headId (h1, h2, h3, h4, h5, h6) = I at *
      generalize bsS (decZ h1) = D at *
      generalize hexS I = X at *
      simp only [initS, argPV, List.map_cons, List.map_nil, toPL, Nat.zero_add]
      refine zR ?_
      refine W.drawB hΓ 9 [[], [0], [0, 1], [0, 1, 2], [], [0, 1, 2, 4], [0, 1, 2, 4, 5], [0, 1, 2, 3, 4, 5, 6], [0, 1, 2, 3, 4, 5, 6, 7]] (Es := ?Es10) (rest := ?rest10) (st1 := ?st110) ?_
      refine zL ?_
      refine zE ?_
      refine zR ?_
      refine At.retA (by rw [Tryz.results103]) (he := ?_)
      rw [hb.out]
  · cases hs with
    | false =>
      replace hb := hb.trans (if_neg Bool.false_ne_true)
      replace hb := Lib.hid hb
      clear hx hcl
      simp only [initS, argPV, List.map_cons, List.map_nil, toPL, Nat.zero_add]
      refine zR ?_
      refine At.retA (by rw [Tryz.results103]) (he := ?_)
      rw [hb.out]
      rfl
    | true =>
      replace hb := hb.trans (if_pos rfl)
      have hc := hcl rfl
      have htb : tabOk (q, m) := hc.1.2.2.2.1
      have hnow : 0 ≤ now ∧ now ≤ 1000000 := hc.1.2.2.2.2.2.1
      have c1 := mBan_eq (q, m) now htb hnow
      have hbl : (banL q now).length ≤ 99 := banK_len q now 99
      have hin : ∀ k, (h : k < (banL q now).length) → 1 ≤ (banL q now)[k] ∧ (banL q now)[k] ≤ 99 := fun k h => (banL_mem.1 (List.getElem_mem h)).1
      have hT : banD ((p, s), st, ((h1, h2, h3, h4, h5, h6), v), (l, n), (q, m), now) = joinS (banL q now) (banL q now).length := rfl
      dsimp only at hb
      rw [hT] at hb
      replace hb := Lib.hid hb
      clear hx hcl hc hT htb
      generalize banL q now = B at *
      simp only [initS, argPV, List.map_cons, List.map_nil, toPL, Nat.zero_add]
      refine zR ?_
      refine W.drawB hΓ 13 [[], [0], [0, 1], [0, 1, 2], [0, 1, 2, 3], [], [5], [5, 6], [5, 6, 7], [5, 6, 7, 8], [0, 1, 2, 3, 4, 5, 6, 7, 8, 9], [0, 1, 2, 3, 4, 5, 6, 7, 8, 9, 10], []] (Es := ?Es18) (rest := ?rest18) (st1 := ?st118) ?_
      refine zL ?_
      refine zE ?_
      refine zR ?_
      refine W.loopA (fun k => k ≤ B.length) (fun k : Nat => [.slot 54 (one (.all 54)), .blk 54 (.arr .ft 3 1 (rowsF cInt B)), .slot 55 (vI B.length), .slot 56 (vI k), .slot 6 (one (.sc (.string (joinS B k))))]) (fun k => B.length - k) 0 (Nat.zero_le _) (h := ?_)
      have hlen := rowsF_len cInt B
      rintro k hk
      by_cases hlt : k < B.length
      · have hrow := rowsF_get cInt B k hlt
        have hi := hin k hlt
        have c2 := mDecZ_eq B[k] ⟨by omega, by omega⟩
        have hg : B.getD k 0 = B[k] := by rw [List.getD_eq_getElem?_getD, List.getElem?_eq_getElem hlt]; rfl
        rcases Nat.eq_zero_or_pos k with rfl | hp
        · have hJ : joinS B (0 + 1) = ByteArray.empty ++ bsS (decZ B[0]) := by
            show ByteArray.empty ++ decT (B.getD 0 0) = _
            rw [hg]
            rfl
          have hJ0 : joinS B 0 = ByteArray.empty := rfl
          have hD : (bsS (decZ B[0])).size ≤ 11 := decT_size B[0]
          have hes := emp_size
          rw [hJ0]
          clear hin c1 hg
          replace hJ := Lib.hid hJ
          generalize bsS (decZ B[0]) = D at *
          generalize B[0] = x at *
          dsimp only [cInt, List.map_cons, List.map_nil] at hrow
          refine zR ?_
          refine At.roundA (0 + 1) (by omega) (by omega) (hs := ?_)
          rw [hJ.out]
          exact subP
        · have hJ : joinS B (k + 1) = (joinS B k ++ (⟨#[32]⟩ : ByteArray)) ++ bsS (decZ B[k]) := by
            show (if 0 < k then joinS B k ++ spW else joinS B k) ++ decT (B.getD k 0) = _
            rw [if_pos hp, hg]
            rfl
          have hD : (bsS (decZ B[k])).size ≤ 11 := decT_size B[k]
          have hJs : (joinS B k).size ≤ 1188 := Nat.le_trans (joinS_size B k) (by omega)
          have hsp := sp_size
          have hJt : (joinS B k ++ (⟨#[32]⟩ : ByteArray)).size ≤ 1189 := app_size hJs sp_size (Nat.le_refl _)
          clear hin c1 hg
          generalize joinS B k = J0 at *
          replace hJ := Lib.hid hJ
          generalize bsS (decZ B[k]) = D at *
          generalize B[k] = x at *
          dsimp only [cInt, List.map_cons, List.map_nil] at hrow
          refine zR ?_
          refine At.roundA (k + 1) (by omega) (by omega) (hs := ?_)
          rw [hJ.out]
          exact subP
      · have ht : k = B.length := by omega
        subst ht
        clear hin c1
        refine zR ?_
        refine At.retA (by rw [Tryz.results103]) (he := ?_)
        rw [hb.out]
  · replace hb := Lib.hid hb
    clear hx hcl
    simp only [initS, argPV, List.map_cons, List.map_nil, toPL, Nat.zero_add]
    refine zR ?_
    refine At.retA (by rw [Tryz.results103]) (he := ?_)
    rw [hb.out]
    rfl
end Go.Proofs.YtfgkfcfplodaoaaGreatDoor

end
