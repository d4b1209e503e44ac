
import Derived.Test.YtfgkfcfplodaoaaGreatDoorG38
set_option linter.unusedSimpArgs false
set_option linter.unusedVariables false
set_option maxRecDepth 100000
namespace Go.Proofs.YtfgkfcfplodaoaaGreatDoor
open Go Go.RowKit
set_option maxHeartbeats 4000000
def idsV (l : List TVal) : List Int := l.map fun v => v.1
theorem idsV_len (l : List TVal) : (idsV l).length = l.length := List.length_map _
def cmVote (h : THeader) (r v : Int) : TVote := (h.1, r, 2, headId h, v)
def cmSig (h : THeader) (r v : Int) : TCSig := (v, signS v (digS (cmVote h r v)))
def cmFor (h : THeader) (r : Int) (ids : List Int) : TCommit := (h.1, r, headId h, ids.map (cmSig h r))
def bytZ (s : ByteArray) (k : Nat) : Int := ((byteN s k : Nat) : Int)
theorem bytZ_in (s : ByteArray) (k : Nat) : 0 ≤ bytZ s k ∧ bytZ s k ≤ 255 := by
  have := byteN_lt s k
  unfold bytZ
  omega
def shaH (s : ByteArray) (i : Nat) : ByteArray := shaS (s ++ bsS (decZ (i : Int)))
def vals0 (b : ByteArray) (n : Nat) : List TVal := (List.range n).map fun k : Nat => ((k : Int) + 1, 1 + (bytZ b k).tmod 5)
abbrev TChS := List TVal × Int × ByteArray
def cnVals (s : ByteArray) (k : Nat) (st : TChS) : List TVal := if k = 0 then vals0 (shaH s 1) 4 else st.1
def cnNext (s : ByteArray) (k : Nat) (st : TChS) : List TVal := (chV (cnVals s k st) (1 + (bytZ (shaH s (k + 1)) 4).tmod 6, (bytZ (shaH s (k + 1)) 5).tmod 4)).1
def cnHead (s : ByteArray) (k : Nat) (st : TChS) : THeader := (((k + 1 : Nat) : Int), st.2.1 + 1 + (bytZ (shaH s (k + 1)) 6).tmod 5, st.2.2, vhash (cnVals s k st), vhash (cnNext s k st), bsS (decZ (bytZ (shaH s (k + 1)) 7)))
def cnBlk (s : ByteArray) (k : Nat) (st : TChS) : TBlock := (cnHead s k st, cnVals s k st, cnNext s k st, cmFor (cnHead s k st) 0 (idsV (cnVals s k st)))
def cnS (s : ByteArray) : Nat → TChS
  | 0 => ([], 0, ByteArray.empty)
  | k + 1 => (cnNext s k (cnS s k), (cnHead s k (cnS s k)).2.1, headId (cnHead s k (cnS s k)))
def cnB (s : ByteArray) (k : Nat) : TBlock := cnBlk s k (cnS s k)
def cnL (s : ByteArray) (n : Nat) : List TBlock := (List.range n).map (cnB s)
def chainOf (s : ByteArray) (n : Int) : List TBlock := if 1 ≤ n ∧ n ≤ 12 then cnL s n.toNat else []
theorem cnL_len (s : ByteArray) (n : Nat) : (cnL s n).length = n := by simp [cnL]
theorem cnL_next (s : ByteArray) (n : Nat) : cnL s (n + 1) = cnL s n ++ [cnB s n] := by unfold cnL; rw [List.range_succ, List.map_append]; rfl
theorem cnL_get (s : ByteArray) {n k : Nat} (h : k < n) : (cnL s n)[k]? = some (cnB s k) := by unfold cnL; rw [List.getElem?_map, List.getElem?_range h]; rfl
theorem vals0_next (b : ByteArray) (n : Nat) : vals0 b (n + 1) = vals0 b n ++ [((n : Int) + 1, 1 + (bytZ b n).tmod 5)] := by unfold vals0; rw [List.range_succ, List.map_append]; rfl
theorem vals0_len (b : ByteArray) (n : Nat) : (vals0 b n).length = n := by simp [vals0]
theorem tmod_in {a m : Int} (h0 : 0 ≤ a) (hm : 0 < m) : 0 ≤ a.tmod m ∧ a.tmod m < m := ⟨Int.tmod_nonneg _ h0, Int.tmod_lt_of_pos _ hm⟩
theorem vals0_get (b : ByteArray) {n k : Nat} (h : k < n) : (vals0 b n).getD k (0, 0) = ((k : Int) + 1, 1 + (bytZ b k).tmod 5) := by
  rw [List.getD_eq_getElem?_getD]
  unfold vals0
  rw [List.getElem?_map, List.getElem?_range h]
  rfl
theorem vals0_ok (b : ByteArray) : valsOk (vals0 b 4) := by
  refine ⟨by rw [vals0_len]; omega, fun k hk => ?_⟩
  rw [vals0_len] at hk
  have h5 := fun j => tmod_in (bytZ_in b j).1 (show (0 : Int) < 5 by omega)
  have hb := h5 k
  unfold valAt
  rw [vals0_get b hk]
  refine ⟨by dsimp only; omega, by dsimp only; omega, by dsimp only; omega, by dsimp only; omega, fun hp => ?_⟩
  rw [vals0_get b (show k - 1 < 4 by omega)]
  dsimp only
  omega
theorem chV_ok {l : List TVal} (x : TVal) (h : valsOk l) : valsOk (chV l x).1 := by
  unfold chV
  split
  · rename_i h1; exact h1.2.2
  · exact h
theorem vhash_size {l : List TVal} (h : valsOk l) : (vhash l).size = 8 := by
  unfold vhash
  rw [if_pos h, shortS_size]
theorem headId_size8 {h : THeader} (ho : headOk h) : (headId h).size = 8 := by
  unfold headId
  rw [if_pos ho, shortS_size]
structure CnOk (s : ByteArray) (k : Nat) (st : TChS) : Prop where
  vals : valsOk (cnVals s k st)
  t0 : 0 ≤ st.2.1
  t1 : st.2.1 ≤ 5 * k
  last : (st.2.2.size : Int) = lastN ((k + 1 : Nat) : Int)
theorem CnOk.next {s : ByteArray} {k : Nat} {st : TChS} (h : CnOk s k st) : valsOk (cnNext s k st) := chV_ok _ h.vals
theorem bsS_size' (l : List Nat) : (bsS l).size = l.length := by simp [bsS, ByteArray.size]
theorem CnOk.head {s : ByteArray} {k : Nat} {st : TChS} (h : CnOk s k st) (hk : k < 12) : headOk (cnHead s k st) := by
  have h5 := tmod_in (bytZ_in (shaH s (k + 1)) 6).1 (show (0 : Int) < 5 by omega)
  have h0 := h.t0
  have h1 := h.t1
  refine ⟨⟨show (1 : Int) ≤ ((k + 1 : Nat) : Int) by omega, show ((k + 1 : Nat) : Int) ≤ 1000000 by omega⟩, ⟨show (0 : Int) ≤ st.2.1 + 1 + _ by omega, show st.2.1 + 1 + _ ≤ (1000000 : Int) by omega⟩, ?_, ?_, h.last, ?_⟩
  · show ((vhash (cnVals s k st)).size : Int) = 8
    rw [vhash_size h.vals]; rfl
  · show ((vhash (cnNext s k st)).size : Int) = 8
    rw [vhash_size h.next]; rfl
  · show ((bsS (decZ (bytZ (shaH s (k + 1)) 7))).size : Int) ≤ 20
    rw [bsS_size']
    have := (decZ_len (bytZ (shaH s (k + 1)) 7)).2
    omega
theorem cnS_ok (s : ByteArray) : ∀ k, k ≤ 12 → CnOk s k (cnS s k)
  | 0, _ => ⟨by unfold cnVals; rw [if_pos rfl]; exact vals0_ok _, Int.le_refl _, by simp [cnS], rfl⟩
  | k + 1, hk => by
    have ih := cnS_ok s k (by omega)
    have h5 := tmod_in (bytZ_in (shaH s (k + 1)) 6).1 (show (0 : Int) < 5 by omega)
    have h0 := ih.t0
    have h1 := ih.t1
    refine ⟨?_, show (0 : Int) ≤ (cnS s k).2.1 + 1 + _ by omega, show (cnS s k).2.1 + 1 + _ ≤ 5 * ((k + 1 : Nat) : Int) by omega, ?_⟩
    · unfold cnVals
      rw [if_neg (by omega)]
      exact ih.next
    · show ((headId (cnHead s k (cnS s k))).size : Int) = _
      rw [headId_size8 (ih.head (by omega))]
      unfold lastN
      rw [if_neg (by omega)]
      rfl
theorem voteOk_cm {h : THeader} (ho : headOk h) {v : Int} (hv : 1 ≤ v ∧ v ≤ 99) : voteOk (cmVote h 0 v) := by
  refine ⟨ho.1, ⟨Int.le_refl _, show (0 : Int) ≤ 1000 by omega⟩, ⟨show (1 : Int) ≤ 2 by omega, show (2 : Int) ≤ 2 by omega⟩, .inl ?_, hv⟩
  show ((headId h).size : Int) = 8
  rw [headId_size8 ho]; rfl
theorem cvals_has {h : THeader} (ho : headOk h) {ids : List Int} (hl : ids.length ≤ 12) {v : Int} (hv : 1 ≤ v ∧ v ≤ 99) (hm : v ∈ ids) : v ∈ cvals (cmFor h 0 ids) := by
  unfold cvals
  have h2 : (cmFor h 0 ids).2.2.2 = ids.map (cmSig h 0) := rfl
  rw [if_pos (by rw [h2, List.length_map]; exact hl)]
  unfold cvK
  refine List.mem_filter.2 ⟨List.mem_map.2 ⟨(v - 1).toNat, List.mem_range.2 (by omega), by omega⟩, ?_⟩
  unfold hasK
  rw [List.take_length, List.any_eq_true]
  refine ⟨cmSig h 0 v, by rw [h2]; exact List.mem_map_of_mem hm, ?_⟩
  rw [Bool.and_eq_true]
  refine ⟨decide_eq_true rfl, ?_⟩
  unfold sgAt signedB
  rw [Bool.and_eq_true]
  exact ⟨decide_eq_true (voteOk_cm ho hv), decide_eq_true rfl⟩
theorem vals_get {l : List TVal} (h : valsOk l) {v : TVal} (hv : v ∈ l) : (1 ≤ v.1 ∧ v.1 ≤ 99) ∧ 1 ≤ v.2 := by
  obtain ⟨i, hi, rfl⟩ := List.getElem_of_mem hv
  have := h.2 i hi
  unfold valAt at this
  rw [List.getD_eq_getElem?_getD, List.getElem?_eq_getElem hi, Option.getD_some] at this
  exact ⟨⟨this.1, this.2.1⟩, this.2.2.1⟩
theorem powSum_all {l : List TVal} {p : Int → Bool} (h : ∀ v ∈ l, p v.1 = true) : powSum p l = powSum (fun _ => true) l := by
  unfold powSum
  congr 1
  refine List.map_congr_left fun v hv => ?_
  unfold powC
  rw [h v hv]
theorem powSum_pos {l : List TVal} (h : valsOk l) : 0 < powSum (fun _ => true) l := by
  have hl : l ≠ [] := fun e => by have := h.1.1; rw [e] at this; simp at this
  have key : ∀ q : List TVal, (∀ v ∈ q, 1 ≤ v.2) → 0 ≤ powSum (fun _ => true) q ∧ (q ≠ [] → 0 < powSum (fun _ => true) q) := by
    intro q
    induction q with
    | nil => intro _; exact ⟨Int.le_refl _, fun e => absurd rfl e⟩
    | cons x r ih =>
      intro hq
      obtain ⟨i1, _⟩ := ih fun v hv => hq v (List.mem_cons_of_mem _ hv)
      have hx := hq x (List.mem_cons_self ..)
      have e : powSum (fun _ => true) (x :: r) = x.2 + powSum (fun _ => true) r := by
        unfold powSum
        rw [List.map_cons, List.sum_cons]
        rfl
      rw [e]
      exact ⟨by omega, fun _ => by omega⟩
  exact (key l fun v hv => (vals_get h hv).2).2 hl
theorem enough_all {l : List TVal} {h : THeader} (hl : valsOk l) (ho : headOk h) : enoughB l (cvals (cmFor h 0 (idsV l))) = true := by
  unfold enoughB
  rw [Bool.and_eq_true]
  refine ⟨decide_eq_true hl, decide_eq_true ?_⟩
  have h7 := hl.1.2
  rw [powSum_all fun v hv => decide_eq_true (cvals_has (ids := idsV l) ho (by rw [idsV_len]; omega) (vals_get hl hv).1 (List.mem_map_of_mem hv))]
  unfold powerOf
  rw [if_pos hl]
  have := powSum_pos hl
  omega
theorem cnB_commit (s : ByteArray) {k : Nat} (hk : k < 12) : commitOk (cnB s k).2.1 (cnB s k).1 (cnB s k).2.2.2 := by
  have h := cnS_ok s k (by omega)
  have ho := h.head hk
  exact ⟨h.vals, ho, rfl, rfl, rfl, enough_all h.vals ho⟩
theorem cnB_ok (s : ByteArray) {k : Nat} (hk : k < 12) : blockOk (cnB s k) := ⟨(cnS_ok s k (by omega)).next, rfl, cnB_commit s hk⟩
theorem cnB_anchor (s : ByteArray) {k : Nat} (hk : k < 12) : anchorOk ((cnB s k).1, (cnB s k).2.2.1) := by
  have h := cnS_ok s k (by omega)
  exact ⟨h.head hk, h.next, rfl⟩
theorem cnB_time (s : ByteArray) (k : Nat) : (cnB s (k + 1)).1.2.1 = (cnB s k).1.2.1 + 1 + (bytZ (shaH s (k + 2)) 6).tmod 5 := rfl
theorem cnB_up (s : ByteArray) : ∀ {i j : Nat}, i < j → (cnB s i).1.2.1 < (cnB s j).1.2.1 := by
  intro i j h
  induction h with
  | refl =>
    have h5 := tmod_in (bytZ_in (shaH s (i + 2)) 6).1 (show (0 : Int) < 5 by omega)
    rw [cnB_time]; omega
  | @step m _ ih =>
    have h5 := tmod_in (bytZ_in (shaH s (m + 2)) 6).1 (show (0 : Int) < 5 by omega)
    rw [cnB_time]; omega
theorem cnB_t (s : ByteArray) {k : Nat} (hk : k < 12) : 0 ≤ (cnB s k).1.2.1 ∧ (cnB s k).1.2.1 ≤ 5 * (k + 1) := by
  have h := cnS_ok s k (by omega)
  have h5 := tmod_in (bytZ_in (shaH s (k + 1)) 6).1 (show (0 : Int) < 5 by omega)
  have h0 := h.t0
  have h1 := h.t1
  refine ⟨show (0 : Int) ≤ (cnS s k).2.1 + 1 + _ by omega, show (cnS s k).2.1 + 1 + _ ≤ (5 : Int) * (k + 1) by omega⟩
end Go.Proofs.YtfgkfcfplodaoaaGreatDoor
