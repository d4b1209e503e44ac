/-
  Snapshots: their size, copy, equality, mark and held functions, by contracts.
-/
import Derived.Test.YtilgmdgipeimaaaDoorStr
import Derived.Test.YtilgmdgipeimaaaDoorOneBool
import Derived.Test.YtilgmdgipeimaaaDoorMarkBool
namespace Go.Proofs.YtilgmdgipeimaaaDoor
set_option maxRecDepth 100000
set_option linter.unusedVariables false
set_option linter.unusedSimpArgs false
open Go.RowKit

/-- two slices of one's own, in intervals of blocks that do not meet, from lo on and below hi -/
def TwoI (lo hi : Nat) (w : World) (vh vg : Value) (hv : List ByteArray) (gv : List Bool) : Prop :=
  ∃ l1 h1 l2 h2, OwnI w l1 h1 1 cStr vh hv ∧ OwnI w l2 h2 1 cBool vg gv ∧ lo ≤ l1 ∧ h1 ≤ hi ∧ lo ≤ l2 ∧ h2 ≤ hi ∧ (h1 ≤ l2 ∨ h2 ≤ l1)
theorem TwoI.kp {lo hi : Nat} {w w' : World} {vh vg : Value} {hv : List ByteArray} {gv : List Bool} (h : TwoI lo hi w vh vg hv gv) (k : Keeps w w') : TwoI lo hi w' vh vg hv gv := by
  obtain ⟨l1, h1, l2, h2, a, b, r⟩ := h
  exact ⟨l1, h1, l2, h2, a.kp k, b.kp k, r⟩
theorem TwoI.on {lo hi lo' hi' : Nat} {w w' : World} {vh vg : Value} {hv : List ByteArray} {gv : List Bool} (h : TwoI lo hi w vh vg hv gv) (k : Only lo' hi' w w') (hd : hi ≤ lo' ∨ hi' ≤ lo) : TwoI lo hi w' vh vg hv gv := by
  obtain ⟨l1, h1, l2, h2, a, b, r1, r2, r3, r4, r5⟩ := h
  exact ⟨l1, h1, l2, h2, a.on k (by omega), b.on k (by omega), r1, r2, r3, r4, r5⟩
theorem TwoI.rd1 {lo hi : Nat} {w : World} {vh vg : Value} {hv : List ByteArray} {gv : List Bool} (h : TwoI lo hi w vh vg hv gv) : RdS w w.heap.size 1 cStr vh hv := by
  obtain ⟨l1, h1, l2, h2, a, b, r⟩ := h
  exact a.rd
theorem TwoI.rd2 {lo hi : Nat} {w : World} {vh vg : Value} {hv : List ByteArray} {gv : List Bool} (h : TwoI lo hi w vh vg hv gv) : RdS w w.heap.size 1 cBool vg gv := by
  obtain ⟨l1, h1, l2, h2, a, b, r⟩ := h
  exact b.rd

theorem TwoI.shape1 {lo hi : Nat} {w : World} {vh vg : Value} {hv : List ByteArray} {gv : List Bool} (h : TwoI lo hi w vh vg hv gv) : ∃ A c, vh = .slice A hv.length c := by
  obtain ⟨l1, h1, l2, h2, a, b, r⟩ := h
  exact a.1.shape
theorem TwoI.shape2 {lo hi : Nat} {w : World} {vh vg : Value} {hv : List ByteArray} {gv : List Bool} (h : TwoI lo hi w vh vg hv gv) : ∃ A c, vg = .slice A gv.length c := by
  obtain ⟨l1, h1, l2, h2, a, b, r⟩ := h
  exact b.1.shape

/-- a new snapshot: two slices of its own -/
def NewSnap (W : World) (r : ByteArray) (c : Int) (hv : List ByteArray) (gv : List Bool) (e : Ending) (w' : World) : Prop :=
  ∃ vh vg, e = .returned (.agg #[.string r, .int .i64 c, vh, vg]) ∧ TwoI W.heap.size w'.heap.size w' vh vg hv gv ∧ Keeps W w'

/-- the same with a truth beside it -/
def NewSnapB (W : World) (r : ByteArray) (c : Int) (hv : List ByteArray) (gv : List Bool) (b : Bool) (e : Ending) (w' : World) : Prop :=
  ∃ vh vg, e = .returned (.tuple #[.agg #[.string r, .int .i64 c, vh, vg], .bool b]) ∧ TwoI W.heap.size w'.heap.size w' vh vg hv gv ∧ Keeps W w'

theorem OwnI.low {α : Type} {w : World} {lo lo' hi hi' s : Nat} {f : α → List Value} {v : Value} {l : List α} (h : OwnI w lo hi s f v l) (h1 : lo' ≤ lo) (h2 : hi ≤ hi') : OwnI w lo' hi' s f v l :=
  ⟨h.1.low h1, fun g hg hv => Nat.lt_of_lt_of_le (h.2 g hg hv) h2⟩

set_option maxHeartbeats 2000000 in
theorem toSnap_any (r : ByteArray) (c : Int) (vh vg : Value) (hv : List ByteArray) (gv : List Bool) (w : World) (h1 : RdS w w.heap.size 1 cStr vh hv) (h2 : RdS w w.heap.size 1 cBool vg gv)
    (hn1 : hv.length ≤ 8796093022207) (hn2 : gv.length ≤ 8796093022207) :
    Calls Tryd.prog 40 #[.agg #[.string r, .int .i64 c, vh, vg]] w (NewSnap w r c hv gv) := by
  have H1 := Lib.hid h1
  have H2 := Lib.hid h2
  obtain ⟨A1, c1, rfl, -, -, -⟩ := h1
  obtain ⟨A2, c2, rfl, -, -, -⟩ := h2
  go_enter Tryd.func40, Tryd.ntmps40
  go_wp2_with fail
  refine (toStringS_any _ hv _ (H1.out.up ?g1) (by omega)).mono ?_
  case g1 => go_grown
  rintro e w1 ⟨x1, rfl, o1, k1⟩
  obtain ⟨A3, c3, rfl⟩ := o1.shape
  have O1 := Lib.hid o1
  obtain ⟨hc, hf⟩ := bcell k1
  have K1 := Lib.hid k1
  clear o1 k1
  have hz : w.heap.size + 2 < w1.heap.size := by have := K1.out.size; simp at this; omega
  go_wp2_with fail
  refine (toBoolS_any _ gv _ (H2.out.up ?g2) (by omega)).mono ?_
  case g2 => exact Below.setCell (Below.trans (by go_grown) (Below.mono K1.out (by simp; omega))) (by simp; omega) _
  rintro e w2 ⟨x2, rfl, o2, k2⟩
  obtain ⟨A4, c4, rfl⟩ := o2.shape
  have O2 := Lib.hid o2
  have K2 := Lib.hid k2
  obtain ⟨hc2, hf2⟩ := bcell k2
  have hz2 : w.heap.size + 2 < w2.heap.size := by have := K2.out.size; simp [World.setCell] at this; omega
  clear o2 k2
  have hz3 : w.heap.size + 1 < w1.heap.size := by omega
  have hz4 : w.heap.size < w1.heap.size := by omega
  have hz5 : w.heap.size + 1 < w2.heap.size := by omega
  have hz6 : w.heap.size < w2.heap.size := by omega
  go_wp2_with fail
  refine bodyPost_ret (v := .agg #[.string r, .int .i64 c, .slice A3 hv.length c3, .slice A4 gv.length c4]) (by simp [results, Tryd.results40, go_sem, hc, hc2, hz, hz3, hz4]) rfl ?_
  have s0 : w.heap.size + 2 < w1.heap.size := hz
  have s1 : w1.heap.size ≤ w2.heap.size := by have := K2.out.size; simpa [World.setCell] using this
  have i1 : OwnI w1 (w.heap.size + 3) w1.heap.size 1 cStr (.slice A3 hv.length c3) hv := (OwnI.of_new O1.out).low (by simp) (Nat.le_refl _)
  have i2 := (i1.on (Only.set w1 (w.heap.size + 1 + 1) 2 (.slice A3 hv.length c3)) (.inr (by omega))).kp K2.out
  have j1 : OwnI w2 w1.heap.size w2.heap.size 1 cBool (.slice A4 gv.length c4) gv := (OwnI.of_new O2.out).low (by simp [World.setCell]) (Nat.le_refl _)
  have ks : Below w.heap.size w w2 := Below.trans (Below.setCell (Below.trans (by go_grown) (Below.mono K1.out (by simp; omega))) (by simp; omega) _) (Below.mono K2.out (by simp [World.setCell]; omega))
  refine ⟨_, _, rfl, ⟨w.heap.size, w1.heap.size, w1.heap.size, _, ?_, ?_, Nat.le_refl _, by simpa [World.setCell] using s1, by omega, Nat.le_refl _, .inl (Nat.le_refl _)⟩, ?_⟩
  · exact (((((i2.on (Only.set _ _ _ _) (.inr (by omega))).on (Only.set _ _ _ _) (.inr (by omega))).on (Only.set _ _ _ _) (.inr (by omega))).on (Only.set _ _ _ _) (.inr (by omega))).on (Only.set _ _ _ _) (.inr (by omega))).low (by omega) (Nat.le_refl _)
  · exact (((((j1.on (Only.set _ _ _ _) (.inr (by omega))).on (Only.set _ _ _ _) (.inr (by omega))).on (Only.set _ _ _ _) (.inr (by omega))).on (Only.set _ _ _ _) (.inr (by omega))).on (Only.set _ _ _ _) (.inr (by omega))).low (Nat.le_refl _) (by simp [World.setCell])
  · exact ((((ks.setCell (by simp; omega) _).setCell (by simp) _).setCell (by simp) _).setCell (by simp) _).setCell (by simp) _

set_option maxHeartbeats 2000000 in
theorem szSnap_any (r : ByteArray) (c : Int) (vh vg : Value) (hv : List ByteArray) (gv : List Bool) (left : Int) (w : World) (h1 : RdS w w.heap.size 1 cStr vh hv) (h2 : RdS w w.heap.size 1 cBool vg gv)
    (k1 : ∀ x ∈ hv, okString x) (k2 : ∀ x ∈ gv, okBool x) (hr : r.size ≤ 9223372036854775807) (h0 : 0 ≤ left) (hl : left ≤ 1048576) (hn1 : hv.length ≤ 9223372036854775807) (hn2 : gv.length ≤ 9223372036854775807) :
    Calls Tryd.prog 38 #[.agg #[.string r, .int .i64 c, vh, vg], .int .i64 left] w (SzB (r.size + strsTot hv + gv.length) left w) := by
  have H1 := Lib.hid h1
  have H2 := Lib.hid h2
  obtain ⟨A1, c1, rfl, -, -, -⟩ := h1
  obtain ⟨A2, c2, rfl, -, -, -⟩ := h2
  go_enter Tryd.func38, Tryd.ntmps38
  by_cases n1 : left - r.size < 0
  · go_wp2_with fail
    go_ret
    exact ⟨_, rfl, by go_grown, by omega, by omega, by omega⟩
  go_wp2_with fail
  refine (szStringS_any _ hv _ _ (H1.out.up ?g1) k1 (by omega) (by omega) (by omega)).mono ?_
  case g1 => go_grown
  rintro e w1 ⟨r1, rfl, kk1, ra1, rb1, rc1⟩
  obtain ⟨hc, hf⟩ := bcell kk1
  have K1 := Lib.hid kk1
  have hz : w.heap.size < w1.heap.size := by have := K1.out.size; simp at this; omega
  clear kk1
  by_cases n2 : r1 < 0
  · go_wp2_with fail
    go_ret
    exact ⟨_, rfl, Below.trans (by go_grown) (Below.mono K1.out (by simp)), by omega, by omega, by omega⟩
  go_wp2_with fail
  refine (szBoolS_any _ gv _ _ (H2.out.up ?g2) k2 (by omega) (by omega) (by omega)).mono ?_
  case g2 => exact Below.trans (by go_grown) (Below.mono K1.out (by simp))
  rintro e w2 ⟨r2, rfl, kk2, ra2, rb2, rc2⟩
  have ks : Below w.heap.size w w2 := Below.trans (Below.trans (by go_grown) (Below.mono K1.out (by simp))) (Below.mono kk2 (by omega))
  clear kk2 hc hf
  by_cases n3 : r2 < 0
  · go_wp2_with fail
    go_ret
    exact ⟨_, rfl, ks, by omega, by omega, by omega⟩
  · go_wp2_with fail
    go_ret
    exact ⟨_, rfl, ks, by omega, by omega, by omega⟩

set_option maxHeartbeats 2000000 in
theorem eqSnap_same (r : ByteArray) (c : Int) (vh vg vh2 vg2 : Value) (hv : List ByteArray) (gv : List Bool) (w : World) (h1 : RdS w w.heap.size 1 cStr vh hv) (h2 : RdS w w.heap.size 1 cBool vg gv)
    (h3 : RdS w w.heap.size 1 cStr vh2 hv) (h4 : RdS w w.heap.size 1 cBool vg2 gv) (hn1 : hv.length ≤ 8796093022207) (hn2 : gv.length ≤ 8796093022207) :
    Calls Tryd.prog 42 #[.agg #[.string r, .int .i64 c, vh, vg], .agg #[.string r, .int .i64 c, vh2, vg2]] w (SaysB true w) := by
  have H1 := Lib.hid h1
  have H2 := Lib.hid h2
  have H3 := Lib.hid h3
  have H4 := Lib.hid h4
  obtain ⟨A1, c1, rfl, -, -, -⟩ := h1
  obtain ⟨A2, c2, rfl, -, -, -⟩ := h2
  obtain ⟨A3, c3, rfl, -, -, -⟩ := h3
  obtain ⟨A4, c4, rfl, -, -, -⟩ := h4
  go_enter Tryd.func42, Tryd.ntmps42
  go_wp2_with fail
  refine (eqStringS_any _ _ hv hv _ (H1.out.up ?g1) (H3.out.up ?g1) hn1 hn1).mono ?_
  case g1 => go_grown
  rintro e w1 ⟨rfl, kk1⟩
  obtain ⟨hc, hf⟩ := bcell kk1
  have K1 := Lib.hid kk1
  have hz : w.heap.size + 1 < w1.heap.size := by have := K1.out.size; simp at this; omega
  have hz2 : w.heap.size < w1.heap.size := by omega
  clear kk1
  go_wp2_with fail
  refine (eqBoolS_any _ _ gv gv _ (H2.out.up ?g2) (H4.out.up ?g2) hn2 hn2).mono ?_
  case g2 => exact Below.trans (by go_grown) (Below.mono K1.out (by simp; omega))
  rintro e w2 ⟨rfl, kk2⟩
  have ks : Below w.heap.size w w2 := Below.trans (Below.trans (by go_grown) (Below.mono K1.out (by simp; omega))) (Below.mono kk2 (by omega))
  clear kk2 hc hf
  go_wp2_with fail
  go_ret
  exact ⟨rfl, ks⟩

set_option maxHeartbeats 2000000 in
theorem markSnap_at (r : ByteArray) (c : Int) (vh vg : Value) (hv : List ByteArray) (gv : List Bool) (k : Nat) (q : Int) (m k' : Nat) (w : World) (lo hi : Nat)
    (h2 : TwoI lo hi w vh vg hv gv) (z3 : hi ≤ w.heap.size) (hm : m = k + 1 * hv.length) (hk : k' = m + 1 * gv.length) (h0 : 0 < k ∧ q = k) (hn : k' ≤ 1099511627776) :
    Calls Tryd.prog 43 #[.agg #[.string r, .int .i64 c, vh, vg], .int .i64 q] w fun e w' => e = .returned (.int .i64 (k' : Int)) ∧
      TwoI lo hi w' vh vg (marked mtext 1 k hv.length) (marked mkBool 1 m gv.length) ∧ Only lo hi w w' := by
  obtain ⟨h0, rfl⟩ := h0
  obtain ⟨l1, u1, l2, u2, h1, h2, z4, z5, z6, z7, z8⟩ := h2
  obtain ⟨A1, c1, e1⟩ := h1.1.shape
  obtain ⟨A2, c2, e2⟩ := h2.1.shape
  subst e1
  subst e2
  have H1 := Lib.hid h1
  have H2 := Lib.hid h2
  have HM := Lib.hid hm
  have HK := Lib.hid hk
  have b1 : m ≤ 1099511627776 := by omega
  have b2 : 0 < m := by omega
  clear h1 h2 hm hk
  go_enter Tryd.func43, Tryd.ntmps43
  go_wp2_with fail
  refine (markStringS_at _ hv k _ m _ l1 u1 (H1.out.kp ?g1) HM.out ⟨h0, rfl⟩ b1).mono ?_
  case g1 => exact show Below _ _ _ by go_grown
  rintro e w1 ⟨rfl, o1, y1⟩
  have hc : ∀ o, w1.cell? ⟨w.heap.size, o, none⟩ = (w.alloc (.cells #[.string r, .int .i64 c, .slice A1 hv.length c1, .slice A2 gv.length c2] 56)).cell? ⟨w.heap.size, o, none⟩ :=
    fun o => World.cell?_of_block (a := ⟨w.heap.size, o, none⟩) (y1.block w.heap.size (by simp) (.inr (by omega)))
  have O1 := Lib.hid o1
  have Y1 := Lib.hid y1
  have x3 : w1.cell? ⟨w.heap.size, 3, none⟩ = some (.slice A2 gv.length c2) := by rw [hc]; go_simp
  clear o1 y1 hc
  go_wp2_with fail
  refine (markBoolS_at _ gv m _ k' _ l2 u2 ((H2.out.kp ?g2).on Y1.out (by omega)) HK.out ⟨b2, rfl⟩ hn).mono ?_
  case g2 => exact show Below _ _ _ by go_grown
  rintro e w2 ⟨rfl, o2, y2⟩
  go_wp2_with fail
  go_ret
  refine ⟨rfl, ⟨l1, u1, l2, u2, O1.out.on y2 (by omega), o2, z4, z5, z6, z7, z8⟩, ⟨y2.os.trans Y1.out.os, y2.tape.trans Y1.out.tape, y2.output.trans Y1.out.output, ?_, fun k hk hd => ?_⟩⟩
  · have a := Y1.out.size
    have b := y2.size
    simp at a
    omega
  · have a := Y1.out.size
    simp at a
    rw [y2.block k (by omega) (by omega), Y1.out.block k (by simp; omega) (by omega)]
    exact Below.heap_alloc w _ k hk

set_option maxHeartbeats 2000000 in
theorem heldSnap_at (r : ByteArray) (c : Int) (vh vg : Value) (n1 n2 : Nat) (k : Nat) (q : Int) (m k' : Nat) (w : World)
    (h1 : RdS w w.heap.size 1 cStr vh (marked mtext 1 k n1)) (h2 : RdS w w.heap.size 1 cBool vg (marked mkBool 1 m n2)) (hm : m = k + 1 * n1) (hk : k' = m + 1 * n2) (h0 : 0 < k ∧ q = k) (hn : k' ≤ 1099511627776) :
    Calls Tryd.prog 44 #[.agg #[.string r, .int .i64 c, vh, vg], .int .i64 q] w (Held k' w) := by
  obtain ⟨h0, rfl⟩ := h0
  have H1 := Lib.hid h1
  have H2 := Lib.hid h2
  obtain ⟨A1, c1, e1, -⟩ := h1
  obtain ⟨A2, c2, e2, -⟩ := h2
  subst e1
  subst e2
  have HM := Lib.hid hm
  have HK := Lib.hid hk
  have b1 : m ≤ 1099511627776 := by omega
  have b2 : 0 < m := by omega
  clear hm hk
  go_enter Tryd.func44, Tryd.ntmps44
  go_wp2_with fail
  refine (heldStringS_at _ n1 k _ m _ (H1.out.up ?g1) HM.out ⟨h0, rfl⟩ b1).mono ?_
  case g1 => go_grown
  rintro e w1 ⟨rfl, k1⟩
  obtain ⟨hc, hf⟩ := bcell k1
  have K1 := Lib.hid k1
  have hz : w.heap.size < w1.heap.size := by have := K1.out.size; simp at this; omega
  clear k1
  go_wp2_with fail
  refine (heldBoolS_at _ n2 m _ k' _ (H2.out.up ?g2) HK.out ⟨b2, rfl⟩ hn).mono ?_
  case g2 => exact Below.trans (by go_grown) (Below.mono K1.out (by simp))
  rintro e w2 ⟨rfl, k2⟩
  have ks : Below w.heap.size w w2 := Below.trans (Below.trans (by go_grown) (Below.mono K1.out (by simp))) (Below.mono k2 (by omega))
  clear k2 hc hf
  go_wp2_with fail
  go_ret
  exact ⟨rfl, ks⟩

end Go.Proofs.YtilgmdgipeimaaaDoor
