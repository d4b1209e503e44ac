/-
  Put together: MarkVal MarkCSig EvSkipM.
-/
import Derived.Test.YtimnogjgokljbaaGreatDoorHMark
import Derived.Test.YtimnogjgokljbaaGreatDoorG8
import Derived.Test.YtimnogjgokljbaaGreatDoorHFlatCSig
import Derived.Test.YtimnogjgokljbaaGreatDoorHEvMk3
import Derived.Test.YtimnogjgokljbaaGreatDoorHEvVHash
import Derived.Test.YtimnogjgokljbaaGreatDoorHEvCVals
import Derived.Test.YtimnogjgokljbaaGreatDoorG4
section
/-!
  Marking and holding slices of Val, by contracts.
-/
namespace Go.Proofs.YtimnogjgokljbaaGreatDoor
set_option maxRecDepth 100000
set_option linter.unusedVariables false
set_option linter.unusedSimpArgs false
open Go.RowKit

def mkVal (k : Nat) : TVal := ((k : Int), (k : Int) + 1)
theorem cVal_len (x : TVal) : (cVal x).length = 2 := rfl
set_option maxHeartbeats 2000000 in
theorem markValS_any (v : Value) (l : List TVal) (k B0 : Nat) (w : World) (h : OwnS w B0 2 cVal v l) (h0 : 0 < k) (hn : k + 2 * l.length ≤ 1099511627776) :
    Calls Tryz.prog 52 #[v, .int .i64 (k : Int)] w (Marks B0 2 cVal v (marked mkVal 2 k l.length) (k + 2 * l.length) w) := by
  by_cases hne : l = []
  · subst hne
    obtain ⟨A, c, rfl, h1, h2, h3⟩ := h
    go_enter Tryz.func52, Tryz.ntmps52
    go_wp2_with fail
    refine wp_loop_rounds 1 ?_
    rw [rounds_succ]
    go_wp2_with fail
    go_ret
    exact ⟨rfl, ⟨A, c, rfl, h1, h2, fun e => absurd rfl e⟩, fun _ => rfl, World.grownBy.refl _ _⟩
  obtain ⟨b, off, c, rfl, hlc, hcm, hat⟩ := h.at_ hne
  clear h
  go_enter Tryz.func52, Tryz.ntmps52
  go_wp2_with fail
  go_loopw [1, 5] (fun q i wr => ∃ j m : Nat, j ≤ l.length ∧ m = k + 2 * j ∧ i = .int .i64 j ∧ q = .int .i64 m ∧ OwnAt wr B0 2 cVal b off (marks mkVal 2 k j l) ∧ w.grownBy wr (some b)) (fun _ i _ => l.length - (intOf i).toNat)
  case atStart => exact ⟨0, k, Nat.zero_le _, rfl, rfl, rfl, by rw [marks_zero]; exact hat, World.grownBy.refl _ _⟩
  case round =>
    obtain ⟨j, m, hj, hm, rfl, rfl, ho, hg⟩ := hrel
    have hm1 : 0 < m := by omega
    have hm2 : m + 2 * (l.length - j) ≤ 1099511627776 := by omega
    have HM := Lib.hid hm
    clear hm
    by_cases hlt : j < l.length
    · have hml : j < (marks mkVal 2 k j l).length := by rw [length_marks hj]; exact hlt
      obtain ⟨x, hx⟩ : ∃ x, (marks mkVal 2 k j l)[j]? = some x := ⟨_, List.getElem?_eq_getElem hml⟩
      obtain ⟨u0, hx0⟩ := ho.old cVal_len (i := j) (by simpa using hml) (j := 0) (by omega)
      have hf0 := ho.2.2.1 (off + j * 2 + 0)
      simp only [Nat.add_zero] at hx0 hf0
      obtain ⟨u1, hx1⟩ := ho.old cVal_len (i := j) (by simpa using hml) (j := 1) (by omega)
      have hf1 := ho.2.2.1 (off + j * 2 + 1)
      have oc0 := ho.field (i := j) (j := 0) (u := .int .i64 ((m : Int))) (y := (((m : Int), x.2) : TVal)) cVal_len (by simpa using hml) (by omega) (by rw [(List.getElem?_eq_some_iff.1 hx).2]; rfl)
      have hy0 := List.getElem?_set_self (l := (marks mkVal 2 k j l)) (i := j) (a := (((m : Int), x.2) : TVal)) (by simpa using hml)
      have gc0 := only_setCell hg (p := ⟨b, off + j * 2 + 0, none⟩) rfl (.int .i64 ((m : Int)))
      simp only [Nat.add_zero] at oc0 gc0
      have oc1 := oc0.field (i := j) (j := 1) (u := .int .i64 ((m : Int) + 1)) (y := (((m : Int), (m : Int) + 1) : TVal)) cVal_len (by simpa using hml) (by omega) (by rw [(List.getElem?_eq_some_iff.1 hy0).2]; rfl)
      have hy1 := List.getElem?_set_self (l := ((marks mkVal 2 k j l).set j (((m : Int), x.2) : TVal))) (i := j) (a := (((m : Int), (m : Int) + 1) : TVal)) (by simpa using hml)
      have gc1 := only_setCell gc0 (p := ⟨b, off + j * 2 + 1, none⟩) rfl (.int .i64 ((m : Int) + 1))
      try simp only [List.set_set] at oc1
      rw [marks_next hlt _ (by rw [← HM.out]; rfl)] at oc1
      have HO' := Lib.hid oc1
      have HG' := Lib.hid gc1
      clear hy1 oc1 gc1 hy0 oc0 gc0 ho hg hx hml hat
      go_wp2_with fail
      go_roundw
      case rel => exact ⟨j + 1, m + 2, by omega, by rw [HM.out]; omega, by go_num, by go_num, HO'.out, HG'.out⟩
      case measure => simp [intOf]; omega
    · go_wp2_with fail
      go_ret
      have e : j = l.length := by omega
      subst e
      rw [marks_all] at ho
      have hl : (marked mkVal 2 k l.length).length = l.length := length_marked
      refine ⟨ret_int (by rw [HM.out]), ?_, fun e => absurd (List.length_eq_zero_iff.1 (by rw [e] at hl; simpa using hl.symm)) hne, hg⟩
      have := ho.slice (c := c) (by rw [hl]; exact hlc) hcm
      rwa [hl] at this
theorem markValS_at (v : Value) (l : List TVal) (k : Nat) (q : Int) (k' : Nat) (w : World) (lo hi : Nat) (h : OwnI w lo hi 2 cVal v l) (hk : k' = k + 2 * l.length) (h0 : 0 < k ∧ q = k) (hn : k' ≤ 1099511627776) :
    Calls Tryz.prog 52 #[v, .int .i64 q] w fun e w' => e = .returned (.int .i64 (k' : Int)) ∧ OwnI w' lo hi 2 cVal v (marked mkVal 2 k l.length) ∧ Only lo hi w w' := by
  obtain ⟨h0, rfl⟩ := h0
  subst hk
  exact (markValS_any v l k lo w h.1 h0 hn).mono fun _ _ hh => hh.own h rfl length_marked

set_option maxHeartbeats 2000000 in
theorem heldValS_any (v : Value) (n : Nat) (k : Nat) (w : World) (h : RdS w w.heap.size 2 cVal v (marked mkVal 2 k n)) (h0 : 0 < k) (hn : k + 2 * n ≤ 1099511627776) :
    Calls Tryz.prog 54 #[v, .int .i64 (k : Int)] w (Held (k + 2 * n) w) := by
  obtain ⟨A, c, rfl, hlc, hcm, hcell⟩ := h
  have hml : (marked mkVal 2 k n).length = n := length_marked
  rw [hml] at hlc ⊢
  go_enter Tryz.func54, Tryz.ntmps54
  go_wp2_with fail
  go_loopw [1, 5] (fun q i wr => ∃ j m : Nat, j ≤ n ∧ m = k + 2 * j ∧ i = .int .i64 j ∧ q = .int .i64 m ∧ Below w.heap.size w wr) (fun _ i _ => n - (intOf i).toNat)
  case atStart => exact ⟨0, k, Nat.zero_le _, rfl, rfl, rfl, Below.refl _ _⟩
  case round =>
    obtain ⟨j, m, hj, hm, rfl, rfl, hb⟩ := hrel
    have hm1 : 0 < m := by omega
    have hm2 : m + 2 * (n - j) ≤ 1099511627776 := by omega
    by_cases hlt : j < n
    · obtain ⟨b, off, rfl, hbb, hc⟩ := hcell (by intro e; rw [e] at hml; simp at hml; omega)
      have gx0 := (hb.cell (p := ⟨b, off + j * 2 + 0, none⟩) hbb).trans (hc j _ (marked_get hlt) 0 _ rfl)
      rw [← hm] at gx0
      have hx0 : wr.cell? ⟨b, off + j * 2 + 0, none⟩ = some (.int .i64 ((m : Int))) := gx0
      clear gx0
      simp only [Nat.add_zero] at hx0
      have gx1 := (hb.cell (p := ⟨b, off + j * 2 + 1, none⟩) hbb).trans (hc j _ (marked_get hlt) 1 _ rfl)
      rw [← hm] at gx1
      have hx1 : wr.cell? ⟨b, off + j * 2 + 1, none⟩ = some (.int .i64 ((m : Int) + 1)) := gx1
      clear gx1
      have HM := Lib.hid hm
      have hbw : b < wr.heap.size := Nat.lt_of_lt_of_le hbb hb.size
      clear hm hc hcell hml
      go_wp2_with fail
      go_roundw
      case rel => exact ⟨j + 1, m + 2, by omega, by rw [HM.out]; omega, by go_num, by go_num, hb⟩
      case measure => simp [intOf]; omega
    · go_wp2_with fail
      go_ret
      have e : j = n := by omega
      subst e
      exact ⟨ret_int (by rw [hm]), hb⟩
theorem heldValS_at (v : Value) (n k : Nat) (q : Int) (k' : Nat) (w : World) (h : RdS w w.heap.size 2 cVal v (marked mkVal 2 k n)) (hk : k' = k + 2 * n) (h0 : 0 < k ∧ q = k) (hn : k' ≤ 1099511627776) :
    Calls Tryz.prog 54 #[v, .int .i64 q] w (Held k' w) := by
  obtain ⟨h0, rfl⟩ := h0
  subst hk
  exact heldValS_any v n k w h h0 hn

end Go.Proofs.YtimnogjgokljbaaGreatDoor

end
section
/-!
  Marking and holding slices of CSig, by contracts.
-/
namespace Go.Proofs.YtimnogjgokljbaaGreatDoor
set_option maxRecDepth 100000
set_option linter.unusedVariables false
set_option linter.unusedSimpArgs false
open Go.RowKit

def mkCSig (k : Nat) : TCSig := ((k : Int), mtext (k + 1))
theorem cCSig_len (x : TCSig) : (cCSig x).length = 2 := rfl
set_option maxHeartbeats 2000000 in
theorem markCSigS_any (v : Value) (l : List TCSig) (k B0 : Nat) (w : World) (h : OwnS w B0 2 cCSig v l) (h0 : 0 < k) (hn : k + 2 * l.length ≤ 1099511627776) :
    Calls Tryz.prog 81 #[v, .int .i64 (k : Int)] w (Marks B0 2 cCSig v (marked mkCSig 2 k l.length) (k + 2 * l.length) w) := by
  by_cases hne : l = []
  · subst hne
    obtain ⟨A, c, rfl, h1, h2, h3⟩ := h
    go_enter Tryz.func81, Tryz.ntmps81
    go_wp2_with fail
    refine wp_loop_rounds 1 ?_
    rw [rounds_succ]
    go_wp2_with fail
    go_ret
    exact ⟨rfl, ⟨A, c, rfl, h1, h2, fun e => absurd rfl e⟩, fun _ => rfl, World.grownBy.refl _ _⟩
  obtain ⟨b, off, c, rfl, hlc, hcm, hat⟩ := h.at_ hne
  clear h
  go_enter Tryz.func81, Tryz.ntmps81
  go_wp2_with fail
  go_loopw [1, 5] (fun q i wr => ∃ j m : Nat, j ≤ l.length ∧ m = k + 2 * j ∧ i = .int .i64 j ∧ q = .int .i64 m ∧ OwnAt wr B0 2 cCSig b off (marks mkCSig 2 k j l) ∧ w.grownBy wr (some b)) (fun _ i _ => l.length - (intOf i).toNat)
  case atStart => exact ⟨0, k, Nat.zero_le _, rfl, rfl, rfl, by rw [marks_zero]; exact hat, World.grownBy.refl _ _⟩
  case round =>
    obtain ⟨j, m, hj, hm, rfl, rfl, ho, hg⟩ := hrel
    have hm1 : 0 < m := by omega
    have hm2 : m + 2 * (l.length - j) ≤ 1099511627776 := by omega
    have HM := Lib.hid hm
    clear hm
    by_cases hlt : j < l.length
    · have hml : j < (marks mkCSig 2 k j l).length := by rw [length_marks hj]; exact hlt
      obtain ⟨x, hx⟩ : ∃ x, (marks mkCSig 2 k j l)[j]? = some x := ⟨_, List.getElem?_eq_getElem hml⟩
      obtain ⟨u0, hx0⟩ := ho.old cCSig_len (i := j) (by simpa using hml) (j := 0) (by omega)
      have hf0 := ho.2.2.1 (off + j * 2 + 0)
      simp only [Nat.add_zero] at hx0 hf0
      have oc0 := ho.field (i := j) (j := 0) (u := .int .i64 ((m : Int))) (y := (((m : Int), x.2) : TCSig)) cCSig_len (by simpa using hml) (by omega) (by rw [(List.getElem?_eq_some_iff.1 hx).2]; rfl)
      have hy0 := List.getElem?_set_self (l := (marks mkCSig 2 k j l)) (i := j) (a := (((m : Int), x.2) : TCSig)) (by simpa using hml)
      have gc0 := only_setCell hg (p := ⟨b, off + j * 2 + 0, none⟩) rfl (.int .i64 ((m : Int)))
      simp only [Nat.add_zero] at oc0 gc0
      have OC0 := Lib.hid oc0
      have GC0 := Lib.hid gc0
      have HY0 := Lib.hid hy0
      clear oc0 gc0 hy0
      go_wp2_with fail
      refine (markText_at (m + 1) _ _ (by omega) (by omega) (by omega)).mono ?_
      rintro e w2 ⟨rfl, hb2⟩
      have ob1 := OC0.out.below hb2
      have gb1 := only_below GC0.out hb2
      obtain ⟨u1, hx1⟩ := ob1.old cCSig_len (i := j) (by simpa using hml) (j := 1) (by omega)
      have hf1 := ob1.2.2.1 (off + j * 2 + 1)
      have oc1 := ob1.field (i := j) (j := 1) (u := .string (mtext (m + 1))) (y := (((m : Int), mtext (m + 1)) : TCSig)) cCSig_len (by simpa using hml) (by omega) (by rw [(List.getElem?_eq_some_iff.1 HY0.out).2]; rfl)
      have hy1 := List.getElem?_set_self (l := ((marks mkCSig 2 k j l).set j (((m : Int), x.2) : TCSig))) (i := j) (a := (((m : Int), mtext (m + 1)) : TCSig)) (by simpa using hml)
      have gc1 := only_setCell gb1 (p := ⟨b, off + j * 2 + 1, none⟩) rfl (.string (mtext (m + 1)))
      try simp only [List.set_set] at oc1
      rw [marks_next hlt _ (by rw [← HM.out]; rfl)] at oc1
      have HO' := Lib.hid oc1
      have HG' := Lib.hid gc1
      clear oc1 gc1 hy1 ob1 gb1 hb2 hat
      go_wp2_with fail
      go_roundw
      case rel => exact ⟨j + 1, m + 2, by omega, by rw [HM.out]; omega, by go_num, by go_num, HO'.out, HG'.out⟩
      case measure => simp [intOf]; omega
    · go_wp2_with fail
      go_ret
      have e : j = l.length := by omega
      subst e
      rw [marks_all] at ho
      have hl : (marked mkCSig 2 k l.length).length = l.length := length_marked
      refine ⟨ret_int (by rw [HM.out]), ?_, fun e => absurd (List.length_eq_zero_iff.1 (by rw [e] at hl; simpa using hl.symm)) hne, hg⟩
      have := ho.slice (c := c) (by rw [hl]; exact hlc) hcm
      rwa [hl] at this
theorem markCSigS_at (v : Value) (l : List TCSig) (k : Nat) (q : Int) (k' : Nat) (w : World) (lo hi : Nat) (h : OwnI w lo hi 2 cCSig v l) (hk : k' = k + 2 * l.length) (h0 : 0 < k ∧ q = k) (hn : k' ≤ 1099511627776) :
    Calls Tryz.prog 81 #[v, .int .i64 q] w fun e w' => e = .returned (.int .i64 (k' : Int)) ∧ OwnI w' lo hi 2 cCSig v (marked mkCSig 2 k l.length) ∧ Only lo hi w w' := by
  obtain ⟨h0, rfl⟩ := h0
  subst hk
  exact (markCSigS_any v l k lo w h.1 h0 hn).mono fun _ _ hh => hh.own h rfl length_marked


end Go.Proofs.YtimnogjgokljbaaGreatDoor

end
section
/-!
  Anchors and blocks marked and held.
-/
namespace Go.Proofs.YtimnogjgokljbaaGreatDoor
set_option maxRecDepth 100000
set_option linter.unusedVariables false
set_option linter.unusedSimpArgs false
open Go Go.RowKit
set_option maxHeartbeats 4000000

theorem Marks.toW {α : Type} {s k' : Nat} {f : α → List Value} {v : Value} {l : List α} {w w' : World} {e : Ending} (h : Marks 0 s f v l k' w e w') : MarksW s f v l k' w e w' := ⟨h.1, h.2.1, h.2.2.2⟩
theorem MarksW.after {α : Type} {s k' : Nat} {f : α → List Value} {v : Value} {l : List α} {w w1 w' : World} {e : Ending} (hk : Below w.heap.size w w1) (h : MarksW s f v l k' w1 e w') : MarksW s f v l k' w e w' := by
  obtain ⟨h1, h2, h3⟩ := h
  refine ⟨h1, h2, h3.os.trans hk.os, h3.tape.trans hk.tape, h3.output.trans hk.output, Nat.le_trans hk.size h3.size, fun k hlt hne => ?_⟩
  rw [h3.block k (Nat.lt_of_lt_of_le hlt hk.size) hne]
  exact hk.block k hlt
theorem OwnS.below_ {α : Type} {w w' : World} {s : Nat} {f : α → List Value} {v : Value} {l : List α} (h : OwnS w 0 s f v l) (hk : Below w.heap.size w w') : OwnS w' 0 s f v l := h.blk' hk.size fun q hq _ => hk.block q hq
abbrev lsAn (h : THeader) (a : PL) : List PL := [.sc (.int .i64 h.1), .sc (.int .i64 h.2.1), .sc (.string h.2.2.1), .sc (.string h.2.2.2.1), .sc (.string h.2.2.2.2.1), .sc (.string h.2.2.2.2.2), a]
theorem markAn_own (hd : THeader) (n : Nat) (l : List TVal) (m m' : Nat) (hm0 : 0 < m) (hm : m' = m + 2 * l.length) (hn : m' ≤ 1099511627776) (v : Value) (w : World) (h : OwnS w 0 2 cVal v l) :
    Calls Tryz.prog 15 #[.agg ((lsAn hd (.all n)).map (plV v)).toArray, .int .i64 (m : Int)] w (MarksW 2 cVal v (marked mkVal 2 m l.length) m' w) := by
  subst hm
  obtain ⟨A, c, rfl⟩ := h.shape
  have H := Lib.hid h
  clear h
  simp only [List.map_cons, List.map_nil, plV]
  go_enter Tryz.func15, Tryz.ntmps15
  go_wp2_with fail
  refine (markValS_any _ l m 0 _ (H.out.keeps ?g1) hm0 hn).mono ?_
  case g1 => exact show Below _ _ _ by go_grown
  rintro e w1 hmk
  obtain ⟨rfl, o1, y1⟩ := (Marks.toW hmk).after (w := w) (show Below _ _ _ by go_grown)
  have O1 := Lib.hid o1
  have Y1 := Lib.hid y1
  clear o1 y1 hmk
  go_wp2_with fail
  go_ret
  exact ⟨rfl, O1.out, Y1.out⟩
theorem markCm_any (ch cr : Int) (ci : ByteArray) (v : Value) (l : List TCSig) (k : Nat) (w : World) (h : OwnS w 0 2 cCSig v l) (h0 : 0 < k) (hn : k + 2 * l.length ≤ 1099511627776) :
    Calls Tryz.prog 53 #[.agg #[.int .i64 ch, .int .i64 cr, .string ci, v], .int .i64 (k : Int)] w (MarksW 2 cCSig v (marked mkCSig 2 k l.length) (k + 2 * l.length) w) := by
  obtain ⟨A, c, rfl⟩ := h.shape
  have H := Lib.hid h
  clear h
  go_enter Tryz.func53, Tryz.ntmps53
  go_wp2_with fail
  refine (markCSigS_any _ l k 0 _ (H.out.keeps ?g1) h0 hn).mono ?_
  case g1 => exact show Below _ _ _ by go_grown
  rintro e w1 hmk
  obtain ⟨rfl, o1, y1⟩ := (Marks.toW hmk).after (w := w) (show Below _ _ _ by go_grown)
  have O1 := Lib.hid o1
  have Y1 := Lib.hid y1
  clear o1 y1 hmk
  go_wp2_with fail
  go_ret
  exact ⟨rfl, O1.out, Y1.out⟩
theorem OwnS.grown {α : Type} {w w' : World} {o : Option Nat} {s : Nat} {f : α → List Value} {v : Value} {l : List α} (h : OwnS w 0 s f v l) (hg : w.grownBy w' o) (hne : ∀ b, o = some b → v.ownBlock ≠ some b) : OwnS w' 0 s f v l := h.blk' hg.size fun q hq hv => hg.block q hq fun e => hne q e.symm hv
theorem BoxAt.grown {w w' : World} {o : Option Nat} {b : Nat} {cs : List Value} (h : BoxAt w b cs) (k : w.grownBy w' o) (hd : o ≠ some b) : BoxAt w' b cs :=
  ⟨Nat.lt_of_lt_of_le h.1 k.size, fun j u hu => (World.cell?_of_block (a := ⟨b, j, none⟩) (k.block b h.1 fun e => hd e.symm)).trans (h.2 j u hu)⟩
theorem markBk_own (hd : THeader) (ch cr : Int) (ci : ByteArray) (n1 n2 n3 : Nat) (l1 l2 : List TVal) (l3 : List TCSig) (k k' : Nat) (h0 : 0 < k) (hk : k' = k + 2 * l1.length + 2 * l2.length + 2 * l3.length) (hn : k' ≤ 1099511627776) (η : Nat → Value) (w : World)
    (o1 : OwnS w 0 2 cVal (η n1) l1) (o2 : OwnS w 0 2 cVal (η n2) l2) (o3 : OwnS w 0 2 cCSig (η n3) l3) (d12 : ∀ b, (η n1).ownBlock = some b → (η n2).ownBlock ≠ some b) (d13 : ∀ b, (η n1).ownBlock = some b → (η n3).ownBlock ≠ some b) (d23 : ∀ b, (η n2).ownBlock = some b → (η n3).ownBlock ≠ some b) (u1 : ∀ b, (η n1).ownBlock = some b → b < w.heap.size) (u2 : ∀ b, (η n2).ownBlock = some b → b < w.heap.size) :
    Calls Tryz.prog 16 #[.agg (([.sc (.int .i64 hd.1), .sc (.int .i64 hd.2.1), .sc (.string hd.2.2.1), .sc (.string hd.2.2.2.1), .sc (.string hd.2.2.2.2.1), .sc (.string hd.2.2.2.2.2), .all n1, .all n2, .sc (.int .i64 ch), .sc (.int .i64 cr), .sc (.string ci), .all n3] : List PL).map (plVη η)).toArray, .int .i64 (k : Int)] w
      (Marks3 2 cVal (η n1) (marked mkVal 2 k l1.length) 2 cVal (η n2) (marked mkVal 2 (k + 2 * l1.length) l2.length) 2 cCSig (η n3) (marked mkCSig 2 (k + 2 * l1.length + 2 * l2.length) l3.length) k' w) := by
  subst hk
  simp only [List.map_cons, List.map_nil, plVη]
  generalize η n1 = v1 at *
  generalize η n2 = v2 at *
  generalize η n3 = v3 at *
  obtain ⟨A1, c1, rfl⟩ := o1.shape
  obtain ⟨A2, c2, rfl⟩ := o2.shape
  obtain ⟨A3, c3, rfl⟩ := o3.shape
  have b1 : k + 2 * l1.length ≤ 1099511627776 := by omega
  have b2 : k + 2 * l1.length + 2 * l2.length ≤ 1099511627776 := by omega
  have H1 := Lib.hid o1
  have H2 := Lib.hid o2
  have H3 := Lib.hid o3
  have D12 := Lib.hid d12
  have D13 := Lib.hid d13
  have D23 := Lib.hid d23
  have U1 := Lib.hid u1
  have U2 := Lib.hid u2
  clear o1 o2 o3 d12 d13 d23 u1 u2
  have bx : BoxAt (w.alloc (.cells ([.int .i64 hd.1, .int .i64 hd.2.1, .string hd.2.2.1, .string hd.2.2.2.1, .string hd.2.2.2.2.1, .string hd.2.2.2.2.2, .slice A1 l1.length c1, .slice A2 l2.length c2, .int .i64 ch, .int .i64 cr, .string ci, .slice A3 l3.length c3] : List Value).toArray 49)) w.heap.size [.int .i64 hd.1, .int .i64 hd.2.1, .string hd.2.2.1, .string hd.2.2.2.1, .string hd.2.2.2.2.1, .string hd.2.2.2.2.2, .slice A1 l1.length c1, .slice A2 l2.length c2, .int .i64 ch, .int .i64 cr, .string ci, .slice A3 l3.length c3] := BoxAt.new _ _ _
  have BX := Lib.hid bx
  clear bx
  go_enter Tryz.func16, Tryz.ntmps16
  go_wp2_with fail
  refine (markValS_any _ l1 k 0 _ (H1.out.keeps ?g1) h0 b1).mono ?_
  case g1 => exact show Below _ _ _ by go_grown
  rintro e w1 hmk
  have bx1 : BoxAt w1 w.heap.size [.int .i64 hd.1, .int .i64 hd.2.1, .string hd.2.2.1, .string hd.2.2.2.1, .string hd.2.2.2.2.1, .string hd.2.2.2.2.2, .slice A1 l1.length c1, .slice A2 l2.length c2, .int .i64 ch, .int .i64 cr, .string ci, .slice A3 l3.length c3] := by
    refine BoxAt.grown (BoxAt.kp BX.out ?g) hmk.2.2.2 ?h
    case g => exact show Below _ _ _ by go_grown
    case h => exact fun h => Nat.lt_irrefl _ (U1.out _ h)
  have f7 := bx1.2 7 _ rfl
  have BX1 := Lib.hid bx1
  obtain ⟨rfl, x1, y1⟩ := (Marks.toW hmk).after (w := w) (show Below _ _ _ by go_grown)
  clear bx1
  have z2 := H2.out.grown y1 D12.out
  have z3 := H3.out.grown y1 D13.out
  have X1 := Lib.hid x1
  have Y1 := Lib.hid y1
  have Z2 := Lib.hid z2
  have Z3 := Lib.hid z3
  clear x1 y1 hmk z2 z3 H1 H2 H3
  go_wp2_with fail
  refine (markValS_any _ l2 (k + 2 * l1.length) 0 _ (Z2.out.keeps ?g2) (by omega) b2).mono ?_
  case g2 => exact show Below _ _ _ by go_grown
  rintro e w2 hmk
  have bx2 : BoxAt w2 w.heap.size [.int .i64 hd.1, .int .i64 hd.2.1, .string hd.2.2.1, .string hd.2.2.2.1, .string hd.2.2.2.2.1, .string hd.2.2.2.2.2, .slice A1 l1.length c1, .slice A2 l2.length c2, .int .i64 ch, .int .i64 cr, .string ci, .slice A3 l3.length c3] := by
    refine BoxAt.grown (BoxAt.kp BX1.out ?g) hmk.2.2.2 ?h
    case g => exact show Below _ _ _ by go_grown
    case h => exact fun h => Nat.lt_irrefl _ (U2.out _ h)
  have f8 := bx2.2 8 _ rfl
  have f9 := bx2.2 9 _ rfl
  have f10 := bx2.2 10 _ rfl
  have f11 := bx2.2 11 _ rfl
  obtain ⟨rfl, x2, y2⟩ := (Marks.toW hmk).after (w := w1) (show Below _ _ _ by go_grown)
  clear bx2 f7
  have z1 := X1.out.grown y2 (fun b h h' => D12.out b h' h)
  have z3 := Z3.out.grown y2 D23.out
  have X2 := Lib.hid x2
  have Y2 := Lib.hid y2
  have Z1 := Lib.hid z1
  have Z3' := Lib.hid z3
  clear x2 y2 hmk z1 z3 Z3 X1 Z2
  go_wp2_with fail
  refine (markCm_any ch cr ci _ l3 (k + 2 * l1.length + 2 * l2.length) _ (Z3'.out.keeps ?g3) (by omega) hn).mono ?_
  case g3 => exact show Below _ _ _ by go_grown
  rintro e w3 hmk
  obtain ⟨rfl, x3, y3⟩ := hmk.after (w := w2) (show Below _ _ _ by go_grown)
  have z1 := Z1.out.grown y3 (fun b h h' => D13.out b h' h)
  have z2 := X2.out.grown y3 (fun b h h' => D23.out b h' h)
  have X3 := Lib.hid x3
  have Y3 := Lib.hid y3
  have ZZ1 := Lib.hid z1
  have ZZ2 := Lib.hid z2
  clear x3 y3 hmk z1 z2 Z1 X2 Z3'
  go_wp2_with fail
  go_ret
  have y1 := Y1.out
  have y2 := Y2.out
  have y3 := Y3.out
  exact ⟨rfl, ⟨ZZ1.out, ZZ2.out, X3.out⟩, ⟨(y3.os.trans y2.os).trans y1.os, (y3.tape.trans y2.tape).trans y1.tape, (y3.output.trans y2.output).trans y1.output, Nat.le_trans y1.size (Nat.le_trans y2.size y3.size)⟩,
    fun q hq h1 h2 h3 => (y3.block q (Nat.lt_of_lt_of_le hq (Nat.le_trans y1.size y2.size)) (fun e => h3 e.symm)).trans ((y2.block q (Nat.lt_of_lt_of_le hq y1.size) (fun e => h2 e.symm)).trans (y1.block q hq (fun e => h1 e.symm)))⟩
noncomputable def mHeldV := mdl (fun x : Nat × Nat => 0 < x.1 ∧ x.1 + 2 * x.2 ≤ 1099511627776) (fun x => [aL cVal (marked mkVal 2 x.1 x.2), aI (x.1 : Int)]) (fun x => rI ((x.1 + 2 * x.2 : Nat) : Int))
theorem mHeldV_eq (k n : Nat) (h0 : 0 < k) (hn : k + 2 * n ≤ 1099511627776) : mHeldV [aL cVal (marked mkVal 2 k n), aI (k : Int)] = some (rI ((k + 2 * n : Nat) : Int)) := mdl_eq (enc := fun x : Nat × Nat => [aL cVal (marked mkVal 2 x.1 x.2), aI (x.1 : Int)]) (by
  rintro ⟨a, b⟩ ⟨c, d⟩ h
  simp only [List.cons.injEq, Arg.val.injEq, Leaf.sl.injEq, Leaf.sc.injEq, Value.int.injEq, true_and, and_true] at h
  obtain ⟨h1, h2⟩ := h
  have hac : a = c := by omega
  have hl := congrArg List.length h1
  rw [rowsF_len, rowsF_len, length_marked, length_marked] at hl
  rw [hac, hl]) (k, n) ⟨h0, hn⟩
theorem heldV_s : Sound Tryz.prog 54 mHeldV := Sound.says (fun _ => rfl) fun x vs w hok hr => by
  obtain ⟨k, n⟩ := x
  obtain ⟨h0, hn⟩ := hok
  obtain ⟨h1, h2⟩ := hr
  obtain ⟨v0, e0, r0⟩ := h2 0 _ rfl
  obtain ⟨v1, e1, r1⟩ := h2 1 _ rfl
  obtain ⟨x, ex, rx⟩ := r1
  cases ex
  cases rx
  match vs, h1 with
  | [a, b], _ =>
    cases e0
    cases e1
    exact heldValS_any v0 n k w (rep_RdS (fun _ => rfl) (repA_list_inv r0)) h0 hn
abbrev TAnK := THeader × Nat × Nat
abbrev aAnK (x : TAnK) : List Arg := [aAn (x.1, marked mkVal 2 x.2.1 x.2.2), aI (x.2.1 : Int)]
theorem aAnK_inj : ∀ x y, aAnK x = aAnK y → x = y := by
  rintro ⟨⟨a, b, c, d, e, f⟩, k, n⟩ ⟨⟨a', b', c', d', e', f'⟩, k', n'⟩ h
  simp only [aAnK, aAn, List.cons.injEq, Arg.val.injEq, Leaf.sl.injEq, Leaf.sc.injEq, Value.int.injEq, Value.string.injEq, true_and, and_true] at h
  obtain ⟨⟨h1, h2, h3, h4, h5, h6, h7⟩, h8⟩ := h
  have hac : k = k' := by omega
  have hl := congrArg List.length h7
  rw [rowsF_len, rowsF_len, length_marked, length_marked] at hl
  rw [h1, h2, h3, h4, h5, h6, hac, hl]
noncomputable def mHeldAn := mdl (fun x : TAnK => 0 < x.2.1 ∧ x.2.1 + 2 * x.2.2 ≤ 1099511627776) aAnK (fun x => rI ((x.2.1 + 2 * x.2.2 : Nat) : Int))
theorem mHeldAn_eq (h : THeader) (k n : Nat) (h0 : 0 < k) (hn : k + 2 * n ≤ 1099511627776) : mHeldAn [aAn (h, marked mkVal 2 k n), aI (k : Int)] = some (rI ((k + 2 * n : Nat) : Int)) := mdl_eq aAnK_inj (h, k, n) ⟨h0, hn⟩
theorem heldAn_s : Sound Tryz.prog 17 mHeldAn := by
  refine Sound.mdl Tryz.func17 rfl Tryz.ntmps17 ?_
  rintro ⟨⟨h, t, la, va, ne, da⟩, k, n⟩ w ⟨h0, hn⟩
  refine ⟨by simp, ?_⟩
  dsimp only at h0 hn
  have hΓ : GSound Tryz.prog (look [(54, mHeldV)]) := env_cons (has_of Tryz.func54 rfl rfl) heldV_s env_nil
  have c1 := mHeldV_eq k n h0 hn
  have hng : ¬ ((k + 2 * n : Nat) : Int) < 0 := by omega
  dsimp only [aL] at c1
  simp only [initS, argPV, List.map_cons, List.map_nil, toPL, Nat.zero_add]
  generalize marked mkVal 2 k n = l at *
  generalize k + 2 * n = K at *
  repeat (first | with_reducible (first | apply W.seq | apply W.block | apply W.skip | apply W.exit | apply W.ret | apply At.seqN | apply At.blkN | apply At.blkE | apply At.blkR | apply At.thenX | apply At.thenR | apply At.blkX rfl) | ((with_reducible apply W.ops); (repeat (first | refine WL.opA hΓ (h := ?_) | refine WL.opX hΓ (h := ?_) | refine WL.opY (h := ?_) | refine WL.opZ (h := ?_))); with_reducible apply WL.nil) | refine W.condT (h := ?_) | refine W.condF (h := ?_))
  refine At.retA (by rw [Tryz.results17]) (he := rfl)
end Go.Proofs.YtimnogjgokljbaaGreatDoor

end
