/-
  Put together: PMarkVal PEvMkE PEvMk3 PMarkCSig PEvSkipM.
-/
import Derived.Test.YtfgkfcfplodaoaaGreatDoorG32
import Derived.Test.YtfgkfcfplodaoaaGreatDoorG8
import Derived.Test.YtfgkfcfplodaoaaGreatDoorG33
import Derived.Test.YtfgkfcfplodaoaaGreatDoorG21
import Derived.Test.YtfgkfcfplodaoaaGreatDoorG18
import Derived.Test.YtfgkfcfplodaoaaGreatDoorHPEvCVals
import Derived.Test.YtfgkfcfplodaoaaGreatDoorHPIval
section
/-!
  Marking and holding slices of Val, by contracts.
-/
namespace Go.Proofs.YtfgkfcfplodaoaaGreatDoor
set_option maxRecDepth 100000
set_option linter.unusedVariables false
set_option linter.unusedSimpArgs false
open Go.RowKit

def mkVal (k : Nat) : TVal := ((k : Int), (k : Int) + 1)
theorem cVal_len (x : TVal) : (cVal x).length = 2 := rfl
set_option maxHeartbeats 2000000 in
theorem markValS_any (v : Value) (l : List TVal) (k B0 : Nat) (w : World) (h : OwnS w B0 2 cVal v l) (h0 : 0 < k) (hn : k + 2 * l.length ≤ 1099511627776) :
    Calls Tryz.prog 89 #[v, .int .i64 (k : Int)] w (Marks B0 2 cVal v (marked mkVal 2 k l.length) (k + 2 * l.length) w) := by
  by_cases hne : l = []
  · subst hne
    obtain ⟨A, c, rfl, h1, h2, h3⟩ := h
    go_enter Tryz.func89, Tryz.ntmps89
    go_wp2_with fail
    refine wp_loop_rounds 1 ?_
    rw [rounds_succ]
    go_wp2_with fail
    go_ret
    exact ⟨rfl, ⟨A, c, rfl, h1, h2, fun e => absurd rfl e⟩, fun _ => rfl, World.grownBy.refl _ _⟩
  obtain ⟨b, off, c, rfl, hlc, hcm, hat⟩ := h.at_ hne
  clear h
  go_enter Tryz.func89, Tryz.ntmps89
  go_wp2_with fail
  go_loopw [1, 5] (fun q i wr => ∃ j m : Nat, j ≤ l.length ∧ m = k + 2 * j ∧ i = .int .i64 j ∧ q = .int .i64 m ∧ OwnAt wr B0 2 cVal b off (marks mkVal 2 k j l) ∧ w.grownBy wr (some b)) (fun _ i _ => l.length - (intOf i).toNat)
  case atStart => exact ⟨0, k, Nat.zero_le _, rfl, rfl, rfl, by rw [marks_zero]; exact hat, World.grownBy.refl _ _⟩
  case round =>
    obtain ⟨j, m, hj, hm, rfl, rfl, ho, hg⟩ := hrel
    have hm1 : 0 < m := by omega
    have hm2 : m + 2 * (l.length - j) ≤ 1099511627776 := by omega
    have HM := Lib.hid hm
    clear hm
    by_cases hlt : j < l.length
    · have hml : j < (marks mkVal 2 k j l).length := by rw [length_marks hj]; exact hlt
      obtain ⟨x, hx⟩ : ∃ x, (marks mkVal 2 k j l)[j]? = some x := ⟨_, List.getElem?_eq_getElem hml⟩
      obtain ⟨u0, hx0⟩ := ho.old cVal_len (i := j) (by simpa using hml) (j := 0) (by omega)
      have hf0 := ho.2.2.1 (off + j * 2 + 0)
      simp only [Nat.add_zero] at hx0 hf0
      obtain ⟨u1, hx1⟩ := ho.old cVal_len (i := j) (by simpa using hml) (j := 1) (by omega)
      have hf1 := ho.2.2.1 (off + j * 2 + 1)
      have oc0 := ho.field (i := j) (j := 0) (u := .int .i64 ((m : Int))) (y := (((m : Int), x.2) : TVal)) cVal_len (by simpa using hml) (by omega) (by rw [(List.getElem?_eq_some_iff.1 hx).2]; rfl)
      have hy0 := List.getElem?_set_self (l := (marks mkVal 2 k j l)) (i := j) (a := (((m : Int), x.2) : TVal)) (by simpa using hml)
      have gc0 := only_setCell hg (p := ⟨b, off + j * 2 + 0, none⟩) rfl (.int .i64 ((m : Int)))
      simp only [Nat.add_zero] at oc0 gc0
      have oc1 := oc0.field (i := j) (j := 1) (u := .int .i64 ((m : Int) + 1)) (y := (((m : Int), (m : Int) + 1) : TVal)) cVal_len (by simpa using hml) (by omega) (by rw [(List.getElem?_eq_some_iff.1 hy0).2]; rfl)
      have hy1 := List.getElem?_set_self (l := ((marks mkVal 2 k j l).set j (((m : Int), x.2) : TVal))) (i := j) (a := (((m : Int), (m : Int) + 1) : TVal)) (by simpa using hml)
      have gc1 := only_setCell gc0 (p := ⟨b, off + j * 2 + 1, none⟩) rfl (.int .i64 ((m : Int) + 1))
      try simp only [List.set_set] at oc1
      rw [marks_next hlt _ (by rw [← HM.out]; rfl)] at oc1
      have HO' := Lib.hid oc1
      have HG' := Lib.hid gc1
      clear hy1 oc1 gc1 hy0 oc0 gc0 ho hg hx hml hat
      go_wp2_with fail
      go_roundw
      case rel => exact ⟨j + 1, m + 2, by omega, by rw [HM.out]; omega, by go_num, by go_num, HO'.out, HG'.out⟩
      case measure => simp [intOf]; omega
    · go_wp2_with fail
      go_ret
      have e : j = l.length := by omega
      subst e
      rw [marks_all] at ho
      have hl : (marked mkVal 2 k l.length).length = l.length := length_marked
      refine ⟨ret_int (by rw [HM.out]), ?_, fun e => absurd (List.length_eq_zero_iff.1 (by rw [e] at hl; simpa using hl.symm)) hne, hg⟩
      have := ho.slice (c := c) (by rw [hl]; exact hlc) hcm
      rwa [hl] at this
set_option maxHeartbeats 2000000 in
theorem heldValS_any (v : Value) (n : Nat) (k : Nat) (w : World) (h : RdS w w.heap.size 2 cVal v (marked mkVal 2 k n)) (h0 : 0 < k) (hn : k + 2 * n ≤ 1099511627776) :
    Calls Tryz.prog 92 #[v, .int .i64 (k : Int)] w (Held (k + 2 * n) w) := by
  obtain ⟨A, c, rfl, hlc, hcm, hcell⟩ := h
  have hml : (marked mkVal 2 k n).length = n := length_marked
  rw [hml] at hlc ⊢
  go_enter Tryz.func92, Tryz.ntmps92
  go_wp2_with fail
  go_loopw [1, 5] (fun q i wr => ∃ j m : Nat, j ≤ n ∧ m = k + 2 * j ∧ i = .int .i64 j ∧ q = .int .i64 m ∧ Below w.heap.size w wr) (fun _ i _ => n - (intOf i).toNat)
  case atStart => exact ⟨0, k, Nat.zero_le _, rfl, rfl, rfl, Below.refl _ _⟩
  case round =>
    obtain ⟨j, m, hj, hm, rfl, rfl, hb⟩ := hrel
    have hm1 : 0 < m := by omega
    have hm2 : m + 2 * (n - j) ≤ 1099511627776 := by omega
    by_cases hlt : j < n
    · obtain ⟨b, off, rfl, hbb, hc⟩ := hcell (by intro e; rw [e] at hml; simp at hml; omega)
      have gx0 := (hb.cell (p := ⟨b, off + j * 2 + 0, none⟩) hbb).trans (hc j _ (marked_get hlt) 0 _ rfl)
      rw [← hm] at gx0
      have hx0 : wr.cell? ⟨b, off + j * 2 + 0, none⟩ = some (.int .i64 ((m : Int))) := gx0
      clear gx0
      simp only [Nat.add_zero] at hx0
      have gx1 := (hb.cell (p := ⟨b, off + j * 2 + 1, none⟩) hbb).trans (hc j _ (marked_get hlt) 1 _ rfl)
      rw [← hm] at gx1
      have hx1 : wr.cell? ⟨b, off + j * 2 + 1, none⟩ = some (.int .i64 ((m : Int) + 1)) := gx1
      clear gx1
      have HM := Lib.hid hm
      have hbw : b < wr.heap.size := Nat.lt_of_lt_of_le hbb hb.size
      clear hm hc hcell hml
      go_wp2_with fail
      go_roundw
      case rel => exact ⟨j + 1, m + 2, by omega, by rw [HM.out]; omega, by go_num, by go_num, hb⟩
      case measure => simp [intOf]; omega
    · go_wp2_with fail
      go_ret
      have e : j = n := by omega
      subst e
      exact ⟨ret_int (by rw [hm]), hb⟩
end Go.Proofs.YtfgkfcfplodaoaaGreatDoor

end
section
/-!
  Marking a row of eras: every cell of it, and of the rows within it.
-/
namespace Go.Proofs.YtfgkfcfplodaoaaGreatDoor
set_option maxRecDepth 100000
set_option linter.unusedVariables false
set_option linter.unusedSimpArgs false
open Go Go.RowKit
set_option maxHeartbeats 4000000
set_option linter.unusedVariables false
set_option linter.unusedSimpArgs false

theorem OwnS.blk {α : Type} {w w' : World} {B0 s : Nat} {f : α → List Value} {v : Value} {l : List α} (h : OwnS w B0 s f v l) (hs : w.heap.size ≤ w'.heap.size) (hb : ∀ q, q < w.heap.size → v.ownBlock = some q → w'.heap[q]? = w.heap[q]?) : OwnS w' B0 s f v l := by
  obtain ⟨A, c, rfl, h1, h2, h3⟩ := h
  refine ⟨A, c, rfl, h1, h2, fun hne => ?_⟩
  obtain ⟨b, off, rfl, g1, g2, g3, g4⟩ := h3 hne
  have hq := hb b g2 rfl
  exact ⟨b, off, rfl, g1, Nat.lt_of_lt_of_le g2 hs, fun o => by rw [World.frozen?_of_block (a := ⟨b, o, none⟩) hq]; exact g3 o, fun i x hi j u hu => by rw [World.cell?_of_block (a := ⟨b, _, none⟩) hq]; exact g4 i x hi j u hu⟩
theorem OwnAt.blk {α : Type} {w w' : World} {B0 s : Nat} {f : α → List Value} {b off : Nat} {l : List α} (h : OwnAt w B0 s f b off l) (hs : w.heap.size ≤ w'.heap.size) (hq : w'.heap[b]? = w.heap[b]?) : OwnAt w' B0 s f b off l := by
  obtain ⟨g1, g2, g3, g4⟩ := h
  exact ⟨g1, Nat.lt_of_lt_of_le g2 hs, fun o => by rw [World.frozen?_of_block (a := ⟨b, o, none⟩) hq]; exact g3 o, fun i x hi j u hu => by rw [World.cell?_of_block (a := ⟨b, _, none⟩) hq]; exact g4 i x hi j u hu⟩
end Go.Proofs.YtfgkfcfplodaoaaGreatDoor

end
section
/-!
  A function marks three rows of one's own at once; all three are data from then on.
-/
namespace Go.Proofs.YtfgkfcfplodaoaaGreatDoor
set_option maxRecDepth 100000
set_option linter.unusedVariables false
set_option linter.unusedSimpArgs false
open Go Go.RowKit
set_option maxHeartbeats 4000000
set_option linter.unusedVariables false
set_option linter.unusedSimpArgs false

theorem OwnS.blk' {α : Type} {w w' : World} {B0 s : Nat} {f : α → List Value} {v : Value} {l : List α} (h : OwnS w B0 s f v l) (hs : w.heap.size ≤ w'.heap.size) (hb : ∀ q, q < w.heap.size → v.ownBlock = some q → w'.heap[q]? = w.heap[q]?) : OwnS w' B0 s f v l := by
  obtain ⟨A, c, rfl, h1, h2, h3⟩ := h
  refine ⟨A, c, rfl, h1, h2, fun hne => ?_⟩
  obtain ⟨b, off, rfl, g1, g2, g3, g4⟩ := h3 hne
  have hq := hb b g2 rfl
  exact ⟨b, off, rfl, g1, Nat.lt_of_lt_of_le g2 hs, fun o => by rw [World.frozen?_of_block (a := ⟨b, o, none⟩) hq]; exact g3 o, fun i x hi j u hu => by rw [World.cell?_of_block (a := ⟨b, _, none⟩) hq]; exact g4 i x hi j u hu⟩
end Go.Proofs.YtfgkfcfplodaoaaGreatDoor

end
section
/-!
  Marking and holding slices of CSig, by contracts.
-/
namespace Go.Proofs.YtfgkfcfplodaoaaGreatDoor
set_option maxRecDepth 100000
set_option linter.unusedVariables false
set_option linter.unusedSimpArgs false
open Go.RowKit

def mkCSig (k : Nat) : TCSig := ((k : Int), mtext (k + 1))
theorem cCSig_len (x : TCSig) : (cCSig x).length = 2 := rfl
set_option maxHeartbeats 2000000 in
theorem markCSigS_any (v : Value) (l : List TCSig) (k B0 : Nat) (w : World) (h : OwnS w B0 2 cCSig v l) (h0 : 0 < k) (hn : k + 2 * l.length ≤ 1099511627776) :
    Calls Tryz.prog 91 #[v, .int .i64 (k : Int)] w (Marks B0 2 cCSig v (marked mkCSig 2 k l.length) (k + 2 * l.length) w) := by
  by_cases hne : l = []
  · subst hne
    obtain ⟨A, c, rfl, h1, h2, h3⟩ := h
    go_enter Tryz.func91, Tryz.ntmps91
    go_wp2_with fail
    refine wp_loop_rounds 1 ?_
    rw [rounds_succ]
    go_wp2_with fail
    go_ret
    exact ⟨rfl, ⟨A, c, rfl, h1, h2, fun e => absurd rfl e⟩, fun _ => rfl, World.grownBy.refl _ _⟩
  obtain ⟨b, off, c, rfl, hlc, hcm, hat⟩ := h.at_ hne
  clear h
  go_enter Tryz.func91, Tryz.ntmps91
  go_wp2_with fail
  go_loopw [1, 5] (fun q i wr => ∃ j m : Nat, j ≤ l.length ∧ m = k + 2 * j ∧ i = .int .i64 j ∧ q = .int .i64 m ∧ OwnAt wr B0 2 cCSig b off (marks mkCSig 2 k j l) ∧ w.grownBy wr (some b)) (fun _ i _ => l.length - (intOf i).toNat)
  case atStart => exact ⟨0, k, Nat.zero_le _, rfl, rfl, rfl, by rw [marks_zero]; exact hat, World.grownBy.refl _ _⟩
  case round =>
    obtain ⟨j, m, hj, hm, rfl, rfl, ho, hg⟩ := hrel
    have hm1 : 0 < m := by omega
    have hm2 : m + 2 * (l.length - j) ≤ 1099511627776 := by omega
    have HM := Lib.hid hm
    clear hm
    by_cases hlt : j < l.length
    · have hml : j < (marks mkCSig 2 k j l).length := by rw [length_marks hj]; exact hlt
      obtain ⟨x, hx⟩ : ∃ x, (marks mkCSig 2 k j l)[j]? = some x := ⟨_, List.getElem?_eq_getElem hml⟩
      obtain ⟨u0, hx0⟩ := ho.old cCSig_len (i := j) (by simpa using hml) (j := 0) (by omega)
      have hf0 := ho.2.2.1 (off + j * 2 + 0)
      simp only [Nat.add_zero] at hx0 hf0
      have oc0 := ho.field (i := j) (j := 0) (u := .int .i64 ((m : Int))) (y := (((m : Int), x.2) : TCSig)) cCSig_len (by simpa using hml) (by omega) (by rw [(List.getElem?_eq_some_iff.1 hx).2]; rfl)
      have hy0 := List.getElem?_set_self (l := (marks mkCSig 2 k j l)) (i := j) (a := (((m : Int), x.2) : TCSig)) (by simpa using hml)
      have gc0 := only_setCell hg (p := ⟨b, off + j * 2 + 0, none⟩) rfl (.int .i64 ((m : Int)))
      simp only [Nat.add_zero] at oc0 gc0
      have OC0 := Lib.hid oc0
      have GC0 := Lib.hid gc0
      have HY0 := Lib.hid hy0
      clear oc0 gc0 hy0
      go_wp2_with fail
      refine (markText_at (m + 1) _ _ (by omega) (by omega) (by omega)).mono ?_
      rintro e w2 ⟨rfl, hb2⟩
      have ob1 := OC0.out.below hb2
      have gb1 := only_below GC0.out hb2
      obtain ⟨u1, hx1⟩ := ob1.old cCSig_len (i := j) (by simpa using hml) (j := 1) (by omega)
      have hf1 := ob1.2.2.1 (off + j * 2 + 1)
      have oc1 := ob1.field (i := j) (j := 1) (u := .string (mtext (m + 1))) (y := (((m : Int), mtext (m + 1)) : TCSig)) cCSig_len (by simpa using hml) (by omega) (by rw [(List.getElem?_eq_some_iff.1 HY0.out).2]; rfl)
      have hy1 := List.getElem?_set_self (l := ((marks mkCSig 2 k j l).set j (((m : Int), x.2) : TCSig))) (i := j) (a := (((m : Int), mtext (m + 1)) : TCSig)) (by simpa using hml)
      have gc1 := only_setCell gb1 (p := ⟨b, off + j * 2 + 1, none⟩) rfl (.string (mtext (m + 1)))
      try simp only [List.set_set] at oc1
      rw [marks_next hlt _ (by rw [← HM.out]; rfl)] at oc1
      have HO' := Lib.hid oc1
      have HG' := Lib.hid gc1
      clear oc1 gc1 hy1 ob1 gb1 hb2 hat
      go_wp2_with fail
      go_roundw
      case rel => exact ⟨j + 1, m + 2, by omega, by rw [HM.out]; omega, by go_num, by go_num, HO'.out, HG'.out⟩
      case measure => simp [intOf]; omega
    · go_wp2_with fail
      go_ret
      have e : j = l.length := by omega
      subst e
      rw [marks_all] at ho
      have hl : (marked mkCSig 2 k l.length).length = l.length := length_marked
      refine ⟨ret_int (by rw [HM.out]), ?_, fun e => absurd (List.length_eq_zero_iff.1 (by rw [e] at hl; simpa using hl.symm)) hne, hg⟩
      have := ho.slice (c := c) (by rw [hl]; exact hlc) hcm
      rwa [hl] at this
end Go.Proofs.YtfgkfcfplodaoaaGreatDoor

end
section
/-!
  Anchors and blocks marked and held.
-/
namespace Go.Proofs.YtfgkfcfplodaoaaGreatDoor
set_option maxRecDepth 100000
set_option linter.unusedVariables false
set_option linter.unusedSimpArgs false
open Go Go.RowKit
set_option maxHeartbeats 4000000

theorem Marks.toW {α : Type} {s k' : Nat} {f : α → List Value} {v : Value} {l : List α} {w w' : World} {e : Ending} (h : Marks 0 s f v l k' w e w') : MarksW s f v l k' w e w' := ⟨h.1, h.2.1, h.2.2.2⟩
theorem MarksW.after {α : Type} {s k' : Nat} {f : α → List Value} {v : Value} {l : List α} {w w1 w' : World} {e : Ending} (hk : Below w.heap.size w w1) (h : MarksW s f v l k' w1 e w') : MarksW s f v l k' w e w' := by
  obtain ⟨h1, h2, h3⟩ := h
  refine ⟨h1, h2, h3.os.trans hk.os, h3.tape.trans hk.tape, h3.output.trans hk.output, Nat.le_trans hk.size h3.size, fun k hlt hne => ?_⟩
  rw [h3.block k (Nat.lt_of_lt_of_le hlt hk.size) hne]
  exact hk.block k hlt
abbrev lsAn (h : THeader) (a : PL) : List PL := [.sc (.int .i64 h.1), .sc (.int .i64 h.2.1), .sc (.string h.2.2.1), .sc (.string h.2.2.2.1), .sc (.string h.2.2.2.2.1), .sc (.string h.2.2.2.2.2), a]
theorem markAn_own (hd : THeader) (n : Nat) (l : List TVal) (m m' : Nat) (hm0 : 0 < m) (hm : m' = m + 2 * l.length) (hn : m' ≤ 1099511627776) (v : Value) (w : World) (h : OwnS w 0 2 cVal v l) :
    Calls Tryz.prog 34 #[.agg ((lsAn hd (.all n)).map (plV v)).toArray, .int .i64 (m : Int)] w (MarksW 2 cVal v (marked mkVal 2 m l.length) m' w) := by
  subst hm
  obtain ⟨A, c, rfl⟩ := h.shape
  have H := Lib.hid h
  clear h
  simp only [List.map_cons, List.map_nil, plV]
  go_enter Tryz.func34, Tryz.ntmps34
  go_wp2_with fail
  refine (markValS_any _ l m 0 _ (H.out.keeps ?g1) hm0 hn).mono ?_
  case g1 => exact show Below _ _ _ by go_grown
  rintro e w1 hmk
  obtain ⟨rfl, o1, y1⟩ := (Marks.toW hmk).after (w := w) (show Below _ _ _ by go_grown)
  have O1 := Lib.hid o1
  have Y1 := Lib.hid y1
  clear o1 y1 hmk
  go_wp2_with fail
  go_ret
  exact ⟨rfl, O1.out, Y1.out⟩
theorem OwnS.grown {α : Type} {w w' : World} {o : Option Nat} {s : Nat} {f : α → List Value} {v : Value} {l : List α} (h : OwnS w 0 s f v l) (hg : w.grownBy w' o) (hne : ∀ b, o = some b → v.ownBlock ≠ some b) : OwnS w' 0 s f v l := h.blk' hg.size fun q hq hv => hg.block q hq fun e => hne q e.symm hv
theorem BoxAt.grown {w w' : World} {o : Option Nat} {b : Nat} {cs : List Value} (h : BoxAt w b cs) (k : w.grownBy w' o) (hd : o ≠ some b) : BoxAt w' b cs :=
  ⟨Nat.lt_of_lt_of_le h.1 k.size, fun j u hu => (World.cell?_of_block (a := ⟨b, j, none⟩) (k.block b h.1 fun e => hd e.symm)).trans (h.2 j u hu)⟩
noncomputable def mHeldV := mdl (fun x : Nat × Nat => 0 < x.1 ∧ x.1 + 2 * x.2 ≤ 1099511627776) (fun x => [aL cVal (marked mkVal 2 x.1 x.2), aI (x.1 : Int)]) (fun x => rI ((x.1 + 2 * x.2 : Nat) : Int))
theorem mHeldV_eq (k n : Nat) (h0 : 0 < k) (hn : k + 2 * n ≤ 1099511627776) : mHeldV [aL cVal (marked mkVal 2 k n), aI (k : Int)] = some (rI ((k + 2 * n : Nat) : Int)) := mdl_eq (enc := fun x : Nat × Nat => [aL cVal (marked mkVal 2 x.1 x.2), aI (x.1 : Int)]) (by
  rintro ⟨a, b⟩ ⟨c, d⟩ h
  simp only [List.cons.injEq, Arg.val.injEq, Leaf.sl.injEq, Leaf.sc.injEq, Value.int.injEq, true_and, and_true] at h
  obtain ⟨h1, h2⟩ := h
  have hac : a = c := by omega
  have hl := congrArg List.length h1
  rw [rowsF_len, rowsF_len, length_marked, length_marked] at hl
  rw [hac, hl]) (k, n) ⟨h0, hn⟩
theorem heldV_s : Sound Tryz.prog 92 mHeldV := Sound.says (fun _ => rfl) fun x vs w hok hr => by
  obtain ⟨k, n⟩ := x
  obtain ⟨h0, hn⟩ := hok
  obtain ⟨h1, h2⟩ := hr
  obtain ⟨v0, e0, r0⟩ := h2 0 _ rfl
  obtain ⟨v1, e1, r1⟩ := h2 1 _ rfl
  obtain ⟨x, ex, rx⟩ := r1
  cases ex
  cases rx
  match vs, h1 with
  | [a, b], _ =>
    cases e0
    cases e1
    exact heldValS_any v0 n k w (rep_RdS (fun _ => rfl) (repA_list_inv r0)) h0 hn
abbrev TAnK := THeader × Nat × Nat
abbrev aAnK (x : TAnK) : List Arg := [aAn (x.1, marked mkVal 2 x.2.1 x.2.2), aI (x.2.1 : Int)]
theorem aAnK_inj : ∀ x y, aAnK x = aAnK y → x = y := by
  rintro ⟨⟨a, b, c, d, e, f⟩, k, n⟩ ⟨⟨a', b', c', d', e', f'⟩, k', n'⟩ h
  simp only [aAnK, aAn, List.cons.injEq, Arg.val.injEq, Leaf.sl.injEq, Leaf.sc.injEq, Value.int.injEq, Value.string.injEq, true_and, and_true] at h
  obtain ⟨⟨h1, h2, h3, h4, h5, h6, h7⟩, h8⟩ := h
  have hac : k = k' := by omega
  have hl := congrArg List.length h7
  rw [rowsF_len, rowsF_len, length_marked, length_marked] at hl
  rw [h1, h2, h3, h4, h5, h6, hac, hl]
noncomputable def mHeldAn := mdl (fun x : TAnK => 0 < x.2.1 ∧ x.2.1 + 2 * x.2.2 ≤ 1099511627776) aAnK (fun x => rI ((x.2.1 + 2 * x.2.2 : Nat) : Int))
theorem mHeldAn_eq (h : THeader) (k n : Nat) (h0 : 0 < k) (hn : k + 2 * n ≤ 1099511627776) : mHeldAn [aAn (h, marked mkVal 2 k n), aI (k : Int)] = some (rI ((k + 2 * n : Nat) : Int)) := mdl_eq aAnK_inj (h, k, n) ⟨h0, hn⟩
theorem heldAn_s : Sound Tryz.prog 37 mHeldAn := by
  refine Sound.mdl Tryz.func37 rfl Tryz.ntmps37 ?_
  rintro ⟨⟨h, t, la, va, ne, da⟩, k, n⟩ w ⟨h0, hn⟩
  refine ⟨by simp, ?_⟩
  dsimp only at h0 hn
  have hΓ : GSound Tryz.prog (look [(92, mHeldV)]) := env_cons (has_of Tryz.func92 rfl rfl) heldV_s env_nil
  have c1 := mHeldV_eq k n h0 hn
  have hng : ¬ ((k + 2 * n : Nat) : Int) < 0 := by omega
  dsimp only [aL] at c1
  simp only [initS, argPV, List.map_cons, List.map_nil, toPL, Nat.zero_add]
  generalize marked mkVal 2 k n = l at *
  generalize k + 2 * n = K at *
  repeat (first | refine zN ?_ | (refine zO ?_; (repeat (first | refine za hΓ ?_ | refine zb hΓ ?_ | refine zc ?_ | refine zd ?_)); refine zE ?_) | refine zT ?_ | refine zF ?_ | with_reducible apply At.blkX rfl)
  refine At.retA (by rw [Tryz.results37]) (he := rfl)
end Go.Proofs.YtfgkfcfplodaoaaGreatDoor

end
