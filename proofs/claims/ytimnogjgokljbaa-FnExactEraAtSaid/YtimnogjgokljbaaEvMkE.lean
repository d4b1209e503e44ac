/-
  Marking a row of eras: every cell of it, and of the rows within it.
-/
import Derived.Test.YtimnogjgokljbaaEvMark
import Derived.Test.YtimnogjgokljbaaEvEraB
import Derived.Test.YtimnogjgokljbaaMarkVal
namespace Go.Proofs.Ytimnogjgokljbaa
set_option maxRecDepth 100000
set_option linter.unusedVariables false
set_option linter.unusedSimpArgs false
open Go Go.RowKit
set_option maxHeartbeats 4000000
set_option linter.unusedVariables false
set_option linter.unusedSimpArgs false

/-- an era whose validators are a slice's value -/
abbrev TEv := Int × Value
def cEv (x : TEv) : List Value := [.int .i64 x.1, x.2]
theorem cEv_len (x : TEv) : (cEv x).length = 2 := rfl
abbrev eraG (l : List TEra) (k : Nat) : TEra := l.getD k (0, [])
def kE (l : List TEra) (k : Nat) : Nat → Nat
  | 0 => k
  | i + 1 => kE l k i + 1 + 2 * (eraG l i).2.length
theorem kE_mono (l : List TEra) (k : Nat) {i j : Nat} (h : i ≤ j) : kE l k i ≤ kE l k j := by
  induction h with
  | refl => exact Nat.le_refl _
  | @step m _ ih =>
    have h2 : kE l k (m + 1) = kE l k m + 1 + 2 * (eraG l m).2.length := rfl
    show kE l k i ≤ kE l k (m + 1)
    omega
theorem kE_len (l : List TEra) (k : Nat) : ∀ i : Nat, k + i ≤ kE l k i
  | 0 => Nat.le_refl _
  | i + 1 => by
    have ih := kE_len l k i
    have h2 : kE l k (i + 1) = kE l k i + 1 + 2 * (eraG l i).2.length := rfl
    omega
def evE (l : List TEra) (us : Nat → Value) (k j : Nat) : List TEv := (List.range l.length).map fun i => (if i < j then ((kE l k i : Nat) : Int) else (eraG l i).1, us i)
theorem evE_len (l : List TEra) (us : Nat → Value) (k j : Nat) : (evE l us k j).length = l.length := by simp [evE]
theorem evE_get {l : List TEra} {us : Nat → Value} {k j i : Nat} (h : i < l.length) : (evE l us k j)[i]? = some (if i < j then ((kE l k i : Nat) : Int) else (eraG l i).1, us i) := by simp [evE, h]
theorem evE_set {l : List TEra} {us : Nat → Value} {k j : Nat} (h : j < l.length) : (evE l us k j).set j (((kE l k j : Nat) : Int), us j) = evE l us k (j + 1) := by
  refine List.ext_getElem? fun i => ?_
  by_cases hi : i < l.length
  · by_cases e : i = j
    · subst e
      rw [List.getElem?_set_self (by rw [evE_len]; exact hi), evE_get hi, if_pos (by omega)]
    · rw [List.getElem?_set_ne (fun h => e h.symm), evE_get hi, evE_get hi]
      by_cases hij : i < j
      · rw [if_pos hij, if_pos (by omega)]
      · rw [if_neg hij, if_neg (by omega)]
  · rw [List.getElem?_eq_none (by rw [List.length_set, evE_len]; omega), List.getElem?_eq_none (by rw [evE_len]; omega)]
def inE (l : List TEra) (k j i : Nat) : List TVal := if i < j then marked mkVal 2 (kE l k i + 1) (eraG l i).2.length else (eraG l i).2
/-- the block b and those of the slices us may have other content -/
structure Chg (w w' : World) (b n : Nat) (us : Nat → Value) : Prop where
  os : w'.os = w.os
  tape : w'.tape = w.tape
  output : w'.output = w.output
  size : w.heap.size ≤ w'.heap.size
  block : ∀ q, q < w.heap.size → q ≠ b → (∀ i, i < n → (us i).ownBlock ≠ some q) → w'.heap[q]? = w.heap[q]?
theorem OwnS.blk {α : Type} {w w' : World} {B0 s : Nat} {f : α → List Value} {v : Value} {l : List α} (h : OwnS w B0 s f v l) (hs : w.heap.size ≤ w'.heap.size) (hb : ∀ q, q < w.heap.size → v.ownBlock = some q → w'.heap[q]? = w.heap[q]?) : OwnS w' B0 s f v l := by
  obtain ⟨A, c, rfl, h1, h2, h3⟩ := h
  refine ⟨A, c, rfl, h1, h2, fun hne => ?_⟩
  obtain ⟨b, off, rfl, g1, g2, g3, g4⟩ := h3 hne
  have hq := hb b g2 rfl
  exact ⟨b, off, rfl, g1, Nat.lt_of_lt_of_le g2 hs, fun o => by rw [World.frozen?_of_block (a := ⟨b, o, none⟩) hq]; exact g3 o, fun i x hi j u hu => by rw [World.cell?_of_block (a := ⟨b, _, none⟩) hq]; exact g4 i x hi j u hu⟩
theorem OwnAt.blk {α : Type} {w w' : World} {B0 s : Nat} {f : α → List Value} {b off : Nat} {l : List α} (h : OwnAt w B0 s f b off l) (hs : w.heap.size ≤ w'.heap.size) (hq : w'.heap[b]? = w.heap[b]?) : OwnAt w' B0 s f b off l := by
  obtain ⟨g1, g2, g3, g4⟩ := h
  exact ⟨g1, Nat.lt_of_lt_of_le g2 hs, fun o => by rw [World.frozen?_of_block (a := ⟨b, o, none⟩) hq]; exact g3 o, fun i x hi j u hu => by rw [World.cell?_of_block (a := ⟨b, _, none⟩) hq]; exact g4 i x hi j u hu⟩
theorem markEraS_any (b off c : Nat) (l : List TEra) (us : Nat → Value) (k : Nat) (w : World) (ho : OwnAt w 0 2 cEv b off (evE l us k 0)) (hlc : l.length ≤ c) (hcm : c ≤ maxLen)
    (hin : ∀ i, i < l.length → OwnS w 0 2 cVal (us i) (eraG l i).2) (hub : ∀ i, i < l.length → (us i).ownBlock ≠ some b) (hud : ∀ i j, i < l.length → j < l.length → i ≠ j → ∀ q, (us i).ownBlock = some q → (us j).ownBlock ≠ some q)
    (h0 : 0 < k) (hn : kE l k l.length ≤ 1099511627776) :
    Calls Try.prog 13 #[.slice (some ⟨b, off, none⟩) l.length c, .int .i64 (k : Int)] w fun e w' => e = .returned (.int .i64 ((kE l k l.length : Nat) : Int)) ∧ OwnAt w' 0 2 cEv b off (evE l us k l.length) ∧ (∀ i, i < l.length → OwnS w' 0 2 cVal (us i) (inE l k l.length i)) ∧ Chg w w' b l.length us := by
  have hll : l.length ≤ 1099511627776 := by have := kE_len l k l.length; omega
  go_enter Try.func13, Try.ntmps13
  go_wp2_with fail
  go_loopw [1, 5] (fun q i wr => ∃ j m : Nat, j ≤ l.length ∧ m = kE l k j ∧ i = .int .i64 j ∧ q = .int .i64 m ∧ OwnAt wr 0 2 cEv b off (evE l us k j) ∧ (∀ i, i < l.length → OwnS wr 0 2 cVal (us i) (inE l k j i)) ∧ Chg w wr b l.length us) (fun _ i _ => l.length - (intOf i).toNat)
  case atStart => exact ⟨0, k, Nat.zero_le _, rfl, rfl, rfl, ho, fun i hi => by unfold inE; rw [if_neg (by omega)]; exact hin i hi, rfl, rfl, rfl, Nat.le_refl _, fun _ _ _ _ => rfl⟩
  case round =>
    obtain ⟨j, m, hj, hm, rfl, rfl, hor, hir, hg⟩ := hrel
    have hmk := kE_mono l k (Nat.zero_le j)
    have hmk : k ≤ m := by rw [hm]; exact hmk
    have hm1 : 0 < m := by omega
    by_cases hlt : j < l.length
    · have hk1 : kE l k (j + 1) = m + 1 + 2 * (eraG l j).2.length := by rw [hm]; rfl
      have hk2 := kE_mono l k (Nat.succ_le_of_lt hlt)
      have hm2 : m + 1 + 2 * (eraG l j).2.length ≤ 1099511627776 := by rw [← hk1]; exact Nat.le_trans hk2 hn
      have hm3 : m + 1 ≤ 1099511627776 := by omega
      have HM := Lib.hid hm
      have HK1 := Lib.hid hk1
      have HIN := Lib.hid hin
      have HUD := Lib.hid hud
      have HUB := Lib.hid hub
      have HG := Lib.hid hg
      have hml : j < (evE l us k j).length := by rw [evE_len]; exact hlt
      have hx := evE_get (us := us) (k := k) (j := j) hlt
      obtain ⟨u0, hx0⟩ := hor.old cEv_len (i := j) hml (j := 0) (by omega)
      have hf0 := hor.2.2.1 (off + j * 2 + 0)
      simp only [Nat.add_zero] at hx0 hf0
      have hx1 := hor.2.2.2 j _ hx 1 _ rfl
      have oc0 := hor.field (i := j) (j := 0) (u := .int .i64 ((m : Int))) (y := (((m : Int), us j) : TEv)) cEv_len hml (by omega) (by rw [(List.getElem?_eq_some_iff.1 hx).2]; rfl)
      simp only [Nat.add_zero] at oc0
      have hset : (evE l us k j).set j (((m : Int), us j) : TEv) = evE l us k (j + 1) := by rw [hm]; exact evE_set hlt
      rw [hset] at oc0
      have hx1' : (wr.setCell ⟨b, off + j * 2, none⟩ (.int .i64 (m : Int))).cell? ⟨b, off + j * 2 + 1, none⟩ = some (us j) := by
        rw [World.cell?_setCell_other _ _ _ _ (by intro e; simp only [Addr.mk.injEq, true_and, and_true] at e; omega)]
        exact hx1
      have hbsz : b < wr.heap.size := hor.2.1
      have hsc : ∀ q, q ≠ b → (wr.setCell ⟨b, off + j * 2, none⟩ (.int .i64 (m : Int))).heap[q]? = wr.heap[q]? := fun q hq => Below.heap_setCell wr ⟨b, off + j * 2, none⟩ _ q (fun e => hq e)
      have hss : (wr.setCell ⟨b, off + j * 2, none⟩ (.int .i64 (m : Int))).heap.size = wr.heap.size := by simp [World.setCell]
      have hir0 : ∀ i, i < l.length → OwnS (wr.setCell ⟨b, off + j * 2, none⟩ (.int .i64 (m : Int))) 0 2 cVal (us i) (inE l k j i) := fun i hi => (hir i hi).blk (by rw [hss]; exact Nat.le_refl _) fun q _ hq => hsc q fun e => hub i hi (e ▸ hq)
      have hij : inE l k j j = (eraG l j).2 := if_neg (Nat.lt_irrefl _)
      have hcal := hir0 j hlt
      rw [hij] at hcal
      have hg0 : Chg w (wr.setCell ⟨b, off + j * 2, none⟩ (.int .i64 (m : Int))) b l.length us := ⟨hg.os, hg.tape, hg.output, by rw [hss]; exact hg.size, fun q h1 h2 h3 => (hsc q h2).trans (hg.block q h1 h2 h3)⟩
      have HIR := Lib.hid hir0
      have HCAL := Lib.hid hcal
      have HOC := Lib.hid oc0
      have HG0 := Lib.hid hg0
      have HSS := Lib.hid hss
      clear hir0 hcal oc0 hg0 hss hsc hset hx hml hor hir hg hm hk1 hin hud hub ho hij hk2 hn
      generalize hA : (eraG l j).2 = vs at *
      have HA := Lib.hid hA
      clear hA
      have hcr := markValS_any (us j) vs (m + 1) 0 _ HCAL.out (by omega) hm2
      have e1 : ((m + 1 : Nat) : Int) = (m : Int) + 1 := by omega
      rw [e1] at hcr
      have HCR := Lib.hid hcr
      clear hcr e1
      go_wp2_with fail
      refine HCR.out.mono ?_
      rintro e w1 ⟨rfl, o1, -, y1⟩
      have hs1 := y1.size
      have HO1 := Lib.hid o1
      have HY1 := Lib.hid y1
      clear o1 y1
      go_wp2_with fail
      go_roundw
      case rel =>
        have hHS := HSS.out
        refine ⟨j + 1, m + 1 + 2 * vs.length, Nat.succ_le_of_lt hlt, HK1.out.symm, by go_num, by go_num, HOC.out.blk HY1.out.size (HY1.out.block b (by rw [hHS]; exact hbsz) fun e => HUB.out j hlt e.symm), fun i hi => ?_, ?_⟩
        · by_cases hij : i = j
          · subst hij
            have : inE l k (i + 1) i = marked mkVal 2 (m + 1) vs.length := by
              unfold inE
              rw [if_pos (Nat.lt_succ_self i), ← HM.out, HA.out]
            rw [this]
            exact HO1.out
          · have : inE l k (j + 1) i = inE l k j i := by
              unfold inE
              by_cases h1 : i < j
              · rw [if_pos h1, if_pos (by omega)]
              · rw [if_neg h1, if_neg (by omega)]
            rw [this]
            exact (HIR.out i hi).blk HY1.out.size fun q hq1 hq2 => HY1.out.block q hq1 fun e => HUD.out i j hi hlt hij q hq2 e.symm
        · have hg0 := HG0.out
          have y1 := HY1.out
          exact ⟨y1.os.trans hg0.os, y1.tape.trans hg0.tape, y1.output.trans hg0.output, Nat.le_trans hg0.size y1.size, fun q h1 h2 h3 => (y1.block q (Nat.lt_of_lt_of_le h1 hg0.size) fun e => h3 j hlt e.symm).trans (hg0.block q h1 h2 h3)⟩
      case measure => simp [intOf]; omega
    · go_wp2_with fail
      go_ret
      have e : j = l.length := by omega
      subst e
      exact ⟨ret_int (by rw [hm]), hor, hir, hg⟩
end Go.Proofs.Ytimnogjgokljbaa
