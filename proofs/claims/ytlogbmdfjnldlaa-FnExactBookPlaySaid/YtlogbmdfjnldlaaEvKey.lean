/-
  The words of a book's line: keys, letters, the blank, the sign.
-/
import Derived.Test.YtlogbmdfjnldlaaEvReadD
import Derived.Test.YtlogbmdfjnldlaaKey
namespace Go.Proofs.Ytlogbmdfjnldlaa
set_option maxRecDepth 100000
set_option linter.unusedVariables false
set_option linter.unusedSimpArgs false
open Go Go.RowKit
set_option maxHeartbeats 4000000
set_option linter.unusedVariables false

theorem says_same {P : Program} {f : FuncId} {args : Array Value} {v : Value} {w : World} (h : Calls P f args w fun e w' => e = .returned v ∧ w' = w) : Calls P f args w fun e w' => e = .returned v ∧ Below w.heap.size w w' :=
  h.mono fun e w' ⟨h1, h2⟩ => ⟨h1, by rw [h2]; exact Below.refl _ _⟩
theorem RepAs.str {w : World} {s : ByteArray} {vs : List Value} (h : RepAs w [aS s] vs) : vs = [.string s] := by
  obtain ⟨v, rfl, h2⟩ := RepAs.one h
  obtain ⟨l, e, h3⟩ := h2
  cases e
  cases h3
  rfl
noncomputable def mLetters := mdl (fun s : ByteArray => s.size ≤ maxLen) (fun s => [aS s]) (fun s => rI (lettersN s))
theorem mLetters_eq (s : ByteArray) (h : s.size ≤ maxLen) : mLetters [aS s] = some (rI (lettersN s)) := mdl_eq (by intro a b h; simpa using h) s h
theorem letters_s : Sound Try.prog 135 mLetters := Sound.says (fun _ => rfl) fun s vs w hok hr => by
  rw [RepAs.str hr]
  exact says_same (letters_any s w hok)
noncomputable def mKeyB := mdl (fun s : ByteArray => s.size ≤ maxLen) (fun s => [aS s]) (fun s => rB (decide (keyOk s)))
theorem mKeyB_eq (s : ByteArray) (h : s.size ≤ maxLen) : mKeyB [aS s] = some (rB (decide (keyOk s))) := mdl_eq (by intro a b h; simpa using h) s h
theorem isKey_s : Sound Try.prog 134 mKeyB := Sound.says (fun _ => rfl) fun s vs w hok hr => by
  rw [RepAs.str hr]
  exact says_same (isKey_any s w hok)
theorem l36Key_s : Sound Try.prog 116 mKeyB := Sound.says (fun _ => rfl) fun s vs w hok hr => by
  rw [RepAs.str hr]
  exact says_same (l36Key_any s w hok)
/-- the first place of a byte with a property; the length where there is none -/
def byI (p : Nat → Bool) (s : ByteArray) : Nat := (bl s).findIdx p
theorem byI_at {p : Nat → Bool} {s : ByteArray} {k : Nat} (hk : k < (bl s).length) (hn : ∀ j, (h : j < k) → p ((bl s)[j]'(by omega)) = false) (hx : p (bl s)[k] = true) : byI p s = k :=
  (List.findIdx_eq hk).2 ⟨hx, fun j hj => hn j hj⟩
theorem byI_no {p : Nat → Bool} {s : ByteArray} (hn : ∀ j, (h : j < (bl s).length) → p (bl s)[j] = false) : byI p s = (bl s).length := by
  unfold byI
  refine List.findIdx_eq_length.2 fun x hx => ?_
  obtain ⟨j, hj, rfl⟩ := List.getElem_of_mem hx
  exact hn j hj
def isSp (d : Nat) : Bool := decide (d = 32)
def isSg (d : Nat) : Bool := decide (d = 61) || decide (d = 43) || decide (d = 62)
noncomputable def mBlank := mdl (fun s : ByteArray => s.size ≤ 9223372036854775807) (fun s => [aS s]) (fun s => rI (byI isSp s))
theorem mBlank_eq (s : ByteArray) (h : s.size ≤ 9223372036854775807) : mBlank [aS s] = some (rI (byI isSp s)) := mdl_eq (by intro a b h; simpa using h) s h
theorem blank_s : Sound Try.prog 114 mBlank := by
  refine Sound.mdl Try.func114 rfl Try.ntmps114 ?_
  rintro s w hs
  refine ⟨by simp, ?_⟩
  replace hs : s.size ≤ 9223372036854775807 := hs
  have hΓ : GSound Try.prog (look []) := env_nil
  have hl := bl_len s
  simp only [initS, argPV, List.map_cons, List.map_nil, toPL, Nat.zero_add]
  repeat (first | with_reducible apply W.seq | with_reducible apply W.block | with_reducible apply W.skip | with_reducible apply W.exit | with_reducible apply W.ret | with_reducible apply At.seqN | with_reducible apply At.blkN | with_reducible apply At.blkE | with_reducible apply At.blkR | with_reducible apply At.thenX | with_reducible apply At.thenR | with_reducible apply At.blkX rfl | ((with_reducible apply W.ops); (repeat (first | refine WL.opA hΓ (h := ?_) | refine WL.opX hΓ (h := ?_) | refine WL.opY (h := ?_) | refine WL.opZ (h := ?_))); with_reducible apply WL.nil) | refine W.condT (h := ?_) | refine W.condF (h := ?_))
  refine W.loopA (fun k => k ≤ (bl s).length ∧ ∀ j, (h : j < k) → ∀ hj : j < (bl s).length, isSp (bl s)[j] = false) (fun k : Nat => [.slot 0 (vS s), .slot 3 (vI k)]) (fun k => (bl s).length - k) 0 ⟨Nat.zero_le _, fun j h => by omega⟩ (h := ?_)
  rintro k ⟨hk, hn⟩
  by_cases hlt : k < (bl s).length
  · obtain ⟨b, hb1, hb2⟩ := bl_at hlt
    have hb256 : b.toNat < 256 := b.toNat_lt
    by_cases hsp : (bl s)[k] = 32
    · have hres : byI isSp s = k := byI_at hlt (fun j hj => hn j hj _) (by simp [isSp, hsp])
      rw [← hb2] at hsp
      have hspi : (b.toNat : Int) = 32 := by omega
      clear hn hb2 hsp
      repeat (first | with_reducible apply W.seq | with_reducible apply W.block | with_reducible apply W.skip | with_reducible apply W.exit | with_reducible apply W.ret | with_reducible apply At.seqN | with_reducible apply At.blkN | with_reducible apply At.blkE | with_reducible apply At.blkR | with_reducible apply At.thenX | with_reducible apply At.thenR | with_reducible apply At.blkX rfl | ((with_reducible apply W.ops); (repeat (first | refine WL.opA hΓ (h := ?_) | refine WL.opX hΓ (h := ?_) | refine WL.opY (h := ?_) | refine WL.opZ (h := ?_))); with_reducible apply WL.nil) | refine W.condT (h := ?_) | refine W.condF (h := ?_))
      refine At.retA (by rw [Try.results114]) (he := ?_)
      rw [hres]
    · have hnx : ∀ j, (h : j < k + 1) → ∀ hj : j < (bl s).length, isSp (bl s)[j] = false := fun j h hj => by
        rcases Nat.lt_or_ge j k with h1 | h1
        · exact hn j h1 hj
        · have : j = k := by omega
          subst this
          simp [isSp, hsp]
      rw [← hb2] at hsp
      have hspi : ¬ (b.toNat : Int) = 32 := by omega
      clear hn hb2 hsp
      repeat (first | with_reducible apply W.seq | with_reducible apply W.block | with_reducible apply W.skip | with_reducible apply W.exit | with_reducible apply W.ret | with_reducible apply At.seqN | with_reducible apply At.blkN | with_reducible apply At.blkE | with_reducible apply At.blkR | with_reducible apply At.thenX | with_reducible apply At.thenR | with_reducible apply At.blkX rfl | ((with_reducible apply W.ops); (repeat (first | refine WL.opA hΓ (h := ?_) | refine WL.opX hΓ (h := ?_) | refine WL.opY (h := ?_) | refine WL.opZ (h := ?_))); with_reducible apply WL.nil) | refine W.condT (h := ?_) | refine W.condF (h := ?_))
      exact At.roundA (k + 1) ⟨by omega, hnx⟩ (by omega)
  · have hres := byI_no (p := isSp) (s := s) (fun j hj => hn j (by omega) hj)
    clear hn
    repeat (first | with_reducible apply W.seq | with_reducible apply W.block | with_reducible apply W.skip | with_reducible apply W.exit | with_reducible apply W.ret | with_reducible apply At.seqN | with_reducible apply At.blkN | with_reducible apply At.blkE | with_reducible apply At.blkR | with_reducible apply At.thenX | with_reducible apply At.thenR | with_reducible apply At.blkX rfl | ((with_reducible apply W.ops); (repeat (first | refine WL.opA hΓ (h := ?_) | refine WL.opX hΓ (h := ?_) | refine WL.opY (h := ?_) | refine WL.opZ (h := ?_))); with_reducible apply WL.nil) | refine W.condT (h := ?_) | refine W.condF (h := ?_))
    refine At.retA (by rw [Try.results114]) (he := ?_)
    rw [hres, hl]
/-- a line's word, sign and rest -/
def cutZ (s : ByteArray) : ByteArray × Nat × ByteArray := if h : byI isSg s < (bl s).length then (s.extract 0 (byI isSg s), (bl s)[byI isSg s], s.extract (byI isSg s + 1) s.size) else (s, 0, ByteArray.empty)
noncomputable def mCut := mdl (fun s : ByteArray => s.size ≤ 9223372036854775807) (fun s => [aS s]) (fun s => .tup [rSc (.string (cutZ s).1), rSc (.int .u8 ((cutZ s).2.1 : Int)), rSc (.string (cutZ s).2.2)])
theorem mCut_eq (s : ByteArray) (h : s.size ≤ 9223372036854775807) : mCut [aS s] = some (.tup [rSc (.string (cutZ s).1), rSc (.int .u8 ((cutZ s).2.1 : Int)), rSc (.string (cutZ s).2.2)]) := mdl_eq (by intro a b h; simpa using h) s h
theorem cut_s : Sound Try.prog 113 mCut := by
  refine Sound.mdl Try.func113 rfl Try.ntmps113 ?_
  rintro s w hs
  refine ⟨by simp, ?_⟩
  replace hs : s.size ≤ 9223372036854775807 := hs
  have hΓ : GSound Try.prog (look []) := env_nil
  have hl := bl_len s
  have hem : (⟨#[]⟩ : ByteArray) = ByteArray.empty := rfl
  simp only [initS, argPV, List.map_cons, List.map_nil, toPL, Nat.zero_add]
  repeat (first | with_reducible apply W.seq | with_reducible apply W.block | with_reducible apply W.skip | with_reducible apply W.exit | with_reducible apply W.ret | with_reducible apply At.seqN | with_reducible apply At.blkN | with_reducible apply At.blkE | with_reducible apply At.blkR | with_reducible apply At.thenX | with_reducible apply At.thenR | with_reducible apply At.blkX rfl | ((with_reducible apply W.ops); (repeat (first | refine WL.opA hΓ (h := ?_) | refine WL.opX hΓ (h := ?_) | refine WL.opY (h := ?_) | refine WL.opZ (h := ?_))); with_reducible apply WL.nil) | refine W.condT (h := ?_) | refine W.condF (h := ?_))
  refine W.loopA (fun k => k ≤ (bl s).length ∧ ∀ j, (h : j < k) → ∀ hj : j < (bl s).length, isSg (bl s)[j] = false) (fun k : Nat => [.slot 0 (vS s), .slot 5 (vI k)]) (fun k => (bl s).length - k) 0 ⟨Nat.zero_le _, fun j h => by omega⟩ (h := ?_)
  rintro k ⟨hk, hn⟩
  by_cases hlt : k < (bl s).length
  · obtain ⟨b, hb1, hb2⟩ := bl_at hlt
    have hb256 : b.toNat < 256 := b.toNat_lt
    have hyes : isSg (bl s)[k] = true → cutZ s = (s.extract 0 k, b.toNat, s.extract (k + 1) s.size) := fun h => by
      have hi : byI isSg s = k := byI_at hlt (fun j hj => hn j hj _) h
      unfold cutZ
      rw [dif_pos (by rw [hi]; exact hlt)]
      simp only [hi, hb2]
    have hnx : isSg (bl s)[k] = false → ∀ j, (h : j < k + 1) → ∀ hj : j < (bl s).length, isSg (bl s)[j] = false := fun h0 j h hj => by
      rcases Nat.lt_or_ge j k with h1 | h1
      · exact hn j h1 hj
      · have : j = k := by omega
        subst this
        exact h0
    rw [← hb2] at hyes hnx
    clear hn hb2
    generalize hd : b.toNat = d at *
    by_cases h1 : d = 61
    · have hres := hyes (by simp [isSg, h1])
      have h1i : (d : Int) = 61 := by omega
      clear hyes hnx h1
      repeat (first | with_reducible apply W.seq | with_reducible apply W.block | with_reducible apply W.skip | with_reducible apply W.exit | with_reducible apply W.ret | with_reducible apply At.seqN | with_reducible apply At.blkN | with_reducible apply At.blkE | with_reducible apply At.blkR | with_reducible apply At.thenX | with_reducible apply At.thenR | with_reducible apply At.blkX rfl | ((with_reducible apply W.ops); (repeat (first | refine WL.opA hΓ (h := ?_) | refine WL.opX hΓ (h := ?_) | refine WL.opY (h := ?_) | refine WL.opZ (h := ?_))); with_reducible apply WL.nil) | refine W.condT (h := ?_) | refine W.condF (h := ?_))
      refine W.drawsA hΓ 13 [[], [], [0, 1], [], [], [3, 4], [], [], [7], [6, 7, 8], [0, 1, 2], [0, 1, 2, 3, 4, 5, 10], [0, 1, 2, 3, 4, 5, 6, 7, 8, 9, 10, 11]] (rest := ?rest13) (Es := ?Es13) (st1 := ?st113) (h := ?h13) (hf := ?hf13) (hp := ?hp13) (hd := ?hd13) (hfr := ?hfr13) (hst := ?hst13) (hT := ?hT13)
      case h13 => kernel_rfl
      case hf13 =>
        repeat (first | refine FlowT.opA (h := ?_) | refine FlowT.opX (h := ?_) | refine FlowT.opY (h := ?_) | refine FlowT.opZ (h := ?_))
        exact FlowT.done
      case hp13 => rfl
      case hd13 => rfl
      case hfr13 => rfl
      case hst13 =>
        simp only [pick_nil, pick_all, List.cons_append, List.nil_append]
        rfl
      (repeat (first | refine WL.opA hΓ (h := ?_) | refine WL.opX hΓ (h := ?_) | refine WL.opY (h := ?_) | refine WL.opZ (h := ?_)))
      with_reducible apply WL.nil
      repeat (first | with_reducible apply W.seq | with_reducible apply W.block | with_reducible apply W.skip | with_reducible apply W.exit | with_reducible apply W.ret | with_reducible apply At.seqN | with_reducible apply At.blkN | with_reducible apply At.blkE | with_reducible apply At.blkR | with_reducible apply At.thenX | with_reducible apply At.thenR | with_reducible apply At.blkX rfl | ((with_reducible apply W.ops); (repeat (first | refine WL.opA hΓ (h := ?_) | refine WL.opX hΓ (h := ?_) | refine WL.opY (h := ?_) | refine WL.opZ (h := ?_))); with_reducible apply WL.nil) | refine W.condT (h := ?_) | refine W.condF (h := ?_))
      refine At.retA (by rw [Try.results113]) (he := ?_)
      simp [hres, h1i]
    · have h1i : ¬ (d : Int) = 61 := by omega
      by_cases h2 : d = 43
      · have hres := hyes (by simp [isSg, h2])
        have h2i : (d : Int) = 43 := by omega
        clear hyes hnx h2 h1
        repeat (first | with_reducible apply W.seq | with_reducible apply W.block | with_reducible apply W.skip | with_reducible apply W.exit | with_reducible apply W.ret | with_reducible apply At.seqN | with_reducible apply At.blkN | with_reducible apply At.blkE | with_reducible apply At.blkR | with_reducible apply At.thenX | with_reducible apply At.thenR | with_reducible apply At.blkX rfl | ((with_reducible apply W.ops); (repeat (first | refine WL.opA hΓ (h := ?_) | refine WL.opX hΓ (h := ?_) | refine WL.opY (h := ?_) | refine WL.opZ (h := ?_))); with_reducible apply WL.nil) | refine W.condT (h := ?_) | refine W.condF (h := ?_))
        refine W.drawsA hΓ 13 [[], [], [0, 1], [], [], [3, 4], [], [], [7], [6, 7, 8], [0, 1, 2], [0, 1, 2, 3, 4, 5, 10], [0, 1, 2, 3, 4, 5, 6, 7, 8, 9, 10, 11]] (rest := ?rest17) (Es := ?Es17) (st1 := ?st117) (h := ?h17) (hf := ?hf17) (hp := ?hp17) (hd := ?hd17) (hfr := ?hfr17) (hst := ?hst17) (hT := ?hT17)
        case h17 => kernel_rfl
        case hf17 =>
          repeat (first | refine FlowT.opA (h := ?_) | refine FlowT.opX (h := ?_) | refine FlowT.opY (h := ?_) | refine FlowT.opZ (h := ?_))
          exact FlowT.done
        case hp17 => rfl
        case hd17 => rfl
        case hfr17 => rfl
        case hst17 =>
          simp only [pick_nil, pick_all, List.cons_append, List.nil_append]
          rfl
        (repeat (first | refine WL.opA hΓ (h := ?_) | refine WL.opX hΓ (h := ?_) | refine WL.opY (h := ?_) | refine WL.opZ (h := ?_)))
        with_reducible apply WL.nil
        repeat (first | with_reducible apply W.seq | with_reducible apply W.block | with_reducible apply W.skip | with_reducible apply W.exit | with_reducible apply W.ret | with_reducible apply At.seqN | with_reducible apply At.blkN | with_reducible apply At.blkE | with_reducible apply At.blkR | with_reducible apply At.thenX | with_reducible apply At.thenR | with_reducible apply At.blkX rfl | ((with_reducible apply W.ops); (repeat (first | refine WL.opA hΓ (h := ?_) | refine WL.opX hΓ (h := ?_) | refine WL.opY (h := ?_) | refine WL.opZ (h := ?_))); with_reducible apply WL.nil) | refine W.condT (h := ?_) | refine W.condF (h := ?_))
        refine At.retA (by rw [Try.results113]) (he := ?_)
        simp [hres, h2i]
      · have h2i : ¬ (d : Int) = 43 := by omega
        by_cases h3 : d = 62
        · have hres := hyes (by simp [isSg, h3])
          have h3i : (d : Int) = 62 := by omega
          clear hyes hnx h3 h2 h1
          repeat (first | with_reducible apply W.seq | with_reducible apply W.block | with_reducible apply W.skip | with_reducible apply W.exit | with_reducible apply W.ret | with_reducible apply At.seqN | with_reducible apply At.blkN | with_reducible apply At.blkE | with_reducible apply At.blkR | with_reducible apply At.thenX | with_reducible apply At.thenR | with_reducible apply At.blkX rfl | ((with_reducible apply W.ops); (repeat (first | refine WL.opA hΓ (h := ?_) | refine WL.opX hΓ (h := ?_) | refine WL.opY (h := ?_) | refine WL.opZ (h := ?_))); with_reducible apply WL.nil) | refine W.condT (h := ?_) | refine W.condF (h := ?_))
          refine W.drawsA hΓ 13 [[], [], [0, 1], [], [], [3, 4], [], [], [7], [6, 7, 8], [0, 1, 2], [0, 1, 2, 3, 4, 5, 10], [0, 1, 2, 3, 4, 5, 6, 7, 8, 9, 10, 11]] (rest := ?rest21) (Es := ?Es21) (st1 := ?st121) (h := ?h21) (hf := ?hf21) (hp := ?hp21) (hd := ?hd21) (hfr := ?hfr21) (hst := ?hst21) (hT := ?hT21)
          case h21 => kernel_rfl
          case hf21 =>
            repeat (first | refine FlowT.opA (h := ?_) | refine FlowT.opX (h := ?_) | refine FlowT.opY (h := ?_) | refine FlowT.opZ (h := ?_))
            exact FlowT.done
          case hp21 => rfl
          case hd21 => rfl
          case hfr21 => rfl
          case hst21 =>
            simp only [pick_nil, pick_all, List.cons_append, List.nil_append]
            rfl
          (repeat (first | refine WL.opA hΓ (h := ?_) | refine WL.opX hΓ (h := ?_) | refine WL.opY (h := ?_) | refine WL.opZ (h := ?_)))
          with_reducible apply WL.nil
          repeat (first | with_reducible apply W.seq | with_reducible apply W.block | with_reducible apply W.skip | with_reducible apply W.exit | with_reducible apply W.ret | with_reducible apply At.seqN | with_reducible apply At.blkN | with_reducible apply At.blkE | with_reducible apply At.blkR | with_reducible apply At.thenX | with_reducible apply At.thenR | with_reducible apply At.blkX rfl | ((with_reducible apply W.ops); (repeat (first | refine WL.opA hΓ (h := ?_) | refine WL.opX hΓ (h := ?_) | refine WL.opY (h := ?_) | refine WL.opZ (h := ?_))); with_reducible apply WL.nil) | refine W.condT (h := ?_) | refine W.condF (h := ?_))
          refine At.retA (by rw [Try.results113]) (he := ?_)
          simp [hres, h3i]
        · have h3i : ¬ (d : Int) = 62 := by omega
          have hnx := hnx (by simp [isSg, h1, h2, h3])
          clear hyes h1 h2 h3
          repeat (first | with_reducible apply W.seq | with_reducible apply W.block | with_reducible apply W.skip | with_reducible apply W.exit | with_reducible apply W.ret | with_reducible apply At.seqN | with_reducible apply At.blkN | with_reducible apply At.blkE | with_reducible apply At.blkR | with_reducible apply At.thenX | with_reducible apply At.thenR | with_reducible apply At.blkX rfl | ((with_reducible apply W.ops); (repeat (first | refine WL.opA hΓ (h := ?_) | refine WL.opX hΓ (h := ?_) | refine WL.opY (h := ?_) | refine WL.opZ (h := ?_))); with_reducible apply WL.nil) | refine W.condT (h := ?_) | refine W.condF (h := ?_))
          exact At.roundA (k + 1) ⟨by omega, hnx⟩ (by omega)
  · have hi := byI_no (p := isSg) (s := s) (fun j hj => hn j (by omega) hj)
    have hres : cutZ s = (s, 0, ByteArray.empty) := by unfold cutZ; rw [dif_neg (by omega)]
    clear hn
    repeat (first | with_reducible apply W.seq | with_reducible apply W.block | with_reducible apply W.skip | with_reducible apply W.exit | with_reducible apply W.ret | with_reducible apply At.seqN | with_reducible apply At.blkN | with_reducible apply At.blkE | with_reducible apply At.blkR | with_reducible apply At.thenX | with_reducible apply At.thenR | with_reducible apply At.blkX rfl | ((with_reducible apply W.ops); (repeat (first | refine WL.opA hΓ (h := ?_) | refine WL.opX hΓ (h := ?_) | refine WL.opY (h := ?_) | refine WL.opZ (h := ?_))); with_reducible apply WL.nil) | refine W.condT (h := ?_) | refine W.condF (h := ?_))
    refine At.retA (by rw [Try.results113]) (he := ?_)
    simp [hres]
end Go.Proofs.Ytlogbmdfjnldlaa
