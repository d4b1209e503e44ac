/-
  BookDo of impl, where booked is known.
-/
import Derived.Test.YtimnogjgokljbaaDoorHEvBookN
namespace Go.Proofs.YtimnogjgokljbaaDoor
set_option maxRecDepth 100000
set_option linter.unusedVariables false
set_option linter.unusedSimpArgs false
open Go Go.RowKit
set_option maxHeartbeats 8000000
set_option linter.unusedVariables false

noncomputable def mBkDo := mdl (fun x : List TItem × ByteArray => okBD x ∧ bookOk x.1) encBD fun x => rOpt (bdo x.1 x.2)
theorem encBD_inj : ∀ x y, encBD x = encBD y → x = y := by
  rintro ⟨a, b⟩ ⟨d, e⟩ h
  simpa [encBD] using h
theorem mBkDo_eq (l : List TItem) (line : ByteArray) (h : okBD (l, line) ∧ bookOk l) : mBkDo [aL cItem l, aS line] = some (rOpt (bdo l line)) := mdl_eq encBD_inj (l, line) h
noncomputable abbrev rBDi (x : List TItem × ByteArray) : Res := if bookOk x.1 then rTL 36 2 cItem (bdL x.1 x.2) [rSc (.bool (bdB x.1 x.2))] else rTN [rSc (.bool false)]
theorem out_ok {l : List TItem} {line : ByteArray} (hl : line.size ≤ maxLen) (h : ∀ x ∈ l, okItem x) : ∀ x ∈ outZ l line, okItem x := by
  have hk := keyZ_size line
  have ht := toZ_size line
  have hk2 : (keyZ line).size ≤ maxLen := Nat.le_trans hk hl
  have ht2 : (toZ line).size ≤ maxLen := Nat.le_trans ht hl
  unfold outZ
  split
  · exact set_ok hk2 h
  · split
    · exact set_ok hk2 h
    · exact set_ok ht2 (set_ok hk2 h)
theorem bdI_s (hbk : Sound Tryd.prog 49 mSetI) : Sound Tryd.prog 6 (mdl okBD encBD rBDi) := by
  refine Sound.mdl Tryd.func6 rfl Tryd.ntmps6 ?_
  rintro ⟨l, line⟩ w ⟨⟨hit, hl⟩, hline⟩
  refine ⟨by simp, ?_⟩
  dsimp only at hit hl hline
  have hΓ : GSound Tryd.prog (look [(22, mBookB), (23, mBkDo), (24, mCpI)]) := env_cons (has_of Tryd.func22 rfl rfl) bookBI_s (env_cons (has_of Tryd.func23 rfl rfl) (bookDoI_s hbk) (env_cons (has_of Tryd.func24 rfl rfl) cpI_s env_nil))
  clear hbk
  have c1 := mBookB_eq l ⟨hit, hl⟩
  by_cases hb : bookOk l
  · rw [decide_eq_true hb] at c1
    have hl12 : l.length ≤ 12 := hb.1
    have c2 := mBkDo_eq l line ⟨⟨⟨hit, hl⟩, hline⟩, hb⟩
    have c3 := mCpI_eq l (by omega)
    cases hd : (bdo l line).2 with
    | true =>
      have hg := bdo_good.1 hd
      have ho := bdo_out hd
      obtain ⟨hB, hL⟩ := bd_good hb hg
      have hol := bdo_len l line _ ho
      have he : bdo l line = (some (outZ l line), true) := Prod.ext ho hd
      rw [he] at c2
      have c4 := mBookB_eq (outZ l line) ⟨out_ok hline hit, by omega⟩
      clear hd hg ho he
      dsimp only [rOpt] at c2
      by_cases hok : bookOk (outZ l line)
      · rw [decide_eq_true hok] at c4 hB
        rw [if_pos hok] at hL
        simp only [initS, argPV, List.map_cons, List.map_nil, toPL, Nat.zero_add]
        repeat (first | with_reducible apply W.seq | with_reducible apply W.block | with_reducible apply W.skip | with_reducible apply W.exit | with_reducible apply W.ret | with_reducible apply At.seqN | with_reducible apply At.blkN | with_reducible apply At.blkE | with_reducible apply At.blkR | with_reducible apply At.thenX | with_reducible apply At.thenR | with_reducible apply At.blkX rfl | ((with_reducible apply W.ops); (repeat (first | refine WL.opA hΓ (h := ?_) | refine WL.opX hΓ (h := ?_) | refine WL.opY (h := ?_) | refine WL.opZ (h := ?_))); with_reducible apply WL.nil) | refine W.condT (h := ?_) | refine W.condF (h := ?_))
        refine At.retA (by rw [Tryd.results6]) (he := ?_)
        simp [rBDi, hb, hB, hL]
      · rw [decide_eq_false hok] at c4 hB
        rw [if_neg hok] at hL
        simp only [initS, argPV, List.map_cons, List.map_nil, toPL, Nat.zero_add]
        repeat (first | with_reducible apply W.seq | with_reducible apply W.block | with_reducible apply W.skip | with_reducible apply W.exit | with_reducible apply W.ret | with_reducible apply At.seqN | with_reducible apply At.blkN | with_reducible apply At.blkE | with_reducible apply At.blkR | with_reducible apply At.thenX | with_reducible apply At.thenR | with_reducible apply At.blkX rfl | ((with_reducible apply W.ops); (repeat (first | refine WL.opA hΓ (h := ?_) | refine WL.opX hΓ (h := ?_) | refine WL.opY (h := ?_) | refine WL.opZ (h := ?_))); with_reducible apply WL.nil) | refine W.condT (h := ?_) | refine W.condF (h := ?_))
        refine At.retA (by rw [Tryd.results6]) (he := ?_)
        simp [rBDi, hb, hB, hL]
    | false =>
      obtain ⟨hB, hL⟩ := bd_bad (line := line) hb (fun g => by rw [bdo_good.2 g] at hd; cases hd)
      cases ho : (bdo l line).1 with
      | none =>
        have he : bdo l line = (none, false) := Prod.ext ho hd
        rw [he] at c2
        clear hd ho he
        dsimp only [rOpt] at c2
        simp only [initS, argPV, List.map_cons, List.map_nil, toPL, Nat.zero_add]
        repeat (first | with_reducible apply W.seq | with_reducible apply W.block | with_reducible apply W.skip | with_reducible apply W.exit | with_reducible apply W.ret | with_reducible apply At.seqN | with_reducible apply At.blkN | with_reducible apply At.blkE | with_reducible apply At.blkR | with_reducible apply At.thenX | with_reducible apply At.thenR | with_reducible apply At.blkX rfl | ((with_reducible apply W.ops); (repeat (first | refine WL.opA hΓ (h := ?_) | refine WL.opX hΓ (h := ?_) | refine WL.opY (h := ?_) | refine WL.opZ (h := ?_))); with_reducible apply WL.nil) | refine W.condT (h := ?_) | refine W.condF (h := ?_))
        refine At.retA (by rw [Tryd.results6]) (he := ?_)
        simp [rBDi, hb, hB, hL]
      | some o =>
        have hol := bdo_len l line _ ho
        have he : bdo l line = (some o, false) := Prod.ext ho hd
        rw [he] at c2
        clear hd ho he
        dsimp only [rOpt] at c2
        simp only [initS, argPV, List.map_cons, List.map_nil, toPL, Nat.zero_add]
        repeat (first | with_reducible apply W.seq | with_reducible apply W.block | with_reducible apply W.skip | with_reducible apply W.exit | with_reducible apply W.ret | with_reducible apply At.seqN | with_reducible apply At.blkN | with_reducible apply At.blkE | with_reducible apply At.blkR | with_reducible apply At.thenX | with_reducible apply At.thenR | with_reducible apply At.blkX rfl | ((with_reducible apply W.ops); (repeat (first | refine WL.opA hΓ (h := ?_) | refine WL.opX hΓ (h := ?_) | refine WL.opY (h := ?_) | refine WL.opZ (h := ?_))); with_reducible apply WL.nil) | refine W.condT (h := ?_) | refine W.condF (h := ?_))
        refine At.retA (by rw [Tryd.results6]) (he := ?_)
        simp [rBDi, hb, hB, hL]
  · rw [decide_eq_false hb] at c1
    simp only [initS, argPV, List.map_cons, List.map_nil, toPL, Nat.zero_add]
    repeat (first | with_reducible apply W.seq | with_reducible apply W.block | with_reducible apply W.skip | with_reducible apply W.exit | with_reducible apply W.ret | with_reducible apply At.seqN | with_reducible apply At.blkN | with_reducible apply At.blkE | with_reducible apply At.blkR | with_reducible apply At.thenX | with_reducible apply At.thenR | with_reducible apply At.blkX rfl | ((with_reducible apply W.ops); (repeat (first | refine WL.opA hΓ (h := ?_) | refine WL.opX hΓ (h := ?_) | refine WL.opY (h := ?_) | refine WL.opZ (h := ?_))); with_reducible apply WL.nil) | refine W.condT (h := ?_) | refine W.condF (h := ?_))
    refine At.retA (by rw [Tryd.results6]) (he := ?_)
    simp [rBDi, hb]
end Go.Proofs.YtimnogjgokljbaaDoor
