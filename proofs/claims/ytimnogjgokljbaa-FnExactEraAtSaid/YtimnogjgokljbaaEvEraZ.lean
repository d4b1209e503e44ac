/-
  Measuring rows of eras of any size.
-/
import Derived.Test.YtimnogjgokljbaaEvEraB
namespace Go.Proofs.Ytimnogjgokljbaa
set_option maxRecDepth 100000
set_option linter.unusedVariables false
set_option linter.unusedSimpArgs false
open Go Go.RowKit
set_option maxHeartbeats 8000000
set_option linter.unusedVariables false

noncomputable def mSzVZ := mdl (fun x : List TVal × Int => x.1.length ≤ 9223372036854775807 ∧ leftE x.2) (fun x => [aL cVal x.1, aI x.2]) (fun x => rI (szE x.1.length x.2))
theorem mSzVZ_eq (l : List TVal) (n : Int) (h1 : l.length ≤ 9223372036854775807) (h2 : leftE n) : mSzVZ [aL cVal l, aI n] = some (rI (szE l.length n)) := mdl_eq (by rintro ⟨a, b⟩ ⟨d, e⟩ h; simpa using h) (l, n) ⟨h1, h2⟩
theorem szVZ_s : Sound Try.prog 16 mSzVZ := by
  refine Sound.mdl Try.func16 rfl Try.ntmps16 ?_
  rintro ⟨l, n⟩ w ⟨hl, n1, n2⟩
  refine ⟨by simp, ?_⟩
  dsimp only at hl n1 n2
  have hΓ : GSound Try.prog (look []) := env_nil
  have hlen := rowsF_len cVal l
  simp only [initS, argPV, List.map_cons, List.map_nil, toPL, Nat.zero_add]
  by_cases b1 : (l.length : Int) ≤ n
  · have hr : szE l.length n = n - l.length := if_pos b1
    repeat (first | with_reducible apply W.seq | with_reducible apply W.block | with_reducible apply W.skip | with_reducible apply W.exit | with_reducible apply W.ret | with_reducible apply At.seqN | with_reducible apply At.blkN | with_reducible apply At.blkE | with_reducible apply At.blkR | with_reducible apply At.thenX | with_reducible apply At.thenR | with_reducible apply At.blkX rfl | ((with_reducible apply W.ops); (repeat (first | refine WL.opA hΓ (h := ?_) | refine WL.opX hΓ (h := ?_) | refine WL.opY (h := ?_) | refine WL.opZ (h := ?_))); with_reducible apply WL.nil) | refine W.condT (h := ?_) | refine W.condF (h := ?_))
    refine At.retA (by rw [Try.results16]) (he := ?_)
    rw [hr]
  · have hr : szE l.length n = -1 := if_neg b1
    repeat (first | with_reducible apply W.seq | with_reducible apply W.block | with_reducible apply W.skip | with_reducible apply W.exit | with_reducible apply W.ret | with_reducible apply At.seqN | with_reducible apply At.blkN | with_reducible apply At.blkE | with_reducible apply At.blkR | with_reducible apply At.thenX | with_reducible apply At.thenR | with_reducible apply At.blkX rfl | ((with_reducible apply W.ops); (repeat (first | refine WL.opA hΓ (h := ?_) | refine WL.opX hΓ (h := ?_) | refine WL.opY (h := ?_) | refine WL.opZ (h := ?_))); with_reducible apply WL.nil) | refine W.condT (h := ?_) | refine W.condF (h := ?_))
    refine At.retA (by rw [Try.results16]) (he := ?_)
    rw [hr]
abbrev okEz (e : TEra) : Prop := e.2.length ≤ 9223372036854775807
noncomputable def mSzEZ := mdl (fun x : TEra × Int => okEz x.1 ∧ leftE x.2) (fun x => [aEr x.1, aI x.2]) (fun x => rI (szE x.1.2.length x.2))
theorem mSzEZ_eq (e : TEra) (n : Int) (h1 : okEz e) (h2 : leftE n) : mSzEZ [aEr e, aI n] = some (rI (szE e.2.length n)) := mdl_eq (by
  rintro ⟨⟨a, b⟩, c⟩ ⟨⟨a', b'⟩, c'⟩ h
  simp at h
  simp [h]) (e, n) ⟨h1, h2⟩
theorem szEZ_s : Sound Try.prog 28 mSzEZ := by
  refine Sound.mdl Try.func28 rfl Try.ntmps28 ?_
  rintro ⟨⟨f, l⟩, n⟩ w ⟨hl, n1, n2⟩
  refine ⟨by simp, ?_⟩
  dsimp only at hl n1 n2
  have hΓ : GSound Try.prog (look [(16, mSzVZ)]) := env_cons (has_of Try.func16 rfl rfl) szVZ_s env_nil
  have c1 := mSzVZ_eq l n hl ⟨n1, n2⟩
  simp only [initS, argPV, List.map_cons, List.map_nil, toPL, Nat.zero_add]
  by_cases b1 : (l.length : Int) ≤ n
  · have hr : szE l.length n = n - l.length := if_pos b1
    rw [hr] at c1
    have hng : ¬ n - (l.length : Int) < 0 := by omega
    repeat (first | with_reducible apply W.seq | with_reducible apply W.block | with_reducible apply W.skip | with_reducible apply W.exit | with_reducible apply W.ret | with_reducible apply At.seqN | with_reducible apply At.blkN | with_reducible apply At.blkE | with_reducible apply At.blkR | with_reducible apply At.thenX | with_reducible apply At.thenR | with_reducible apply At.blkX rfl | ((with_reducible apply W.ops); (repeat (first | refine WL.opA hΓ (h := ?_) | refine WL.opX hΓ (h := ?_) | refine WL.opY (h := ?_) | refine WL.opZ (h := ?_))); with_reducible apply WL.nil) | refine W.condT (h := ?_) | refine W.condF (h := ?_))
    refine At.retA (by rw [Try.results28]) (he := ?_)
    first | rfl | rw [hr]
  · have hr : szE l.length n = -1 := if_neg b1
    rw [hr] at c1
    repeat (first | with_reducible apply W.seq | with_reducible apply W.block | with_reducible apply W.skip | with_reducible apply W.exit | with_reducible apply W.ret | with_reducible apply At.seqN | with_reducible apply At.blkN | with_reducible apply At.blkE | with_reducible apply At.blkR | with_reducible apply At.thenX | with_reducible apply At.thenR | with_reducible apply At.blkX rfl | ((with_reducible apply W.ops); (repeat (first | refine WL.opA hΓ (h := ?_) | refine WL.opX hΓ (h := ?_) | refine WL.opY (h := ?_) | refine WL.opZ (h := ?_))); with_reducible apply WL.nil) | refine W.condT (h := ?_) | refine W.condF (h := ?_))
    refine At.retA (by rw [Try.results28]) (he := ?_)
    first | rfl | rw [hr]
abbrev okEZ (l : List TEra) : Prop := l.length ≤ 8796093022207 ∧ ∀ e ∈ l, okEz e
noncomputable def mSzEW := mdl (fun x : List TEra × Int => okEZ x.1 ∧ leftE x.2) (fun x => [aES x.1, aI x.2]) (fun x => rI (szE (totE x.1) x.2))
theorem mSzEW_eq (l : List TEra) (n : Int) (h1 : okEZ l) (h2 : leftE n) : mSzEW [aES l, aI n] = some (rI (szE (totE l) n)) := mdl_eq (by
  rintro ⟨a, c⟩ ⟨a', c'⟩ h
  simp at h
  rw [eraRows_inj h.1, h.2]) (l, n) ⟨h1, h2⟩
theorem szEW_s : Sound Try.prog 7 mSzEW := by
  refine Sound.mdl Try.func7 rfl Try.ntmps7 ?_
  rintro ⟨l, n⟩ w ⟨⟨hl, hel⟩, n1, n2⟩
  refine ⟨by simp, ?_⟩
  dsimp only at hl hel n1 n2
  have hΓ : GSound Try.prog (look [(28, mSzEZ)]) := env_cons (has_of Try.func28 rfl rfl) szEZ_s env_nil
  have hlen := eraRows_len l
  have htot : totE l = l.length + (l.map fun e => e.2.length).sum := rfl
  simp only [initS, argPV, List.map_cons, List.map_nil, toPL, Nat.zero_add]
  by_cases b1 : (l.length : Int) ≤ n
  · have hng : ¬ n - (l.length : Int) < 0 := by omega
    repeat (first | with_reducible apply W.seq | with_reducible apply W.block | with_reducible apply W.skip | with_reducible apply W.exit | with_reducible apply W.ret | with_reducible apply At.seqN | with_reducible apply At.blkN | with_reducible apply At.blkE | with_reducible apply At.blkR | with_reducible apply At.thenX | with_reducible apply At.thenR | with_reducible apply At.blkX rfl | ((with_reducible apply W.ops); (repeat (first | refine WL.opA hΓ (h := ?_) | refine WL.opX hΓ (h := ?_) | refine WL.opY (h := ?_) | refine WL.opZ (h := ?_))); with_reducible apply WL.nil) | refine W.condT (h := ?_) | refine W.condF (h := ?_))
    refine W.loopA (fun x : Nat × Int => x.1 ≤ l.length ∧ x.2 = n - l.length - sumE l x.1 ∧ 0 ≤ x.2) (fun x : Nat × Int => [.slot 5 (vI x.1), .slot 1 (vI x.2), .slot 0 (one (.sl (eraRows l)))]) (fun x => l.length - x.1) (0, n - l.length) ⟨Nat.zero_le _, by simp [sumE], by dsimp only; omega⟩ (h := ?_)
    rintro ⟨k, m⟩ ⟨hk, hm, hm0⟩
    dsimp only at hk hm hm0 ⊢
    have hsl := sumE_le l k
    by_cases hlt : k < l.length
    · have hrow := eraRows_get hlt
      have hs := sumE_succ hlt
      have hsl2 := sumE_le l (k + 1)
      have c := mSzEZ_eq l[k] m (hel _ (List.getElem_mem hlt)) ⟨hm0, by omega⟩
      generalize l[k] = x at hrow hs c
      obtain ⟨f, v⟩ := x
      dsimp only [aEr, eraRow] at c hrow hs
      by_cases b2 : (v.length : Int) ≤ m
      · have hr : szE v.length m = m - v.length := if_pos b2
        have hng2 : ¬ m - (v.length : Int) < 0 := by omega
        have hnx : m - (v.length : Int) = n - l.length - sumE l (k + 1) := by omega
        have hnx := Lib.hid hnx
        rw [hr] at c
        clear hm hs hr hsl hsl2 htot
        repeat (first | with_reducible apply W.seq | with_reducible apply W.block | with_reducible apply W.skip | with_reducible apply W.exit | with_reducible apply W.ret | with_reducible apply At.seqN | with_reducible apply At.blkN | with_reducible apply At.blkE | with_reducible apply At.blkR | with_reducible apply At.thenX | with_reducible apply At.thenR | with_reducible apply At.blkX rfl | ((with_reducible apply W.ops); (repeat (first | refine WL.opA hΓ (h := ?_) | refine WL.opX hΓ (h := ?_) | refine WL.opY (h := ?_) | refine WL.opZ (h := ?_))); with_reducible apply WL.nil) | refine W.condT (h := ?_) | refine W.condF (h := ?_))
        exact At.roundA (k + 1, m - (v.length : Int)) ⟨by dsimp only; omega, hnx.out, by dsimp only; omega⟩ (by dsimp only; omega)
      · have hr : szE v.length m = -1 := if_neg b2
        have hfin : szE (totE l) n = -1 := if_neg (by omega)
        rw [hr] at c
        clear hm hs hsl hsl2 htot
        repeat (first | with_reducible apply W.seq | with_reducible apply W.block | with_reducible apply W.skip | with_reducible apply W.exit | with_reducible apply W.ret | with_reducible apply At.seqN | with_reducible apply At.blkN | with_reducible apply At.blkE | with_reducible apply At.blkR | with_reducible apply At.thenX | with_reducible apply At.thenR | with_reducible apply At.blkX rfl | ((with_reducible apply W.ops); (repeat (first | refine WL.opA hΓ (h := ?_) | refine WL.opX hΓ (h := ?_) | refine WL.opY (h := ?_) | refine WL.opZ (h := ?_))); with_reducible apply WL.nil) | refine W.condT (h := ?_) | refine W.condF (h := ?_))
        refine At.retA (by rw [Try.results7]) (he := ?_)
        rw [hfin]
    · have hke : k = l.length := by omega
      subst hke
      have ha := sumE_all l
      have hfin : szE (totE l) n = m := by
        unfold szE
        rw [if_pos (by omega)]
        omega
      clear hm ha hsl htot
      repeat (first | with_reducible apply W.seq | with_reducible apply W.block | with_reducible apply W.skip | with_reducible apply W.exit | with_reducible apply W.ret | with_reducible apply At.seqN | with_reducible apply At.blkN | with_reducible apply At.blkE | with_reducible apply At.blkR | with_reducible apply At.thenX | with_reducible apply At.thenR | with_reducible apply At.blkX rfl | ((with_reducible apply W.ops); (repeat (first | refine WL.opA hΓ (h := ?_) | refine WL.opX hΓ (h := ?_) | refine WL.opY (h := ?_) | refine WL.opZ (h := ?_))); with_reducible apply WL.nil) | refine W.condT (h := ?_) | refine W.condF (h := ?_))
      refine At.retA (by rw [Try.results7]) (he := ?_)
      rw [hfin]
  · have hng : n - (l.length : Int) < 0 := by omega
    have hfin : szE (totE l) n = -1 := if_neg (by omega)
    clear htot
    repeat (first | with_reducible apply W.seq | with_reducible apply W.block | with_reducible apply W.skip | with_reducible apply W.exit | with_reducible apply W.ret | with_reducible apply At.seqN | with_reducible apply At.blkN | with_reducible apply At.blkE | with_reducible apply At.blkR | with_reducible apply At.thenX | with_reducible apply At.thenR | with_reducible apply At.blkX rfl | ((with_reducible apply W.ops); (repeat (first | refine WL.opA hΓ (h := ?_) | refine WL.opX hΓ (h := ?_) | refine WL.opY (h := ?_) | refine WL.opZ (h := ?_))); with_reducible apply WL.nil) | refine W.condT (h := ?_) | refine W.condF (h := ?_))
    refine At.retA (by rw [Try.results7]) (he := ?_)
    rw [hfin]
end Go.Proofs.Ytimnogjgokljbaa
