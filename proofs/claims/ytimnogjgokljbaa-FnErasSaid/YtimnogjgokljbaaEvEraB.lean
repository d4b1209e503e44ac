/-
  Eras: copying, comparing, measuring rows of them.
-/
import Derived.Test.YtimnogjgokljbaaEvEra
namespace Go.Proofs.Ytimnogjgokljbaa
set_option maxRecDepth 100000
set_option linter.unusedVariables false
set_option linter.unusedSimpArgs false
open Go Go.RowKit
set_option maxHeartbeats 8000000
set_option linter.unusedVariables false

theorem eqSl_s : Sound Try.prog 39 mEqVS := by
  refine Sound.mdl Try.func39 rfl Try.ntmps39 ?_
  rintro ⟨a, b⟩ w ⟨ha, hb⟩
  refine ⟨by simp, ?_⟩
  dsimp only at ha hb
  have hΓ : GSound Try.prog (look []) := env_nil
  simp only [initS, argPV, List.map_cons, List.map_nil, toPL, Nat.zero_add]
  by_cases hl : a.length = b.length
  · have hli : ((a.length : Nat) : Int) = ((b.length : Nat) : Int) := by omega
    repeat (first | with_reducible apply W.seq | with_reducible apply W.block | with_reducible apply W.skip | with_reducible apply W.exit | with_reducible apply W.ret | with_reducible apply At.seqN | with_reducible apply At.blkN | with_reducible apply At.blkE | with_reducible apply At.blkR | with_reducible apply At.thenX | with_reducible apply At.thenR | with_reducible apply At.blkX rfl | ((with_reducible apply W.ops); (repeat (first | refine WL.opA hΓ (h := ?_) | refine WL.opX hΓ (h := ?_) | refine WL.opY (h := ?_) | refine WL.opZ (h := ?_))); with_reducible apply WL.nil) | refine W.condT (h := ?_) | refine W.condF (h := ?_))
    refine W.loopA (fun k => k ≤ a.length ∧ SameK a b k) (fun k : Nat => [.slot 13 (vI k), .slot 12 (vI a.length), .slot 0 (vL cVal a), .slot 1 (vL cVal b)]) (fun k => a.length - k) 0 ⟨Nat.zero_le _, fun j hj => by omega⟩ (h := ?_)
    rintro k ⟨hk, hS⟩
    have hS := Lib.hid hS
    by_cases hlt : k < a.length
    · have hlb : k < b.length := by omega
      have hra := val_row hlt
      have hrb := val_row hlb
      by_cases he : a[k] = b[k]
      · have hn := hS.out.next hlt hlb he
        have hn := Lib.hid hn
        rw [← he] at hrb
        clear he hS hl
        generalize a[k] = x at *
        repeat (first | with_reducible apply W.seq | with_reducible apply W.block | with_reducible apply W.skip | with_reducible apply W.exit | with_reducible apply W.ret | with_reducible apply At.seqN | with_reducible apply At.blkN | with_reducible apply At.blkE | with_reducible apply At.blkR | with_reducible apply At.thenX | with_reducible apply At.thenR | with_reducible apply At.blkX rfl | ((with_reducible apply W.ops); (repeat (first | refine WL.opA hΓ (h := ?_) | refine WL.opX hΓ (h := ?_) | refine WL.opY (h := ?_) | refine WL.opZ (h := ?_))); with_reducible apply WL.nil) | refine W.condT (h := ?_) | refine W.condF (h := ?_))
        refine W.drawsA hΓ 9 [[], [], [0, 1], [0, 1, 2], [], [], [4, 5], [4, 5, 6], [0, 1, 2, 3, 4, 5, 6, 7]] (rest := ?rest5) (Es := ?Es5) (st1 := ?st15) (h := ?h5) (hf := ?hf5) (hp := ?hp5) (hd := ?hd5) (hfr := ?hfr5) (hst := ?hst5) (hT := ?hT5)
        case h5 => kernel_rfl
        case hf5 =>
          repeat (first | refine FlowT.opA (h := ?_) | refine FlowT.opX (h := ?_) | refine FlowT.opY (h := ?_) | refine FlowT.opZ (h := ?_))
          exact FlowT.done
        case hp5 => rfl
        case hd5 => rfl
        case hfr5 => rfl
        case hst5 =>
          simp only [pick_nil, pick_all, List.cons_append, List.nil_append]
          rfl
        (repeat (first | refine WL.opA hΓ (h := ?_) | refine WL.opX hΓ (h := ?_) | refine WL.opY (h := ?_) | refine WL.opZ (h := ?_)))
        with_reducible apply WL.nil
        repeat (first | with_reducible apply W.seq | with_reducible apply W.block | with_reducible apply W.skip | with_reducible apply W.exit | with_reducible apply W.ret | with_reducible apply At.seqN | with_reducible apply At.blkN | with_reducible apply At.blkE | with_reducible apply At.blkR | with_reducible apply At.thenX | with_reducible apply At.thenR | with_reducible apply At.blkX rfl | ((with_reducible apply W.ops); (repeat (first | refine WL.opA hΓ (h := ?_) | refine WL.opX hΓ (h := ?_) | refine WL.opY (h := ?_) | refine WL.opZ (h := ?_))); with_reducible apply WL.nil) | refine W.condT (h := ?_) | refine W.condF (h := ?_))
        exact At.roundA (k + 1) ⟨by omega, hn.out⟩ (by omega)
      · have hne := decide_eq_false (ne_at hlt hlb he)
        clear hS hl
        generalize a[k] = x at *
        generalize b[k] = y at *
        by_cases h1 : x.1 = y.1
        · have h2 : ¬ x.2 = y.2 := fun h => he (Prod.ext h1 h)
          clear he
          repeat (first | with_reducible apply W.seq | with_reducible apply W.block | with_reducible apply W.skip | with_reducible apply W.exit | with_reducible apply W.ret | with_reducible apply At.seqN | with_reducible apply At.blkN | with_reducible apply At.blkE | with_reducible apply At.blkR | with_reducible apply At.thenX | with_reducible apply At.thenR | with_reducible apply At.blkX rfl | ((with_reducible apply W.ops); (repeat (first | refine WL.opA hΓ (h := ?_) | refine WL.opX hΓ (h := ?_) | refine WL.opY (h := ?_) | refine WL.opZ (h := ?_))); with_reducible apply WL.nil) | refine W.condT (h := ?_) | refine W.condF (h := ?_))
          refine W.drawsA hΓ 9 [[], [], [0, 1], [0, 1, 2], [], [], [4, 5], [4, 5, 6], [0, 1, 2, 3, 4, 5, 6, 7]] (rest := ?rest8) (Es := ?Es8) (st1 := ?st18) (h := ?h8) (hf := ?hf8) (hp := ?hp8) (hd := ?hd8) (hfr := ?hfr8) (hst := ?hst8) (hT := ?hT8)
          case h8 => kernel_rfl
          case hf8 =>
            repeat (first | refine FlowT.opA (h := ?_) | refine FlowT.opX (h := ?_) | refine FlowT.opY (h := ?_) | refine FlowT.opZ (h := ?_))
            exact FlowT.done
          case hp8 => rfl
          case hd8 => rfl
          case hfr8 => rfl
          case hst8 =>
            simp only [pick_nil, pick_all, List.cons_append, List.nil_append]
            rfl
          (repeat (first | refine WL.opA hΓ (h := ?_) | refine WL.opX hΓ (h := ?_) | refine WL.opY (h := ?_) | refine WL.opZ (h := ?_)))
          with_reducible apply WL.nil
          repeat (first | with_reducible apply W.seq | with_reducible apply W.block | with_reducible apply W.skip | with_reducible apply W.exit | with_reducible apply W.ret | with_reducible apply At.seqN | with_reducible apply At.blkN | with_reducible apply At.blkE | with_reducible apply At.blkR | with_reducible apply At.thenX | with_reducible apply At.thenR | with_reducible apply At.blkX rfl | ((with_reducible apply W.ops); (repeat (first | refine WL.opA hΓ (h := ?_) | refine WL.opX hΓ (h := ?_) | refine WL.opY (h := ?_) | refine WL.opZ (h := ?_))); with_reducible apply WL.nil) | refine W.condT (h := ?_) | refine W.condF (h := ?_))
          refine At.retA (by rw [Try.results39]) (he := ?_)
          simp only [hne]
        · clear he
          repeat (first | with_reducible apply W.seq | with_reducible apply W.block | with_reducible apply W.skip | with_reducible apply W.exit | with_reducible apply W.ret | with_reducible apply At.seqN | with_reducible apply At.blkN | with_reducible apply At.blkE | with_reducible apply At.blkR | with_reducible apply At.thenX | with_reducible apply At.thenR | with_reducible apply At.blkX rfl | ((with_reducible apply W.ops); (repeat (first | refine WL.opA hΓ (h := ?_) | refine WL.opX hΓ (h := ?_) | refine WL.opY (h := ?_) | refine WL.opZ (h := ?_))); with_reducible apply WL.nil) | refine W.condT (h := ?_) | refine W.condF (h := ?_))
          refine W.drawsA hΓ 9 [[], [], [0, 1], [0, 1, 2], [], [], [4, 5], [4, 5, 6], [0, 1, 2, 3, 4, 5, 6, 7]] (rest := ?rest12) (Es := ?Es12) (st1 := ?st112) (h := ?h12) (hf := ?hf12) (hp := ?hp12) (hd := ?hd12) (hfr := ?hfr12) (hst := ?hst12) (hT := ?hT12)
          case h12 => kernel_rfl
          case hf12 =>
            repeat (first | refine FlowT.opA (h := ?_) | refine FlowT.opX (h := ?_) | refine FlowT.opY (h := ?_) | refine FlowT.opZ (h := ?_))
            exact FlowT.done
          case hp12 => rfl
          case hd12 => rfl
          case hfr12 => rfl
          case hst12 =>
            simp only [pick_nil, pick_all, List.cons_append, List.nil_append]
            rfl
          (repeat (first | refine WL.opA hΓ (h := ?_) | refine WL.opX hΓ (h := ?_) | refine WL.opY (h := ?_) | refine WL.opZ (h := ?_)))
          with_reducible apply WL.nil
          repeat (first | with_reducible apply W.seq | with_reducible apply W.block | with_reducible apply W.skip | with_reducible apply W.exit | with_reducible apply W.ret | with_reducible apply At.seqN | with_reducible apply At.blkN | with_reducible apply At.blkE | with_reducible apply At.blkR | with_reducible apply At.thenX | with_reducible apply At.thenR | with_reducible apply At.blkX rfl | ((with_reducible apply W.ops); (repeat (first | refine WL.opA hΓ (h := ?_) | refine WL.opX hΓ (h := ?_) | refine WL.opY (h := ?_) | refine WL.opZ (h := ?_))); with_reducible apply WL.nil) | refine W.condT (h := ?_) | refine W.condF (h := ?_))
          refine At.retA (by rw [Try.results39]) (he := ?_)
          simp only [hne]
    · have hke : k = a.length := by omega
      have hE : a = b := by rw [hke] at hS; exact hS.out.all hl
      have hE := Lib.hid (decide_eq_true hE)
      clear hl hli
      repeat (first | with_reducible apply W.seq | with_reducible apply W.block | with_reducible apply W.skip | with_reducible apply W.exit | with_reducible apply W.ret | with_reducible apply At.seqN | with_reducible apply At.blkN | with_reducible apply At.blkE | with_reducible apply At.blkR | with_reducible apply At.thenX | with_reducible apply At.thenR | with_reducible apply At.blkX rfl | ((with_reducible apply W.ops); (repeat (first | refine WL.opA hΓ (h := ?_) | refine WL.opX hΓ (h := ?_) | refine WL.opY (h := ?_) | refine WL.opZ (h := ?_))); with_reducible apply WL.nil) | refine W.condT (h := ?_) | refine W.condF (h := ?_))
      refine At.retA (by rw [Try.results39]) (he := ?_)
      rw [hE.out]
  · have hli : ¬ ((a.length : Nat) : Int) = ((b.length : Nat) : Int) := by omega
    have hne : decide (a = b) = false := decide_eq_false fun h => hl (by rw [h])
    clear hl
    repeat (first | with_reducible apply W.seq | with_reducible apply W.block | with_reducible apply W.skip | with_reducible apply W.exit | with_reducible apply W.ret | with_reducible apply At.seqN | with_reducible apply At.blkN | with_reducible apply At.blkE | with_reducible apply At.blkR | with_reducible apply At.thenX | with_reducible apply At.thenR | with_reducible apply At.blkX rfl | ((with_reducible apply W.ops); (repeat (first | refine WL.opA hΓ (h := ?_) | refine WL.opX hΓ (h := ?_) | refine WL.opY (h := ?_) | refine WL.opZ (h := ?_))); with_reducible apply WL.nil) | refine W.condT (h := ?_) | refine W.condF (h := ?_))
    refine At.retA (by rw [Try.results39]) (he := ?_)
    simp only [hne]
abbrev okEr (e : TEra) : Prop := e.2.length ≤ 8796093022207
noncomputable def mSzEr := mdl (fun x : TEra × Int => okEr x.1 ∧ leftE x.2) (fun x => [aEr x.1, aI x.2]) (fun x => rI (szE x.1.2.length x.2))
theorem mSzEr_eq (e : TEra) (n : Int) (h1 : okEr e) (h2 : leftE n) : mSzEr [aEr e, aI n] = some (rI (szE e.2.length n)) := mdl_eq (by
  rintro ⟨⟨a, b⟩, c⟩ ⟨⟨a', b'⟩, c'⟩ h
  simp at h
  simp [h]) (e, n) ⟨h1, h2⟩
theorem szEr_s : Sound Try.prog 28 mSzEr := by
  refine Sound.mdl Try.func28 rfl Try.ntmps28 ?_
  rintro ⟨⟨f, l⟩, n⟩ w ⟨hl, n1, n2⟩
  refine ⟨by simp, ?_⟩
  dsimp only at hl n1 n2
  have hΓ : GSound Try.prog (look [(16, mSzVS)]) := env_cons (has_of Try.func16 rfl rfl) szVS_s env_nil
  have c1 := mSzVS_eq l n hl ⟨n1, n2⟩
  simp only [initS, argPV, List.map_cons, List.map_nil, toPL, Nat.zero_add]
  by_cases b1 : (l.length : Int) ≤ n
  · have hr : szE l.length n = n - l.length := if_pos b1
    rw [hr] at c1
    have hng : ¬ n - (l.length : Int) < 0 := by omega
    repeat (first | with_reducible apply W.seq | with_reducible apply W.block | with_reducible apply W.skip | with_reducible apply W.exit | with_reducible apply W.ret | with_reducible apply At.seqN | with_reducible apply At.blkN | with_reducible apply At.blkE | with_reducible apply At.blkR | with_reducible apply At.thenX | with_reducible apply At.thenR | with_reducible apply At.blkX rfl | ((with_reducible apply W.ops); (repeat (first | refine WL.opA hΓ (h := ?_) | refine WL.opX hΓ (h := ?_) | refine WL.opY (h := ?_) | refine WL.opZ (h := ?_))); with_reducible apply WL.nil) | refine W.condT (h := ?_) | refine W.condF (h := ?_))
    refine At.retA (by rw [Try.results28]) (he := ?_)
    first | rfl | rw [hr]
  · have hr : szE l.length n = -1 := if_neg b1
    rw [hr] at c1
    repeat (first | with_reducible apply W.seq | with_reducible apply W.block | with_reducible apply W.skip | with_reducible apply W.exit | with_reducible apply W.ret | with_reducible apply At.seqN | with_reducible apply At.blkN | with_reducible apply At.blkE | with_reducible apply At.blkR | with_reducible apply At.thenX | with_reducible apply At.thenR | with_reducible apply At.blkX rfl | ((with_reducible apply W.ops); (repeat (first | refine WL.opA hΓ (h := ?_) | refine WL.opX hΓ (h := ?_) | refine WL.opY (h := ?_) | refine WL.opZ (h := ?_))); with_reducible apply WL.nil) | refine W.condT (h := ?_) | refine W.condF (h := ?_))
    refine At.retA (by rw [Try.results28]) (he := ?_)
    first | rfl | rw [hr]
def totE (l : List TEra) : Nat := l.length + (l.map fun e => e.2.length).sum
def sumE (l : List TEra) (k : Nat) : Nat := ((l.take k).map fun e => e.2.length).sum
theorem sumE_succ {l : List TEra} {k : Nat} (h : k < l.length) : sumE l (k + 1) = sumE l k + l[k].2.length := by
  unfold sumE
  rw [List.take_succ_eq_append_getElem h, List.map_append, List.sum_append]
  simp
theorem sumE_le (l : List TEra) (k : Nat) : sumE l k ≤ (l.map fun e => e.2.length).sum := by
  unfold sumE
  conv => rhs; rw [← List.take_append_drop k l, List.map_append, List.sum_append]
  omega
theorem sumE_all (l : List TEra) : sumE l l.length = (l.map fun e => e.2.length).sum := by unfold sumE; rw [List.take_length]
abbrev okES (l : List TEra) : Prop := l.length ≤ 8796093022207 ∧ ∀ e ∈ l, okEr e
noncomputable def mSzES := mdl (fun x : List TEra × Int => okES x.1 ∧ leftE x.2) (fun x => [aES x.1, aI x.2]) (fun x => rI (szE (totE x.1) x.2))
theorem mSzES_eq (l : List TEra) (n : Int) (h1 : okES l) (h2 : leftE n) : mSzES [aES l, aI n] = some (rI (szE (totE l) n)) := mdl_eq (by
  rintro ⟨a, c⟩ ⟨a', c'⟩ h
  simp at h
  rw [eraRows_inj h.1, h.2]) (l, n) ⟨h1, h2⟩
theorem szES_s : Sound Try.prog 7 mSzES := by
  refine Sound.mdl Try.func7 rfl Try.ntmps7 ?_
  rintro ⟨l, n⟩ w ⟨⟨hl, hel⟩, n1, n2⟩
  refine ⟨by simp, ?_⟩
  dsimp only at hl hel n1 n2
  have hΓ : GSound Try.prog (look [(28, mSzEr)]) := env_cons (has_of Try.func28 rfl rfl) szEr_s env_nil
  have hlen := eraRows_len l
  have htot : totE l = l.length + (l.map fun e => e.2.length).sum := rfl
  simp only [initS, argPV, List.map_cons, List.map_nil, toPL, Nat.zero_add]
  by_cases b1 : (l.length : Int) ≤ n
  · have hng : ¬ n - (l.length : Int) < 0 := by omega
    repeat (first | with_reducible apply W.seq | with_reducible apply W.block | with_reducible apply W.skip | with_reducible apply W.exit | with_reducible apply W.ret | with_reducible apply At.seqN | with_reducible apply At.blkN | with_reducible apply At.blkE | with_reducible apply At.blkR | with_reducible apply At.thenX | with_reducible apply At.thenR | with_reducible apply At.blkX rfl | ((with_reducible apply W.ops); (repeat (first | refine WL.opA hΓ (h := ?_) | refine WL.opX hΓ (h := ?_) | refine WL.opY (h := ?_) | refine WL.opZ (h := ?_))); with_reducible apply WL.nil) | refine W.condT (h := ?_) | refine W.condF (h := ?_))
    refine W.loopA (fun x : Nat × Int => x.1 ≤ l.length ∧ x.2 = n - l.length - sumE l x.1 ∧ 0 ≤ x.2) (fun x : Nat × Int => [.slot 5 (vI x.1), .slot 1 (vI x.2), .slot 0 (one (.sl (eraRows l)))]) (fun x => l.length - x.1) (0, n - l.length) ⟨Nat.zero_le _, by simp [sumE], by dsimp only; omega⟩ (h := ?_)
    rintro ⟨k, m⟩ ⟨hk, hm, hm0⟩
    dsimp only at hk hm hm0 ⊢
    have hsl := sumE_le l k
    by_cases hlt : k < l.length
    · have hrow := eraRows_get hlt
      have hs := sumE_succ hlt
      have hsl2 := sumE_le l (k + 1)
      have c := mSzEr_eq l[k] m (hel _ (List.getElem_mem hlt)) ⟨hm0, by omega⟩
      generalize l[k] = x at hrow hs c
      obtain ⟨f, v⟩ := x
      dsimp only [aEr, eraRow] at c hrow hs
      by_cases b2 : (v.length : Int) ≤ m
      · have hr : szE v.length m = m - v.length := if_pos b2
        have hng2 : ¬ m - (v.length : Int) < 0 := by omega
        have hnx : m - (v.length : Int) = n - l.length - sumE l (k + 1) := by omega
        have hnx := Lib.hid hnx
        rw [hr] at c
        clear hm hs hr hsl hsl2 htot
        repeat (first | with_reducible apply W.seq | with_reducible apply W.block | with_reducible apply W.skip | with_reducible apply W.exit | with_reducible apply W.ret | with_reducible apply At.seqN | with_reducible apply At.blkN | with_reducible apply At.blkE | with_reducible apply At.blkR | with_reducible apply At.thenX | with_reducible apply At.thenR | with_reducible apply At.blkX rfl | ((with_reducible apply W.ops); (repeat (first | refine WL.opA hΓ (h := ?_) | refine WL.opX hΓ (h := ?_) | refine WL.opY (h := ?_) | refine WL.opZ (h := ?_))); with_reducible apply WL.nil) | refine W.condT (h := ?_) | refine W.condF (h := ?_))
        exact At.roundA (k + 1, m - (v.length : Int)) ⟨by dsimp only; omega, hnx.out, by dsimp only; omega⟩ (by dsimp only; omega)
      · have hr : szE v.length m = -1 := if_neg b2
        have hfin : szE (totE l) n = -1 := if_neg (by omega)
        rw [hr] at c
        clear hm hs hsl hsl2 htot
        repeat (first | with_reducible apply W.seq | with_reducible apply W.block | with_reducible apply W.skip | with_reducible apply W.exit | with_reducible apply W.ret | with_reducible apply At.seqN | with_reducible apply At.blkN | with_reducible apply At.blkE | with_reducible apply At.blkR | with_reducible apply At.thenX | with_reducible apply At.thenR | with_reducible apply At.blkX rfl | ((with_reducible apply W.ops); (repeat (first | refine WL.opA hΓ (h := ?_) | refine WL.opX hΓ (h := ?_) | refine WL.opY (h := ?_) | refine WL.opZ (h := ?_))); with_reducible apply WL.nil) | refine W.condT (h := ?_) | refine W.condF (h := ?_))
        refine At.retA (by rw [Try.results7]) (he := ?_)
        rw [hfin]
    · have hke : k = l.length := by omega
      subst hke
      have ha := sumE_all l
      have hfin : szE (totE l) n = m := by
        unfold szE
        rw [if_pos (by omega)]
        omega
      clear hm ha hsl htot
      repeat (first | with_reducible apply W.seq | with_reducible apply W.block | with_reducible apply W.skip | with_reducible apply W.exit | with_reducible apply W.ret | with_reducible apply At.seqN | with_reducible apply At.blkN | with_reducible apply At.blkE | with_reducible apply At.blkR | with_reducible apply At.thenX | with_reducible apply At.thenR | with_reducible apply At.blkX rfl | ((with_reducible apply W.ops); (repeat (first | refine WL.opA hΓ (h := ?_) | refine WL.opX hΓ (h := ?_) | refine WL.opY (h := ?_) | refine WL.opZ (h := ?_))); with_reducible apply WL.nil) | refine W.condT (h := ?_) | refine W.condF (h := ?_))
      refine At.retA (by rw [Try.results7]) (he := ?_)
      rw [hfin]
  · have hng : n - (l.length : Int) < 0 := by omega
    have hfin : szE (totE l) n = -1 := if_neg (by omega)
    clear htot
    repeat (first | with_reducible apply W.seq | with_reducible apply W.block | with_reducible apply W.skip | with_reducible apply W.exit | with_reducible apply W.ret | with_reducible apply At.seqN | with_reducible apply At.blkN | with_reducible apply At.blkE | with_reducible apply At.blkR | with_reducible apply At.thenX | with_reducible apply At.thenR | with_reducible apply At.blkX rfl | ((with_reducible apply W.ops); (repeat (first | refine WL.opA hΓ (h := ?_) | refine WL.opX hΓ (h := ?_) | refine WL.opY (h := ?_) | refine WL.opZ (h := ?_))); with_reducible apply WL.nil) | refine W.condT (h := ?_) | refine W.condF (h := ?_))
    refine At.retA (by rw [Try.results7]) (he := ?_)
    rw [hfin]
abbrev rEr (e : TEra) : Res := .comp true [.ro (.sc (.int .i64 e.1)), .own .ft 57 2 (rowsF cVal e.2)]
noncomputable def mToEr := mdl (fun e : TEra => e.2.length ≤ 1048576) (fun e => [aEr e]) (fun e => rEr e)
theorem mToEr_eq (e : TEra) (h : e.2.length ≤ 1048576) : mToEr [aEr e] = some (rEr e) := mdl_eq aEr_inj e h
theorem toEr_s : Sound Try.prog 30 mToEr := by
  refine Sound.mdl Try.func30 rfl Try.ntmps30 ?_
  rintro ⟨f, l⟩ w hl
  refine ⟨by simp, ?_⟩
  replace hl : l.length ≤ 1048576 := hl
  have hΓ : GSound Try.prog (look [(18, mToVlS)]) := env_cons (has_of Try.func18 rfl rfl) toVlS_s env_nil
  have c := mToVlS_eq l hl
  simp only [initS, argPV, List.map_cons, List.map_nil, toPL, Nat.zero_add]
  repeat (first | with_reducible apply W.seq | with_reducible apply W.block | with_reducible apply W.skip | with_reducible apply W.exit | with_reducible apply W.ret | with_reducible apply At.seqN | with_reducible apply At.blkN | with_reducible apply At.blkE | with_reducible apply At.blkR | with_reducible apply At.thenX | with_reducible apply At.thenR | with_reducible apply At.blkX rfl | ((with_reducible apply W.ops); (repeat (first | refine WL.opA hΓ (h := ?_) | refine WL.opX hΓ (h := ?_) | refine WL.opY (h := ?_) | refine WL.opZ (h := ?_))); with_reducible apply WL.nil) | refine W.condT (h := ?_) | refine W.condF (h := ?_))
  refine At.retA (by rw [Try.results30]) (he := rfl)
abbrev zEra : List Leaf := [.sc (.int .i64 0), .sc (.slice none 0 0)]
abbrev rEN (l : List TEra) : Res := .comp false [.own .nd 52 2 (eraRows l)]
noncomputable def mToES := mdl (fun l : List TEra => l.length ≤ 1048576 ∧ ∀ e ∈ l, e.2.length ≤ 1048576) (fun l => [aES l]) rEN
theorem mToES_eq (l : List TEra) (h1 : l.length ≤ 1048576) (h2 : ∀ e ∈ l, e.2.length ≤ 1048576) : mToES [aES l] = some (rEN l) := mdl_eq aES_inj l ⟨h1, h2⟩
theorem toES_s : Sound Try.prog 9 mToES := by
  refine Sound.mdl Try.func9 rfl Try.ntmps9 ?_
  rintro l w ⟨hl, hel⟩
  refine ⟨by simp, ?_⟩
  have hΓ : GSound Try.prog (look [(30, mToEr)]) := env_cons (has_of Try.func30 rfl rfl) toEr_s env_nil
  have hlen := eraRows_len l
  have hz : List.replicate l.length zEra = padE zEra eraRow l 0 := (padE_zero _ _ _).symm
  simp only [initS, argPV, List.map_cons, List.map_nil, toPL, Nat.zero_add]
  repeat (first | with_reducible apply W.seq | with_reducible apply W.block | with_reducible apply W.skip | with_reducible apply W.exit | with_reducible apply W.ret | with_reducible apply At.seqN | with_reducible apply At.blkN | with_reducible apply At.blkE | with_reducible apply At.blkR | with_reducible apply At.thenX | with_reducible apply At.thenR | with_reducible apply At.blkX rfl | ((with_reducible apply W.ops); (repeat (first | refine WL.opA hΓ (h := ?_) | refine WL.opX hΓ (h := ?_) | refine WL.opY (h := ?_) | refine WL.opZ (h := ?_))); with_reducible apply WL.nil) | refine W.condT (h := ?_) | refine W.condF (h := ?_))
  refine W.toNd 7 (h := ?_)
  refine W.loopA (fun k => k ≤ l.length) (fun k : Nat => [.slot 4 (vI k), .slot 0 (one (.sl (eraRows l))), .slot 3 (one (.all 7)), .blk 7 (.arr .nd 52 2 (padE zEra eraRow l k))]) (fun k => l.length - k) 0 (Nat.zero_le _) (h := ?_)
  rintro k hk
  clear hz
  have hpl := padE_len zEra eraRow l hk
  by_cases hlt : k < l.length
  · have hrow := eraRows_get hlt
    have hset : (padE zEra eraRow l k).set k [.sc (.int .i64 l[k].1), .sl (rowsF cVal l[k].2)] = padE zEra eraRow l (k + 1) := padE_set _ _ l hlt
    have hold : (padE zEra eraRow l k)[k]? = some [.sc (.int .i64 0), .sc (.slice none 0 0)] := padE_get zEra eraRow l hlt
    have c := mToEr_eq l[k] (hel _ (List.getElem_mem hlt))
    generalize l[k] = x at *
    obtain ⟨f, v⟩ := x
    dsimp only [aEr, rEr, eraRow] at c hrow hset
    repeat (first | with_reducible apply W.seq | with_reducible apply W.block | with_reducible apply W.skip | with_reducible apply W.exit | with_reducible apply W.ret | with_reducible apply At.seqN | with_reducible apply At.blkN | with_reducible apply At.blkE | with_reducible apply At.blkR | with_reducible apply At.thenX | with_reducible apply At.thenR | with_reducible apply At.blkX rfl | ((with_reducible apply W.ops); (repeat (first | refine WL.opA hΓ (h := ?_) | refine WL.opX hΓ (h := ?_) | refine WL.opY (h := ?_) | refine WL.opZ (h := ?_))); with_reducible apply WL.nil) | refine W.condT (h := ?_) | refine W.condF (h := ?_))
    exact At.roundA (k + 1) (by omega) (by omega)
  · have hke : k = l.length := by omega
    subst hke
    have hall := padE_all zEra eraRow l
    have he : l.map eraRow = eraRows l := rfl
    repeat (first | with_reducible apply W.seq | with_reducible apply W.block | with_reducible apply W.skip | with_reducible apply W.exit | with_reducible apply W.ret | with_reducible apply At.seqN | with_reducible apply At.blkN | with_reducible apply At.blkE | with_reducible apply At.blkR | with_reducible apply At.thenX | with_reducible apply At.thenR | with_reducible apply At.blkX rfl | ((with_reducible apply W.ops); (repeat (first | refine WL.opA hΓ (h := ?_) | refine WL.opX hΓ (h := ?_) | refine WL.opY (h := ?_) | refine WL.opZ (h := ?_))); with_reducible apply WL.nil) | refine W.condT (h := ?_) | refine W.condF (h := ?_))
    refine At.retA (by rw [Try.results9]) (he := ?_)
    first | rfl | (rw [hall]; rfl)
noncomputable def mEqEr := mdl (fun x : TEra × TEra => okEr x.1 ∧ okEr x.2) (fun x => [aEr x.1, aEr x.2]) (fun x => rB (decide (x.1 = x.2)))
theorem mEqEr_eq (x y : TEra) (h1 : okEr x) (h2 : okEr y) : mEqEr [aEr x, aEr y] = some (rB (decide (x = y))) := mdl_eq (by
  rintro ⟨⟨a, b⟩, ⟨c, d⟩⟩ ⟨⟨a', b'⟩, ⟨c', d'⟩⟩ h
  simp at h
  simp [h]) (x, y) ⟨h1, h2⟩
theorem eqEr_s : Sound Try.prog 35 mEqEr := by
  refine Sound.mdl Try.func35 rfl Try.ntmps35 ?_
  rintro ⟨⟨a, b⟩, ⟨c, d⟩⟩ w ⟨h1, h2⟩
  refine ⟨by simp, ?_⟩
  dsimp only at h1 h2
  have hΓ : GSound Try.prog (look [(11, mEqVS)]) := env_cons (has_of Try.func11 rfl rfl) eqVS_s env_nil
  have c1 := mEqVS_eq b d h1 h2
  simp only [initS, argPV, List.map_cons, List.map_nil, toPL, Nat.zero_add]
  by_cases e1 : a = c
  · subst e1
    by_cases e2 : b = d
    · rw [decide_eq_true e2] at c1
      have hr : decide (((a, b) : TEra) = (a, d)) = true := decide_eq_true (by rw [e2])
      have hr := Lib.hid hr
      clear e2
      repeat (first | with_reducible apply W.seq | with_reducible apply W.block | with_reducible apply W.skip | with_reducible apply W.exit | with_reducible apply W.ret | with_reducible apply At.seqN | with_reducible apply At.blkN | with_reducible apply At.blkE | with_reducible apply At.blkR | with_reducible apply At.thenX | with_reducible apply At.thenR | with_reducible apply At.blkX rfl | ((with_reducible apply W.ops); (repeat (first | refine WL.opA hΓ (h := ?_) | refine WL.opX hΓ (h := ?_) | refine WL.opY (h := ?_) | refine WL.opZ (h := ?_))); with_reducible apply WL.nil) | refine W.condT (h := ?_) | refine W.condF (h := ?_))
      refine At.retA (by rw [Try.results35]) (he := ?_)
      simp only [hr.out]
    · rw [decide_eq_false e2] at c1
      have hr : decide (((a, b) : TEra) = (a, d)) = false := decide_eq_false fun h => e2 (Prod.ext_iff.1 h).2
      have hr := Lib.hid hr
      clear e2
      repeat (first | with_reducible apply W.seq | with_reducible apply W.block | with_reducible apply W.skip | with_reducible apply W.exit | with_reducible apply W.ret | with_reducible apply At.seqN | with_reducible apply At.blkN | with_reducible apply At.blkE | with_reducible apply At.blkR | with_reducible apply At.thenX | with_reducible apply At.thenR | with_reducible apply At.blkX rfl | ((with_reducible apply W.ops); (repeat (first | refine WL.opA hΓ (h := ?_) | refine WL.opX hΓ (h := ?_) | refine WL.opY (h := ?_) | refine WL.opZ (h := ?_))); with_reducible apply WL.nil) | refine W.condT (h := ?_) | refine W.condF (h := ?_))
      refine At.retA (by rw [Try.results35]) (he := ?_)
      simp only [hr.out]
  · have hr : decide (((a, b) : TEra) = (c, d)) = false := decide_eq_false fun h => e1 (Prod.ext_iff.1 h).1
    have hr := Lib.hid hr
    repeat (first | with_reducible apply W.seq | with_reducible apply W.block | with_reducible apply W.skip | with_reducible apply W.exit | with_reducible apply W.ret | with_reducible apply At.seqN | with_reducible apply At.blkN | with_reducible apply At.blkE | with_reducible apply At.blkR | with_reducible apply At.thenX | with_reducible apply At.thenR | with_reducible apply At.blkX rfl | ((with_reducible apply W.ops); (repeat (first | refine WL.opA hΓ (h := ?_) | refine WL.opX hΓ (h := ?_) | refine WL.opY (h := ?_) | refine WL.opZ (h := ?_))); with_reducible apply WL.nil) | refine W.condT (h := ?_) | refine W.condF (h := ?_))
    refine At.retA (by rw [Try.results35]) (he := ?_)
    simp only [hr.out]
noncomputable def mEqES := mdl (fun x : List TEra × List TEra => okES x.1 ∧ okES x.2) (fun x => [aES x.1, aES x.2]) (fun x => rB (decide (x.1 = x.2)))
theorem mEqES_eq (a b : List TEra) (h1 : okES a) (h2 : okES b) : mEqES [aES a, aES b] = some (rB (decide (a = b))) := mdl_eq (by
  rintro ⟨a, b⟩ ⟨d, e⟩ h
  simp at h
  rw [eraRows_inj h.1, eraRows_inj h.2]) (a, b) ⟨h1, h2⟩
theorem eqES_s : Sound Try.prog 12 mEqES := by
  refine Sound.mdl Try.func12 rfl Try.ntmps12 ?_
  rintro ⟨a, b⟩ w ⟨⟨ha, hae⟩, ⟨hb, hbe⟩⟩
  refine ⟨by simp, ?_⟩
  dsimp only at ha hb hae hbe
  have hΓ : GSound Try.prog (look [(35, mEqEr)]) := env_cons (has_of Try.func35 rfl rfl) eqEr_s env_nil
  have hla := eraRows_len a
  have hlb0 := eraRows_len b
  simp only [initS, argPV, List.map_cons, List.map_nil, toPL, Nat.zero_add]
  by_cases hl : a.length = b.length
  · have hli : ((a.length : Nat) : Int) = ((b.length : Nat) : Int) := by omega
    repeat (first | with_reducible apply W.seq | with_reducible apply W.block | with_reducible apply W.skip | with_reducible apply W.exit | with_reducible apply W.ret | with_reducible apply At.seqN | with_reducible apply At.blkN | with_reducible apply At.blkE | with_reducible apply At.blkR | with_reducible apply At.thenX | with_reducible apply At.thenR | with_reducible apply At.blkX rfl | ((with_reducible apply W.ops); (repeat (first | refine WL.opA hΓ (h := ?_) | refine WL.opX hΓ (h := ?_) | refine WL.opY (h := ?_) | refine WL.opZ (h := ?_))); with_reducible apply WL.nil) | refine W.condT (h := ?_) | refine W.condF (h := ?_))
    refine W.loopA (fun k => k ≤ a.length ∧ SameK a b k) (fun k : Nat => [.slot 5 (vI k), .slot 0 (one (.sl (eraRows a))), .slot 1 (one (.sl (eraRows b)))]) (fun k => a.length - k) 0 ⟨Nat.zero_le _, fun j hj => by omega⟩ (h := ?_)
    rintro k ⟨hk, hS⟩
    have hS := Lib.hid hS
    by_cases hlt : k < a.length
    · have hlb : k < b.length := by omega
      have hra := eraRows_get hlt
      have hrb := eraRows_get hlb
      have c := mEqEr_eq a[k] b[k] (hae _ (List.getElem_mem hlt)) (hbe _ (List.getElem_mem hlb))
      by_cases he : a[k] = b[k]
      · have hn := hS.out.next hlt hlb he
        have hn := Lib.hid hn
        rw [decide_eq_true he] at c
        clear he hS hl
        generalize a[k] = x at *
        generalize b[k] = y at *
        obtain ⟨x1, x2⟩ := x
        obtain ⟨y1, y2⟩ := y
        dsimp only [aEr, eraRow] at c hra hrb
        repeat (first | with_reducible apply W.seq | with_reducible apply W.block | with_reducible apply W.skip | with_reducible apply W.exit | with_reducible apply W.ret | with_reducible apply At.seqN | with_reducible apply At.blkN | with_reducible apply At.blkE | with_reducible apply At.blkR | with_reducible apply At.thenX | with_reducible apply At.thenR | with_reducible apply At.blkX rfl | ((with_reducible apply W.ops); (repeat (first | refine WL.opA hΓ (h := ?_) | refine WL.opX hΓ (h := ?_) | refine WL.opY (h := ?_) | refine WL.opZ (h := ?_))); with_reducible apply WL.nil) | refine W.condT (h := ?_) | refine W.condF (h := ?_))
        refine W.drawsA hΓ 10 [[], [], [0, 1], [0, 1, 2], [], [], [4, 5], [4, 5, 6], [0, 1, 2, 3, 4, 5, 6, 7], [0, 1, 2, 3, 4, 5, 6, 7, 8]] (rest := ?rest57) (Es := ?Es57) (st1 := ?st157) (h := ?h57) (hf := ?hf57) (hp := ?hp57) (hd := ?hd57) (hfr := ?hfr57) (hst := ?hst57) (hT := ?hT57)
        case h57 => kernel_rfl
        case hf57 =>
          repeat (first | refine FlowT.opA (h := ?_) | refine FlowT.opX (h := ?_) | refine FlowT.opY (h := ?_) | refine FlowT.opZ (h := ?_))
          exact FlowT.done
        case hp57 => rfl
        case hd57 => rfl
        case hfr57 => rfl
        case hst57 =>
          simp only [pick_nil, pick_all, List.cons_append, List.nil_append]
          rfl
        (repeat (first | refine WL.opA hΓ (h := ?_) | refine WL.opX hΓ (h := ?_) | refine WL.opY (h := ?_) | refine WL.opZ (h := ?_)))
        with_reducible apply WL.nil
        repeat (first | with_reducible apply W.seq | with_reducible apply W.block | with_reducible apply W.skip | with_reducible apply W.exit | with_reducible apply W.ret | with_reducible apply At.seqN | with_reducible apply At.blkN | with_reducible apply At.blkE | with_reducible apply At.blkR | with_reducible apply At.thenX | with_reducible apply At.thenR | with_reducible apply At.blkX rfl | ((with_reducible apply W.ops); (repeat (first | refine WL.opA hΓ (h := ?_) | refine WL.opX hΓ (h := ?_) | refine WL.opY (h := ?_) | refine WL.opZ (h := ?_))); with_reducible apply WL.nil) | refine W.condT (h := ?_) | refine W.condF (h := ?_))
        exact At.roundA (k + 1) ⟨by omega, hn.out⟩ (by omega)
      · have hne := decide_eq_false (ne_at hlt hlb he)
        rw [decide_eq_false he] at c
        clear he hS hl
        generalize a[k] = x at *
        generalize b[k] = y at *
        obtain ⟨x1, x2⟩ := x
        obtain ⟨y1, y2⟩ := y
        dsimp only [aEr, eraRow] at c hra hrb
        repeat (first | with_reducible apply W.seq | with_reducible apply W.block | with_reducible apply W.skip | with_reducible apply W.exit | with_reducible apply W.ret | with_reducible apply At.seqN | with_reducible apply At.blkN | with_reducible apply At.blkE | with_reducible apply At.blkR | with_reducible apply At.thenX | with_reducible apply At.thenR | with_reducible apply At.blkX rfl | ((with_reducible apply W.ops); (repeat (first | refine WL.opA hΓ (h := ?_) | refine WL.opX hΓ (h := ?_) | refine WL.opY (h := ?_) | refine WL.opZ (h := ?_))); with_reducible apply WL.nil) | refine W.condT (h := ?_) | refine W.condF (h := ?_))
        refine W.drawsA hΓ 10 [[], [], [0, 1], [0, 1, 2], [], [], [4, 5], [4, 5, 6], [0, 1, 2, 3, 4, 5, 6, 7], [0, 1, 2, 3, 4, 5, 6, 7, 8]] (rest := ?rest60) (Es := ?Es60) (st1 := ?st160) (h := ?h60) (hf := ?hf60) (hp := ?hp60) (hd := ?hd60) (hfr := ?hfr60) (hst := ?hst60) (hT := ?hT60)
        case h60 => kernel_rfl
        case hf60 =>
          repeat (first | refine FlowT.opA (h := ?_) | refine FlowT.opX (h := ?_) | refine FlowT.opY (h := ?_) | refine FlowT.opZ (h := ?_))
          exact FlowT.done
        case hp60 => rfl
        case hd60 => rfl
        case hfr60 => rfl
        case hst60 =>
          simp only [pick_nil, pick_all, List.cons_append, List.nil_append]
          rfl
        (repeat (first | refine WL.opA hΓ (h := ?_) | refine WL.opX hΓ (h := ?_) | refine WL.opY (h := ?_) | refine WL.opZ (h := ?_)))
        with_reducible apply WL.nil
        repeat (first | with_reducible apply W.seq | with_reducible apply W.block | with_reducible apply W.skip | with_reducible apply W.exit | with_reducible apply W.ret | with_reducible apply At.seqN | with_reducible apply At.blkN | with_reducible apply At.blkE | with_reducible apply At.blkR | with_reducible apply At.thenX | with_reducible apply At.thenR | with_reducible apply At.blkX rfl | ((with_reducible apply W.ops); (repeat (first | refine WL.opA hΓ (h := ?_) | refine WL.opX hΓ (h := ?_) | refine WL.opY (h := ?_) | refine WL.opZ (h := ?_))); with_reducible apply WL.nil) | refine W.condT (h := ?_) | refine W.condF (h := ?_))
        refine At.retA (by rw [Try.results12]) (he := ?_)
        simp only [hne]
    · have hke : k = a.length := by omega
      have hE : a = b := by rw [hke] at hS; exact hS.out.all hl
      have hE := Lib.hid (decide_eq_true hE)
      clear hl hli
      repeat (first | with_reducible apply W.seq | with_reducible apply W.block | with_reducible apply W.skip | with_reducible apply W.exit | with_reducible apply W.ret | with_reducible apply At.seqN | with_reducible apply At.blkN | with_reducible apply At.blkE | with_reducible apply At.blkR | with_reducible apply At.thenX | with_reducible apply At.thenR | with_reducible apply At.blkX rfl | ((with_reducible apply W.ops); (repeat (first | refine WL.opA hΓ (h := ?_) | refine WL.opX hΓ (h := ?_) | refine WL.opY (h := ?_) | refine WL.opZ (h := ?_))); with_reducible apply WL.nil) | refine W.condT (h := ?_) | refine W.condF (h := ?_))
      refine At.retA (by rw [Try.results12]) (he := ?_)
      rw [hE.out]
  · have hli : ¬ ((a.length : Nat) : Int) = ((b.length : Nat) : Int) := by omega
    have hne : decide (a = b) = false := decide_eq_false fun h => hl (by rw [h])
    clear hl
    repeat (first | with_reducible apply W.seq | with_reducible apply W.block | with_reducible apply W.skip | with_reducible apply W.exit | with_reducible apply W.ret | with_reducible apply At.seqN | with_reducible apply At.blkN | with_reducible apply At.blkE | with_reducible apply At.blkR | with_reducible apply At.thenX | with_reducible apply At.thenR | with_reducible apply At.blkX rfl | ((with_reducible apply W.ops); (repeat (first | refine WL.opA hΓ (h := ?_) | refine WL.opX hΓ (h := ?_) | refine WL.opY (h := ?_) | refine WL.opZ (h := ?_))); with_reducible apply WL.nil) | refine W.condT (h := ?_) | refine W.condF (h := ?_))
    refine At.retA (by rw [Try.results12]) (he := ?_)
    simp only [hne]
end Go.Proofs.Ytimnogjgokljbaa
