/-
  The law of ReadPMsg.
-/
import Derived.Test.YteaohgacgcjkjaaEvRdPM
import Derived.Test.YteaohgacgcjkjaaEvMarkP
namespace Go.Proofs.Yteaohgacgcjkjaa
set_option maxRecDepth 100000
set_option linter.unusedVariables false
set_option linter.unusedSimpArgs false
open Go Go.RowKit
set_option maxHeartbeats 4000000

/-- a row that was marked from 1 on -/
abbrev okHl (l : List TAddr) : Prop := l = marked mkAddr 2 1 l.length ∧ 1 + 2 * l.length ≤ 1099511627776
noncomputable def mHeldA := mdl okHl (fun l => [aL cAddr l, aI 1]) (fun l => rI ((1 + 2 * l.length : Nat) : Int))
theorem mHeldA_eq (l : List TAddr) (h : okHl l) : mHeldA [aL cAddr l, aI 1] = some (rI ((1 + 2 * l.length : Nat) : Int)) := mdl_eq (by intro a b h; simpa using h) l h
theorem heldA_s : Sound Try.prog 63 mHeldA := Sound.says (fun _ => rfl) fun l vs w hok hr => by
  obtain ⟨h1, h2⟩ := hr
  obtain ⟨v0, e0, r0⟩ := h2 0 _ rfl
  obtain ⟨v1, e1, r1⟩ := h2 1 _ rfl
  obtain ⟨x, ex, rx⟩ := r1
  cases ex
  cases rx
  match vs, h1 with
  | [a, b], _ =>
    cases e0
    cases e1
    have h3 : RdS w w.heap.size 2 cAddr v0 l := rep_RdS (fun _ => rfl) (repA_list_inv r0)
    rw [hok.1] at h3
    exact (heldAddrS_any v0 l.length 1 w h3 (by omega) hok.2).mono fun e w' hq => hq
noncomputable def mHeldP := mdl (fun m : TPMsg => okHl m.2.2.2.2) (fun m => [aPM m, aI 1]) (fun m => rI ((1 + 2 * m.2.2.2.2.length : Nat) : Int))
theorem mHeldP_eq (m : TPMsg) (h : okHl m.2.2.2.2) : mHeldP [aPM m, aI 1] = some (rI ((1 + 2 * m.2.2.2.2.length : Nat) : Int)) := mdl_eq (enc := fun m => [aPM m, aI 1]) (by
  intro x y h
  exact aPM_inj x y (by simp only [List.cons.injEq, and_true] at h ⊢; exact h)) m h
theorem heldP_s : Sound Try.prog 25 mHeldP := by
  refine Sound.mdl Try.func25 rfl Try.ntmps25 ?_
  rintro ⟨k, f, ⟨r1, r2, r3⟩, ⟨h1, h2, la, va, ne, da⟩, l⟩ w hl
  refine ⟨by simp, ?_⟩
  replace hl : okHl l := hl
  have hΓ : GSound Try.prog (look [(63, mHeldA)]) := env_cons (has_of Try.func63 rfl rfl) heldA_s env_nil
  have c1 := mHeldA_eq l hl
  obtain ⟨-, hl2⟩ := hl
  simp only [initS, argPV, List.map_cons, List.map_nil, toPL, Nat.zero_add]
  repeat (first | with_reducible apply W.seq | with_reducible apply W.block | with_reducible apply W.skip | with_reducible apply W.exit | with_reducible apply W.ret | with_reducible apply At.seqN | with_reducible apply At.blkN | with_reducible apply At.blkE | with_reducible apply At.blkR | with_reducible apply At.thenX | with_reducible apply At.thenR | with_reducible apply At.blkX rfl | ((with_reducible apply W.ops); (repeat (first | refine WL.opA hΓ (h := ?_) | refine WL.opX hΓ (h := ?_) | refine WL.opY (h := ?_) | refine WL.opZ (h := ?_))); with_reducible apply WL.nil) | refine W.condT (h := ?_) | refine W.condF (h := ?_))
  refine At.retA (by rw [Try.results25]) (he := rfl)
/-- marking no address -/
noncomputable def mMarkP0 := mdl (fun m : TPMsg => m.2.2.2.2 = []) (fun m => [aPM m, aI 1]) (fun _ => rI 1)
theorem mMarkP0_eq (m : TPMsg) (h : m.2.2.2.2 = []) : mMarkP0 [aPM m, aI 1] = some (rI 1) := mdl_eq (enc := fun m => [aPM m, aI 1]) (by
  intro x y h
  exact aPM_inj x y (by simp only [List.cons.injEq, and_true] at h ⊢; exact h)) m h
noncomputable def mMarkA0 := mdl (fun _ : Unit => True) (fun _ => [aL cAddr [], aI 1]) (fun _ => rI 1)
theorem mMarkA0_eq : mMarkA0 [aL cAddr [], aI 1] = some (rI 1) := mdl_eq (enc := fun _ : Unit => [aL cAddr [], aI 1]) (by intro a b _; rfl) () trivial
theorem markA0_s : Sound Try.prog 62 mMarkA0 := Sound.says (fun _ => rfl) fun _ vs w hok hr => by
  obtain ⟨h1, h2⟩ := hr
  obtain ⟨v0, e0, r0⟩ := h2 0 _ rfl
  obtain ⟨v1, e1, r1⟩ := h2 1 _ rfl
  obtain ⟨x, ex, rx⟩ := r1
  cases ex
  cases rx
  match vs, h1 with
  | [a, b], _ =>
    cases e0
    cases e1
    obtain ⟨A, c, rfl, h4, h5, _⟩ : RdS w w.heap.size 2 cAddr v0 [] := rep_RdS (fun _ => rfl) (repA_list_inv r0)
    refine (markAddrS_any _ [] 1 0 w ⟨A, c, rfl, h4, h5, fun h => absurd rfl h⟩ (by omega) (by simp)).mono fun e w' hq => ⟨hq.1, ?_⟩
    rw [hq.2.2.1 rfl]
    exact Below.refl _ _
theorem markP0_s : Sound Try.prog 24 mMarkP0 := by
  refine Sound.mdl Try.func24 rfl Try.ntmps24 ?_
  rintro ⟨k, f, ⟨r1, r2, r3⟩, ⟨h1, h2, la, va, ne, da⟩, l⟩ w hl
  refine ⟨by simp, ?_⟩
  replace hl : l = [] := hl
  subst hl
  have hΓ : GSound Try.prog (look [(62, mMarkA0)]) := env_cons (has_of Try.func62 rfl rfl) markA0_s env_nil
  have c1 := mMarkA0_eq
  simp only [initS, argPV, List.map_cons, List.map_nil, toPL, Nat.zero_add]
  repeat (first | with_reducible apply W.seq | with_reducible apply W.block | with_reducible apply W.skip | with_reducible apply W.exit | with_reducible apply W.ret | with_reducible apply At.seqN | with_reducible apply At.blkN | with_reducible apply At.blkE | with_reducible apply At.blkR | with_reducible apply At.thenX | with_reducible apply At.thenR | with_reducible apply At.blkX rfl | ((with_reducible apply W.ops); (repeat (first | refine WL.opA hΓ (h := ?_) | refine WL.opX hΓ (h := ?_) | refine WL.opY (h := ?_) | refine WL.opZ (h := ?_))); with_reducible apply WL.nil) | refine W.condT (h := ?_) | refine W.condF (h := ?_))
  refine At.retA (by rw [Try.results24]) (he := rfl)
theorem adN_ten {s : ByteArray} : ∀ m, candM s = some m → m.2.2.2.2.length ≤ 10 := by
  intro m hm
  unfold candM at hm
  split at hm
  · split at hm
    · cases hm
    · unfold candK at hm
      split at hm
      · cases hm; simp
      · split at hm
        · cases hm; simp
        · split at hm
          · split at hm
            · cases hm
            · rename_i h
              cases hm
              dsimp only
              rw [adN_len]
              omega
          · cases hm; simp
  · cases hm
theorem rdPM_ten (s : ByteArray) : (rdPM s).1.2.2.2.2.length ≤ 10 := by
  unfold rdPM
  split
  · rename_i m hm
    split
    · exact adN_ten m hm
    · simp
  · simp
theorem lawRead_s : Sound Try.prog 5 (mdl (fun s : ByteArray => s.size ≤ 9223372036854775807) (fun s => [aS s]) fun _ => rB true) := by
  refine Sound.mdl Try.func5 rfl Try.ntmps5 ?_
  rintro s w hs
  refine ⟨by simp, ?_⟩
  replace hs : s.size ≤ 9223372036854775807 := hs
  have hΓ : GSound Try.prog (look [(21, mRdPM), (22, mRdPM), (23, mEqPM), (25, mHeldP), (24, mMarkP0)]) := env_cons (has_of Try.func21 rfl rfl) readPMS_s (env_cons (has_of Try.func22 rfl rfl) readPMI_s (env_cons (has_of Try.func23 rfl rfl) eqPM_s (env_cons (has_of Try.func25 rfl rfl) heldP_s (env_cons (has_of Try.func24 rfl rfl) markP0_s env_nil))))
  have hMk : Has Try.prog 24 := has_of Try.func24 rfl rfl
  by_cases hb : 1048576 < s.size
  · simp only [initS, argPV, List.map_cons, List.map_nil, toPL, Nat.zero_add]
    repeat (first | with_reducible apply W.seq | with_reducible apply W.block | with_reducible apply W.skip | with_reducible apply W.exit | with_reducible apply W.ret | with_reducible apply At.seqN | with_reducible apply At.blkN | with_reducible apply At.blkE | with_reducible apply At.blkR | with_reducible apply At.thenX | with_reducible apply At.thenR | with_reducible apply At.blkX rfl | ((with_reducible apply W.ops); (repeat (first | refine WL.opA hΓ (h := ?_) | refine WL.opX hΓ (h := ?_) | refine WL.opY (h := ?_) | refine WL.opZ (h := ?_))); with_reducible apply WL.nil) | refine W.condT (h := ?_) | refine W.condF (h := ?_))
    refine At.retA (by rw [Try.results5]) (he := rfl)
  · have c1 := mRdPM_eq s (show s.size ≤ _ by omega)
    have h10 := rdPM_ten s
    generalize rdPM s = x at c1 h10
    obtain ⟨⟨k, f, ⟨r1, r2, r3⟩, ⟨h1, h2, la, va, ne, da⟩, l⟩, b⟩ := x
    have c2 := mEqPM_eq (k, f, (r1, r2, r3), (h1, h2, la, va, ne, da), l) (k, f, (r1, r2, r3), (h1, h2, la, va, ne, da), l) (by dsimp only [okPM] at h10 ⊢; omega) (by dsimp only [okPM] at h10 ⊢; omega)
    rw [eqPB_self] at c2
    dsimp only at h10
    have hbb : (b == b) = true := by simp
    cases l with
    | nil =>
      have c3 := mMarkP0_eq (k, f, (r1, r2, r3), (h1, h2, la, va, ne, da), []) rfl
      have c4 := mHeldP_eq (k, f, (r1, r2, r3), (h1, h2, la, va, ne, da), []) ⟨rfl, by simp⟩
      dsimp only [aPM, rPMB, adRL] at c1 c2 c3 c4
      have hn0 : rowsF cAddr [] = [] := rfl
      rw [hn0] at c2 c3 c4
      have e1 : ((1 + 2 * ([] : List TAddr).length : Nat) : Int) = 1 := rfl
      rw [e1] at c4
      simp only [initS, argPV, List.map_cons, List.map_nil, toPL, Nat.zero_add]
      repeat (first | with_reducible apply W.seq | with_reducible apply W.block | with_reducible apply W.skip | with_reducible apply W.exit | with_reducible apply W.ret | with_reducible apply At.seqN | with_reducible apply At.blkN | with_reducible apply At.blkE | with_reducible apply At.blkR | with_reducible apply At.thenX | with_reducible apply At.thenR | with_reducible apply At.blkX rfl | ((with_reducible apply W.ops); (repeat (first | refine WL.opA hΓ (h := ?_) | refine WL.opX hΓ (h := ?_) | refine WL.opY (h := ?_) | refine WL.opZ (h := ?_))); with_reducible apply WL.nil) | refine W.condT (h := ?_) | refine W.condF (h := ?_))
      refine At.retA (by rw [Try.results5]) (he := rfl)
    | cons a r =>
      have hml : (marked mkAddr 2 1 (a :: r).length).length = (a :: r).length := length_marked
      have c4 := mHeldP_eq (k, f, (r1, r2, r3), (h1, h2, la, va, ne, da), marked mkAddr 2 1 (a :: r).length) ⟨by dsimp only; rw [hml], by dsimp only; rw [hml]; omega⟩
      dsimp only [aPM, rPMB, adRL] at c1 c2 c4
      rw [hml] at c4
      generalize a :: r = l at *
      have hmk := markPM_own k f (r1, r2, r3) (h1, h2, la, va, ne, da) 11021 l 1 (1 + 2 * l.length) (by omega) rfl (by omega)
      dsimp only [lsPM] at hmk
      generalize hm : marked mkAddr 2 1 l.length = ml at *
      clear hm hml
      simp only [initS, argPV, List.map_cons, List.map_nil, toPL, Nat.zero_add]
      repeat (first | with_reducible apply W.seq | with_reducible apply W.block | with_reducible apply W.skip | with_reducible apply W.exit | with_reducible apply W.ret | with_reducible apply At.seqN | with_reducible apply At.blkN | with_reducible apply At.blkE | with_reducible apply At.blkR | with_reducible apply At.thenX | with_reducible apply At.thenR | with_reducible apply At.blkX rfl | ((with_reducible apply W.ops); (repeat (first | refine WL.opA hΓ (h := ?_) | refine WL.opX hΓ (h := ?_) | refine WL.opY (h := ?_) | refine WL.opZ (h := ?_))); with_reducible apply WL.nil) | refine W.condT (h := ?_) | refine W.condF (h := ?_))
      with_reducible apply W.ops
      repeat (first | refine WL.opA hΓ (h := ?_) | refine WL.opX hΓ (h := ?_) | refine WL.opY (h := ?_) | refine WL.opZ (h := ?_))
      refine WL.opMarkS 11021 1 (1 + 2 * l.length) ml hMk hmk cAddr_len (fun x u hu => by simp [cAddr] at hu; rcases hu with rfl | rfl <;> rfl) (h := ?_)
      (repeat (first | refine WL.opA hΓ (h := ?_) | refine WL.opX hΓ (h := ?_) | refine WL.opY (h := ?_) | refine WL.opZ (h := ?_)))
      with_reducible apply WL.nil
      repeat (first | with_reducible apply W.seq | with_reducible apply W.block | with_reducible apply W.skip | with_reducible apply W.exit | with_reducible apply W.ret | with_reducible apply At.seqN | with_reducible apply At.blkN | with_reducible apply At.blkE | with_reducible apply At.blkR | with_reducible apply At.thenX | with_reducible apply At.thenR | with_reducible apply At.blkX rfl | ((with_reducible apply W.ops); (repeat (first | refine WL.opA hΓ (h := ?_) | refine WL.opX hΓ (h := ?_) | refine WL.opY (h := ?_) | refine WL.opZ (h := ?_))); with_reducible apply WL.nil) | refine W.condT (h := ?_) | refine W.condF (h := ?_))
      refine At.retA (by rw [Try.results5]) (he := rfl)
end Go.Proofs.Yteaohgacgcjkjaa
