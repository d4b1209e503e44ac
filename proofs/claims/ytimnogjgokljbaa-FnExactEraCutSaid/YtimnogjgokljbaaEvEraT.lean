/-
  The laws of EraAdd and EraCut.
-/
import Derived.Test.YtimnogjgokljbaaEvEraR
namespace Go.Proofs.Ytimnogjgokljbaa
set_option maxRecDepth 100000
set_option linter.unusedVariables false
set_option linter.unusedSimpArgs false
open Go Go.RowKit
set_option maxHeartbeats 16000000
set_option linter.unusedVariables false
set_option linter.unusedSimpArgs false

theorem totE_drop (l : List TEra) (k : Nat) : totE (l.drop k) ≤ totE l := by
  unfold totE
  conv => rhs; rw [← List.take_append_drop k l]
  simp only [List.length_append, List.map_append, List.sum_append]
  omega
theorem totE_snoc (l : List TEra) (f : Int) (v : List TVal) : totE (l ++ [(f, v)]) = totE l + 1 + v.length := by
  unfold totE
  simp
  omega
theorem totE_nil : totE [] = 0 := rfl
theorem kE_ok {l : List TEra} (k : Nat) (h : totE l ≤ 4194304) (hk : k ≤ 4294967296) : kE l k l.length ≤ 1099511627776 := by have := kE_tot l k; omega
theorem okES_tot {l : List TEra} (h : totE l ≤ 4194304) : okES l ∧ l.length ≤ 4194304 := by
  unfold totE at h
  refine ⟨⟨by omega, fun e he => ?_⟩, by omega⟩
  have key : ∀ (q : List TEra), e ∈ q → e.2.length ≤ (q.map fun e => e.2.length).sum := by
    intro q
    induction q with
    | nil => intro h; cases h
    | cons x r ih =>
      intro h
      rw [List.map_cons, List.sum_cons]
      rcases List.mem_cons.1 h with rfl | h
      · omega
      · have := ih h; omega
  have := key l he
  show e.2.length ≤ _
  omega
noncomputable def mMarkE0 := mdl (fun _ : Nat => True) (fun k => [aES [], aI (k : Int)]) (fun k => rI (k : Int))
theorem mMarkE0_eq (k : Nat) : mMarkE0 [aES [], aI (k : Int)] = some (rI (k : Int)) := mdl_eq (enc := fun k : Nat => [aES [], aI (k : Int)]) (by
  intro a b h
  simp at h
  omega) k trivial
theorem markE0_s : Sound Try.prog 13 mMarkE0 := Sound.says (fun _ => rfl) fun k vs w hok hr => by
  obtain ⟨h1, h2⟩ := hr
  obtain ⟨v0, e0, r0⟩ := h2 0 _ rfl
  obtain ⟨v1, e1, r1⟩ := h2 1 _ rfl
  obtain ⟨x, ex, rx⟩ := r1
  cases ex
  cases rx
  match vs, h1 with
  | [a, b], _ =>
    cases e0
    cases e1
    have h3 := repA_list_inv r0
    have h4 : RepL w none0 (.sl []) v0 := h3
    cases h4 with
    | emp hc => exact (markE_nil _ _ k hc w).mono fun e w' hq => hq
    | sl val g1 g2 g3 g4 g5 g6 g7 => exact (markE_nil _ _ k g4 w).mono fun e w' hq => hq
theorem lawCut_s : Sound Try.prog 5 (mdl (fun x : List TEra × Int => okEZ x.1) (fun x => [aES x.1, aI x.2]) fun _ => rB true) := by
  refine Sound.mdl Try.func5 rfl Try.ntmps5 ?_
  rintro ⟨l, ht⟩ w ⟨hl, hel⟩
  refine ⟨by simp, ?_⟩
  dsimp only at hl hel
  have c1 := mSzEW_eq l 1048576 ⟨hl, hel⟩ ⟨by omega, by omega⟩
  by_cases hb : (totE l : Int) ≤ 1048576
  · have hr : szE (totE l) 1048576 = 1048576 - totE l := if_pos hb
    have hok := totE_ok (l := l) (by omega)
    have hrt : totE (cutL l ht) ≤ 1048576 := by
      unfold cutL
      split
      · have := totE_drop l (cutK l ht); omega
      · rw [totE_nil]; omega
    obtain ⟨ho1, ho2⟩ := okES_tot (l := cutL l ht) (by omega)
    have hΓ : GSound Try.prog (look [(7, mSzEW), (9, mToES), (21, mCutS), (22, mCutI), (12, mEqES), (13, mMarkE0), (20, mHeldE (cutL l ht) 1)]) := env_cons (has_of Try.func7 rfl rfl) szEW_s (env_cons (has_of Try.func9 rfl rfl) toES_s (env_cons (has_of Try.func21 rfl rfl) cutS_s (env_cons (has_of Try.func22 rfl rfl) cutI_s (env_cons (has_of Try.func12 rfl rfl) eqES_s (env_cons (has_of Try.func13 rfl rfl) markE0_s (env_cons (has_of Try.func20 rfl rfl) (heldE_at _ 1 (by omega) (by unfold totE at hrt; omega) (kE_ok 1 (by omega) (by omega))) env_nil))))))
    have hMk : Has Try.prog 13 := has_of Try.func13 rfl rfl
    have c3 := mToES_eq l hok.1 hok.2
    have c4 := mEqES_eq l l hok.es hok.es
    rw [decide_eq_true rfl] at c4
    have c5 := mCutS_eq l ht hok
    have c6 := mCutI_eq l ht hok
    have c7 := mEqES_eq (cutL l ht) (cutL l ht) ho1 ho1
    rw [decide_eq_true rfl] at c7
    have hkb : kE l 1 l.length ≤ 1099511627776 := kE_ok 1 (by omega) (by omega)
    have hkn : ¬ ((kE l 1 l.length : Nat) : Int) < 0 := by omega
    have hkr : kE (cutL l ht) 1 (cutL l ht).length ≤ 1099511627776 := kE_ok 1 (by omega) (by omega)
    have hkm : ¬ ((kE (cutL l ht) 1 (cutL l ht).length : Nat) : Int) < 0 := by omega
    have c8 := mHeldE_eq (cutL l ht) 1
    have e0 : ((1 : Nat) : Int) = 1 := rfl
    rw [e0] at c8
    rw [hr] at c1
    have hng : ¬ (1048576 : Int) - (totE l : Int) < 0 := by omega
    by_cases h1 : erasOk l
    · rw [decide_eq_true h1] at c6
      generalize cutL l ht = r at *
      clear hr hok hel hl hb h1 hrt ho1 ho2
      generalize totE l = T at *
      simp only [initS, argPV, List.map_cons, List.map_nil, toPL, Nat.zero_add]
      repeat (first | with_reducible apply W.seq | with_reducible apply W.block | with_reducible apply W.skip | with_reducible apply W.exit | with_reducible apply W.ret | with_reducible apply At.seqN | with_reducible apply At.blkN | with_reducible apply At.blkE | with_reducible apply At.blkR | with_reducible apply At.thenX | with_reducible apply At.thenR | with_reducible apply At.blkX rfl | ((with_reducible apply W.ops); (repeat (first | refine WL.opA hΓ (h := ?_) | refine WL.opX hΓ (h := ?_) | refine WL.opY (h := ?_) | refine WL.opZ (h := ?_))); with_reducible apply WL.nil) | refine W.condT (h := ?_) | refine W.condF (h := ?_))
      with_reducible apply W.ops
      repeat (first | refine WL.opA hΓ (h := ?_) | refine WL.opX hΓ (h := ?_) | refine WL.opY (h := ?_) | refine WL.opZ (h := ?_))
      refine WL.opMarkE 23 1 (by omega) hkb hMk (h := ?_)
      (repeat (first | refine WL.opA hΓ (h := ?_) | refine WL.opX hΓ (h := ?_) | refine WL.opY (h := ?_) | refine WL.opZ (h := ?_)))
      with_reducible apply WL.nil
      generalize kE l 1 l.length = K1 at *
      repeat (first | with_reducible apply W.seq | with_reducible apply W.block | with_reducible apply W.skip | with_reducible apply W.exit | with_reducible apply W.ret | with_reducible apply At.seqN | with_reducible apply At.blkN | with_reducible apply At.blkE | with_reducible apply At.blkR | with_reducible apply At.thenX | with_reducible apply At.thenR | with_reducible apply At.blkX rfl | ((with_reducible apply W.ops); (repeat (first | refine WL.opA hΓ (h := ?_) | refine WL.opX hΓ (h := ?_) | refine WL.opY (h := ?_) | refine WL.opZ (h := ?_))); with_reducible apply WL.nil) | refine W.condT (h := ?_) | refine W.condF (h := ?_))
      with_reducible apply W.ops
      repeat (first | refine WL.opA hΓ (h := ?_) | refine WL.opX hΓ (h := ?_) | refine WL.opY (h := ?_) | refine WL.opZ (h := ?_))
      refine WL.opMarkE 26 1 (by omega) hkr hMk (h := ?_)
      (repeat (first | refine WL.opA hΓ (h := ?_) | refine WL.opX hΓ (h := ?_) | refine WL.opY (h := ?_) | refine WL.opZ (h := ?_)))
      with_reducible apply WL.nil
      generalize kE r 1 r.length = K2 at *
      repeat (first | with_reducible apply W.seq | with_reducible apply W.block | with_reducible apply W.skip | with_reducible apply W.exit | with_reducible apply W.ret | with_reducible apply At.seqN | with_reducible apply At.blkN | with_reducible apply At.blkE | with_reducible apply At.blkR | with_reducible apply At.thenX | with_reducible apply At.thenR | with_reducible apply At.blkX rfl | ((with_reducible apply W.ops); (repeat (first | refine WL.opA hΓ (h := ?_) | refine WL.opX hΓ (h := ?_) | refine WL.opY (h := ?_) | refine WL.opZ (h := ?_))); with_reducible apply WL.nil) | refine W.condT (h := ?_) | refine W.condF (h := ?_))
      refine At.retA (by rw [Try.results5]) (he := rfl)
    · rw [decide_eq_false h1] at c6
      have hL : cutL l ht = [] := if_neg h1
      rw [hL] at hΓ c5 c6 c7
      have e3 : eraRows [] = [] := rfl
      dsimp only [aES, rEN] at c5 c7
      have c9 : mMarkE0 [.val false [.sl []], aI 1] = some (rI 1) := mMarkE0_eq 1
      have c10 : mHeldE [] 1 [.val false [.sl []], aI 1] = some (rI 1) := mHeldE_eq [] 1
      rw [e3] at c5 c7
      clear hr hok hel hl hb h1 hrt ho1 ho2 c8 hkr hkm e3 hL
      generalize totE l = T at *
      simp only [initS, argPV, List.map_cons, List.map_nil, toPL, Nat.zero_add]
      repeat (first | with_reducible apply W.seq | with_reducible apply W.block | with_reducible apply W.skip | with_reducible apply W.exit | with_reducible apply W.ret | with_reducible apply At.seqN | with_reducible apply At.blkN | with_reducible apply At.blkE | with_reducible apply At.blkR | with_reducible apply At.thenX | with_reducible apply At.thenR | with_reducible apply At.blkX rfl | ((with_reducible apply W.ops); (repeat (first | refine WL.opA hΓ (h := ?_) | refine WL.opX hΓ (h := ?_) | refine WL.opY (h := ?_) | refine WL.opZ (h := ?_))); with_reducible apply WL.nil) | refine W.condT (h := ?_) | refine W.condF (h := ?_))
      with_reducible apply W.ops
      repeat (first | refine WL.opA hΓ (h := ?_) | refine WL.opX hΓ (h := ?_) | refine WL.opY (h := ?_) | refine WL.opZ (h := ?_))
      refine WL.opMarkE 23 1 (by omega) hkb hMk (h := ?_)
      (repeat (first | refine WL.opA hΓ (h := ?_) | refine WL.opX hΓ (h := ?_) | refine WL.opY (h := ?_) | refine WL.opZ (h := ?_)))
      with_reducible apply WL.nil
      generalize kE l 1 l.length = K1 at *
      repeat (first | with_reducible apply W.seq | with_reducible apply W.block | with_reducible apply W.skip | with_reducible apply W.exit | with_reducible apply W.ret | with_reducible apply At.seqN | with_reducible apply At.blkN | with_reducible apply At.blkE | with_reducible apply At.blkR | with_reducible apply At.thenX | with_reducible apply At.thenR | with_reducible apply At.blkX rfl | ((with_reducible apply W.ops); (repeat (first | refine WL.opA hΓ (h := ?_) | refine WL.opX hΓ (h := ?_) | refine WL.opY (h := ?_) | refine WL.opZ (h := ?_))); with_reducible apply WL.nil) | refine W.condT (h := ?_) | refine W.condF (h := ?_))
      refine At.retA (by rw [Try.results5]) (he := rfl)
  · have hr : szE (totE l) 1048576 = -1 := if_neg hb
    rw [hr] at c1
    have hΓ : GSound Try.prog (look [(7, mSzEW)]) := env_cons (has_of Try.func7 rfl rfl) szEW_s env_nil
    simp only [initS, argPV, List.map_cons, List.map_nil, toPL, Nat.zero_add]
    repeat (first | with_reducible apply W.seq | with_reducible apply W.block | with_reducible apply W.skip | with_reducible apply W.exit | with_reducible apply W.ret | with_reducible apply At.seqN | with_reducible apply At.blkN | with_reducible apply At.blkE | with_reducible apply At.blkR | with_reducible apply At.thenX | with_reducible apply At.thenR | with_reducible apply At.blkX rfl | ((with_reducible apply W.ops); (repeat (first | refine WL.opA hΓ (h := ?_) | refine WL.opX hΓ (h := ?_) | refine WL.opY (h := ?_) | refine WL.opZ (h := ?_))); with_reducible apply WL.nil) | refine W.condT (h := ?_) | refine W.condF (h := ?_))
    refine At.retA (by rw [Try.results5]) (he := rfl)
theorem lawAdd_s : Sound Try.prog 4 (mdl (fun x : TAdd => okEZ x.1 ∧ x.2.2.length ≤ 9223372036854775807) (fun x => [aES x.1, aI x.2.1, aL cVal x.2.2]) fun _ => rB true) := by
  refine Sound.mdl Try.func4 rfl Try.ntmps4 ?_
  rintro ⟨l, f, v⟩ w ⟨⟨hl, hel⟩, hv0⟩
  refine ⟨by simp, ?_⟩
  dsimp only at hl hel hv0
  have c1 := mSzEW_eq l 1048576 ⟨hl, hel⟩ ⟨by omega, by omega⟩
  by_cases hb : (totE l : Int) ≤ 1048576
  · have hr : szE (totE l) 1048576 = 1048576 - totE l := if_pos hb
    have c2 := mSzVZ_eq v (1048576 - totE l) hv0 ⟨by omega, by omega⟩
    have hng : ¬ (1048576 : Int) - (totE l : Int) < 0 := by omega
    rw [hr] at c1
    by_cases hb2 : (v.length : Int) ≤ 1048576 - totE l
    · have hr2 : szE v.length (1048576 - totE l) = 1048576 - totE l - v.length := if_pos hb2
      rw [hr2] at c2
      have hng2 : ¬ (1048576 : Int) - (totE l : Int) - (v.length : Int) < 0 := by omega
      have hok := totE_ok (l := l) (by omega)
      have hvl : v.length ≤ 1048576 := by omega
      have hrt : totE (addL l f v) ≤ 2097153 := by
        unfold addL
        split
        · split
          · omega
          · split
            · rw [totE_snoc]; omega
            · omega
        · rw [totE_nil]; omega
      obtain ⟨ho1, ho2⟩ := okES_tot (l := addL l f v) (by omega)
      have hrl : (addL l f v).length ≤ 1048577 := by
        have := hok.1
        unfold addL
        split
        · split
          · omega
          · split
            · rw [List.length_append, List.length_singleton]; omega
            · omega
        · simp
      have hΓ : GSound Try.prog (look [(7, mSzEW), (16, mSzVZ), (9, mToES), (18, mToVlS), (17, mAddS), (19, mAddI), (12, mEqES), (11, mEqVS), (13, mMarkE0), (20, mHeldE (addL l f v) 1)]) := env_cons (has_of Try.func7 rfl rfl) szEW_s (env_cons (has_of Try.func16 rfl rfl) szVZ_s (env_cons (has_of Try.func9 rfl rfl) toES_s (env_cons (has_of Try.func18 rfl rfl) toVlS_s (env_cons (has_of Try.func17 rfl rfl) addS_s (env_cons (has_of Try.func19 rfl rfl) addI_s (env_cons (has_of Try.func12 rfl rfl) eqES_s (env_cons (has_of Try.func11 rfl rfl) eqVS_s (env_cons (has_of Try.func13 rfl rfl) markE0_s (env_cons (has_of Try.func20 rfl rfl) (heldE_at _ 1 (by omega) hrl (kE_ok 1 (by omega) (by omega))) env_nil)))))))))
      have hMk : Has Try.prog 13 := has_of Try.func13 rfl rfl
      have hMv : Has Try.prog 14 := has_of Try.func14 rfl rfl
      have c3 := mToES_eq l hok.1 hok.2
      have c3v := mToVlS_eq v hvl
      have c4 := mEqES_eq l l hok.es hok.es
      rw [decide_eq_true rfl] at c4
      have c4v := mEqVS_eq v v (by omega) (by omega)
      rw [decide_eq_true rfl] at c4v
      have c5 := mAddS_eq l f v hok hvl
      have c6 := mAddI_eq l f v hok hvl
      have c7 := mEqES_eq (addL l f v) (addL l f v) ho1 ho1
      rw [decide_eq_true rfl] at c7
      have hkb : kE l 1 l.length ≤ 1099511627776 := kE_ok 1 (by omega) (by omega)
      have hk4 : kE l 1 l.length ≤ 4294967296 := by have := kE_tot l 1; omega
      have hk0 : 0 < kE l 1 l.length := by have := kE_mono l 1 (Nat.zero_le l.length); exact this
      have hmv := markV_own v (kE l 1 l.length) hk0 (by omega)
      have hkn : ¬ ((kE l 1 l.length + 2 * v.length : Nat) : Int) < 0 := by omega
      have hkr : kE (addL l f v) 1 (addL l f v).length ≤ 1099511627776 := kE_ok 1 (by omega) (by omega)
      have hkm : ¬ ((kE (addL l f v) 1 (addL l f v).length : Nat) : Int) < 0 := by omega
      have c8 := mHeldE_eq (addL l f v) 1
      have e0 : ((1 : Nat) : Int) = 1 := rfl
      rw [e0] at c8
      have hbb : (addB l f v == addB l f v) = true := by simp
      by_cases h1 : erasOk l
      · rw [decide_eq_true h1] at c6
        generalize addL l f v = r at *
        generalize addB l f v = b at *
        clear hr hr2 hok hel hl hb hb2 h1 hrt ho1 ho2 hrl hvl hv0 hk4
        generalize totE l = T at *
        simp only [initS, argPV, List.map_cons, List.map_nil, toPL, Nat.zero_add]
        repeat (first | with_reducible apply W.seq | with_reducible apply W.block | with_reducible apply W.skip | with_reducible apply W.exit | with_reducible apply W.ret | with_reducible apply At.seqN | with_reducible apply At.blkN | with_reducible apply At.blkE | with_reducible apply At.blkR | with_reducible apply At.thenX | with_reducible apply At.thenR | with_reducible apply At.blkX rfl | ((with_reducible apply W.ops); (repeat (first | refine WL.opA hΓ (h := ?_) | refine WL.opX hΓ (h := ?_) | refine WL.opY (h := ?_) | refine WL.opZ (h := ?_))); with_reducible apply WL.nil) | refine W.condT (h := ?_) | refine W.condF (h := ?_))
        with_reducible apply W.ops
        repeat (first | refine WL.opA hΓ (h := ?_) | refine WL.opX hΓ (h := ?_) | refine WL.opY (h := ?_) | refine WL.opZ (h := ?_))
        refine WL.opMarkE 39 1 (by omega) hkb hMk (h := ?_)
        (repeat (first | refine WL.opA hΓ (h := ?_) | refine WL.opX hΓ (h := ?_) | refine WL.opY (h := ?_) | refine WL.opZ (h := ?_)))
        with_reducible apply WL.nil
        generalize kE l 1 l.length = K1 at *
        generalize marked mkVal 2 K1 v.length = mv at *
        generalize K1 + 2 * v.length = K3 at *
        repeat (first | with_reducible apply W.seq | with_reducible apply W.block | with_reducible apply W.skip | with_reducible apply W.exit | with_reducible apply W.ret | with_reducible apply At.seqN | with_reducible apply At.blkN | with_reducible apply At.blkE | with_reducible apply At.blkR | with_reducible apply At.thenX | with_reducible apply At.thenR | with_reducible apply At.blkX rfl | ((with_reducible apply W.ops); (repeat (first | refine WL.opA hΓ (h := ?_) | refine WL.opX hΓ (h := ?_) | refine WL.opY (h := ?_) | refine WL.opZ (h := ?_))); with_reducible apply WL.nil) | refine W.condT (h := ?_) | refine W.condF (h := ?_))
        with_reducible apply W.ops
        repeat (first | refine WL.opA hΓ (h := ?_) | refine WL.opX hΓ (h := ?_) | refine WL.opY (h := ?_) | refine WL.opZ (h := ?_))
        refine WL.opMarkR 41 K1 K3 mv hMv hmv cVal_len cVal_one (h := ?_)
        (repeat (first | refine WL.opA hΓ (h := ?_) | refine WL.opX hΓ (h := ?_) | refine WL.opY (h := ?_) | refine WL.opZ (h := ?_)))
        with_reducible apply WL.nil
        repeat (first | with_reducible apply W.seq | with_reducible apply W.block | with_reducible apply W.skip | with_reducible apply W.exit | with_reducible apply W.ret | with_reducible apply At.seqN | with_reducible apply At.blkN | with_reducible apply At.blkE | with_reducible apply At.blkR | with_reducible apply At.thenX | with_reducible apply At.thenR | with_reducible apply At.blkX rfl | ((with_reducible apply W.ops); (repeat (first | refine WL.opA hΓ (h := ?_) | refine WL.opX hΓ (h := ?_) | refine WL.opY (h := ?_) | refine WL.opZ (h := ?_))); with_reducible apply WL.nil) | refine W.condT (h := ?_) | refine W.condF (h := ?_))
        with_reducible apply W.ops
        repeat (first | refine WL.opA hΓ (h := ?_) | refine WL.opX hΓ (h := ?_) | refine WL.opY (h := ?_) | refine WL.opZ (h := ?_))
        refine WL.opMarkE 46 1 (by omega) hkr hMk (h := ?_)
        (repeat (first | refine WL.opA hΓ (h := ?_) | refine WL.opX hΓ (h := ?_) | refine WL.opY (h := ?_) | refine WL.opZ (h := ?_)))
        with_reducible apply WL.nil
        generalize kE r 1 r.length = K2 at *
        repeat (first | with_reducible apply W.seq | with_reducible apply W.block | with_reducible apply W.skip | with_reducible apply W.exit | with_reducible apply W.ret | with_reducible apply At.seqN | with_reducible apply At.blkN | with_reducible apply At.blkE | with_reducible apply At.blkR | with_reducible apply At.thenX | with_reducible apply At.thenR | with_reducible apply At.blkX rfl | ((with_reducible apply W.ops); (repeat (first | refine WL.opA hΓ (h := ?_) | refine WL.opX hΓ (h := ?_) | refine WL.opY (h := ?_) | refine WL.opZ (h := ?_))); with_reducible apply WL.nil) | refine W.condT (h := ?_) | refine W.condF (h := ?_))
        refine At.retA (by rw [Try.results4]) (he := rfl)
      · rw [decide_eq_false h1] at c6
        have hL : addL l f v = [] := if_neg h1
        rw [hL] at hΓ c5 c6 c7
        have e3 : eraRows [] = [] := rfl
        dsimp only [aES, rES] at c5 c7
        have c9 : mMarkE0 [.val false [.sl []], aI 1] = some (rI 1) := mMarkE0_eq 1
        have c10 : mHeldE [] 1 [.val false [.sl []], aI 1] = some (rI 1) := mHeldE_eq [] 1
        rw [e3] at c5 c7
        generalize addB l f v = b at *
        clear hr hr2 hok hel hl hb hb2 h1 hrt ho1 ho2 hrl hvl hv0 hk4 c8 hkr hkm e3 hL
        generalize totE l = T at *
        simp only [initS, argPV, List.map_cons, List.map_nil, toPL, Nat.zero_add]
        repeat (first | with_reducible apply W.seq | with_reducible apply W.block | with_reducible apply W.skip | with_reducible apply W.exit | with_reducible apply W.ret | with_reducible apply At.seqN | with_reducible apply At.blkN | with_reducible apply At.blkE | with_reducible apply At.blkR | with_reducible apply At.thenX | with_reducible apply At.thenR | with_reducible apply At.blkX rfl | ((with_reducible apply W.ops); (repeat (first | refine WL.opA hΓ (h := ?_) | refine WL.opX hΓ (h := ?_) | refine WL.opY (h := ?_) | refine WL.opZ (h := ?_))); with_reducible apply WL.nil) | refine W.condT (h := ?_) | refine W.condF (h := ?_))
        with_reducible apply W.ops
        repeat (first | refine WL.opA hΓ (h := ?_) | refine WL.opX hΓ (h := ?_) | refine WL.opY (h := ?_) | refine WL.opZ (h := ?_))
        refine WL.opMarkE 39 1 (by omega) hkb hMk (h := ?_)
        (repeat (first | refine WL.opA hΓ (h := ?_) | refine WL.opX hΓ (h := ?_) | refine WL.opY (h := ?_) | refine WL.opZ (h := ?_)))
        with_reducible apply WL.nil
        generalize kE l 1 l.length = K1 at *
        generalize marked mkVal 2 K1 v.length = mv at *
        generalize K1 + 2 * v.length = K3 at *
        repeat (first | with_reducible apply W.seq | with_reducible apply W.block | with_reducible apply W.skip | with_reducible apply W.exit | with_reducible apply W.ret | with_reducible apply At.seqN | with_reducible apply At.blkN | with_reducible apply At.blkE | with_reducible apply At.blkR | with_reducible apply At.thenX | with_reducible apply At.thenR | with_reducible apply At.blkX rfl | ((with_reducible apply W.ops); (repeat (first | refine WL.opA hΓ (h := ?_) | refine WL.opX hΓ (h := ?_) | refine WL.opY (h := ?_) | refine WL.opZ (h := ?_))); with_reducible apply WL.nil) | refine W.condT (h := ?_) | refine W.condF (h := ?_))
        with_reducible apply W.ops
        repeat (first | refine WL.opA hΓ (h := ?_) | refine WL.opX hΓ (h := ?_) | refine WL.opY (h := ?_) | refine WL.opZ (h := ?_))
        refine WL.opMarkR 41 K1 K3 mv hMv hmv cVal_len cVal_one (h := ?_)
        (repeat (first | refine WL.opA hΓ (h := ?_) | refine WL.opX hΓ (h := ?_) | refine WL.opY (h := ?_) | refine WL.opZ (h := ?_)))
        with_reducible apply WL.nil
        repeat (first | with_reducible apply W.seq | with_reducible apply W.block | with_reducible apply W.skip | with_reducible apply W.exit | with_reducible apply W.ret | with_reducible apply At.seqN | with_reducible apply At.blkN | with_reducible apply At.blkE | with_reducible apply At.blkR | with_reducible apply At.thenX | with_reducible apply At.thenR | with_reducible apply At.blkX rfl | ((with_reducible apply W.ops); (repeat (first | refine WL.opA hΓ (h := ?_) | refine WL.opX hΓ (h := ?_) | refine WL.opY (h := ?_) | refine WL.opZ (h := ?_))); with_reducible apply WL.nil) | refine W.condT (h := ?_) | refine W.condF (h := ?_))
        refine At.retA (by rw [Try.results4]) (he := rfl)
    · have hr2 : szE v.length (1048576 - totE l) = -1 := if_neg hb2
      rw [hr2] at c2
      have hΓ : GSound Try.prog (look [(7, mSzEW), (16, mSzVZ)]) := env_cons (has_of Try.func7 rfl rfl) szEW_s (env_cons (has_of Try.func16 rfl rfl) szVZ_s env_nil)
      simp only [initS, argPV, List.map_cons, List.map_nil, toPL, Nat.zero_add]
      repeat (first | with_reducible apply W.seq | with_reducible apply W.block | with_reducible apply W.skip | with_reducible apply W.exit | with_reducible apply W.ret | with_reducible apply At.seqN | with_reducible apply At.blkN | with_reducible apply At.blkE | with_reducible apply At.blkR | with_reducible apply At.thenX | with_reducible apply At.thenR | with_reducible apply At.blkX rfl | ((with_reducible apply W.ops); (repeat (first | refine WL.opA hΓ (h := ?_) | refine WL.opX hΓ (h := ?_) | refine WL.opY (h := ?_) | refine WL.opZ (h := ?_))); with_reducible apply WL.nil) | refine W.condT (h := ?_) | refine W.condF (h := ?_))
      refine At.retA (by rw [Try.results4]) (he := rfl)
  · have hr : szE (totE l) 1048576 = -1 := if_neg hb
    rw [hr] at c1
    have hΓ : GSound Try.prog (look [(7, mSzEW)]) := env_cons (has_of Try.func7 rfl rfl) szEW_s env_nil
    simp only [initS, argPV, List.map_cons, List.map_nil, toPL, Nat.zero_add]
    repeat (first | with_reducible apply W.seq | with_reducible apply W.block | with_reducible apply W.skip | with_reducible apply W.exit | with_reducible apply W.ret | with_reducible apply At.seqN | with_reducible apply At.blkN | with_reducible apply At.blkE | with_reducible apply At.blkR | with_reducible apply At.thenX | with_reducible apply At.thenR | with_reducible apply At.blkX rfl | ((with_reducible apply W.ops); (repeat (first | refine WL.opA hΓ (h := ?_) | refine WL.opX hΓ (h := ?_) | refine WL.opY (h := ?_) | refine WL.opZ (h := ?_))); with_reducible apply WL.nil) | refine W.condT (h := ?_) | refine W.condF (h := ?_))
    refine At.retA (by rw [Try.results4]) (he := rfl)
end Go.Proofs.Ytimnogjgokljbaa
