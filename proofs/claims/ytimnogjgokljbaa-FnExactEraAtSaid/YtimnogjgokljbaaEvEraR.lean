/-
  The law of EraAt.
-/
import Derived.Test.YtimnogjgokljbaaEvEraQ
import Derived.Test.YtimnogjgokljbaaEvEraZ
import Derived.Test.YtimnogjgokljbaaEvMkF
namespace Go.Proofs.Ytimnogjgokljbaa
set_option maxRecDepth 100000
set_option linter.unusedVariables false
set_option linter.unusedSimpArgs false
open Go Go.RowKit
set_option maxHeartbeats 8000000
set_option linter.unusedVariables false
set_option linter.unusedSimpArgs false

theorem totE_ok {l : List TEra} (h : totE l ≤ 1048576) : okEc l := by
  unfold totE at h
  refine ⟨by omega, fun e he => ?_⟩
  have key : ∀ (q : List TEra), e ∈ q → e.2.length ≤ (q.map fun e => e.2.length).sum := by
    intro q
    induction q with
    | nil => intro h; cases h
    | cons x r ih =>
      intro h
      rw [List.map_cons, List.sum_cons]
      rcases List.mem_cons.1 h with rfl | h
      · omega
      · have := ih h; omega
  have := key l he
  omega
theorem kE_sum (l : List TEra) (k : Nat) : ∀ i, i ≤ l.length → kE l k i = k + i + 2 * sumE l i
  | 0, _ => by simp [kE, sumE]
  | i + 1, h => by
    have ih := kE_sum l k i (by omega)
    have hs := sumE_succ (l := l) (k := i) (by omega)
    have hg : eraG l i = l[i] := by simp only [eraG, List.getD_eq_getElem?_getD, List.getElem?_eq_getElem (show i < l.length by omega), Option.getD_some]
    show kE l k i + 1 + 2 * (eraG l i).2.length = _
    rw [hg, ih, hs]
    omega
theorem kE_tot (l : List TEra) (k : Nat) : kE l k l.length ≤ k + 2 * totE l := by
  rw [kE_sum l k _ (Nat.le_refl _), sumE_all]
  unfold totE
  omega
theorem Marks.toW {α : Type} {s k' : Nat} {f : α → List Value} {v : Value} {l : List α} {w w' : World} {e : Ending} (h : Marks 0 s f v l k' w e w') : MarksW s f v l k' w e w' := ⟨h.1, h.2.1, h.2.2.2⟩
noncomputable def mMarkV0 := mdl (fun _ : Nat => True) (fun k => [aL cVal [], aI (k : Int)]) (fun k => rI (k : Int))
theorem mMarkV0_eq (k : Nat) : mMarkV0 [aL cVal [], aI (k : Int)] = some (rI (k : Int)) := mdl_eq (enc := fun k : Nat => [aL cVal [], aI (k : Int)]) (by
  intro a b h
  simp at h
  omega) k trivial
theorem markV0_s : Sound Try.prog 14 mMarkV0 := Sound.says (fun _ => rfl) fun k vs w hok hr => by
  obtain ⟨h1, h2⟩ := hr
  obtain ⟨v0, e0, r0⟩ := h2 0 _ rfl
  obtain ⟨v1, e1, r1⟩ := h2 1 _ rfl
  obtain ⟨x, ex, rx⟩ := r1
  cases ex
  cases rx
  match vs, h1 with
  | [a, b], _ =>
    cases e0
    cases e1
    obtain ⟨A, c, rfl, h4, h5, _⟩ : RdS w w.heap.size 2 cVal v0 [] := rep_RdS (fun _ => rfl) (repA_list_inv r0)
    refine (markV_nil A c k h5 w).mono fun e w' hq => hq
theorem markV_own (l : List TVal) (k : Nat) (h0 : 0 < k) (hn : k + 2 * l.length ≤ 1099511627776) (v : Value) (w : World) (h : OwnS w 0 2 cVal v l) : Calls Try.prog 14 #[v, .int .i64 (k : Int)] w (MarksW 2 cVal v (marked mkVal 2 k l.length) (k + 2 * l.length) w) := (markValS_any v l k 0 w h h0 hn).mono fun e w' hq => hq.toW
theorem lawAt_s : Sound Try.prog 3 (mdl (fun x : List TEra × Int => okEZ x.1) (fun x => [aES x.1, aI x.2]) fun _ => rB true) := by
  refine Sound.mdl Try.func3 rfl Try.ntmps3 ?_
  rintro ⟨l, ht⟩ w ⟨hl, hel⟩
  refine ⟨by simp, ?_⟩
  dsimp only at hl hel
  have hΓ : GSound Try.prog (look [(7, mSzEW), (9, mToES), (8, mAtS), (10, mAtI), (11, mEqVS), (12, mEqES), (14, mMarkV0), (15, mHeldV)]) := env_cons (has_of Try.func7 rfl rfl) szEW_s (env_cons (has_of Try.func9 rfl rfl) toES_s (env_cons (has_of Try.func8 rfl rfl) atS_s (env_cons (has_of Try.func10 rfl rfl) atI_s (env_cons (has_of Try.func11 rfl rfl) eqVS_s (env_cons (has_of Try.func12 rfl rfl) eqES_s (env_cons (has_of Try.func14 rfl rfl) markV0_s (env_cons (has_of Try.func15 rfl rfl) heldV_s env_nil)))))))
  have hMk : Has Try.prog 13 := has_of Try.func13 rfl rfl
  have hMv : Has Try.prog 14 := has_of Try.func14 rfl rfl
  have c1 := mSzEW_eq l 1048576 ⟨hl, hel⟩ ⟨by omega, by omega⟩
  by_cases hb : (totE l : Int) ≤ 1048576
  · have hr : szE (totE l) 1048576 = 1048576 - totE l := if_pos hb
    have hok := totE_ok (l := l) (by omega)
    have c3 := mToES_eq l hok.1 hok.2
    have c4 := mEqES_eq l l hok.es hok.es
    rw [decide_eq_true rfl] at c4
    have c5 := mAtS_eq l ht hok
    have c6 := mAtI_eq l ht hok
    have hvl := atV_ok ht hok
    have c7 := mEqVS_eq (atV l ht) (atV l ht) (by omega) (by omega)
    rw [decide_eq_true rfl] at c7
    have hkb : kE l 1 l.length ≤ 1099511627776 := by have := kE_tot l 1; omega
    have hkn : ¬ ((kE l 1 l.length : Nat) : Int) < 0 := by omega
    have hmv := markV_own (atV l ht) 1 (by omega) (by omega)
    have c8 := mHeldV_eq 1 (atV l ht).length (by omega) (by omega)
    rw [hr] at c1
    have hng : ¬ (1048576 : Int) - (totE l : Int) < 0 := by omega
    generalize atV l ht = v at *
    have e0 : ((1 : Nat) : Int) = 1 := rfl
    rw [e0] at c8
    have hmn : ¬ ((1 + 2 * v.length : Nat) : Int) < 0 := by omega
    cases hok2 : atOk l ht with
    | true =>
      rw [hok2] at c5 c6
      have e1 : rAs true v = .tup [(false, [.own .ft 57 2 (rowsF cVal v)]), (false, [.ro (.sc (.bool true))])] := rfl
      rw [e1] at c5
      generalize marked mkVal 2 1 v.length = mv at *
      generalize 1 + 2 * v.length = K2 at *
      clear hok2 hr hok hel hl hb hvl e1
      generalize totE l = T at *
      simp only [initS, argPV, List.map_cons, List.map_nil, toPL, Nat.zero_add]
      repeat (first | with_reducible apply W.seq | with_reducible apply W.block | with_reducible apply W.skip | with_reducible apply W.exit | with_reducible apply W.ret | with_reducible apply At.seqN | with_reducible apply At.blkN | with_reducible apply At.blkE | with_reducible apply At.blkR | with_reducible apply At.thenX | with_reducible apply At.thenR | with_reducible apply At.blkX rfl | ((with_reducible apply W.ops); (repeat (first | refine WL.opA hΓ (h := ?_) | refine WL.opX hΓ (h := ?_) | refine WL.opY (h := ?_) | refine WL.opZ (h := ?_))); with_reducible apply WL.nil) | refine W.condT (h := ?_) | refine W.condF (h := ?_))
      with_reducible apply W.ops
      repeat (first | refine WL.opA hΓ (h := ?_) | refine WL.opX hΓ (h := ?_) | refine WL.opY (h := ?_) | refine WL.opZ (h := ?_))
      refine WL.opMarkE 29 1 (by omega) hkb hMk (h := ?_)
      (repeat (first | refine WL.opA hΓ (h := ?_) | refine WL.opX hΓ (h := ?_) | refine WL.opY (h := ?_) | refine WL.opZ (h := ?_)))
      with_reducible apply WL.nil
      generalize kE l 1 l.length = K1 at *
      repeat (first | with_reducible apply W.seq | with_reducible apply W.block | with_reducible apply W.skip | with_reducible apply W.exit | with_reducible apply W.ret | with_reducible apply At.seqN | with_reducible apply At.blkN | with_reducible apply At.blkE | with_reducible apply At.blkR | with_reducible apply At.thenX | with_reducible apply At.thenR | with_reducible apply At.blkX rfl | ((with_reducible apply W.ops); (repeat (first | refine WL.opA hΓ (h := ?_) | refine WL.opX hΓ (h := ?_) | refine WL.opY (h := ?_) | refine WL.opZ (h := ?_))); with_reducible apply WL.nil) | refine W.condT (h := ?_) | refine W.condF (h := ?_))
      with_reducible apply W.ops
      repeat (first | refine WL.opA hΓ (h := ?_) | refine WL.opX hΓ (h := ?_) | refine WL.opY (h := ?_) | refine WL.opZ (h := ?_))
      refine WL.opMarkR 33 1 K2 mv hMv hmv cVal_len cVal_one (h := ?_)
      (repeat (first | refine WL.opA hΓ (h := ?_) | refine WL.opX hΓ (h := ?_) | refine WL.opY (h := ?_) | refine WL.opZ (h := ?_)))
      with_reducible apply WL.nil
      repeat (first | with_reducible apply W.seq | with_reducible apply W.block | with_reducible apply W.skip | with_reducible apply W.exit | with_reducible apply W.ret | with_reducible apply At.seqN | with_reducible apply At.blkN | with_reducible apply At.blkE | with_reducible apply At.blkR | with_reducible apply At.thenX | with_reducible apply At.thenR | with_reducible apply At.blkX rfl | ((with_reducible apply W.ops); (repeat (first | refine WL.opA hΓ (h := ?_) | refine WL.opX hΓ (h := ?_) | refine WL.opY (h := ?_) | refine WL.opZ (h := ?_))); with_reducible apply WL.nil) | refine W.condT (h := ?_) | refine W.condF (h := ?_))
      refine At.retA (by rw [Try.results3]) (he := rfl)
    | false =>
      rw [hok2] at c5 c6
      have e1 : rAs false v = .tup [(false, [.own .ft 57 2 []]), (false, [.ro (.sc (.bool false))])] := rfl
      rw [e1] at c5
      have c9 := mMarkV0_eq 1
      rw [e0] at c9
      have c10 := mHeldV_eq 1 0 (by omega) (by omega)
      have c11 := mEqVS_eq [] [] (by simp) (by simp)
      rw [decide_eq_true rfl] at c11
      have e2 : marked mkVal 2 1 0 = [] := rfl
      have e3 : rowsF cVal [] = [] := rfl
      have e4 : ((1 + 2 * 0 : Nat) : Int) = 1 := rfl
      rw [e2, e4] at c10
      dsimp only [aL] at c9 c10 c11
      rw [e3] at c9 c10 c11
      clear hok2 hr hok hel hl hb hvl e1 e2 e3 e4 c7 c8 hmv hmn
      generalize totE l = T at *
      simp only [initS, argPV, List.map_cons, List.map_nil, toPL, Nat.zero_add]
      repeat (first | with_reducible apply W.seq | with_reducible apply W.block | with_reducible apply W.skip | with_reducible apply W.exit | with_reducible apply W.ret | with_reducible apply At.seqN | with_reducible apply At.blkN | with_reducible apply At.blkE | with_reducible apply At.blkR | with_reducible apply At.thenX | with_reducible apply At.thenR | with_reducible apply At.blkX rfl | ((with_reducible apply W.ops); (repeat (first | refine WL.opA hΓ (h := ?_) | refine WL.opX hΓ (h := ?_) | refine WL.opY (h := ?_) | refine WL.opZ (h := ?_))); with_reducible apply WL.nil) | refine W.condT (h := ?_) | refine W.condF (h := ?_))
      with_reducible apply W.ops
      repeat (first | refine WL.opA hΓ (h := ?_) | refine WL.opX hΓ (h := ?_) | refine WL.opY (h := ?_) | refine WL.opZ (h := ?_))
      refine WL.opMarkE 29 1 (by omega) hkb hMk (h := ?_)
      (repeat (first | refine WL.opA hΓ (h := ?_) | refine WL.opX hΓ (h := ?_) | refine WL.opY (h := ?_) | refine WL.opZ (h := ?_)))
      with_reducible apply WL.nil
      generalize kE l 1 l.length = K1 at *
      repeat (first | with_reducible apply W.seq | with_reducible apply W.block | with_reducible apply W.skip | with_reducible apply W.exit | with_reducible apply W.ret | with_reducible apply At.seqN | with_reducible apply At.blkN | with_reducible apply At.blkE | with_reducible apply At.blkR | with_reducible apply At.thenX | with_reducible apply At.thenR | with_reducible apply At.blkX rfl | ((with_reducible apply W.ops); (repeat (first | refine WL.opA hΓ (h := ?_) | refine WL.opX hΓ (h := ?_) | refine WL.opY (h := ?_) | refine WL.opZ (h := ?_))); with_reducible apply WL.nil) | refine W.condT (h := ?_) | refine W.condF (h := ?_))
      refine At.retA (by rw [Try.results3]) (he := rfl)
  · have hr : szE (totE l) 1048576 = -1 := if_neg hb
    rw [hr] at c1
    simp only [initS, argPV, List.map_cons, List.map_nil, toPL, Nat.zero_add]
    repeat (first | with_reducible apply W.seq | with_reducible apply W.block | with_reducible apply W.skip | with_reducible apply W.exit | with_reducible apply W.ret | with_reducible apply At.seqN | with_reducible apply At.blkN | with_reducible apply At.blkE | with_reducible apply At.blkR | with_reducible apply At.thenX | with_reducible apply At.thenR | with_reducible apply At.blkX rfl | ((with_reducible apply W.ops); (repeat (first | refine WL.opA hΓ (h := ?_) | refine WL.opX hΓ (h := ?_) | refine WL.opY (h := ?_) | refine WL.opZ (h := ?_))); with_reducible apply WL.nil) | refine W.condT (h := ?_) | refine W.condF (h := ?_))
    refine At.retA (by rw [Try.results3]) (he := rfl)
end Go.Proofs.Ytimnogjgokljbaa
