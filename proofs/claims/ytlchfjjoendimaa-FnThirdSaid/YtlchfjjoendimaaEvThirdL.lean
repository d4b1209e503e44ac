/-
  The law FnThird.
-/
import Derived.Test.YtlchfjjoendimaaEvThirdF
import Derived.Test.YtlchfjjoendimaaEvFresh
namespace Go.Proofs.Ytlchfjjoendimaa
set_option maxRecDepth 100000
set_option linter.unusedVariables false
set_option linter.unusedSimpArgs false
open Go Go.RowKit
set_option maxHeartbeats 4000000

theorem powSum_split {l : List TVal} (hp : ∀ v ∈ l, 0 ≤ v.2) (p q : Int → Bool) (h : ∀ v ∈ l, ¬ (p v.1 = true ∧ q v.1 = true)) : powSum p l + powSum q l ≤ powSum (fun _ => true) l := by
  unfold powSum
  induction l with
  | nil => simp
  | cons v l ih =>
    have ih := ih (fun u hu => hp u (List.mem_cons_of_mem _ hu)) (fun u hu => h u (List.mem_cons_of_mem _ hu))
    have h0 := hp v List.mem_cons_self
    have h1 := h v List.mem_cons_self
    simp only [List.map_cons, List.sum_cons]
    have : powC p v + powC q v ≤ powC (fun _ => true) v := by
      unfold powC
      cases hpv : p v.1 <;> cases hqv : q v.1 <;> simp_all
    omega
theorem third_law {l : List TVal} {a b : List Int} (h1 : thirdB l a = true) (h2 : enoughB l b = true) : ∃ x ∈ a, x ∈ b := by
  unfold thirdB at h1
  unfold enoughB at h2
  simp only [Bool.and_eq_true, decide_eq_true_eq] at h1 h2
  obtain ⟨hv, h1⟩ := h1
  obtain ⟨_, h2⟩ := h2
  have hP : powerOf l = powSum (fun _ => true) l := by simp [powerOf, hv]
  refine Classical.byContradiction fun hno => ?_
  have := powSum_split (l := l) (fun v hv' => by
    obtain ⟨k, hk, rfl⟩ := List.getElem_of_mem hv'
    obtain ⟨_, _, h3, _⟩ := vals_at hv hk
    omega) (fun x => decide (x ∈ a)) (fun x => decide (x ∈ b)) (fun v _ ⟨ha, hb⟩ => hno ⟨v.1, of_decide_eq_true ha, of_decide_eq_true hb⟩)
  omega
theorem enough_third {l : List TVal} {b : List Int} (h : enoughB l b = true) : thirdB l b = true := by
  unfold enoughB at h
  unfold thirdB
  simp only [Bool.and_eq_true, decide_eq_true_eq] at h ⊢
  have := (powerOf_in l).1
  exact ⟨h.1, by omega⟩
theorem lawThird_s : Sound Try.prog 3 (mdl (fun bs : List Nat => bs.length ≤ 9223372036854775807 ∧ ∀ n ∈ bs, n < 256) (fun bs => [aL cU8 bs]) fun _ => rB true) := by
  refine Sound.mdl Try.func3 rfl Try.ntmps3 ?_
  rintro bs w ⟨hlen, hbs⟩
  refine ⟨by simp, ?_⟩
  have hΓ : GSound Try.prog (look [(9, mBig), (13, mThird), (14, mThird), (15, mEnough), (16, mEnough), (17, mHasL)]) := env_cons (has_of Try.func9 rfl rfl) big_s (env_cons (has_of Try.func13 rfl rfl) thirdI_s (env_cons (has_of Try.func14 rfl rfl) thirdS_s (env_cons (has_of Try.func15 rfl rfl) enoughI_s (env_cons (has_of Try.func16 rfl rfl) enoughS_s (env_cons (has_of Try.func17 rfl rfl) hasL_s env_nil)))))
  have hDT : Has Try.prog 10 := has_of Try.func10 rfl rfl
  have hDE : Has Try.prog 11 := has_of Try.func11 rfl rfl
  have hFr : Has Try.prog 12 := has_of Try.func12 rfl rfl
  have c0 := mBig_eq bs hlen
  simp only [initS, argPV, List.map_cons, List.map_nil, toPL, Nat.zero_add]
  by_cases hb : 1048576 < bs.length
  · repeat (first | with_reducible apply W.seq | with_reducible apply W.block | with_reducible apply W.skip | with_reducible apply W.exit | with_reducible apply W.ret | with_reducible apply At.seqN | with_reducible apply At.blkN | with_reducible apply At.blkE | with_reducible apply At.blkR | with_reducible apply At.thenX | with_reducible apply At.thenR | with_reducible apply At.blkX rfl | ((with_reducible apply W.ops); (repeat (first | refine WL.opA hΓ (h := ?_) | refine WL.opX hΓ (h := ?_) | refine WL.opY (h := ?_) | refine WL.opZ (h := ?_))); with_reducible apply WL.nil) | refine W.condT (h := ?_) | refine W.condF (h := ?_))
    refine At.retA (by rw [Try.results3]) (he := rfl)
  · have hcode := CodeOk.le (bs := bs) (by omega) hbs
    repeat (first | with_reducible apply W.seq | with_reducible apply W.block | with_reducible apply W.skip | with_reducible apply W.exit | with_reducible apply W.ret | with_reducible apply At.seqN | with_reducible apply At.blkN | with_reducible apply At.blkE | with_reducible apply At.blkR | with_reducible apply At.thenX | with_reducible apply At.thenR | with_reducible apply At.blkX rfl | ((with_reducible apply W.ops); (repeat (first | refine WL.opA hΓ (h := ?_) | refine WL.opX hΓ (h := ?_) | refine WL.opY (h := ?_) | refine WL.opZ (h := ?_))); with_reducible apply WL.nil) | refine W.condT (h := ?_) | refine W.condF (h := ?_))
    with_reducible apply W.ops
    repeat (first | refine WL.opA hΓ (h := ?_) | refine WL.opX hΓ (h := ?_) | refine WL.opY (h := ?_) | refine WL.opZ (h := ?_))
    refine WL.opRA hDT DrawThird_s bs hcode (h := ?_)
    rintro ⟨l, a⟩ ⟨hl, ha⟩
    dsimp only at hl ha ⊢
    (repeat (first | refine WL.opA hΓ (h := ?_) | refine WL.opX hΓ (h := ?_) | refine WL.opY (h := ?_) | refine WL.opZ (h := ?_)))
    with_reducible apply WL.nil
    repeat (first | with_reducible apply W.seq | with_reducible apply W.block | with_reducible apply W.skip | with_reducible apply W.exit | with_reducible apply W.ret | with_reducible apply At.seqN | with_reducible apply At.blkN | with_reducible apply At.blkE | with_reducible apply At.blkR | with_reducible apply At.thenX | with_reducible apply At.thenR | with_reducible apply At.blkX rfl | ((with_reducible apply W.ops); (repeat (first | refine WL.opA hΓ (h := ?_) | refine WL.opX hΓ (h := ?_) | refine WL.opY (h := ?_) | refine WL.opZ (h := ?_))); with_reducible apply WL.nil) | refine W.condT (h := ?_) | refine W.condF (h := ?_))
    with_reducible apply W.ops
    repeat (first | refine WL.opA hΓ (h := ?_) | refine WL.opX hΓ (h := ?_) | refine WL.opY (h := ?_) | refine WL.opZ (h := ?_))
    refine WL.opRA hFr fresh_s (bs, 3) ⟨hcode, by dsimp only; decide, by dsimp only; decide⟩ (h := ?_)
    intro bs2 hcode2
    refine WL.opRA hDE DrawEnough_s bs2 hcode2 (h := ?_)
    rintro ⟨l2, b⟩ ⟨hl2, hbb⟩
    dsimp only at hl2 hbb ⊢
    have c1 := mThird_eq l a (by omega) (by omega)
    have c2 := mThird_eq l b (by omega) (by omega)
    have c3 := mEnough_eq l b (by omega) (by omega)
    (repeat (first | refine WL.opA hΓ (h := ?_) | refine WL.opX hΓ (h := ?_) | refine WL.opY (h := ?_) | refine WL.opZ (h := ?_)))
    with_reducible apply WL.nil
    cases ht : thirdB l a with
    | false =>
      rw [ht] at c1
      cases he : enoughB l b with
      | false =>
        rw [he] at c3
        repeat (first | with_reducible apply W.seq | with_reducible apply W.block | with_reducible apply W.skip | with_reducible apply W.exit | with_reducible apply W.ret | with_reducible apply At.seqN | with_reducible apply At.blkN | with_reducible apply At.blkE | with_reducible apply At.blkR | with_reducible apply At.thenX | with_reducible apply At.thenR | with_reducible apply At.blkX rfl | ((with_reducible apply W.ops); (repeat (first | refine WL.opA hΓ (h := ?_) | refine WL.opX hΓ (h := ?_) | refine WL.opY (h := ?_) | refine WL.opZ (h := ?_))); with_reducible apply WL.nil) | refine W.condT (h := ?_) | refine W.condF (h := ?_))
        refine At.retA (by rw [Try.results3]) (he := rfl)
      | true =>
        rw [he] at c3
        rw [enough_third he] at c2
        repeat (first | with_reducible apply W.seq | with_reducible apply W.block | with_reducible apply W.skip | with_reducible apply W.exit | with_reducible apply W.ret | with_reducible apply At.seqN | with_reducible apply At.blkN | with_reducible apply At.blkE | with_reducible apply At.blkR | with_reducible apply At.thenX | with_reducible apply At.thenR | with_reducible apply At.blkX rfl | ((with_reducible apply W.ops); (repeat (first | refine WL.opA hΓ (h := ?_) | refine WL.opX hΓ (h := ?_) | refine WL.opY (h := ?_) | refine WL.opZ (h := ?_))); with_reducible apply WL.nil) | refine W.condT (h := ?_) | refine W.condF (h := ?_))
        refine At.retA (by rw [Try.results3]) (he := rfl)
    | true =>
      rw [ht] at c1
      cases he : enoughB l b with
      | false =>
        rw [he] at c3
        repeat (first | with_reducible apply W.seq | with_reducible apply W.block | with_reducible apply W.skip | with_reducible apply W.exit | with_reducible apply W.ret | with_reducible apply At.seqN | with_reducible apply At.blkN | with_reducible apply At.blkE | with_reducible apply At.blkR | with_reducible apply At.thenX | with_reducible apply At.thenR | with_reducible apply At.blkX rfl | ((with_reducible apply W.ops); (repeat (first | refine WL.opA hΓ (h := ?_) | refine WL.opX hΓ (h := ?_) | refine WL.opY (h := ?_) | refine WL.opZ (h := ?_))); with_reducible apply WL.nil) | refine W.condT (h := ?_) | refine W.condF (h := ?_))
        refine At.retA (by rw [Try.results3]) (he := rfl)
      | true =>
        rw [he] at c3
        rw [enough_third he] at c2
        have hex := third_law ht he
        repeat (first | with_reducible apply W.seq | with_reducible apply W.block | with_reducible apply W.skip | with_reducible apply W.exit | with_reducible apply W.ret | with_reducible apply At.seqN | with_reducible apply At.blkN | with_reducible apply At.blkE | with_reducible apply At.blkR | with_reducible apply At.thenX | with_reducible apply At.thenR | with_reducible apply At.blkX rfl | ((with_reducible apply W.ops); (repeat (first | refine WL.opA hΓ (h := ?_) | refine WL.opX hΓ (h := ?_) | refine WL.opY (h := ?_) | refine WL.opZ (h := ?_))); with_reducible apply WL.nil) | refine W.condT (h := ?_) | refine W.condF (h := ?_))
        refine W.loopA (fun k => k ≤ a.length ∧ ∀ j, (h : j < k) → ∀ hj : j < a.length, ¬ a[j] ∈ b) (fun k : Nat => [.slot 4 (one (.all 64013)), .blk 64013 (.arr true 3 1 (rowsF cInt a)), .slot 6 (one (.all 64019)), .blk 64019 (.arr true 3 1 (rowsF cInt b)), .slot 8 (vI k)]) (fun k => a.length - k) 0 ⟨Nat.zero_le _, fun j h => by omega⟩ (h := ?_)
        rintro k ⟨hk, hn⟩
        by_cases hlt : k < a.length
        · have hrow : (rowsF cInt a)[k]? = some [.sc (.int .i64 a[k])] := rowsF_get cInt a k hlt
          have c4 := mHasL_eq b a[k] (by omega)
          by_cases he : a[k] ∈ b
          · have hd : decide (a[k] ∈ b) = true := by simp [he]
            rw [hd] at c4
            clear he hn hex
            repeat (first | with_reducible apply W.seq | with_reducible apply W.block | with_reducible apply W.skip | with_reducible apply W.exit | with_reducible apply W.ret | with_reducible apply At.seqN | with_reducible apply At.blkN | with_reducible apply At.blkE | with_reducible apply At.blkR | with_reducible apply At.thenX | with_reducible apply At.thenR | with_reducible apply At.blkX rfl | ((with_reducible apply W.ops); (repeat (first | refine WL.opA hΓ (h := ?_) | refine WL.opX hΓ (h := ?_) | refine WL.opY (h := ?_) | refine WL.opZ (h := ?_))); with_reducible apply WL.nil) | refine W.condT (h := ?_) | refine W.condF (h := ?_))
            refine At.retA (by rw [Try.results3]) (he := rfl)
          · have hd : decide (a[k] ∈ b) = false := by simp [he]
            rw [hd] at c4
            clear hex
            repeat (first | with_reducible apply W.seq | with_reducible apply W.block | with_reducible apply W.skip | with_reducible apply W.exit | with_reducible apply W.ret | with_reducible apply At.seqN | with_reducible apply At.blkN | with_reducible apply At.blkE | with_reducible apply At.blkR | with_reducible apply At.thenX | with_reducible apply At.thenR | with_reducible apply At.blkX rfl | ((with_reducible apply W.ops); (repeat (first | refine WL.opA hΓ (h := ?_) | refine WL.opX hΓ (h := ?_) | refine WL.opY (h := ?_) | refine WL.opZ (h := ?_))); with_reducible apply WL.nil) | refine W.condT (h := ?_) | refine W.condF (h := ?_))
            exact At.roundA (k + 1) ⟨by omega, fun j h hj => by
              rcases Nat.lt_or_ge j k with h1 | h1
              · exact hn j h1 hj
              · have : j = k := by omega
                subst this
                exact he⟩ (by omega)
        · exfalso
          obtain ⟨x, hx, hxb⟩ := hex
          obtain ⟨j, hj, rfl⟩ := List.getElem_of_mem hx
          exact hn j (by omega) hj hxb
end Go.Proofs.Ytlchfjjoendimaa
