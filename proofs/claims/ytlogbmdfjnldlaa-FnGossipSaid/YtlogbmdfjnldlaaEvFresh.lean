/-
  A code that follows from another one; small functions of the laws.
-/
import Derived.Test.YtlogbmdfjnldlaaEvCu
namespace Go.Proofs.Ytlogbmdfjnldlaa
set_option maxRecDepth 100000
set_option linter.unusedVariables false
set_option linter.unusedSimpArgs false
open Go Go.RowKit
set_option maxHeartbeats 4000000

theorem wrap_u8_ex : ∃ g : Int → Nat, (∀ n, IntKind.u8.wrap n = ((g n : Nat) : Int)) ∧ ∀ n, g n < 256 := by
  refine ⟨fun n => (n % 256).toNat, fun n => ?_, fun n => ?_⟩
  · have : IntKind.u8.wrap n = n % 256 := by simp [IntKind.wrap, IntKind.bits, IntKind.signed]
    rw [this]
    show n % 256 = (((n % 256).toNat : Nat) : Int)
    omega
  · show (n % 256).toNat < 256
    omega
theorem CodeOk.le {bs : List Nat} (h : bs.length ≤ 1048576) (hb : ∀ n ∈ bs, n < 256) : CodeOk bs := ⟨hb, by omega⟩
theorem fresh_s : SoundR Try.prog 12 (fun x : List Nat × Int => CodeOk x.1 ∧ 0 ≤ x.2 ∧ x.2 ≤ 1000) (fun x => [aL cU8 x.1, aI x.2]) (fun _ y => CodeOk y) (fun _ y => rL 5 1 cU8 y) := by
  refine SoundR.ofA Try.func12 rfl Try.ntmps12 ?_
  rintro ⟨bs, salt⟩ w ⟨⟨hbs, hlen⟩, hs0, hs1⟩
  refine ⟨by simp, ?_⟩
  dsimp only at hbs hlen hs0 hs1
  have hΓ : GSound Try.prog (look []) := env_nil
  obtain ⟨g, hg, hg2⟩ := wrap_u8_ex
  simp only [initS, argPV, List.map_cons, List.map_nil, toPL, Nat.zero_add]
  have e0 : [[Leaf.sc (.int .u8 ((g salt : Nat) : Int))]] = rowsF cU8 [g salt] := rfl
  repeat (first | with_reducible apply W.seq | with_reducible apply W.block | with_reducible apply W.skip | with_reducible apply W.exit | with_reducible apply W.ret | with_reducible apply At.seqN | with_reducible apply At.blkN | with_reducible apply At.blkE | with_reducible apply At.blkR | with_reducible apply At.thenX | with_reducible apply At.thenR | with_reducible apply At.blkX rfl | ((with_reducible apply W.ops); (repeat (first | refine WL.opA hΓ (h := ?_) | refine WL.opX hΓ (h := ?_) | refine WL.opY (h := ?_) | refine WL.opZ (h := ?_))); with_reducible apply WL.nil) | refine W.condT (h := ?_) | refine W.condF (h := ?_))
  refine W.loopA (fun x : Nat × List Nat => x.1 ≤ bs.length ∧ x.1 ≤ 600 ∧ x.2.length ≤ 1 + x.1 ∧ ∀ n ∈ x.2, n < 256) (fun x => [.slot 0 (vL cU8 bs), .slot 1 (vI salt), .slot 5 (one (.all 9)), .blk 9 (.arr true 5 1 (rowsF cU8 x.2)), .slot 6 (vI x.1)]) (fun x => bs.length - x.1) (0, [g salt]) ⟨Nat.zero_le _, Nat.zero_le _, by simp, by simp [hg2]⟩ (h := ?_)
  rintro ⟨i, out⟩ ⟨hi, hi6, ho, hob⟩
  dsimp only at hi hi6 ho hob ⊢
  by_cases hlt : i < bs.length
  · have hrow : (rowsF cU8 bs)[i]? = some [.sc (.int .u8 ((bs[i] : Nat) : Int))] := rowsF_get cU8 bs i hlt
    have hn := hbs bs[i] (List.getElem_mem _)
    generalize bs[i] = n at hrow hn
    by_cases h6 : i < 600
    · have t0 : (i : Int).tmod 7 = ((i % 7 : Nat) : Int) := by rw [Int.tmod_eq_emod_of_nonneg (by omega)]; omega
      have t1 : salt * (((i % 7 : Nat) : Int) + 1) ≤ 1000 * 7 := Int.mul_le_mul hs1 (by omega) (by omega) (by omega)
      have t2 : 0 ≤ salt * (((i % 7 : Nat) : Int) + 1) := Int.mul_nonneg hs0 (by omega)
      have e := cU8_app out
      repeat (first | with_reducible apply W.seq | with_reducible apply W.block | with_reducible apply W.skip | with_reducible apply W.exit | with_reducible apply W.ret | with_reducible apply At.seqN | with_reducible apply At.blkN | with_reducible apply At.blkE | with_reducible apply At.blkR | with_reducible apply At.thenX | with_reducible apply At.thenR | with_reducible apply At.blkX rfl | ((with_reducible apply W.ops); (repeat (first | refine WL.opA hΓ (h := ?_) | refine WL.opX hΓ (h := ?_) | refine WL.opY (h := ?_) | refine WL.opZ (h := ?_))); with_reducible apply WL.nil) | refine W.condT (h := ?_) | refine W.condF (h := ?_))
      refine At.roundA (i + 1, out ++ [g (n * 3 + salt * (((i % 7 : Nat) : Int) + 1))]) ⟨by dsimp only; omega, by dsimp only; omega, by simp; omega, fun m hm => ?_⟩ (by dsimp only; omega)
      rcases List.mem_append.1 hm with hm | hm
      · exact hob m hm
      · rw [List.mem_singleton.1 hm]
        exact hg2 _
    · repeat (first | with_reducible apply W.seq | with_reducible apply W.block | with_reducible apply W.skip | with_reducible apply W.exit | with_reducible apply W.ret | with_reducible apply At.seqN | with_reducible apply At.blkN | with_reducible apply At.blkE | with_reducible apply At.blkR | with_reducible apply At.thenX | with_reducible apply At.thenR | with_reducible apply At.blkX rfl | ((with_reducible apply W.ops); (repeat (first | refine WL.opA hΓ (h := ?_) | refine WL.opX hΓ (h := ?_) | refine WL.opY (h := ?_) | refine WL.opZ (h := ?_))); with_reducible apply WL.nil) | refine W.condT (h := ?_) | refine W.condF (h := ?_))
      refine At.retRA (by rw [Try.results12]) (he := ?_) out ⟨hob, by omega⟩
      rfl
  · repeat (first | with_reducible apply W.seq | with_reducible apply W.block | with_reducible apply W.skip | with_reducible apply W.exit | with_reducible apply W.ret | with_reducible apply At.seqN | with_reducible apply At.blkN | with_reducible apply At.blkE | with_reducible apply At.blkR | with_reducible apply At.thenX | with_reducible apply At.thenR | with_reducible apply At.blkX rfl | ((with_reducible apply W.ops); (repeat (first | refine WL.opA hΓ (h := ?_) | refine WL.opX hΓ (h := ?_) | refine WL.opY (h := ?_) | refine WL.opZ (h := ?_))); with_reducible apply WL.nil) | refine W.condT (h := ?_) | refine W.condF (h := ?_))
    refine At.retRA (by rw [Try.results12]) (he := ?_) out ⟨hob, by omega⟩
    rfl
noncomputable def mHasL := mdl (fun x : List Int × Int => x.1.length ≤ 8796093022207) (fun x => [aL cInt x.1, aI x.2]) (fun x => rB (decide (x.2 ∈ x.1)))
theorem mHasL_eq (l : List Int) (x : Int) (h : l.length ≤ 8796093022207) : mHasL [aL cInt l, aI x] = some (rB (decide (x ∈ l))) := mdl_eq (by rintro ⟨a, b⟩ ⟨d, e⟩ h; simpa using h) (l, x) h
theorem hasL_s : Sound Try.prog 17 mHasL := by
  refine Sound.mdl Try.func17 rfl Try.ntmps17 ?_
  rintro ⟨l, x⟩ w hl
  refine ⟨by simp, ?_⟩
  replace hl : l.length ≤ 8796093022207 := hl
  have hΓ : GSound Try.prog (look []) := env_nil
  simp only [initS, argPV, List.map_cons, List.map_nil, toPL, Nat.zero_add]
  repeat (first | with_reducible apply W.seq | with_reducible apply W.block | with_reducible apply W.skip | with_reducible apply W.exit | with_reducible apply W.ret | with_reducible apply At.seqN | with_reducible apply At.blkN | with_reducible apply At.blkE | with_reducible apply At.blkR | with_reducible apply At.thenX | with_reducible apply At.thenR | with_reducible apply At.blkX rfl | ((with_reducible apply W.ops); (repeat (first | refine WL.opA hΓ (h := ?_) | refine WL.opX hΓ (h := ?_) | refine WL.opY (h := ?_) | refine WL.opZ (h := ?_))); with_reducible apply WL.nil) | refine W.condT (h := ?_) | refine W.condF (h := ?_))
  refine W.loopA (fun k => k ≤ l.length ∧ ∀ j, (h : j < k) → ∀ hj : j < l.length, l[j] ≠ x) (fun k : Nat => [.slot 0 (vL cInt l), .slot 1 (vI x), .slot 5 (vI k)]) (fun k => l.length - k) 0 ⟨Nat.zero_le _, fun j h => by omega⟩ (h := ?_)
  rintro k ⟨hk, hn⟩
  by_cases hlt : k < l.length
  · have hrow : (rowsF cInt l)[k]? = some [.sc (.int .i64 l[k])] := rowsF_get cInt l k hlt
    by_cases he : l[k] = x
    · have hd : decide (l[k] = x) = true := by simp [he]
      have hmem : x ∈ l := he ▸ List.getElem_mem _
      clear he hn
      repeat (first | with_reducible apply W.seq | with_reducible apply W.block | with_reducible apply W.skip | with_reducible apply W.exit | with_reducible apply W.ret | with_reducible apply At.seqN | with_reducible apply At.blkN | with_reducible apply At.blkE | with_reducible apply At.blkR | with_reducible apply At.thenX | with_reducible apply At.thenR | with_reducible apply At.blkX rfl | ((with_reducible apply W.ops); (repeat (first | refine WL.opA hΓ (h := ?_) | refine WL.opX hΓ (h := ?_) | refine WL.opY (h := ?_) | refine WL.opZ (h := ?_))); with_reducible apply WL.nil) | refine W.condT (h := ?_) | refine W.condF (h := ?_))
      refine At.retA (by rw [Try.results17]) (he := ?_)
      simp [hmem]
    · have hd : decide (l[k] = x) = false := by simp [he]
      repeat (first | with_reducible apply W.seq | with_reducible apply W.block | with_reducible apply W.skip | with_reducible apply W.exit | with_reducible apply W.ret | with_reducible apply At.seqN | with_reducible apply At.blkN | with_reducible apply At.blkE | with_reducible apply At.blkR | with_reducible apply At.thenX | with_reducible apply At.thenR | with_reducible apply At.blkX rfl | ((with_reducible apply W.ops); (repeat (first | refine WL.opA hΓ (h := ?_) | refine WL.opX hΓ (h := ?_) | refine WL.opY (h := ?_) | refine WL.opZ (h := ?_))); with_reducible apply WL.nil) | refine W.condT (h := ?_) | refine W.condF (h := ?_))
      exact At.roundA (k + 1) ⟨by omega, fun j h hj => by
        rcases Nat.lt_or_ge j k with h1 | h1
        · exact hn j h1 hj
        · have : j = k := by omega
          subst this
          exact he⟩ (by omega)
  · have hmem : ¬ x ∈ l := fun h => by
      obtain ⟨j, hj, e⟩ := List.getElem_of_mem h
      exact hn j (by omega) hj e
    clear hn
    repeat (first | with_reducible apply W.seq | with_reducible apply W.block | with_reducible apply W.skip | with_reducible apply W.exit | with_reducible apply W.ret | with_reducible apply At.seqN | with_reducible apply At.blkN | with_reducible apply At.blkE | with_reducible apply At.blkR | with_reducible apply At.thenX | with_reducible apply At.thenR | with_reducible apply At.blkX rfl | ((with_reducible apply W.ops); (repeat (first | refine WL.opA hΓ (h := ?_) | refine WL.opX hΓ (h := ?_) | refine WL.opY (h := ?_) | refine WL.opZ (h := ?_))); with_reducible apply WL.nil) | refine W.condT (h := ?_) | refine W.condF (h := ?_))
    refine At.retA (by rw [Try.results17]) (he := ?_)
    simp [hmem]
noncomputable def mBig := mdl (fun bs : List Nat => bs.length ≤ 9223372036854775807) (fun bs => [aL cU8 bs]) (fun bs => rB (decide (1048576 < bs.length)))
theorem rowsF_U8 {a b : List Nat} : rowsF cU8 a = rowsF cU8 b ↔ a = b := rowsF_iff fun x y h => by
  simp only [cU8, List.cons.injEq, Value.int.injEq, and_true, true_and] at h
  omega
theorem mBig_eq (bs : List Nat) (h : bs.length ≤ 9223372036854775807) : mBig [aL cU8 bs] = some (rB (decide (1048576 < bs.length))) := mdl_eq (by intro a b h; simpa [rowsF_U8] using h) bs h
theorem big_s : Sound Try.prog 9 mBig := by
  refine Sound.mdl Try.func9 rfl Try.ntmps9 ?_
  rintro bs w hl
  refine ⟨by simp, ?_⟩
  replace hl : bs.length ≤ 9223372036854775807 := hl
  have hΓ : GSound Try.prog (look []) := env_nil
  simp only [initS, argPV, List.map_cons, List.map_nil, toPL, Nat.zero_add]
  repeat (first | with_reducible apply W.seq | with_reducible apply W.block | with_reducible apply W.skip | with_reducible apply W.exit | with_reducible apply W.ret | with_reducible apply At.seqN | with_reducible apply At.blkN | with_reducible apply At.blkE | with_reducible apply At.blkR | with_reducible apply At.thenX | with_reducible apply At.thenR | with_reducible apply At.blkX rfl | ((with_reducible apply W.ops); (repeat (first | refine WL.opA hΓ (h := ?_) | refine WL.opX hΓ (h := ?_) | refine WL.opY (h := ?_) | refine WL.opZ (h := ?_))); with_reducible apply WL.nil) | refine W.condT (h := ?_) | refine W.condF (h := ?_))
  refine At.retA (by rw [Try.results9]) (he := ?_)
  by_cases h : 1048576 < bs.length
  · have h2 : (1048576 : Int) < bs.length := by omega
    simp [h, h2]
  · have h2 : ¬ (1048576 : Int) < bs.length := by omega
    simp [h, h2]
end Go.Proofs.Ytlogbmdfjnldlaa
