/-
  ReadDec of both programs.
-/
import Derived.Test.YtimnogjgokljbaaDoorG10
namespace Go.Proofs.YtimnogjgokljbaaDoor
set_option maxRecDepth 100000
set_option linter.unusedVariables false
set_option linter.unusedSimpArgs false
open Go Go.RowKit
set_option maxHeartbeats 4000000
set_option linter.unusedVariables false

def fS (q : Nat × Nat) (d : Nat) : Nat × Nat := if isDg d then (q.1 * 10 + (d - 48), q.2 + 1) else q
theorem fS_dg : ∀ (l : List Nat) (a k : Nat), (∀ d ∈ l, isDg d) → l.foldl fS (a, k) = (valD a l, k + l.length)
  | [], a, k, _ => rfl
  | d :: l, a, k, h => by
    have hd := h d List.mem_cons_self
    rw [List.foldl_cons]
    have e : fS (a, k) d = (a * 10 + (d - 48), k + 1) := by unfold fS; rw [if_pos hd]
    rw [e, fS_dg l _ _ (fun x hx => h x (List.mem_cons_of_mem _ hx)), List.length_cons]
    refine Prod.ext rfl ?_
    dsimp only; omega
theorem fS_lt : ∀ (l : List Nat) (q : Nat × Nat), q.1 < 10 ^ q.2 → (l.foldl fS q).1 < 10 ^ (l.foldl fS q).2 ∧ (l.foldl fS q).2 ≤ q.2 + l.length
  | [], q, h => ⟨h, by simp⟩
  | d :: l, q, h => by
    rw [List.foldl_cons, List.length_cons]
    have h2 : (fS q d).1 < 10 ^ (fS q d).2 ∧ (fS q d).2 ≤ q.2 + 1 := by
      unfold fS
      split
      · rename_i hd
        unfold isDg at hd
        refine ⟨?_, Nat.le_refl _⟩
        dsimp only
        rw [Nat.pow_succ]
        omega
      · exact ⟨h, by omega⟩
    have h3 := fS_lt l (fS q d) h2.1
    exact ⟨h3.1, by omega⟩
theorem fS_dec {n : Int} (h : okDecZ n) : (decZ n).foldl fS (0, 0) = (valD 0 (dgs (decZ n)), (dgs (decZ n)).length) := by
  obtain ⟨p1, p2, p3, p4⟩ := decZ_sval h
  have e := fS_dg _ 0 0 p1
  rw [Nat.zero_add] at e
  rw [← e]
  unfold dgs
  split
  · rename_i hs
    unfold sgn at hs
    have hh := of_decide_eq_true hs
    cases hz : decZ n with
    | nil => rw [hz] at hh; cases hh
    | cons d r =>
      rw [hz] at hh
      simp only [List.head?_cons, Option.some.injEq] at hh
      subst hh
      rfl
  · rfl
theorem decZ_ten {n : Int} (h : okDecZ n) : (decZ n).length ≤ 10 := by
  obtain ⟨neg, l, e, p1, p2, p3, p4⟩ := decZ_parts h
  rw [e]
  cases neg
  · simp; omega
  · simp; omega
theorem pow_le9 {k : Nat} (h : k ≤ 9) : 10 ^ k ≤ 1000000000 := Nat.pow_le_pow_right (n := 10) (by omega) h
theorem pow_le11 {k : Nat} (h : k ≤ 11) : 10 ^ k ≤ 100000000000 := Nat.pow_le_pow_right (n := 10) (by omega) h
theorem rdS_no {s : ByteArray} {a k : Nat} (hq : ((bl s).take 11).foldl fS (0, 0) = (a, k)) (h : 9 < k ∨ 10 < s.size ∨ ∀ n, okDecZ n → n = (if sgn (bl s) then -(a : Int) else (a : Int)) → ¬ bsS (decZ n) = s) : readZ s = (0, false) := by
  refine readZ_no fun n h1 h2 h3 => ?_
  have h10 := decZ_ten h1
  have hl := bl_len s
  rw [List.take_of_length_le (by rw [h2]; omega), h2, fS_dec h1] at hq
  obtain ⟨p1, p2, p3, p4⟩ := decZ_sval h1
  have e1 := congrArg Prod.fst hq
  have e2 := congrArg Prod.snd hq
  dsimp only at e1 e2
  rcases h with h | h | h
  · omega
  · rw [h2] at hl; omega
  · refine h n h1 ?_ h3
    rw [h2]
    unfold sval at p4
    rw [e1] at p4
    exact p4.symm
noncomputable def mRead := mdl (fun s : ByteArray => s.size ≤ 9223372036854775807) (fun s => [aS s]) (fun s => .tup [rSc (.int .i64 (readZ s).1), rSc (.bool (readZ s).2)])
theorem mRead_eq (s : ByteArray) (h : s.size ≤ 9223372036854775807) : mRead [aS s] = some (.tup [rSc (.int .i64 (readZ s).1), rSc (.bool (readZ s).2)]) := mdl_eq (by intro a b h; simpa using h) s h
theorem sgn_nil {s : ByteArray} (h : s.size = 0) : sgn (bl s) = false := by
  have : bl s = [] := List.length_eq_zero_iff.1 (by rw [bl_len, h])
  rw [this]
  rfl
theorem sgn_at {s : ByteArray} (h : 0 < (bl s).length) : sgn (bl s) = decide ((bl s)[0] = 45) := by
  unfold sgn
  rw [List.head?_eq_getElem?, List.getElem?_eq_getElem h]
  simp
theorem wrap_sub {d : Nat} (h : 48 ≤ d) (h2 : d < 256) : IntKind.u8.wrap ((d : Int) - 48) = ((d - 48 : Nat) : Int) := by
  rw [show (d : Int) - 48 = ((d - 48 : Nat) : Int) by omega]
  exact wrap_u8n (by omega)
theorem readS_s : Sound Tryd.prog 27 mRead := by
  refine Sound.mdl Tryd.func27 rfl Tryd.ntmps27 ?_
  rintro s w hs
  refine ⟨by simp, ?_⟩
  replace hs : s.size ≤ 9223372036854775807 := hs
  have hΓ : GSound Tryd.prog (look [(15, mDecZ)]) := env_cons (has_of Tryd.func15 rfl rfl) decZS_s env_nil
  have hl := bl_len s
  simp only [initS, argPV, List.map_cons, List.map_nil, toPL, Nat.zero_add]
  repeat (first | with_reducible apply W.seq | with_reducible apply W.block | with_reducible apply W.skip | with_reducible apply W.exit | with_reducible apply W.ret | with_reducible apply At.seqN | with_reducible apply At.blkN | with_reducible apply At.blkE | with_reducible apply At.blkR | with_reducible apply At.thenX | with_reducible apply At.thenR | with_reducible apply At.blkX rfl | ((with_reducible apply W.ops); (repeat (first | refine WL.opA hΓ (h := ?_) | refine WL.opX hΓ (h := ?_) | refine WL.opY (h := ?_) | refine WL.opZ (h := ?_))); with_reducible apply WL.nil) | refine W.condT (h := ?_) | refine W.condF (h := ?_))
  refine W.loopA (fun x : Nat × Nat × Nat => ((bl s).take x.1).foldl fS (0, 0) = (x.2.1, x.2.2) ∧ x.1 ≤ (bl s).length ∧ x.1 ≤ 11) (fun x => [.slot 0 (vS s), .slot 4 (vI (x.2.1 : Int)), .slot 5 (vI (x.2.2 : Int)), .slot 6 (vI (x.1 : Int))]) (fun x => 11 - x.1) (0, 0, 0) ⟨rfl, Nat.zero_le _, Nat.zero_le _⟩ (h := ?_)
  rintro ⟨i, a, k⟩ ⟨hf, hi, hi11⟩
  dsimp only at hf hi hi11 ⊢
  have hbd := fS_lt ((bl s).take i) (0, 0) (by decide)
  rw [hf, List.length_take] at hbd
  dsimp only at hbd
  have hk11 : k ≤ 11 := by omega
  have ha11 : a ≤ 100000000000 := by have := pow_le11 hk11; omega
  by_cases hlt : i < s.size ∧ i < 11
  · obtain ⟨hlt, hlt11⟩ := hlt
    have hib : i < (bl s).length := by omega
    obtain ⟨b, hb1, hb2⟩ := bl_at hib
    have hstep : ((bl s).take (i + 1)).foldl fS (0, 0) = fS (a, k) b.toNat := by
      rw [List.take_succ_eq_append_getElem hib, List.foldl_append, hf, hb2]
      rfl
    have hb256 : b.toNat < 256 := b.toNat_lt
    clear hf hb2 hbd
    generalize hd : b.toNat = d at *
    unfold fS at hstep
    by_cases h1 : 48 ≤ d
    · by_cases h2 : d ≤ 57
      · rw [if_pos ⟨h1, h2⟩] at hstep
        have hw := wrap_sub h1 hb256
        have e : (a : Int) * 10 + ((d - 48 : Nat) : Int) = ((a * 10 + (d - 48) : Nat) : Int) := by omega
        repeat (first | with_reducible apply W.seq | with_reducible apply W.block | with_reducible apply W.skip | with_reducible apply W.exit | with_reducible apply W.ret | with_reducible apply At.seqN | with_reducible apply At.blkN | with_reducible apply At.blkE | with_reducible apply At.blkR | with_reducible apply At.thenX | with_reducible apply At.thenR | with_reducible apply At.blkX rfl | ((with_reducible apply W.ops); (repeat (first | refine WL.opA hΓ (h := ?_) | refine WL.opX hΓ (h := ?_) | refine WL.opY (h := ?_) | refine WL.opZ (h := ?_))); with_reducible apply WL.nil) | refine W.condT (h := ?_) | refine W.condF (h := ?_))
        exact At.roundA (i + 1, a * 10 + (d - 48), k + 1) ⟨hstep, by dsimp only; omega, by dsimp only; omega⟩ (by dsimp only; omega)
      · rw [if_neg (fun h => h2 h.2)] at hstep
        repeat (first | with_reducible apply W.seq | with_reducible apply W.block | with_reducible apply W.skip | with_reducible apply W.exit | with_reducible apply W.ret | with_reducible apply At.seqN | with_reducible apply At.blkN | with_reducible apply At.blkE | with_reducible apply At.blkR | with_reducible apply At.thenX | with_reducible apply At.thenR | with_reducible apply At.blkX rfl | ((with_reducible apply W.ops); (repeat (first | refine WL.opA hΓ (h := ?_) | refine WL.opX hΓ (h := ?_) | refine WL.opY (h := ?_) | refine WL.opZ (h := ?_))); with_reducible apply WL.nil) | refine W.condT (h := ?_) | refine W.condF (h := ?_))
        exact At.roundA (i + 1, a, k) ⟨hstep, by dsimp only; omega, by dsimp only; omega⟩ (by dsimp only; omega)
    · rw [if_neg (fun h => h1 h.1)] at hstep
      repeat (first | with_reducible apply W.seq | with_reducible apply W.block | with_reducible apply W.skip | with_reducible apply W.exit | with_reducible apply W.ret | with_reducible apply At.seqN | with_reducible apply At.blkN | with_reducible apply At.blkE | with_reducible apply At.blkR | with_reducible apply At.thenX | with_reducible apply At.thenR | with_reducible apply At.blkX rfl | ((with_reducible apply W.ops); (repeat (first | refine WL.opA hΓ (h := ?_) | refine WL.opX hΓ (h := ?_) | refine WL.opY (h := ?_) | refine WL.opZ (h := ?_))); with_reducible apply WL.nil) | refine W.condT (h := ?_) | refine W.condF (h := ?_))
      exact At.roundA (i + 1, a, k) ⟨hstep, by dsimp only; omega, by dsimp only; omega⟩ (by dsimp only; omega)
  · have hq : ((bl s).take 11).foldl fS (0, 0) = (a, k) := by
      by_cases hil : i < 11
      · have : i = (bl s).length := by omega
        rw [List.take_of_length_le (by omega)]
        rw [List.take_of_length_le (by omega)] at hf
        exact hf
      · have : i = 11 := by omega
        rw [← this]
        exact hf
    have hno := rdS_no hq
    have hyes : ∀ n, okDecZ n → bsS (decZ n) = s → readZ s = (n, true) := fun n => readZ_yes
    have hneg : (0 : Int) - (a : Int) = -(a : Int) := by omega
    have hk9 : k ≤ 9 → a ≤ 999999999 := fun h => by have := pow_le9 h; omega
    clear hq hf hbd
    refine (fun (key : W Tryd.prog none0 w 61 [.slot 0 (vS s), .slot 4 (vI (a : Int)), .slot 5 (vI (k : Int))] ?codeK ?postK) => ?main) ?part
    case main =>
      by_cases hil : i < s.size
      · have h11 : ¬ i < 11 := fun h => hlt ⟨hil, h⟩
        repeat (first | with_reducible apply W.seq | with_reducible apply W.block | with_reducible apply W.skip | with_reducible apply W.exit | with_reducible apply W.ret | with_reducible apply At.seqN | with_reducible apply At.blkN | with_reducible apply At.blkE | with_reducible apply At.blkR | with_reducible apply At.thenX | with_reducible apply At.thenR | with_reducible apply At.blkX rfl | ((with_reducible apply W.ops); (repeat (first | refine WL.opA hΓ (h := ?_) | refine WL.opX hΓ (h := ?_) | refine WL.opY (h := ?_) | refine WL.opZ (h := ?_))); with_reducible apply WL.nil) | refine W.condT (h := ?_) | refine W.condF (h := ?_))
        refine W.subA [.slot 0 (vS s), .slot 4 (vI (a : Int)), .slot 5 (vI (k : Int))] (h := ?_)
        exact key
      · repeat (first | with_reducible apply W.seq | with_reducible apply W.block | with_reducible apply W.skip | with_reducible apply W.exit | with_reducible apply W.ret | with_reducible apply At.seqN | with_reducible apply At.blkN | with_reducible apply At.blkE | with_reducible apply At.blkR | with_reducible apply At.thenX | with_reducible apply At.thenR | with_reducible apply At.blkX rfl | ((with_reducible apply W.ops); (repeat (first | refine WL.opA hΓ (h := ?_) | refine WL.opX hΓ (h := ?_) | refine WL.opY (h := ?_) | refine WL.opZ (h := ?_))); with_reducible apply WL.nil) | refine W.condT (h := ?_) | refine W.condF (h := ?_))
        refine W.subA [.slot 0 (vS s), .slot 4 (vI (a : Int)), .slot 5 (vI (k : Int))] (h := ?_)
        exact key
    clear hlt hi hi11
    by_cases hs0 : 0 < s.size
    · obtain ⟨b, hb1, hb2⟩ := bl_at (s := s) (i := 0) (by omega)
      have hsg := sgn_at (s := s) (by omega)
      rw [← hb2] at hsg
      clear hb2
      generalize hd : b.toNat = d at *
      by_cases h45 : d = 45
      · rw [decide_eq_true h45] at hsg
        by_cases hk : 9 < k
        · have hres := hno (.inl hk)
          clear hno hyes hk9
          repeat (first | with_reducible apply W.seq | with_reducible apply W.block | with_reducible apply W.skip | with_reducible apply W.exit | with_reducible apply W.ret | with_reducible apply At.seqN | with_reducible apply At.blkN | with_reducible apply At.blkE | with_reducible apply At.blkR | with_reducible apply At.thenX | with_reducible apply At.thenR | with_reducible apply At.blkX rfl | ((with_reducible apply W.ops); (repeat (first | refine WL.opA hΓ (h := ?_) | refine WL.opX hΓ (h := ?_) | refine WL.opY (h := ?_) | refine WL.opZ (h := ?_))); with_reducible apply WL.nil) | refine W.condT (h := ?_) | refine W.condF (h := ?_))
          refine At.retA (by rw [Tryd.results27]) (he := ?_)
          rw [hres]
        · replace hk9 := hk9 (by omega)
          by_cases hsz : 10 < s.size
          · have hres := hno (.inr (.inl hsz))
            clear hno hyes
            repeat (first | with_reducible apply W.seq | with_reducible apply W.block | with_reducible apply W.skip | with_reducible apply W.exit | with_reducible apply W.ret | with_reducible apply At.seqN | with_reducible apply At.blkN | with_reducible apply At.blkE | with_reducible apply At.blkR | with_reducible apply At.thenX | with_reducible apply At.thenR | with_reducible apply At.blkX rfl | ((with_reducible apply W.ops); (repeat (first | refine WL.opA hΓ (h := ?_) | refine WL.opX hΓ (h := ?_) | refine WL.opY (h := ?_) | refine WL.opZ (h := ?_))); with_reducible apply WL.nil) | refine W.condT (h := ?_) | refine W.condF (h := ?_))
            refine At.retA (by rw [Tryd.results27]) (he := ?_)
            rw [hres]
          · have c := mDecZ_eq (-(a : Int)) ⟨by omega, by omega⟩
            by_cases he : bsS (decZ (-(a : Int))) = s
            · have hres := hyes (-(a : Int)) ⟨by omega, by omega⟩ he
              clear hno hyes
              repeat (first | with_reducible apply W.seq | with_reducible apply W.block | with_reducible apply W.skip | with_reducible apply W.exit | with_reducible apply W.ret | with_reducible apply At.seqN | with_reducible apply At.blkN | with_reducible apply At.blkE | with_reducible apply At.blkR | with_reducible apply At.thenX | with_reducible apply At.thenR | with_reducible apply At.blkX rfl | ((with_reducible apply W.ops); (repeat (first | refine WL.opA hΓ (h := ?_) | refine WL.opX hΓ (h := ?_) | refine WL.opY (h := ?_) | refine WL.opZ (h := ?_))); with_reducible apply WL.nil) | refine W.condT (h := ?_) | refine W.condF (h := ?_))
              refine At.retA (by rw [Tryd.results27]) (he := ?_)
              rw [hres]
            · have hres := hno (.inr (.inr fun n _ hn h => he (by rw [hn, hsg] at h; simpa using h)))
              clear hno hyes
              repeat (first | with_reducible apply W.seq | with_reducible apply W.block | with_reducible apply W.skip | with_reducible apply W.exit | with_reducible apply W.ret | with_reducible apply At.seqN | with_reducible apply At.blkN | with_reducible apply At.blkE | with_reducible apply At.blkR | with_reducible apply At.thenX | with_reducible apply At.thenR | with_reducible apply At.blkX rfl | ((with_reducible apply W.ops); (repeat (first | refine WL.opA hΓ (h := ?_) | refine WL.opX hΓ (h := ?_) | refine WL.opY (h := ?_) | refine WL.opZ (h := ?_))); with_reducible apply WL.nil) | refine W.condT (h := ?_) | refine W.condF (h := ?_))
              refine At.retA (by rw [Tryd.results27]) (he := ?_)
              rw [hres]
      · rw [decide_eq_false h45] at hsg
        have h45i : ¬ (d : Int) = 45 := by omega
        by_cases hk : 9 < k
        · have hres := hno (.inl hk)
          clear hno hyes hk9
          repeat (first | with_reducible apply W.seq | with_reducible apply W.block | with_reducible apply W.skip | with_reducible apply W.exit | with_reducible apply W.ret | with_reducible apply At.seqN | with_reducible apply At.blkN | with_reducible apply At.blkE | with_reducible apply At.blkR | with_reducible apply At.thenX | with_reducible apply At.thenR | with_reducible apply At.blkX rfl | ((with_reducible apply W.ops); (repeat (first | refine WL.opA hΓ (h := ?_) | refine WL.opX hΓ (h := ?_) | refine WL.opY (h := ?_) | refine WL.opZ (h := ?_))); with_reducible apply WL.nil) | refine W.condT (h := ?_) | refine W.condF (h := ?_))
          refine At.retA (by rw [Tryd.results27]) (he := ?_)
          rw [hres]
        · replace hk9 := hk9 (by omega)
          by_cases hsz : 10 < s.size
          · have hres := hno (.inr (.inl hsz))
            clear hno hyes
            repeat (first | with_reducible apply W.seq | with_reducible apply W.block | with_reducible apply W.skip | with_reducible apply W.exit | with_reducible apply W.ret | with_reducible apply At.seqN | with_reducible apply At.blkN | with_reducible apply At.blkE | with_reducible apply At.blkR | with_reducible apply At.thenX | with_reducible apply At.thenR | with_reducible apply At.blkX rfl | ((with_reducible apply W.ops); (repeat (first | refine WL.opA hΓ (h := ?_) | refine WL.opX hΓ (h := ?_) | refine WL.opY (h := ?_) | refine WL.opZ (h := ?_))); with_reducible apply WL.nil) | refine W.condT (h := ?_) | refine W.condF (h := ?_))
            refine At.retA (by rw [Tryd.results27]) (he := ?_)
            rw [hres]
          · have c := mDecZ_eq ((a : Int)) ⟨by omega, by omega⟩
            by_cases he : bsS (decZ ((a : Int))) = s
            · have hres := hyes ((a : Int)) ⟨by omega, by omega⟩ he
              clear hno hyes
              repeat (first | with_reducible apply W.seq | with_reducible apply W.block | with_reducible apply W.skip | with_reducible apply W.exit | with_reducible apply W.ret | with_reducible apply At.seqN | with_reducible apply At.blkN | with_reducible apply At.blkE | with_reducible apply At.blkR | with_reducible apply At.thenX | with_reducible apply At.thenR | with_reducible apply At.blkX rfl | ((with_reducible apply W.ops); (repeat (first | refine WL.opA hΓ (h := ?_) | refine WL.opX hΓ (h := ?_) | refine WL.opY (h := ?_) | refine WL.opZ (h := ?_))); with_reducible apply WL.nil) | refine W.condT (h := ?_) | refine W.condF (h := ?_))
              refine At.retA (by rw [Tryd.results27]) (he := ?_)
              rw [hres]
            · have hres := hno (.inr (.inr fun n _ hn h => he (by rw [hn, hsg] at h; simpa using h)))
              clear hno hyes
              repeat (first | with_reducible apply W.seq | with_reducible apply W.block | with_reducible apply W.skip | with_reducible apply W.exit | with_reducible apply W.ret | with_reducible apply At.seqN | with_reducible apply At.blkN | with_reducible apply At.blkE | with_reducible apply At.blkR | with_reducible apply At.thenX | with_reducible apply At.thenR | with_reducible apply At.blkX rfl | ((with_reducible apply W.ops); (repeat (first | refine WL.opA hΓ (h := ?_) | refine WL.opX hΓ (h := ?_) | refine WL.opY (h := ?_) | refine WL.opZ (h := ?_))); with_reducible apply WL.nil) | refine W.condT (h := ?_) | refine W.condF (h := ?_))
              refine At.retA (by rw [Tryd.results27]) (he := ?_)
              rw [hres]
    · have hsg := sgn_nil (s := s) (by omega)
      by_cases hk : 9 < k
      · have hres := hno (.inl hk)
        clear hno hyes hk9
        repeat (first | with_reducible apply W.seq | with_reducible apply W.block | with_reducible apply W.skip | with_reducible apply W.exit | with_reducible apply W.ret | with_reducible apply At.seqN | with_reducible apply At.blkN | with_reducible apply At.blkE | with_reducible apply At.blkR | with_reducible apply At.thenX | with_reducible apply At.thenR | with_reducible apply At.blkX rfl | ((with_reducible apply W.ops); (repeat (first | refine WL.opA hΓ (h := ?_) | refine WL.opX hΓ (h := ?_) | refine WL.opY (h := ?_) | refine WL.opZ (h := ?_))); with_reducible apply WL.nil) | refine W.condT (h := ?_) | refine W.condF (h := ?_))
        refine At.retA (by rw [Tryd.results27]) (he := ?_)
        rw [hres]
      · replace hk9 := hk9 (by omega)
        by_cases hsz : 10 < s.size
        · omega
        · have c := mDecZ_eq ((a : Int)) ⟨by omega, by omega⟩
          by_cases he : bsS (decZ ((a : Int))) = s
          · have hres := hyes ((a : Int)) ⟨by omega, by omega⟩ he
            clear hno hyes
            repeat (first | with_reducible apply W.seq | with_reducible apply W.block | with_reducible apply W.skip | with_reducible apply W.exit | with_reducible apply W.ret | with_reducible apply At.seqN | with_reducible apply At.blkN | with_reducible apply At.blkE | with_reducible apply At.blkR | with_reducible apply At.thenX | with_reducible apply At.thenR | with_reducible apply At.blkX rfl | ((with_reducible apply W.ops); (repeat (first | refine WL.opA hΓ (h := ?_) | refine WL.opX hΓ (h := ?_) | refine WL.opY (h := ?_) | refine WL.opZ (h := ?_))); with_reducible apply WL.nil) | refine W.condT (h := ?_) | refine W.condF (h := ?_))
            refine At.retA (by rw [Tryd.results27]) (he := ?_)
            rw [hres]
          · have hres := hno (.inr (.inr fun n _ hn h => he (by rw [hn, hsg] at h; simpa using h)))
            clear hno hyes
            repeat (first | with_reducible apply W.seq | with_reducible apply W.block | with_reducible apply W.skip | with_reducible apply W.exit | with_reducible apply W.ret | with_reducible apply At.seqN | with_reducible apply At.blkN | with_reducible apply At.blkE | with_reducible apply At.blkR | with_reducible apply At.thenX | with_reducible apply At.thenR | with_reducible apply At.blkX rfl | ((with_reducible apply W.ops); (repeat (first | refine WL.opA hΓ (h := ?_) | refine WL.opX hΓ (h := ?_) | refine WL.opY (h := ?_) | refine WL.opZ (h := ?_))); with_reducible apply WL.nil) | refine W.condT (h := ?_) | refine W.condF (h := ?_))
            refine At.retA (by rw [Tryd.results27]) (he := ?_)
            rw [hres]
theorem rdI_no {s : ByteArray} (h : ∀ n, okDecZ n → (∀ d ∈ dgs (bl s), isDg d) → (dgs (bl s)).length ≤ 9 → 0 < (dgs (bl s)).length → n = (if sgn (bl s) then -((valD 0 (dgs (bl s)) : Nat) : Int) else ((valD 0 (dgs (bl s)) : Nat) : Int)) → bsS (decZ n) = s → False) : readZ s = (0, false) := by
  refine readZ_no fun n h1 h2 h3 => ?_
  obtain ⟨p1, p2, p3, p4⟩ := decZ_sval h1
  rw [← h2] at p1 p2 p3 p4
  exact h n h1 p1 p2 p3 p4.symm h3
theorem dgs_pos {s : ByteArray} (h : sgn (bl s) = false) : dgs (bl s) = bl s := by unfold dgs; rw [h]; rfl
theorem dgs_neg {s : ByteArray} (h : sgn (bl s) = true) : dgs (bl s) = (bl s).tail := by unfold dgs; rw [h]; rfl
theorem readI_s : Sound Tryd.prog 63 mRead := by
  refine Sound.mdl Tryd.func63 rfl Tryd.ntmps63 ?_
  rintro s w hs
  refine ⟨by simp, ?_⟩
  replace hs : s.size ≤ 9223372036854775807 := hs
  have hΓ : GSound Tryd.prog (look [(55, mDecZ), (46, mWithin)]) := env_cons (has_of Tryd.func55 rfl rfl) decZI_s (env_cons (has_of Tryd.func46 rfl rfl) within_s env_nil)
  have hl := bl_len s
  have hno := rdI_no (s := s)
  have hyes : ∀ n, okDecZ n → bsS (decZ n) = s → readZ s = (n, true) := fun n => readZ_yes
  by_cases hs0 : 0 < s.size
  · obtain ⟨b, hb1, hb2⟩ := bl_at (s := s) (i := 0) (by omega)
    have hsg := sgn_at (s := s) (by omega)
    rw [← hb2] at hsg
    clear hb2
    generalize hd0 : b.toNat = d0 at *
    by_cases h45 : d0 = 45
    · rw [decide_eq_true h45] at hsg
      have hdg := dgs_neg hsg
      have hDl : (dgs (bl s)).length = s.size - 1 := by rw [hdg, List.length_tail]; omega
      have hDx : ∀ j, (hj : j < (dgs (bl s)).length) → ∃ b : UInt8, s.data.toList[j + 1]? = some b ∧ b.toNat = (dgs (bl s))[j] := fun j hj => by
        obtain ⟨b, h1, h2⟩ := bl_at (s := s) (i := j + 1) (by omega)
        refine ⟨b, h1, h2.trans ?_⟩
        simp only [hdg, List.getElem_tail]
      rw [hsg] at hno
      by_cases hlen : 1 ≤ s.size - 1 ∧ s.size - 1 ≤ 9
      · have c := mWithin_eq ((s.size : Int) - 1) 1 9
        rw [decide_eq_true (by omega)] at c
        clear hdg
        generalize dgs (bl s) = D at *
        simp only [initS, argPV, List.map_cons, List.map_nil, toPL, Nat.zero_add]
        repeat (first | with_reducible apply W.seq | with_reducible apply W.block | with_reducible apply W.skip | with_reducible apply W.exit | with_reducible apply W.ret | with_reducible apply At.seqN | with_reducible apply At.blkN | with_reducible apply At.blkE | with_reducible apply At.blkR | with_reducible apply At.thenX | with_reducible apply At.thenR | with_reducible apply At.blkX rfl | ((with_reducible apply W.ops); (repeat (first | refine WL.opA hΓ (h := ?_) | refine WL.opX hΓ (h := ?_) | refine WL.opY (h := ?_) | refine WL.opZ (h := ?_))); with_reducible apply WL.nil) | refine W.condT (h := ?_) | refine W.condF (h := ?_))
        refine W.loopA (fun x : Nat × Nat => valD 0 (D.take x.1) = x.2 ∧ x.1 ≤ D.length ∧ ∀ d ∈ D.take x.1, isDg d) (fun x => [.slot 0 (vS s), .slot 4 (vI 1), .slot 5 (vI (x.2 : Int)), .slot 6 (vI ((x.1 + 1 : Nat) : Int))]) (fun x => D.length - x.1) (0, 0) ⟨rfl, Nat.zero_le _, fun d hd => by simp at hd⟩ (h := ?_)
        rintro ⟨j, a⟩ ⟨hv, hj, hdg⟩
        dsimp only at hv hj hdg ⊢
        have ha := valD_lt (D.take j) 0 hdg
        rw [hv, List.length_take] at ha
        have ha9 : a ≤ 999999999 := by have := pow_le9 (k := min j D.length) (by omega); omega
        clear ha
        by_cases hjl : j < D.length
        · obtain ⟨b, hb1, hb2⟩ := hDx j hjl
          have hb256 : b.toNat < 256 := b.toNat_lt
          have hsn := valD_snoc 0 (D.take j) D[j]
          rw [hv, ← List.take_succ_eq_append_getElem hjl] at hsn
          have hnx : isDg D[j] → ∀ d ∈ D.take (j + 1), isDg d := fun h d hd => by
            rw [List.take_succ_eq_append_getElem hjl] at hd
            rcases List.mem_append.1 hd with hd | hd
            · exact hdg d hd
            · rw [List.mem_singleton.1 hd]; exact h
          have hbad : ¬ isDg D[j] → readZ s = (0, false) := fun h => hno fun n _ h1 _ _ _ _ => h (h1 _ (List.getElem_mem hjl))
          rw [← hb2] at hsn hnx hbad
          clear hno hyes hv hdg hb2 hDx
          generalize hd : b.toNat = d at *
          by_cases h1 : 48 ≤ d
          · by_cases h2 : d ≤ 57
            · have hw := wrap_sub h1 hb256
              have e : 10 * (a : Int) + ((d - 48 : Nat) : Int) = ((a * 10 + (d - 48) : Nat) : Int) := by omega
              have hnx := hnx ⟨h1, h2⟩
              clear hbad
              repeat (first | with_reducible apply W.seq | with_reducible apply W.block | with_reducible apply W.skip | with_reducible apply W.exit | with_reducible apply W.ret | with_reducible apply At.seqN | with_reducible apply At.blkN | with_reducible apply At.blkE | with_reducible apply At.blkR | with_reducible apply At.thenX | with_reducible apply At.thenR | with_reducible apply At.blkX rfl | ((with_reducible apply W.ops); (repeat (first | refine WL.opA hΓ (h := ?_) | refine WL.opX hΓ (h := ?_) | refine WL.opY (h := ?_) | refine WL.opZ (h := ?_))); with_reducible apply WL.nil) | refine W.condT (h := ?_) | refine W.condF (h := ?_))
              exact At.roundA (j + 1, a * 10 + (d - 48)) ⟨hsn, by dsimp only; omega, hnx⟩ (by dsimp only; omega)
            · have hres := hbad (fun h => h2 h.2)
              clear hbad hnx
              repeat (first | with_reducible apply W.seq | with_reducible apply W.block | with_reducible apply W.skip | with_reducible apply W.exit | with_reducible apply W.ret | with_reducible apply At.seqN | with_reducible apply At.blkN | with_reducible apply At.blkE | with_reducible apply At.blkR | with_reducible apply At.thenX | with_reducible apply At.thenR | with_reducible apply At.blkX rfl | ((with_reducible apply W.ops); (repeat (first | refine WL.opA hΓ (h := ?_) | refine WL.opX hΓ (h := ?_) | refine WL.opY (h := ?_) | refine WL.opZ (h := ?_))); with_reducible apply WL.nil) | refine W.condT (h := ?_) | refine W.condF (h := ?_))
              refine At.retA (by rw [Tryd.results63]) (he := ?_)
              rw [hres]
          · have hres := hbad (fun h => h1 h.1)
            clear hbad hnx
            repeat (first | with_reducible apply W.seq | with_reducible apply W.block | with_reducible apply W.skip | with_reducible apply W.exit | with_reducible apply W.ret | with_reducible apply At.seqN | with_reducible apply At.blkN | with_reducible apply At.blkE | with_reducible apply At.blkR | with_reducible apply At.thenX | with_reducible apply At.thenR | with_reducible apply At.blkX rfl | ((with_reducible apply W.ops); (repeat (first | refine WL.opA hΓ (h := ?_) | refine WL.opX hΓ (h := ?_) | refine WL.opY (h := ?_) | refine WL.opZ (h := ?_))); with_reducible apply WL.nil) | refine W.condT (h := ?_) | refine W.condF (h := ?_))
            refine At.retA (by rw [Tryd.results63]) (he := ?_)
            rw [hres]
        · have hjl2 : D.length ≤ j := by omega
          rw [List.take_of_length_le hjl2] at hv
          have hneg : (0 : Int) - (a : Int) = -(a : Int) := by omega
          have c2 := mDecZ_eq (-((a : Nat) : Int)) ⟨by omega, by omega⟩
          by_cases he : bsS (decZ (-((a : Nat) : Int))) = s
          · have hres := hyes (-((a : Nat) : Int)) ⟨by omega, by omega⟩ he
            clear hno hyes hDx hv hdg
            repeat (first | with_reducible apply W.seq | with_reducible apply W.block | with_reducible apply W.skip | with_reducible apply W.exit | with_reducible apply W.ret | with_reducible apply At.seqN | with_reducible apply At.blkN | with_reducible apply At.blkE | with_reducible apply At.blkR | with_reducible apply At.thenX | with_reducible apply At.thenR | with_reducible apply At.blkX rfl | ((with_reducible apply W.ops); (repeat (first | refine WL.opA hΓ (h := ?_) | refine WL.opX hΓ (h := ?_) | refine WL.opY (h := ?_) | refine WL.opZ (h := ?_))); with_reducible apply WL.nil) | refine W.condT (h := ?_) | refine W.condF (h := ?_))
            refine At.retA (by rw [Tryd.results63]) (he := ?_)
            rw [hres]
          · have hres := hno fun n _ _ _ _ hn h => he (by rw [hn, hv] at h; simpa using h)
            clear hno hyes hDx hv hdg
            repeat (first | with_reducible apply W.seq | with_reducible apply W.block | with_reducible apply W.skip | with_reducible apply W.exit | with_reducible apply W.ret | with_reducible apply At.seqN | with_reducible apply At.blkN | with_reducible apply At.blkE | with_reducible apply At.blkR | with_reducible apply At.thenX | with_reducible apply At.thenR | with_reducible apply At.blkX rfl | ((with_reducible apply W.ops); (repeat (first | refine WL.opA hΓ (h := ?_) | refine WL.opX hΓ (h := ?_) | refine WL.opY (h := ?_) | refine WL.opZ (h := ?_))); with_reducible apply WL.nil) | refine W.condT (h := ?_) | refine W.condF (h := ?_))
            refine At.retA (by rw [Tryd.results63]) (he := ?_)
            rw [hres]
      · have c := mWithin_eq ((s.size : Int) - 1) 1 9
        rw [decide_eq_false (by omega)] at c
        have hres := hno fun n _ _ h1 h2 _ _ => hlen (by omega)
        clear hno hyes hDx hdg
        simp only [initS, argPV, List.map_cons, List.map_nil, toPL, Nat.zero_add]
        repeat (first | with_reducible apply W.seq | with_reducible apply W.block | with_reducible apply W.skip | with_reducible apply W.exit | with_reducible apply W.ret | with_reducible apply At.seqN | with_reducible apply At.blkN | with_reducible apply At.blkE | with_reducible apply At.blkR | with_reducible apply At.thenX | with_reducible apply At.thenR | with_reducible apply At.blkX rfl | ((with_reducible apply W.ops); (repeat (first | refine WL.opA hΓ (h := ?_) | refine WL.opX hΓ (h := ?_) | refine WL.opY (h := ?_) | refine WL.opZ (h := ?_))); with_reducible apply WL.nil) | refine W.condT (h := ?_) | refine W.condF (h := ?_))
        refine At.retA (by rw [Tryd.results63]) (he := ?_)
        rw [hres]
    · rw [decide_eq_false h45] at hsg
      have h45i : ¬ (d0 : Int) = 45 := by omega
      have hdg := dgs_pos hsg
      have hDl : (dgs (bl s)).length = s.size - 0 := by rw [hdg]; omega
      have hDx : ∀ j, (hj : j < (dgs (bl s)).length) → ∃ b : UInt8, s.data.toList[j]? = some b ∧ b.toNat = (dgs (bl s))[j] := fun j hj => by
        obtain ⟨b, h1, h2⟩ := bl_at (s := s) (i := j) (by omega)
        refine ⟨b, h1, h2.trans ?_⟩
        simp only [hdg]
      rw [hsg] at hno
      by_cases hlen : 1 ≤ s.size - 0 ∧ s.size - 0 ≤ 9
      · have c := mWithin_eq ((s.size : Int) - 0) 1 9
        rw [decide_eq_true (by omega)] at c
        clear hdg
        generalize dgs (bl s) = D at *
        simp only [initS, argPV, List.map_cons, List.map_nil, toPL, Nat.zero_add]
        repeat (first | with_reducible apply W.seq | with_reducible apply W.block | with_reducible apply W.skip | with_reducible apply W.exit | with_reducible apply W.ret | with_reducible apply At.seqN | with_reducible apply At.blkN | with_reducible apply At.blkE | with_reducible apply At.blkR | with_reducible apply At.thenX | with_reducible apply At.thenR | with_reducible apply At.blkX rfl | ((with_reducible apply W.ops); (repeat (first | refine WL.opA hΓ (h := ?_) | refine WL.opX hΓ (h := ?_) | refine WL.opY (h := ?_) | refine WL.opZ (h := ?_))); with_reducible apply WL.nil) | refine W.condT (h := ?_) | refine W.condF (h := ?_))
        refine W.loopA (fun x : Nat × Nat => valD 0 (D.take x.1) = x.2 ∧ x.1 ≤ D.length ∧ ∀ d ∈ D.take x.1, isDg d) (fun x => [.slot 0 (vS s), .slot 4 (vI 0), .slot 5 (vI (x.2 : Int)), .slot 6 (vI ((x.1 : Nat) : Int))]) (fun x => D.length - x.1) (0, 0) ⟨rfl, Nat.zero_le _, fun d hd => by simp at hd⟩ (h := ?_)
        rintro ⟨j, a⟩ ⟨hv, hj, hdg⟩
        dsimp only at hv hj hdg ⊢
        have ha := valD_lt (D.take j) 0 hdg
        rw [hv, List.length_take] at ha
        have ha9 : a ≤ 999999999 := by have := pow_le9 (k := min j D.length) (by omega); omega
        clear ha
        by_cases hjl : j < D.length
        · obtain ⟨b, hb1, hb2⟩ := hDx j hjl
          have hb256 : b.toNat < 256 := b.toNat_lt
          have hsn := valD_snoc 0 (D.take j) D[j]
          rw [hv, ← List.take_succ_eq_append_getElem hjl] at hsn
          have hnx : isDg D[j] → ∀ d ∈ D.take (j + 1), isDg d := fun h d hd => by
            rw [List.take_succ_eq_append_getElem hjl] at hd
            rcases List.mem_append.1 hd with hd | hd
            · exact hdg d hd
            · rw [List.mem_singleton.1 hd]; exact h
          have hbad : ¬ isDg D[j] → readZ s = (0, false) := fun h => hno fun n _ h1 _ _ _ _ => h (h1 _ (List.getElem_mem hjl))
          rw [← hb2] at hsn hnx hbad
          clear hno hyes hv hdg hb2 hDx
          generalize hd : b.toNat = d at *
          by_cases h1 : 48 ≤ d
          · by_cases h2 : d ≤ 57
            · have hw := wrap_sub h1 hb256
              have e : 10 * (a : Int) + ((d - 48 : Nat) : Int) = ((a * 10 + (d - 48) : Nat) : Int) := by omega
              have hnx := hnx ⟨h1, h2⟩
              clear hbad
              repeat (first | with_reducible apply W.seq | with_reducible apply W.block | with_reducible apply W.skip | with_reducible apply W.exit | with_reducible apply W.ret | with_reducible apply At.seqN | with_reducible apply At.blkN | with_reducible apply At.blkE | with_reducible apply At.blkR | with_reducible apply At.thenX | with_reducible apply At.thenR | with_reducible apply At.blkX rfl | ((with_reducible apply W.ops); (repeat (first | refine WL.opA hΓ (h := ?_) | refine WL.opX hΓ (h := ?_) | refine WL.opY (h := ?_) | refine WL.opZ (h := ?_))); with_reducible apply WL.nil) | refine W.condT (h := ?_) | refine W.condF (h := ?_))
              exact At.roundA (j + 1, a * 10 + (d - 48)) ⟨hsn, by dsimp only; omega, hnx⟩ (by dsimp only; omega)
            · have hres := hbad (fun h => h2 h.2)
              clear hbad hnx
              repeat (first | with_reducible apply W.seq | with_reducible apply W.block | with_reducible apply W.skip | with_reducible apply W.exit | with_reducible apply W.ret | with_reducible apply At.seqN | with_reducible apply At.blkN | with_reducible apply At.blkE | with_reducible apply At.blkR | with_reducible apply At.thenX | with_reducible apply At.thenR | with_reducible apply At.blkX rfl | ((with_reducible apply W.ops); (repeat (first | refine WL.opA hΓ (h := ?_) | refine WL.opX hΓ (h := ?_) | refine WL.opY (h := ?_) | refine WL.opZ (h := ?_))); with_reducible apply WL.nil) | refine W.condT (h := ?_) | refine W.condF (h := ?_))
              refine At.retA (by rw [Tryd.results63]) (he := ?_)
              rw [hres]
          · have hres := hbad (fun h => h1 h.1)
            clear hbad hnx
            repeat (first | with_reducible apply W.seq | with_reducible apply W.block | with_reducible apply W.skip | with_reducible apply W.exit | with_reducible apply W.ret | with_reducible apply At.seqN | with_reducible apply At.blkN | with_reducible apply At.blkE | with_reducible apply At.blkR | with_reducible apply At.thenX | with_reducible apply At.thenR | with_reducible apply At.blkX rfl | ((with_reducible apply W.ops); (repeat (first | refine WL.opA hΓ (h := ?_) | refine WL.opX hΓ (h := ?_) | refine WL.opY (h := ?_) | refine WL.opZ (h := ?_))); with_reducible apply WL.nil) | refine W.condT (h := ?_) | refine W.condF (h := ?_))
            refine At.retA (by rw [Tryd.results63]) (he := ?_)
            rw [hres]
        · have hjl2 : D.length ≤ j := by omega
          rw [List.take_of_length_le hjl2] at hv
          have hneg : (0 : Int) - (a : Int) = -(a : Int) := by omega
          have c2 := mDecZ_eq (((a : Nat) : Int)) ⟨by omega, by omega⟩
          by_cases he : bsS (decZ (((a : Nat) : Int))) = s
          · have hres := hyes (((a : Nat) : Int)) ⟨by omega, by omega⟩ he
            clear hno hyes hDx hv hdg
            repeat (first | with_reducible apply W.seq | with_reducible apply W.block | with_reducible apply W.skip | with_reducible apply W.exit | with_reducible apply W.ret | with_reducible apply At.seqN | with_reducible apply At.blkN | with_reducible apply At.blkE | with_reducible apply At.blkR | with_reducible apply At.thenX | with_reducible apply At.thenR | with_reducible apply At.blkX rfl | ((with_reducible apply W.ops); (repeat (first | refine WL.opA hΓ (h := ?_) | refine WL.opX hΓ (h := ?_) | refine WL.opY (h := ?_) | refine WL.opZ (h := ?_))); with_reducible apply WL.nil) | refine W.condT (h := ?_) | refine W.condF (h := ?_))
            refine At.retA (by rw [Tryd.results63]) (he := ?_)
            rw [hres]
          · have hres := hno fun n _ _ _ _ hn h => he (by rw [hn, hv] at h; simpa using h)
            clear hno hyes hDx hv hdg
            repeat (first | with_reducible apply W.seq | with_reducible apply W.block | with_reducible apply W.skip | with_reducible apply W.exit | with_reducible apply W.ret | with_reducible apply At.seqN | with_reducible apply At.blkN | with_reducible apply At.blkE | with_reducible apply At.blkR | with_reducible apply At.thenX | with_reducible apply At.thenR | with_reducible apply At.blkX rfl | ((with_reducible apply W.ops); (repeat (first | refine WL.opA hΓ (h := ?_) | refine WL.opX hΓ (h := ?_) | refine WL.opY (h := ?_) | refine WL.opZ (h := ?_))); with_reducible apply WL.nil) | refine W.condT (h := ?_) | refine W.condF (h := ?_))
            refine At.retA (by rw [Tryd.results63]) (he := ?_)
            rw [hres]
      · have c := mWithin_eq ((s.size : Int) - 0) 1 9
        rw [decide_eq_false (by omega)] at c
        have hres := hno fun n _ _ h1 h2 _ _ => hlen (by omega)
        clear hno hyes hDx hdg
        simp only [initS, argPV, List.map_cons, List.map_nil, toPL, Nat.zero_add]
        repeat (first | with_reducible apply W.seq | with_reducible apply W.block | with_reducible apply W.skip | with_reducible apply W.exit | with_reducible apply W.ret | with_reducible apply At.seqN | with_reducible apply At.blkN | with_reducible apply At.blkE | with_reducible apply At.blkR | with_reducible apply At.thenX | with_reducible apply At.thenR | with_reducible apply At.blkX rfl | ((with_reducible apply W.ops); (repeat (first | refine WL.opA hΓ (h := ?_) | refine WL.opX hΓ (h := ?_) | refine WL.opY (h := ?_) | refine WL.opZ (h := ?_))); with_reducible apply WL.nil) | refine W.condT (h := ?_) | refine W.condF (h := ?_))
        refine At.retA (by rw [Tryd.results63]) (he := ?_)
        rw [hres]
  · have hsg := sgn_nil (s := s) (by omega)
    have hdg := dgs_pos hsg
    have hDl : (dgs (bl s)).length = s.size := by rw [hdg]; omega
    have c := mWithin_eq ((s.size : Int) - 0) 1 9
    rw [decide_eq_false (by omega)] at c
    have hres := hno fun n _ _ _ h2 _ _ => by omega
    clear hno hyes hdg
    simp only [initS, argPV, List.map_cons, List.map_nil, toPL, Nat.zero_add]
    repeat (first | with_reducible apply W.seq | with_reducible apply W.block | with_reducible apply W.skip | with_reducible apply W.exit | with_reducible apply W.ret | with_reducible apply At.seqN | with_reducible apply At.blkN | with_reducible apply At.blkE | with_reducible apply At.blkR | with_reducible apply At.thenX | with_reducible apply At.thenR | with_reducible apply At.blkX rfl | ((with_reducible apply W.ops); (repeat (first | refine WL.opA hΓ (h := ?_) | refine WL.opX hΓ (h := ?_) | refine WL.opY (h := ?_) | refine WL.opZ (h := ?_))); with_reducible apply WL.nil) | refine W.condT (h := ?_) | refine W.condF (h := ?_))
    refine At.retA (by rw [Tryd.results63]) (he := ?_)
    rw [hres]
end Go.Proofs.YtimnogjgokljbaaDoor
