/-
  ReadReq and ReadHeader of both programs.
-/
import Derived.Test.YteaohgacgcjkjaaHEvScan
import Derived.Test.YteaohgacgcjkjaaG15
import Derived.Test.YteaohgacgcjkjaaHEvShHd
namespace Go.Proofs.Yteaohgacgcjkjaa
set_option maxRecDepth 100000
set_option linter.unusedVariables false
set_option linter.unusedSimpArgs false
open Go Go.RowKit
set_option maxHeartbeats 4000000

def scanN : Nat → TSc → List Int × TSc
  | 0, x => ([], x)
  | n + 1, x => (((numF x).1 : Int) :: (scanN n (numF x).2).1, (scanN n (numF x).2).2)
def catV : List Int → ByteArray
  | [] => ByteArray.empty
  | v :: r => varS v ++ catV r
theorem numF_stick (t : ByteArray) : numF (t, true) = (0, t, true) := numF_bad (.inl rfl)
theorem scanN_stick : ∀ n (t : ByteArray), (scanN n (t, true)).2.2 = true
  | 0, _ => rfl
  | n + 1, t => by rw [scanN, numF_stick]; exact scanN_stick n t
theorem ext_ext (s : ByteArray) {p k : Nat} (h : p + k ≤ s.size) : (s.extract p s.size).extract k (s.extract p s.size).size = s.extract (p + k) s.size := by
  apply bts_inj
  rw [bts_drop, bts_drop, bts_drop, List.drop_drop]
theorem ext_app (s : ByteArray) {p q r : Nat} (h : p ≤ q) (h2 : q ≤ r) : s.extract p q ++ s.extract q r = s.extract p r := by
  rw [ByteArray.extract_append_extract]
  congr 1 <;> omega
theorem scan_step {s : ByteArray} {p : Nat} (n : Nat) (hp : p ≤ s.size) :
    ((∃ t, numF (s.extract p s.size, false) = (0, t, true)) ∧ varsF s (n + 1) p = ([], -1)) ∨
    ∃ v k : Nat, p + k ≤ s.size ∧ 1 ≤ k ∧ k ≤ 7 ∧ v < 562949953421312 ∧ numF (s.extract p s.size, false) = (v, s.extract (p + k) s.size, false) ∧
      varsF s (n + 1) p = ((v : Int) :: (varsF s n ((p + k : Nat) : Int)).1, (varsF s n ((p + k : Nat) : Int)).2) ∧ varS (v : Int) = s.extract p (p + k) := by
  have hz : (s.extract p s.size).size = s.size - p := by rw [ByteArray.size_extract]; omega
  rcases rv_cases (s.extract p s.size) with h | ⟨k, h1, h2⟩
  · left
    exact ⟨⟨_, numF_bad (.inr (by rw [h]))⟩, varsF_bad hp (by rw [h])⟩
  · right
    have h0 : ¬ (rv (s.extract p s.size)).2 = 0 := by rw [h2]; have := h1.1; dsimp only; omega
    have hb := rv_bnd (s.extract p s.size)
    rw [h2] at hb
    dsimp only at hb
    have hk := h1.1
    refine ⟨_, k, by omega, hk.1, hk.2.1, hb.1, ?_, ?_, ?_⟩
    · rw [numF_ok h0, h2]
      dsimp only
      rw [ext_ext s (by omega)]
    · rw [varsF_ok hp h0, h2]
    · rw [h1.2, ByteArray.extract_extract]
      congr 1 <;> omega
theorem scan_vars (s : ByteArray) : ∀ (n p : Nat), p ≤ s.size →
    ((∃ l, varsF s n p = (l, -1)) ∧ (scanN n (s.extract p s.size, false)).2.2 = true) ∨
    ∃ (l : List Int) (q : Nat), p + n ≤ q ∧ q ≤ s.size ∧ l.length = n ∧ varsF s n p = (l, (q : Int)) ∧ scanN n (s.extract p s.size, false) = (l, s.extract q s.size, false) ∧ catV l = s.extract p q ∧ ∀ x ∈ l, 0 ≤ x ∧ x < 562949953421312
  | 0, p, hp => .inr ⟨[], p, by omega, hp, rfl, rfl, rfl, by
      unfold catV
      exact (ByteArray.extract_eq_empty_iff.2 (by omega)).symm, by simp⟩
  | n + 1, p, hp => by
    rcases scan_step n hp with ⟨⟨t, h1⟩, h2⟩ | ⟨v, k, hk, hk1, hk7, hv, h1, h2, h3⟩
    · left
      refine ⟨⟨_, h2⟩, ?_⟩
      rw [scanN, h1]
      exact scanN_stick n t
    · rcases scan_vars s n (p + k) hk with ⟨⟨l, g1⟩, g2⟩ | ⟨l, q, g1, g2, g3, g4, g5, g6, g7⟩
      · left
        refine ⟨⟨_, by rw [h2, g1]⟩, ?_⟩
        rw [scanN, h1]
        exact g2
      · right
        refine ⟨(v : Int) :: l, q, by omega, g2, by simp [g3], by rw [h2, g4], by rw [scanN, h1]; dsimp only; rw [g5], ?_, fun x hx => ?_⟩
        · rw [catV, h3, g6, ext_app s (by omega) (by omega)]
        · rcases List.mem_cons.1 hx with rfl | hx
          · exact ⟨by omega, by omega⟩
          · exact g7 x hx
theorem whole (s : ByteArray) : s.extract 0 s.size = s := ByteArray.extract_zero_size
abbrev roI' (n : Int) : RL := .ro (.sc (.int .i64 n))
abbrev roS' (s : ByteArray) : RL := .ro (.sc (.string s))
abbrev rRqB (x : TReq × Bool) : Res := .tup [(true, [roI' x.1.1, roI' x.1.2.1, roI' x.1.2.2]), (false, [.ro (.sc (.bool x.2))])]
def mkRq : List Int → TReq
  | [a, b, c] => (a, b, c)
  | _ => (0, 0, 0)
def rdReq (s : ByteArray) : TReq × Bool := if (scanN 3 (s, false)).2.2 = true ∨ ¬ showReq (mkRq (scanN 3 (s, false)).1) = s then ((0, 0, 0), false) else (mkRq (scanN 3 (s, false)).1, true)
theorem rdReq_bad {s : ByteArray} (h : (scanN 3 (s, false)).2.2 = true ∨ ¬ showReq (mkRq (scanN 3 (s, false)).1) = s) : rdReq s = ((0, 0, 0), false) := if_pos h
theorem rdReq_ok {s : ByteArray} (h : ¬ ((scanN 3 (s, false)).2.2 = true ∨ ¬ showReq (mkRq (scanN 3 (s, false)).1) = s)) : rdReq s = (mkRq (scanN 3 (s, false)).1, true) := if_neg h
abbrev okRd (s : ByteArray) : Prop := s.size ≤ 1099511627776
theorem aS_inj1 : ∀ x y : ByteArray, [aS x] = [aS y] → x = y := by intro a b h; simpa using h
noncomputable def mRdReq := mdl okRd (fun s => [aS s]) (fun s => rRqB (rdReq s))
theorem mRdReq_eq (s : ByteArray) (h : okRd s) : mRdReq [aS s] = some (rRqB (rdReq s)) := mdl_eq aS_inj1 s h
theorem num_empty : numF (ByteArray.empty, false) = (0, ByteArray.empty, true) := numF_bad (.inr (by
  have := (rv_bnd ByteArray.empty).2.2
  simpa using this))
theorem scan_empty (n : Nat) : (scanN (n + 1) (ByteArray.empty, false)).2.2 = true := by
  rw [scanN, num_empty]
  exact scanN_stick n _
theorem readReqS_s : Sound Try.prog 54 mRdReq := by
  refine Sound.mdl Try.func54 rfl Try.ntmps54 ?_
  rintro s w hs
  refine ⟨by simp, ?_⟩
  replace hs : s.size ≤ 1099511627776 := hs
  have hΓ : GSound Try.prog (look [(53, mVars), (71, mShowReq)]) := env_cons (has_of Try.func53 rfl rfl) l6Vars_s (env_cons (has_of Try.func71 rfl rfl) showReqS_s env_nil)
  have c1 := mVars_eq s 0 3 ⟨hs, ⟨by dsimp only; omega, by dsimp only; omega⟩, by dsimp only; omega⟩
  rw [show ((3 : Nat) : Int) = 3 from rfl] at c1
  have hem : (⟨#[]⟩ : ByteArray) = ByteArray.empty := rfl
  have hw := scan_vars s 3 0 (Nat.zero_le _)
  rw [whole, show ((0 : Nat) : Int) = 0 from rfl] at hw
  rcases hw with ⟨⟨l, h1⟩, h2⟩ | ⟨l, q, g1, g2, g3, g4, g5, g6, g7⟩
  · have hv := rdReq_bad (.inl h2)
    have hl := varsF_len s 3 0
    rw [h1] at c1 hl
    have hlen := rowsF_len cInt l
    simp only [initS, argPV, List.map_cons, List.map_nil, toPL, Nat.zero_add]
    repeat (first | with_reducible (first | apply W.seq | apply W.block | apply W.skip | apply W.exit | apply W.ret | apply At.seqN | apply At.blkN | apply At.blkE | apply At.blkR | apply At.thenX | apply At.thenR | apply At.blkX rfl) | ((with_reducible apply W.ops); (repeat (first | refine WL.opA hΓ (h := ?_) | refine WL.opX hΓ (h := ?_) | refine WL.opY (h := ?_) | refine WL.opZ (h := ?_))); with_reducible apply WL.nil) | refine W.condT (h := ?_) | refine W.condF (h := ?_))
    refine At.retA (by rw [Try.results54]) (he := ?_)
    rw [hv]
  · match l, g3 with
    | [a, b, c], _ =>
      rw [g4] at c1
      have c2 := mShowReq_eq (a, b, c)
      dsimp only [aRq] at c2
      have r0 : (rowsF cInt [a, b, c])[0]? = some [.sc (.int .i64 a)] := rfl
      have r1 : (rowsF cInt [a, b, c])[1]? = some [.sc (.int .i64 b)] := rfl
      have r2 : (rowsF cInt [a, b, c])[2]? = some [.sc (.int .i64 c)] := rfl
      have rl : (rowsF cInt [a, b, c]).length = 3 := rfl
      have hmk : mkRq (scanN 3 (s, false)).1 = (a, b, c) := by rw [g5]; rfl
      have hnb : (scanN 3 (s, false)).2.2 = false := by rw [g5]
      generalize rowsF cInt [a, b, c] = L at *
      clear g4 g5 g6 g7
      by_cases hsh : showReq (a, b, c) = s
      · have hv := rdReq_ok (s := s) (by rw [hnb, hmk]; simp [hsh])
        rw [hmk] at hv
        have hd := decide_eq_true hsh
        generalize showReq (a, b, c) = z at *
        clear hsh hem
        simp only [initS, argPV, List.map_cons, List.map_nil, toPL, Nat.zero_add]
        repeat (first | with_reducible (first | apply W.seq | apply W.block | apply W.skip | apply W.exit | apply W.ret | apply At.seqN | apply At.blkN | apply At.blkE | apply At.blkR | apply At.thenX | apply At.thenR | apply At.blkX rfl) | ((with_reducible apply W.ops); (repeat (first | refine WL.opA hΓ (h := ?_) | refine WL.opX hΓ (h := ?_) | refine WL.opY (h := ?_) | refine WL.opZ (h := ?_))); with_reducible apply WL.nil) | refine W.condT (h := ?_) | refine W.condF (h := ?_))
        refine W.drawsA hΓ 11 [[], [0], [0, 1], [], [3], [3, 4], [], [6], [6, 7], [0, 1, 2, 3, 4, 5, 6, 7, 8], [], [0, 1, 2, 3, 4, 5, 6, 7, 8, 9, 10]] (rest := ?rest7) (Es := ?Es7) (st1 := ?st17) (h := ?h7) (hf := ?hf7) (hp := ?hp7) (hd := ?hd7) (hfr := ?hfr7) (hst := ?hst7) (hT := ?hT7)
        case h7 => kernel_rfl
        case hf7 =>
          repeat (first | refine FlowT.opA (h := ?_) | refine FlowT.opX (h := ?_) | refine FlowT.opY (h := ?_) | refine FlowT.opZ (h := ?_))
          exact FlowT.done
        case hp7 => rfl
        case hd7 => rfl
        case hfr7 => rfl
        case hst7 =>
          simp only [pick_nil, pick_all, List.cons_append, List.nil_append]
          rfl
        (repeat (first | refine WL.opA hΓ (h := ?_) | refine WL.opX hΓ (h := ?_) | refine WL.opY (h := ?_) | refine WL.opZ (h := ?_)))
        with_reducible apply WL.nil
        repeat (first | with_reducible (first | apply W.seq | apply W.block | apply W.skip | apply W.exit | apply W.ret | apply At.seqN | apply At.blkN | apply At.blkE | apply At.blkR | apply At.thenX | apply At.thenR | apply At.blkX rfl) | ((with_reducible apply W.ops); (repeat (first | refine WL.opA hΓ (h := ?_) | refine WL.opX hΓ (h := ?_) | refine WL.opY (h := ?_) | refine WL.opZ (h := ?_))); with_reducible apply WL.nil) | refine W.condT (h := ?_) | refine W.condF (h := ?_))
        refine At.retA (by rw [Try.results54]) (he := ?_)
        rw [hv]
      · have hv := rdReq_bad (s := s) (.inr (by rw [hmk]; exact hsh))
        have hd := decide_eq_false hsh
        generalize showReq (a, b, c) = z at *
        clear hsh
        simp only [initS, argPV, List.map_cons, List.map_nil, toPL, Nat.zero_add]
        repeat (first | with_reducible (first | apply W.seq | apply W.block | apply W.skip | apply W.exit | apply W.ret | apply At.seqN | apply At.blkN | apply At.blkE | apply At.blkR | apply At.thenX | apply At.thenR | apply At.blkX rfl) | ((with_reducible apply W.ops); (repeat (first | refine WL.opA hΓ (h := ?_) | refine WL.opX hΓ (h := ?_) | refine WL.opY (h := ?_) | refine WL.opZ (h := ?_))); with_reducible apply WL.nil) | refine W.condT (h := ?_) | refine W.condF (h := ?_))
        refine W.drawsA hΓ 11 [[], [0], [0, 1], [], [3], [3, 4], [], [6], [6, 7], [0, 1, 2, 3, 4, 5, 6, 7, 8], [], [0, 1, 2, 3, 4, 5, 6, 7, 8, 9, 10]] (rest := ?rest12) (Es := ?Es12) (st1 := ?st112) (h := ?h12) (hf := ?hf12) (hp := ?hp12) (hd := ?hd12) (hfr := ?hfr12) (hst := ?hst12) (hT := ?hT12)
        case h12 => kernel_rfl
        case hf12 =>
          repeat (first | refine FlowT.opA (h := ?_) | refine FlowT.opX (h := ?_) | refine FlowT.opY (h := ?_) | refine FlowT.opZ (h := ?_))
          exact FlowT.done
        case hp12 => rfl
        case hd12 => rfl
        case hfr12 => rfl
        case hst12 =>
          simp only [pick_nil, pick_all, List.cons_append, List.nil_append]
          rfl
        (repeat (first | refine WL.opA hΓ (h := ?_) | refine WL.opX hΓ (h := ?_) | refine WL.opY (h := ?_) | refine WL.opZ (h := ?_)))
        with_reducible apply WL.nil
        repeat (first | with_reducible (first | apply W.seq | apply W.block | apply W.skip | apply W.exit | apply W.ret | apply At.seqN | apply At.blkN | apply At.blkE | apply At.blkR | apply At.thenX | apply At.thenR | apply At.blkX rfl) | ((with_reducible apply W.ops); (repeat (first | refine WL.opA hΓ (h := ?_) | refine WL.opX hΓ (h := ?_) | refine WL.opY (h := ?_) | refine WL.opZ (h := ?_))); with_reducible apply WL.nil) | refine W.condT (h := ?_) | refine W.condF (h := ?_))
        refine At.retA (by rw [Try.results54]) (he := ?_)
        rw [hv]
theorem readReqI_s : Sound Try.prog 57 mRdReq := by
  refine Sound.mdl Try.func57 rfl Try.ntmps57 ?_
  rintro s w hs
  refine ⟨by simp, ?_⟩
  replace hs : s.size ≤ 1099511627776 := hs
  have hΓ : GSound Try.prog (look [(67, mShowReq)]) := env_cons (has_of Try.func67 rfl rfl) showReqI_s env_nil
  have hNu : Has Try.prog 56 := has_of Try.func56 rfl rfl
  have hem : (⟨#[]⟩ : ByteArray) = ByteArray.empty := rfl
  have t1 := numF_size (s, false)
  generalize hz1 : numF (s, false) = z1 at t1
  obtain ⟨n1, s1, b1⟩ := z1
  have t2 := numF_size (s1, b1)
  generalize hz2 : numF (s1, b1) = z2 at t2
  obtain ⟨n2, s2, b2⟩ := z2
  have t3 := numF_size (s2, b2)
  generalize hz3 : numF (s2, b2) = z3 at t3
  obtain ⟨n3, s3, b3⟩ := z3
  dsimp only at t1 t2 t3
  have hsc : scanN 3 (s, false) = ([(n1 : Int), (n2 : Int), (n3 : Int)], s3, b3) := by simp only [scanN, hz1, hz2, hz3]
  have hmk : mkRq (scanN 3 (s, false)).1 = ((n1 : Int), (n2 : Int), (n3 : Int)) := by rw [hsc]; rfl
  have hbb : (scanN 3 (s, false)).2.2 = b3 := by rw [hsc]
  have c2 := mShowReq_eq ((n1 : Int), (n2 : Int), (n3 : Int))
  dsimp only [aRq] at c2
  have Z1 := Lib.hid hz1
  have Z2 := Lib.hid hz2
  have Z3 := Lib.hid hz3
  have HM := Lib.hid hmk
  have HB := Lib.hid hbb
  clear hz1 hz2 hz3 hsc hmk hbb
  simp only [initS, argPV, List.map_cons, List.map_nil, toPL, Nat.zero_add]
  repeat (first | with_reducible (first | apply W.seq | apply W.block | apply W.skip | apply W.exit | apply W.ret | apply At.seqN | apply At.blkN | apply At.blkE | apply At.blkR | apply At.thenX | apply At.thenR | apply At.blkX rfl) | ((with_reducible apply W.ops); (repeat (first | refine WL.opA hΓ (h := ?_) | refine WL.opX hΓ (h := ?_) | refine WL.opY (h := ?_) | refine WL.opZ (h := ?_))); with_reducible apply WL.nil) | refine W.condT (h := ?_) | refine W.condF (h := ?_))
  with_reducible apply W.ops
  repeat (first | refine WL.opA hΓ (h := ?_) | refine WL.opX hΓ (h := ?_) | refine WL.opY (h := ?_) | refine WL.opZ (h := ?_))
  refine WL.opSc hNu num_s (s, false) () (n1, s1, b1) Z1.out (show s.size ≤ _ by omega) (h := ?_)
  (repeat (first | refine WL.opA hΓ (h := ?_) | refine WL.opX hΓ (h := ?_) | refine WL.opY (h := ?_) | refine WL.opZ (h := ?_)))
  with_reducible apply WL.nil
  repeat (first | with_reducible (first | apply W.seq | apply W.block | apply W.skip | apply W.exit | apply W.ret | apply At.seqN | apply At.blkN | apply At.blkE | apply At.blkR | apply At.thenX | apply At.thenR | apply At.blkX rfl) | ((with_reducible apply W.ops); (repeat (first | refine WL.opA hΓ (h := ?_) | refine WL.opX hΓ (h := ?_) | refine WL.opY (h := ?_) | refine WL.opZ (h := ?_))); with_reducible apply WL.nil) | refine W.condT (h := ?_) | refine W.condF (h := ?_))
  with_reducible apply W.ops
  repeat (first | refine WL.opA hΓ (h := ?_) | refine WL.opX hΓ (h := ?_) | refine WL.opY (h := ?_) | refine WL.opZ (h := ?_))
  refine WL.opSc hNu num_s (s1, b1) () (n2, s2, b2) Z2.out (show s1.size ≤ _ by omega) (h := ?_)
  (repeat (first | refine WL.opA hΓ (h := ?_) | refine WL.opX hΓ (h := ?_) | refine WL.opY (h := ?_) | refine WL.opZ (h := ?_)))
  with_reducible apply WL.nil
  repeat (first | with_reducible (first | apply W.seq | apply W.block | apply W.skip | apply W.exit | apply W.ret | apply At.seqN | apply At.blkN | apply At.blkE | apply At.blkR | apply At.thenX | apply At.thenR | apply At.blkX rfl) | ((with_reducible apply W.ops); (repeat (first | refine WL.opA hΓ (h := ?_) | refine WL.opX hΓ (h := ?_) | refine WL.opY (h := ?_) | refine WL.opZ (h := ?_))); with_reducible apply WL.nil) | refine W.condT (h := ?_) | refine W.condF (h := ?_))
  with_reducible apply W.ops
  repeat (first | refine WL.opA hΓ (h := ?_) | refine WL.opX hΓ (h := ?_) | refine WL.opY (h := ?_) | refine WL.opZ (h := ?_))
  refine WL.opSc hNu num_s (s2, b2) () (n3, s3, b3) Z3.out (show s2.size ≤ _ by omega) (h := ?_)
  (repeat (first | refine WL.opA hΓ (h := ?_) | refine WL.opX hΓ (h := ?_) | refine WL.opY (h := ?_) | refine WL.opZ (h := ?_)))
  with_reducible apply WL.nil
  cases b3 with
  | true =>
    have hv := rdReq_bad (s := s) (.inl HB.out)
    repeat (first | with_reducible (first | apply W.seq | apply W.block | apply W.skip | apply W.exit | apply W.ret | apply At.seqN | apply At.blkN | apply At.blkE | apply At.blkR | apply At.thenX | apply At.thenR | apply At.blkX rfl) | ((with_reducible apply W.ops); (repeat (first | refine WL.opA hΓ (h := ?_) | refine WL.opX hΓ (h := ?_) | refine WL.opY (h := ?_) | refine WL.opZ (h := ?_))); with_reducible apply WL.nil) | refine W.condT (h := ?_) | refine W.condF (h := ?_))
    refine At.retA (by rw [Try.results57]) (he := ?_)
    rw [hv]
  | false =>
    have hne : ¬ s = ByteArray.empty := fun e => by
      have := HB.out
      rw [e, scan_empty 2] at this
      cases this
    by_cases hsh : showReq ((n1 : Int), (n2 : Int), (n3 : Int)) = s
    · have hv := rdReq_ok (s := s) (by rw [HB.out, HM.out]; simp [hsh])
      rw [HM.out] at hv
      have hd := decide_eq_true hsh
      generalize showReq ((n1 : Int), (n2 : Int), (n3 : Int)) = z at *
      clear hsh
      repeat (first | with_reducible (first | apply W.seq | apply W.block | apply W.skip | apply W.exit | apply W.ret | apply At.seqN | apply At.blkN | apply At.blkE | apply At.blkR | apply At.thenX | apply At.thenR | apply At.blkX rfl) | ((with_reducible apply W.ops); (repeat (first | refine WL.opA hΓ (h := ?_) | refine WL.opX hΓ (h := ?_) | refine WL.opY (h := ?_) | refine WL.opZ (h := ?_))); with_reducible apply WL.nil) | refine W.condT (h := ?_) | refine W.condF (h := ?_))
      refine At.retA (by rw [Try.results57]) (he := ?_)
      rw [hv]
    · have hv := rdReq_bad (s := s) (.inr (by rw [HM.out]; exact hsh))
      have hd := decide_eq_false hsh
      generalize showReq ((n1 : Int), (n2 : Int), (n3 : Int)) = z at *
      clear hsh
      repeat (first | with_reducible (first | apply W.seq | apply W.block | apply W.skip | apply W.exit | apply W.ret | apply At.seqN | apply At.blkN | apply At.blkE | apply At.blkR | apply At.thenX | apply At.thenR | apply At.blkX rfl) | ((with_reducible apply W.ops); (repeat (first | refine WL.opA hΓ (h := ?_) | refine WL.opX hΓ (h := ?_) | refine WL.opY (h := ?_) | refine WL.opZ (h := ?_))); with_reducible apply WL.nil) | refine W.condT (h := ?_) | refine W.condF (h := ?_))
      refine At.retA (by rw [Try.results57]) (he := ?_)
      rw [hv]
end Go.Proofs.Yteaohgacgcjkjaa
