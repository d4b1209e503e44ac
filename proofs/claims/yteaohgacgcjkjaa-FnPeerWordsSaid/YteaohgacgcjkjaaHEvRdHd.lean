/-
  ReadHeader of both programs.
-/
import Derived.Test.YteaohgacgcjkjaaHEvRdReq
namespace Go.Proofs.Yteaohgacgcjkjaa
set_option maxRecDepth 100000
set_option linter.unusedVariables false
set_option linter.unusedSimpArgs false
open Go Go.RowKit
set_option maxHeartbeats 4000000

def textN : Nat → TSc → List ByteArray × TSc
  | 0, x => ([], x)
  | n + 1, x => ((textF x).1 :: (textN n (textF x).2).1, (textN n (textF x).2).2)
def takeN (s : ByteArray) : Nat → Int → List ByteArray × Int
  | 0, p => ([], p)
  | n + 1, p => ((takeF s p).1 :: (takeN s n (takeF s p).2).1, (takeN s n (takeF s p).2).2)
def catP : List ByteArray → ByteArray
  | [] => ByteArray.empty
  | t :: r => pieceS t ++ catP r
theorem cutF_stick (t : ByteArray) (n : Int) : cutF (t, true) n = (ByteArray.empty, t, true) := cutF_bad (.inl rfl)
theorem textF_stick (t : ByteArray) : textF (t, true) = (ByteArray.empty, t, true) := by
  unfold textF
  rw [numF_stick]
  exact cutF_stick t _
theorem textN_stick : ∀ n (t : ByteArray), (textN n (t, true)).2.2 = true
  | 0, _ => rfl
  | n + 1, t => by rw [textN, textF_stick]; exact textN_stick n t
theorem takeF_neg (s : ByteArray) : takeF s (-1) = (ByteArray.empty, -1) := by
  unfold takeF
  rw [show varsF s 1 (-1) = ([], -1) from varsF_out (.inl (by omega)), if_pos (.inl (by simp))]
theorem takeN_neg (s : ByteArray) : ∀ n, (takeN s n (-1)).2 = -1
  | 0 => rfl
  | n + 1 => by rw [takeN, takeF_neg]; exact takeN_neg s n
/-- one text: where both stand behind it -/
theorem text_step {s : ByteArray} {p : Nat} (hp : p ≤ s.size) :
    ((∃ t, textF (s.extract p s.size, false) = (ByteArray.empty, t, true)) ∧ takeF s p = (ByteArray.empty, -1)) ∨
    ∃ (t : ByteArray) (q : Nat), p ≤ q ∧ q ≤ s.size ∧ textF (s.extract p s.size, false) = (t, s.extract q s.size, false) ∧ takeF s p = (t, (q : Int)) ∧ pieceS t = s.extract p q := by
  rcases scan_step 0 hp with ⟨⟨t, h1⟩, h2⟩ | ⟨v, k, hk, hk1, hk7, hv, h1, h2, h3⟩
  · left
    refine ⟨⟨t, ?_⟩, ?_⟩
    · unfold textF
      rw [h1]
      exact cutF_stick t _
    · unfold takeF
      rw [h2, if_pos (.inl (by simp))]
  · have h2' : varsF s 1 p = ([(v : Int)], ((p + k : Nat) : Int)) := h2
    have hz : (s.extract (p + k) s.size).size = s.size - (p + k) := by rw [ByteArray.size_extract]; omega
    by_cases hgt : (v : Int) > s.size - ((p + k : Nat) : Int)
    · left
      refine ⟨⟨s.extract (p + k) s.size, ?_⟩, ?_⟩
      · unfold textF
        rw [h1]
        exact cutF_bad (.inr (fun h => by
          have := h.2
          dsimp only at this
          rw [hz] at this
          omega))
      · unfold takeF
        rw [h2', if_pos (.inr hgt)]
    · right
      refine ⟨s.extract (p + k) (p + k + v), p + k + v, by omega, by omega, ?_, ?_, ?_⟩
      · unfold textF
        rw [h1]
        dsimp only
        rw [cutF_ok (by omega), ext_ext s (by omega), ByteArray.extract_extract]
        congr 2 <;> omega
      · unfold takeF
        rw [h2']
        dsimp only [List.getD_cons_zero]
        rw [if_neg (by simp only [List.getD_cons_zero]; omega)]
        simp only [List.getD_cons_zero]
        rw [show ((p + k : Nat) : Int) + (v : Int) = ((p + k + v : Nat) : Int) by omega, Int.toNat_natCast, Int.toNat_natCast]
      · have hsz : (s.extract (p + k) (p + k + v)).size = v := by rw [ByteArray.size_extract]; omega
        unfold pieceS
        rw [hsz, h3, ext_app s (by omega) (by omega)]
theorem text_take (s : ByteArray) : ∀ (n p : Nat), p ≤ s.size →
    ((takeN s n p).2 = -1 ∧ (textN n (s.extract p s.size, false)).2.2 = true) ∨
    ∃ (l : List ByteArray) (q : Nat), p ≤ q ∧ q ≤ s.size ∧ l.length = n ∧ takeN s n p = (l, (q : Int)) ∧ textN n (s.extract p s.size, false) = (l, s.extract q s.size, false) ∧ catP l = s.extract p q
  | 0, p, hp => .inr ⟨[], p, Nat.le_refl _, hp, rfl, rfl, rfl, by
      unfold catP
      exact (ByteArray.extract_eq_empty_iff.2 (by omega)).symm⟩
  | n + 1, p, hp => by
    rcases text_step hp with ⟨⟨t, h1⟩, h2⟩ | ⟨t, q, h1, h2, h3, h4, h5⟩
    · left
      refine ⟨?_, ?_⟩
      · rw [takeN, h2]; exact takeN_neg s n
      · rw [textN, h1]; exact textN_stick n t
    · rcases text_take s n q h2 with ⟨g1, g2⟩ | ⟨l, r, g1, g2, g3, g4, g5, g6⟩
      · left
        refine ⟨?_, ?_⟩
        · rw [takeN, h4]; exact g1
        · rw [textN, h3]; exact g2
      · right
        refine ⟨t :: l, r, by omega, g2, by simp [g3], by rw [takeN, h4]; dsimp only; rw [g4], by rw [textN, h3]; dsimp only; rw [g5], ?_⟩
        rw [catP, h5, g6, ext_app s h1 g1]
theorem takeF_bnd (s : ByteArray) (p : Int) : -1 ≤ (takeF s p).2 ∧ ((takeF s p).2 ≤ s.size ∨ (takeF s p).2 = -1) := by
  by_cases ho : p < 0 ∨ s.size < p
  · unfold takeF
    rw [show varsF s 1 p = ([], -1) from varsF_out ho, if_pos (.inl (by simp))]
    exact ⟨by omega, .inr rfl⟩
  · obtain ⟨p, rfl⟩ := Int.eq_ofNat_of_zero_le (show 0 ≤ p by omega)
    rcases text_step (s := s) (p := p) (by omega) with ⟨_, h2⟩ | ⟨t, q, h1, h2, h3, h4, h5⟩
    · rw [h2]; exact ⟨by dsimp only; omega, .inr rfl⟩
    · rw [h4]; exact ⟨by dsimp only; omega, .inl (by dsimp only; omega)⟩
def mkHd : List Int → List ByteArray → THeader
  | [a, b], [c, d, e, f] => (a, b, c, d, e, f)
  | _, _ => (0, 0, ByteArray.empty, ByteArray.empty, ByteArray.empty, ByteArray.empty)
abbrev zHd : THeader := (0, 0, ByteArray.empty, ByteArray.empty, ByteArray.empty, ByteArray.empty)
def nHdr (s : ByteArray) : List Int := (scanN 2 (s, false)).1
def tHdr (s : ByteArray) : List ByteArray × TSc := textN 4 (scanN 2 (s, false)).2
def rdHd (s : ByteArray) : THeader × Bool := if (tHdr s).2.2 = true ∨ ¬ showHead (mkHd (nHdr s) (tHdr s).1) = s then (zHd, false) else (mkHd (nHdr s) (tHdr s).1, true)
theorem rdHd_bad {s : ByteArray} (h : (tHdr s).2.2 = true ∨ ¬ showHead (mkHd (nHdr s) (tHdr s).1) = s) : rdHd s = (zHd, false) := if_pos h
theorem rdHd_ok {s : ByteArray} (h : ¬ ((tHdr s).2.2 = true ∨ ¬ showHead (mkHd (nHdr s) (tHdr s).1) = s)) : rdHd s = (mkHd (nHdr s) (tHdr s).1, true) := if_neg h
abbrev rHdB (x : THeader × Bool) : Res := .tup [(true, [roI' x.1.1, roI' x.1.2.1, roS' x.1.2.2.1, roS' x.1.2.2.2.1, roS' x.1.2.2.2.2.1, roS' x.1.2.2.2.2.2]), (false, [.ro (.sc (.bool x.2))])]
noncomputable def mRdHd := mdl okRd (fun s => [aS s]) (fun s => rHdB (rdHd s))
theorem mRdHd_eq (s : ByteArray) (h : okRd s) : mRdHd [aS s] = some (rHdB (rdHd s)) := mdl_eq aS_inj1 s h
/-- the header of some numbers and texts shows these -/
theorem show_cat {a b : Int} {c d e f : ByteArray} {s : ByteArray} {p q : Nat} (h1 : catV [a, b] = s.extract 0 p) (h2 : catP [c, d, e, f] = s.extract p q) (hp : p ≤ q) (h0 : 1 ≤ p) (hq : q ≤ s.size) (h : showHead (a, b, c, d, e, f) = s) : q = s.size := by
  by_cases ho : headOk (a, b, c, d, e, f)
  · rw [showHead_yes ho] at h
    dsimp only at h
    have e1 : varS a ++ varS b ++ pieceS c ++ pieceS d ++ pieceS e ++ pieceS f = s.extract 0 q := by
      rw [← ext_app s (Nat.zero_le _) hp, ← h1, ← h2]
      simp only [catV, catP, ByteArray.append_empty, ByteArray.append_assoc]
    rw [e1] at h
    have := congrArg ByteArray.size h
    rw [ByteArray.size_extract] at this
    omega
  · rw [showHead_no ho] at h
    have := congrArg ByteArray.size h
    simp at this
    omega
theorem readHdS_s : Sound Try.prog 55 mRdHd := by
  refine Sound.mdl Try.func55 rfl Try.ntmps55 ?_
  rintro s w hs
  refine ⟨by simp, ?_⟩
  replace hs : s.size ≤ 1099511627776 := hs
  have hΓ : GSound Try.prog (look [(53, mVars), (82, mTake), (72, mShowHd)]) := env_cons (has_of Try.func53 rfl rfl) l6Vars_s (env_cons (has_of Try.func82 rfl rfl) l6Take_s (env_cons (has_of Try.func72 rfl rfl) showHdS_s env_nil))
  have c1 := mVars_eq s 0 2 ⟨hs, ⟨by dsimp only; omega, by dsimp only; omega⟩, by dsimp only; omega⟩
  rw [show ((2 : Nat) : Int) = 2 from rfl] at c1
  have hem : (⟨#[]⟩ : ByteArray) = ByteArray.empty := rfl
  have hw := scan_vars s 2 0 (Nat.zero_le _)
  rw [whole, show ((0 : Nat) : Int) = 0 from rfl] at hw
  rcases hw with ⟨⟨l, h1⟩, h2⟩ | ⟨l, p, g1, g2, g3, g4, g5, g6, g7⟩
  · have hv : rdHd s = (zHd, false) := rdHd_bad (.inl (by
      unfold tHdr
      generalize (scanN 2 (s, false)).2 = x at h2
      obtain ⟨t, b⟩ := x
      dsimp only at h2
      subst h2
      exact textN_stick 4 t))
    have hl := varsF_len s 2 0
    rw [h1] at c1 hl
    have hlen := rowsF_len cInt l
    simp only [initS, argPV, List.map_cons, List.map_nil, toPL, Nat.zero_add]
    repeat (first | with_reducible (first | apply W.seq | apply W.block | apply W.skip | apply W.exit | apply W.ret | apply At.seqN | apply At.blkN | apply At.blkE | apply At.blkR | apply At.thenX | apply At.thenR | apply At.blkX rfl) | ((with_reducible apply W.ops); (repeat (first | refine WL.opA hΓ (h := ?_) | refine WL.opX hΓ (h := ?_) | refine WL.opY (h := ?_) | refine WL.opZ (h := ?_))); with_reducible apply WL.nil) | refine W.condT (h := ?_) | refine W.condF (h := ?_))
    refine At.retA (by rw [Try.results55]) (he := ?_)
    rw [hv]
  · match l, g3 with
    | [a, b], _ =>
      rw [g4] at c1
      have hn : nHdr s = [a, b] := by unfold nHdr; rw [g5]
      have ht0 : tHdr s = textN 4 (s.extract p s.size, false) := by unfold tHdr; rw [g5]
      have hcase := text_take s 4 p g2
      have d1 := mTake_eq s p ⟨hs, by dsimp only; omega, by dsimp only; omega⟩
      obtain ⟨y1, y2⟩ := takeF_bnd s p
      have d2 := mTake_eq s (takeF s p).2 ⟨hs, by dsimp only; omega, by dsimp only; omega⟩
      obtain ⟨y3, y4⟩ := takeF_bnd s (takeF s p).2
      have d3 := mTake_eq s (takeF s (takeF s p).2).2 ⟨hs, by dsimp only; omega, by dsimp only; omega⟩
      obtain ⟨y5, y6⟩ := takeF_bnd s (takeF s (takeF s p).2).2
      have d4 := mTake_eq s (takeF s (takeF s (takeF s p).2).2).2 ⟨hs, by dsimp only; omega, by dsimp only; omega⟩
      obtain ⟨y7, y8⟩ := takeF_bnd s (takeF s (takeF s (takeF s p).2).2).2
      have htk : takeN s 4 p = ([(takeF s p).1, (takeF s (takeF s p).2).1, (takeF s (takeF s (takeF s p).2).2).1, (takeF s (takeF s (takeF s (takeF s p).2).2).2).1], (takeF s (takeF s (takeF s (takeF s p).2).2).2).2) := rfl
      generalize takeF s (takeF s (takeF s (takeF s p).2).2).2 = x4 at *
      generalize takeF s (takeF s (takeF s p).2).2 = x3 at *
      generalize takeF s (takeF s p).2 = x2 at *
      generalize takeF s (p : Int) = x1 at *
      obtain ⟨t1, p1⟩ := x1
      obtain ⟨t2, p2⟩ := x2
      obtain ⟨t3, p3⟩ := x3
      obtain ⟨t4, p4⟩ := x4
      dsimp only at d1 d2 d3 d4 y1 y2 y3 y4 y5 y6 y7 y8 htk
      have c2 := mShowHd_eq (a, b, t1, t2, t3, t4)
      dsimp only [aHd] at c2
      have r0 : (rowsF cInt [a, b])[0]? = some [.sc (.int .i64 a)] := rfl
      have r1 : (rowsF cInt [a, b])[1]? = some [.sc (.int .i64 b)] := rfl
      have rl : (rowsF cInt [a, b]).length = 2 := rfl
      generalize rowsF cInt [a, b] = L at *
      rw [htk] at hcase
      rcases hcase with ⟨e1, e2⟩ | ⟨l', q, e1, e2, e3, e4, e5, e6⟩
      · dsimp only at e1
        subst e1
        have hv : rdHd s = (zHd, false) := rdHd_bad (.inl (by rw [ht0]; exact e2))
        have hd : decide ((-1 : Int) = (s.size : Int)) = false := decide_eq_false (by omega)
        clear g4 g5 g6 g7 e2 ht0 hn y2 y4 y6 y8 htk
        generalize showHead (a, b, t1, t2, t3, t4) = z at *
        simp only [initS, argPV, List.map_cons, List.map_nil, toPL, Nat.zero_add]
        repeat (first | with_reducible (first | apply W.seq | apply W.block | apply W.skip | apply W.exit | apply W.ret | apply At.seqN | apply At.blkN | apply At.blkE | apply At.blkR | apply At.thenX | apply At.thenR | apply At.blkX rfl) | ((with_reducible apply W.ops); (repeat (first | refine WL.opA hΓ (h := ?_) | refine WL.opX hΓ (h := ?_) | refine WL.opY (h := ?_) | refine WL.opZ (h := ?_))); with_reducible apply WL.nil) | refine W.condT (h := ?_) | refine W.condF (h := ?_))
        refine W.drawsA hΓ 12 [[], [0], [0, 1], [], [3], [3, 4], [], [], [], [], [0, 1, 2, 3, 4, 5, 6, 7, 8, 9], [], [0, 1, 2, 3, 4, 5, 6, 7, 8, 9, 10, 11]] (rest := ?rest7) (Es := ?Es7) (st1 := ?st17) (h := ?h7) (hf := ?hf7) (hp := ?hp7) (hd := ?hd7) (hfr := ?hfr7) (hst := ?hst7) (hT := ?hT7)
        case h7 => kernel_rfl
        case hf7 =>
          repeat (first | refine FlowT.opA (h := ?_) | refine FlowT.opX (h := ?_) | refine FlowT.opY (h := ?_) | refine FlowT.opZ (h := ?_))
          exact FlowT.done
        case hp7 => rfl
        case hd7 => rfl
        case hfr7 => rfl
        case hst7 =>
          simp only [pick_nil, pick_all, List.cons_append, List.nil_append]
          rfl
        (repeat (first | refine WL.opA hΓ (h := ?_) | refine WL.opX hΓ (h := ?_) | refine WL.opY (h := ?_) | refine WL.opZ (h := ?_)))
        with_reducible apply WL.nil
        repeat (first | with_reducible (first | apply W.seq | apply W.block | apply W.skip | apply W.exit | apply W.ret | apply At.seqN | apply At.blkN | apply At.blkE | apply At.blkR | apply At.thenX | apply At.thenR | apply At.blkX rfl) | ((with_reducible apply W.ops); (repeat (first | refine WL.opA hΓ (h := ?_) | refine WL.opX hΓ (h := ?_) | refine WL.opY (h := ?_) | refine WL.opZ (h := ?_))); with_reducible apply WL.nil) | refine W.condT (h := ?_) | refine W.condF (h := ?_))
        refine At.retA (by rw [Try.results55]) (he := ?_)
        rw [hv]
      · injection e4 with e4 e7
        subst e4 e7
        have hmk : mkHd (nHdr s) (tHdr s).1 = (a, b, t1, t2, t3, t4) := by rw [hn, ht0, e5]; rfl
        have hnb : (tHdr s).2.2 = false := by rw [ht0, e5]
        by_cases hsh : showHead (a, b, t1, t2, t3, t4) = s
        · have hq := show_cat g6 e6 e1 (by omega) e2 hsh
          subst hq
          have hv := rdHd_ok (s := s) (by rw [hnb, hmk]; simp [hsh])
          rw [hmk] at hv
          have hd := decide_eq_true hsh
          clear g4 g5 g6 g7 e5 e6 ht0 hn y2 y4 y6 y8 htk hsh hem hmk
          generalize showHead (a, b, t1, t2, t3, t4) = z at *
          simp only [initS, argPV, List.map_cons, List.map_nil, toPL, Nat.zero_add]
          repeat (first | with_reducible (first | apply W.seq | apply W.block | apply W.skip | apply W.exit | apply W.ret | apply At.seqN | apply At.blkN | apply At.blkE | apply At.blkR | apply At.thenX | apply At.thenR | apply At.blkX rfl) | ((with_reducible apply W.ops); (repeat (first | refine WL.opA hΓ (h := ?_) | refine WL.opX hΓ (h := ?_) | refine WL.opY (h := ?_) | refine WL.opZ (h := ?_))); with_reducible apply WL.nil) | refine W.condT (h := ?_) | refine W.condF (h := ?_))
          refine W.drawsA hΓ 12 [[], [0], [0, 1], [], [3], [3, 4], [], [], [], [], [0, 1, 2, 3, 4, 5, 6, 7, 8, 9], [], [0, 1, 2, 3, 4, 5, 6, 7, 8, 9, 10, 11]] (rest := ?rest12) (Es := ?Es12) (st1 := ?st112) (h := ?h12) (hf := ?hf12) (hp := ?hp12) (hd := ?hd12) (hfr := ?hfr12) (hst := ?hst12) (hT := ?hT12)
          case h12 => kernel_rfl
          case hf12 =>
            repeat (first | refine FlowT.opA (h := ?_) | refine FlowT.opX (h := ?_) | refine FlowT.opY (h := ?_) | refine FlowT.opZ (h := ?_))
            exact FlowT.done
          case hp12 => rfl
          case hd12 => rfl
          case hfr12 => rfl
          case hst12 =>
            simp only [pick_nil, pick_all, List.cons_append, List.nil_append]
            rfl
          (repeat (first | refine WL.opA hΓ (h := ?_) | refine WL.opX hΓ (h := ?_) | refine WL.opY (h := ?_) | refine WL.opZ (h := ?_)))
          with_reducible apply WL.nil
          repeat (first | with_reducible (first | apply W.seq | apply W.block | apply W.skip | apply W.exit | apply W.ret | apply At.seqN | apply At.blkN | apply At.blkE | apply At.blkR | apply At.thenX | apply At.thenR | apply At.blkX rfl) | ((with_reducible apply W.ops); (repeat (first | refine WL.opA hΓ (h := ?_) | refine WL.opX hΓ (h := ?_) | refine WL.opY (h := ?_) | refine WL.opZ (h := ?_))); with_reducible apply WL.nil) | refine W.condT (h := ?_) | refine W.condF (h := ?_))
          refine At.retA (by rw [Try.results55]) (he := ?_)
          rw [hv]
        · have hv := rdHd_bad (s := s) (.inr (by rw [hmk]; exact hsh))
          have hd := decide_eq_false hsh
          clear g4 g5 g6 g7 e5 e6 ht0 hn y2 y4 y6 y8 htk hsh hmk
          generalize showHead (a, b, t1, t2, t3, t4) = z at *
          simp only [initS, argPV, List.map_cons, List.map_nil, toPL, Nat.zero_add]
          by_cases hqs : q = s.size
          · subst hqs
            repeat (first | with_reducible (first | apply W.seq | apply W.block | apply W.skip | apply W.exit | apply W.ret | apply At.seqN | apply At.blkN | apply At.blkE | apply At.blkR | apply At.thenX | apply At.thenR | apply At.blkX rfl) | ((with_reducible apply W.ops); (repeat (first | refine WL.opA hΓ (h := ?_) | refine WL.opX hΓ (h := ?_) | refine WL.opY (h := ?_) | refine WL.opZ (h := ?_))); with_reducible apply WL.nil) | refine W.condT (h := ?_) | refine W.condF (h := ?_))
            refine W.drawsA hΓ 12 [[], [0], [0, 1], [], [3], [3, 4], [], [], [], [], [0, 1, 2, 3, 4, 5, 6, 7, 8, 9], [], [0, 1, 2, 3, 4, 5, 6, 7, 8, 9, 10, 11]] (rest := ?rest17) (Es := ?Es17) (st1 := ?st117) (h := ?h17) (hf := ?hf17) (hp := ?hp17) (hd := ?hd17) (hfr := ?hfr17) (hst := ?hst17) (hT := ?hT17)
            case h17 => kernel_rfl
            case hf17 =>
              repeat (first | refine FlowT.opA (h := ?_) | refine FlowT.opX (h := ?_) | refine FlowT.opY (h := ?_) | refine FlowT.opZ (h := ?_))
              exact FlowT.done
            case hp17 => rfl
            case hd17 => rfl
            case hfr17 => rfl
            case hst17 =>
              simp only [pick_nil, pick_all, List.cons_append, List.nil_append]
              rfl
            (repeat (first | refine WL.opA hΓ (h := ?_) | refine WL.opX hΓ (h := ?_) | refine WL.opY (h := ?_) | refine WL.opZ (h := ?_)))
            with_reducible apply WL.nil
            repeat (first | with_reducible (first | apply W.seq | apply W.block | apply W.skip | apply W.exit | apply W.ret | apply At.seqN | apply At.blkN | apply At.blkE | apply At.blkR | apply At.thenX | apply At.thenR | apply At.blkX rfl) | ((with_reducible apply W.ops); (repeat (first | refine WL.opA hΓ (h := ?_) | refine WL.opX hΓ (h := ?_) | refine WL.opY (h := ?_) | refine WL.opZ (h := ?_))); with_reducible apply WL.nil) | refine W.condT (h := ?_) | refine W.condF (h := ?_))
            refine At.retA (by rw [Try.results55]) (he := ?_)
            rw [hv]
          · have hd2 : decide ((q : Int) = (s.size : Int)) = false := decide_eq_false (by omega)
            repeat (first | with_reducible (first | apply W.seq | apply W.block | apply W.skip | apply W.exit | apply W.ret | apply At.seqN | apply At.blkN | apply At.blkE | apply At.blkR | apply At.thenX | apply At.thenR | apply At.blkX rfl) | ((with_reducible apply W.ops); (repeat (first | refine WL.opA hΓ (h := ?_) | refine WL.opX hΓ (h := ?_) | refine WL.opY (h := ?_) | refine WL.opZ (h := ?_))); with_reducible apply WL.nil) | refine W.condT (h := ?_) | refine W.condF (h := ?_))
            refine W.drawsA hΓ 12 [[], [0], [0, 1], [], [3], [3, 4], [], [], [], [], [0, 1, 2, 3, 4, 5, 6, 7, 8, 9], [], [0, 1, 2, 3, 4, 5, 6, 7, 8, 9, 10, 11]] (rest := ?rest21) (Es := ?Es21) (st1 := ?st121) (h := ?h21) (hf := ?hf21) (hp := ?hp21) (hd := ?hd21) (hfr := ?hfr21) (hst := ?hst21) (hT := ?hT21)
            case h21 => kernel_rfl
            case hf21 =>
              repeat (first | refine FlowT.opA (h := ?_) | refine FlowT.opX (h := ?_) | refine FlowT.opY (h := ?_) | refine FlowT.opZ (h := ?_))
              exact FlowT.done
            case hp21 => rfl
            case hd21 => rfl
            case hfr21 => rfl
            case hst21 =>
              simp only [pick_nil, pick_all, List.cons_append, List.nil_append]
              rfl
            (repeat (first | refine WL.opA hΓ (h := ?_) | refine WL.opX hΓ (h := ?_) | refine WL.opY (h := ?_) | refine WL.opZ (h := ?_)))
            with_reducible apply WL.nil
            repeat (first | with_reducible (first | apply W.seq | apply W.block | apply W.skip | apply W.exit | apply W.ret | apply At.seqN | apply At.blkN | apply At.blkE | apply At.blkR | apply At.thenX | apply At.thenR | apply At.blkX rfl) | ((with_reducible apply W.ops); (repeat (first | refine WL.opA hΓ (h := ?_) | refine WL.opX hΓ (h := ?_) | refine WL.opY (h := ?_) | refine WL.opZ (h := ?_))); with_reducible apply WL.nil) | refine W.condT (h := ?_) | refine W.condF (h := ?_))
            refine At.retA (by rw [Try.results55]) (he := ?_)
            rw [hv]
theorem readHdI_s : Sound Try.prog 58 mRdHd := by
  refine Sound.mdl Try.func58 rfl Try.ntmps58 ?_
  rintro s w hs
  refine ⟨by simp, ?_⟩
  replace hs : s.size ≤ 1099511627776 := hs
  have hΓ : GSound Try.prog (look [(68, mShowHd)]) := env_cons (has_of Try.func68 rfl rfl) showHdI_s env_nil
  have hNu : Has Try.prog 56 := has_of Try.func56 rfl rfl
  have hTx : Has Try.prog 84 := has_of Try.func84 rfl rfl
  have hem : (⟨#[]⟩ : ByteArray) = ByteArray.empty := rfl
  have t1 := numF_size (s, false)
  generalize hz1 : numF (s, false) = z1 at t1
  obtain ⟨n1, s1, b1⟩ := z1
  have t2 := numF_size (s1, b1)
  generalize hz2 : numF (s1, b1) = z2 at t2
  obtain ⟨n2, s2, b2⟩ := z2
  have t3 := (textF_size (s2, b2)).1
  generalize hz3 : textF (s2, b2) = z3 at t3
  obtain ⟨n3, s3, b3⟩ := z3
  have t4 := (textF_size (s3, b3)).1
  generalize hz4 : textF (s3, b3) = z4 at t4
  obtain ⟨n4, s4, b4⟩ := z4
  have t5 := (textF_size (s4, b4)).1
  generalize hz5 : textF (s4, b4) = z5 at t5
  obtain ⟨n5, s5, b5⟩ := z5
  have t6 := (textF_size (s5, b5)).1
  generalize hz6 : textF (s5, b5) = z6 at t6
  obtain ⟨n6, s6, b6⟩ := z6
  dsimp only at t1 t2 t3 t4 t5 t6
  have hn : nHdr s = [(n1 : Int), (n2 : Int)] := by simp only [nHdr, scanN, hz1, hz2]
  have ht : tHdr s = ([n3, n4, n5, n6], s6, b6) := by simp only [tHdr, scanN, hz1, hz2, textN, hz3, hz4, hz5, hz6]
  have hmk : mkHd (nHdr s) (tHdr s).1 = ((n1 : Int), (n2 : Int), n3, n4, n5, n6) := by rw [hn, ht]; rfl
  have hbb : (tHdr s).2.2 = b6 := by rw [ht]
  have c2 := mShowHd_eq ((n1 : Int), (n2 : Int), n3, n4, n5, n6)
  dsimp only [aHd] at c2
  have Z1 := Lib.hid hz1
  have Z2 := Lib.hid hz2
  have Z3 := Lib.hid hz3
  have Z4 := Lib.hid hz4
  have Z5 := Lib.hid hz5
  have Z6 := Lib.hid hz6
  have HM := Lib.hid hmk
  have HB := Lib.hid hbb
  clear hz1 hz2 hz3 hz4 hz5 hz6 hn ht hmk hbb
  simp only [initS, argPV, List.map_cons, List.map_nil, toPL, Nat.zero_add]
  repeat (first | with_reducible (first | apply W.seq | apply W.block | apply W.skip | apply W.exit | apply W.ret | apply At.seqN | apply At.blkN | apply At.blkE | apply At.blkR | apply At.thenX | apply At.thenR | apply At.blkX rfl) | ((with_reducible apply W.ops); (repeat (first | refine WL.opA hΓ (h := ?_) | refine WL.opX hΓ (h := ?_) | refine WL.opY (h := ?_) | refine WL.opZ (h := ?_))); with_reducible apply WL.nil) | refine W.condT (h := ?_) | refine W.condF (h := ?_))
  with_reducible apply W.ops
  repeat (first | refine WL.opA hΓ (h := ?_) | refine WL.opX hΓ (h := ?_) | refine WL.opY (h := ?_) | refine WL.opZ (h := ?_))
  refine WL.opSc hNu num_s (s, false) () (n1, s1, b1) Z1.out (show s.size ≤ _ by omega) (h := ?_)
  (repeat (first | refine WL.opA hΓ (h := ?_) | refine WL.opX hΓ (h := ?_) | refine WL.opY (h := ?_) | refine WL.opZ (h := ?_)))
  with_reducible apply WL.nil
  repeat (first | with_reducible (first | apply W.seq | apply W.block | apply W.skip | apply W.exit | apply W.ret | apply At.seqN | apply At.blkN | apply At.blkE | apply At.blkR | apply At.thenX | apply At.thenR | apply At.blkX rfl) | ((with_reducible apply W.ops); (repeat (first | refine WL.opA hΓ (h := ?_) | refine WL.opX hΓ (h := ?_) | refine WL.opY (h := ?_) | refine WL.opZ (h := ?_))); with_reducible apply WL.nil) | refine W.condT (h := ?_) | refine W.condF (h := ?_))
  with_reducible apply W.ops
  repeat (first | refine WL.opA hΓ (h := ?_) | refine WL.opX hΓ (h := ?_) | refine WL.opY (h := ?_) | refine WL.opZ (h := ?_))
  refine WL.opSc hNu num_s (s1, b1) () (n2, s2, b2) Z2.out (show s1.size ≤ _ by omega) (h := ?_)
  (repeat (first | refine WL.opA hΓ (h := ?_) | refine WL.opX hΓ (h := ?_) | refine WL.opY (h := ?_) | refine WL.opZ (h := ?_)))
  with_reducible apply WL.nil
  repeat (first | with_reducible (first | apply W.seq | apply W.block | apply W.skip | apply W.exit | apply W.ret | apply At.seqN | apply At.blkN | apply At.blkE | apply At.blkR | apply At.thenX | apply At.thenR | apply At.blkX rfl) | ((with_reducible apply W.ops); (repeat (first | refine WL.opA hΓ (h := ?_) | refine WL.opX hΓ (h := ?_) | refine WL.opY (h := ?_) | refine WL.opZ (h := ?_))); with_reducible apply WL.nil) | refine W.condT (h := ?_) | refine W.condF (h := ?_))
  with_reducible apply W.ops
  repeat (first | refine WL.opA hΓ (h := ?_) | refine WL.opX hΓ (h := ?_) | refine WL.opY (h := ?_) | refine WL.opZ (h := ?_))
  refine WL.opSc hTx textN_s (s2, b2) () (n3, s3, b3) Z3.out (show s2.size ≤ _ by omega) (h := ?_)
  (repeat (first | refine WL.opA hΓ (h := ?_) | refine WL.opX hΓ (h := ?_) | refine WL.opY (h := ?_) | refine WL.opZ (h := ?_)))
  with_reducible apply WL.nil
  repeat (first | with_reducible (first | apply W.seq | apply W.block | apply W.skip | apply W.exit | apply W.ret | apply At.seqN | apply At.blkN | apply At.blkE | apply At.blkR | apply At.thenX | apply At.thenR | apply At.blkX rfl) | ((with_reducible apply W.ops); (repeat (first | refine WL.opA hΓ (h := ?_) | refine WL.opX hΓ (h := ?_) | refine WL.opY (h := ?_) | refine WL.opZ (h := ?_))); with_reducible apply WL.nil) | refine W.condT (h := ?_) | refine W.condF (h := ?_))
  with_reducible apply W.ops
  repeat (first | refine WL.opA hΓ (h := ?_) | refine WL.opX hΓ (h := ?_) | refine WL.opY (h := ?_) | refine WL.opZ (h := ?_))
  refine WL.opSc hTx textN_s (s3, b3) () (n4, s4, b4) Z4.out (show s3.size ≤ _ by omega) (h := ?_)
  (repeat (first | refine WL.opA hΓ (h := ?_) | refine WL.opX hΓ (h := ?_) | refine WL.opY (h := ?_) | refine WL.opZ (h := ?_)))
  with_reducible apply WL.nil
  repeat (first | with_reducible (first | apply W.seq | apply W.block | apply W.skip | apply W.exit | apply W.ret | apply At.seqN | apply At.blkN | apply At.blkE | apply At.blkR | apply At.thenX | apply At.thenR | apply At.blkX rfl) | ((with_reducible apply W.ops); (repeat (first | refine WL.opA hΓ (h := ?_) | refine WL.opX hΓ (h := ?_) | refine WL.opY (h := ?_) | refine WL.opZ (h := ?_))); with_reducible apply WL.nil) | refine W.condT (h := ?_) | refine W.condF (h := ?_))
  with_reducible apply W.ops
  repeat (first | refine WL.opA hΓ (h := ?_) | refine WL.opX hΓ (h := ?_) | refine WL.opY (h := ?_) | refine WL.opZ (h := ?_))
  refine WL.opSc hTx textN_s (s4, b4) () (n5, s5, b5) Z5.out (show s4.size ≤ _ by omega) (h := ?_)
  (repeat (first | refine WL.opA hΓ (h := ?_) | refine WL.opX hΓ (h := ?_) | refine WL.opY (h := ?_) | refine WL.opZ (h := ?_)))
  with_reducible apply WL.nil
  repeat (first | with_reducible (first | apply W.seq | apply W.block | apply W.skip | apply W.exit | apply W.ret | apply At.seqN | apply At.blkN | apply At.blkE | apply At.blkR | apply At.thenX | apply At.thenR | apply At.blkX rfl) | ((with_reducible apply W.ops); (repeat (first | refine WL.opA hΓ (h := ?_) | refine WL.opX hΓ (h := ?_) | refine WL.opY (h := ?_) | refine WL.opZ (h := ?_))); with_reducible apply WL.nil) | refine W.condT (h := ?_) | refine W.condF (h := ?_))
  with_reducible apply W.ops
  repeat (first | refine WL.opA hΓ (h := ?_) | refine WL.opX hΓ (h := ?_) | refine WL.opY (h := ?_) | refine WL.opZ (h := ?_))
  refine WL.opSc hTx textN_s (s5, b5) () (n6, s6, b6) Z6.out (show s5.size ≤ _ by omega) (h := ?_)
  (repeat (first | refine WL.opA hΓ (h := ?_) | refine WL.opX hΓ (h := ?_) | refine WL.opY (h := ?_) | refine WL.opZ (h := ?_)))
  with_reducible apply WL.nil
  cases b6 with
  | true =>
    have hv := rdHd_bad (s := s) (.inl HB.out)
    generalize showHead ((n1 : Int), (n2 : Int), n3, n4, n5, n6) = z at *
    repeat (first | with_reducible (first | apply W.seq | apply W.block | apply W.skip | apply W.exit | apply W.ret | apply At.seqN | apply At.blkN | apply At.blkE | apply At.blkR | apply At.thenX | apply At.thenR | apply At.blkX rfl) | ((with_reducible apply W.ops); (repeat (first | refine WL.opA hΓ (h := ?_) | refine WL.opX hΓ (h := ?_) | refine WL.opY (h := ?_) | refine WL.opZ (h := ?_))); with_reducible apply WL.nil) | refine W.condT (h := ?_) | refine W.condF (h := ?_))
    refine At.retA (by rw [Try.results58]) (he := ?_)
    rw [hv]
  | false =>
    have hne : ¬ s = ByteArray.empty := fun e => by
      have h1 := HB.out
      have h2 := scan_empty 1
      rw [e] at h1
      unfold tHdr at h1
      generalize (scanN 2 (ByteArray.empty, false)).2 = x at h1 h2
      obtain ⟨t, b⟩ := x
      dsimp only at h2
      subst h2
      rw [textN_stick] at h1
      cases h1
    by_cases hsh : showHead ((n1 : Int), (n2 : Int), n3, n4, n5, n6) = s
    · have hv := rdHd_ok (s := s) (by rw [HB.out, HM.out]; simp [hsh])
      rw [HM.out] at hv
      have hd := decide_eq_true hsh
      generalize showHead ((n1 : Int), (n2 : Int), n3, n4, n5, n6) = z at *
      clear hsh
      repeat (first | with_reducible (first | apply W.seq | apply W.block | apply W.skip | apply W.exit | apply W.ret | apply At.seqN | apply At.blkN | apply At.blkE | apply At.blkR | apply At.thenX | apply At.thenR | apply At.blkX rfl) | ((with_reducible apply W.ops); (repeat (first | refine WL.opA hΓ (h := ?_) | refine WL.opX hΓ (h := ?_) | refine WL.opY (h := ?_) | refine WL.opZ (h := ?_))); with_reducible apply WL.nil) | refine W.condT (h := ?_) | refine W.condF (h := ?_))
      refine At.retA (by rw [Try.results58]) (he := ?_)
      rw [hv]
    · have hv := rdHd_bad (s := s) (.inr (by rw [HM.out]; exact hsh))
      have hd := decide_eq_false hsh
      generalize showHead ((n1 : Int), (n2 : Int), n3, n4, n5, n6) = z at *
      clear hsh
      repeat (first | with_reducible (first | apply W.seq | apply W.block | apply W.skip | apply W.exit | apply W.ret | apply At.seqN | apply At.blkN | apply At.blkE | apply At.blkR | apply At.thenX | apply At.thenR | apply At.blkX rfl) | ((with_reducible apply W.ops); (repeat (first | refine WL.opA hΓ (h := ?_) | refine WL.opX hΓ (h := ?_) | refine WL.opY (h := ?_) | refine WL.opZ (h := ?_))); with_reducible apply WL.nil) | refine W.condT (h := ?_) | refine W.condF (h := ?_))
      refine At.retA (by rw [Try.results58]) (he := ?_)
      rw [hv]
end Go.Proofs.Yteaohgacgcjkjaa
