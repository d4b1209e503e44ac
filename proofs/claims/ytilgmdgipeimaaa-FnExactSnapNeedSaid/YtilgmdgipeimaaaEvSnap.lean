/-
  SnapNeed and SnapDone of spec and impl.
-/
import Derived.Test.YtilgmdgipeimaaaEvBs
import Derived.Test.YtilgmdgipeimaaaEvList
import Derived.Test.YtilgmdgipeimaaaSnapOk
namespace Go.Proofs.Ytilgmdgipeimaaa
set_option maxRecDepth 100000
set_option linter.unusedVariables false
set_option linter.unusedSimpArgs false
open Go Go.RowKit
set_option maxHeartbeats 4000000

abbrev TSnap := ByteArray × Int × List ByteArray × List Bool
abbrev aSnap (s : TSnap) : Arg := .val true [.sc (.string s.1), .sc (.int .i64 s.2.1), .sl (rowsF cStr s.2.2.1), .sl (rowsF cBool s.2.2.2)]
abbrev okS (s : TSnap) : Prop := s.1.size ≤ 1048576 ∧ s.2.2.1.length ≤ 1048576 ∧ s.2.2.2.length ≤ 1048576
def sOk (s : TSnap) : Prop := snapOk s.1 s.2.1 s.2.2.1 s.2.2.2
instance (s : TSnap) : Decidable (sOk s) := by unfold sOk; infer_instance
theorem snap_rep {w : World} {s : TSnap} {u : Value} (h : RepA w (aSnap s) u) : ∃ vh vg, u = .agg #[.string s.1, .int .i64 s.2.1, vh, vg] ∧ RdS w w.heap.size 1 cStr vh s.2.2.1 ∧ RdS w w.heap.size 1 cBool vg s.2.2.2 := by
  obtain ⟨us, rfl, hl, hg⟩ := h
  match us, hl with
  | [u0, u1, u2, u3], _ =>
    obtain ⟨x0, e0, r0⟩ := hg 0 _ rfl
    obtain ⟨x1, e1, r1⟩ := hg 1 _ rfl
    obtain ⟨x2, e2, r2⟩ := hg 2 _ rfl
    obtain ⟨x3, e3, r3⟩ := hg 3 _ rfl
    cases e0; cases e1; cases e2; cases e3
    cases r0; cases r1
    exact ⟨_, _, rfl, rep_RdS (fun _ => rfl) r2, rep_RdS (fun _ => rfl) r3⟩
theorem snap_arg {w : World} {s : TSnap} {vh vg : Value} (h1 : RdS w w.heap.size 1 cStr vh s.2.2.1) (h2 : RdS w w.heap.size 1 cBool vg s.2.2.2) : RepA w (aSnap s) (.agg #[.string s.1, .int .i64 s.2.1, vh, vg]) := by
  refine ⟨[.string s.1, .int .i64 s.2.1, vh, vg], rfl, rfl, fun j l hj => ?_⟩
  match j, hj with
  | 0, hj => cases hj; exact ⟨_, rfl, .sc rfl⟩
  | 1, hj => cases hj; exact ⟨_, rfl, .sc rfl⟩
  | 2, hj => cases hj; exact ⟨_, rfl, h1.rep (fun _ => rfl) cStr_one⟩
  | 3, hj => cases hj; exact ⟨_, rfl, h2.rep (fun _ => rfl) cBool_one⟩
  | j + 4, hj => simp at hj
theorem aSnap_inj : ∀ x y : TSnap, [aSnap x] = [aSnap y] → x = y := by
  rintro ⟨a, b, c, d⟩ ⟨a', b', c', d'⟩ h
  simpa [aSnap] using h
noncomputable def mSnapOk := mdl okS (fun s => [aSnap s]) (fun s => rB (decide (sOk s)))
theorem mSnapOk_eq (s : TSnap) (h : okS s) : mSnapOk [aSnap s] = some (rB (decide (sOk s))) := mdl_eq aSnap_inj s h
theorem snapOkS_s : Sound Try.prog 13 mSnapOk := Sound.says (fun _ => rfl) fun s vs w hok hr => by
  obtain ⟨v, rfl, h2⟩ := RepAs.one hr
  obtain ⟨vh, vg, rfl, h3, h4⟩ := snap_rep h2
  exact (snapOk_spec s.1 s.2.1 vh vg s.2.2.1 s.2.2.2 w h3 h4 hok.1 hok.2.1 hok.2.2).mono fun e w' hq => hq
theorem snapOkI_s : Sound Try.prog 15 mSnapOk := Sound.says (fun _ => rfl) fun s vs w hok hr => by
  obtain ⟨v, rfl, h2⟩ := RepAs.one hr
  obtain ⟨vh, vg, rfl, h3, h4⟩ := snap_rep h2
  exact (snapOk_impl s.1 s.2.1 vh vg s.2.2.1 s.2.2.2 w h3 h4 hok.1 hok.2.1 hok.2.2).mono fun e w' hq => hq

/-- which of the first k are wanted -/
def needK (g : List Bool) (k : Nat) : List Int := ((List.range k).filter fun i => !(g.getD i true)).map fun (i : Nat) => (i : Int)
def needL (s : TSnap) : List Int := if sOk s then needK s.2.2.2 s.2.2.2.length else []
theorem needK_zero (g : List Bool) : needK g 0 = [] := rfl
theorem needK_no {g : List Bool} {k : Nat} (hk : k < g.length) (h : g[k] = true) : needK g (k + 1) = needK g k := by
  unfold needK
  rw [List.range_succ, List.filter_append, List.map_append]
  simp [hk, h]
theorem needK_yes {g : List Bool} {k : Nat} (hk : k < g.length) (h : g[k] = false) : needK g (k + 1) = needK g k ++ [(k : Int)] := by
  unfold needK
  rw [List.range_succ, List.filter_append, List.map_append]
  simp [hk, h]
theorem needK_len (g : List Bool) (k : Nat) : (needK g k).length ≤ k := by
  unfold needK
  rw [List.length_map]
  have := List.length_filter_le (fun i => !(g.getD i true)) (List.range k)
  simpa using this

/-- the first k pieces, put together -/
def catK (h : List ByteArray) (k : Nat) : ByteArray := (h.take k).foldl (· ++ ·) emp
theorem catK_zero (h : List ByteArray) : catK h 0 = emp := rfl
theorem catK_succ {h : List ByteArray} {k : Nat} (hk : k < h.length) : catK h (k + 1) = catK h k ++ h[k] := by
  unfold catK
  rw [List.take_succ_eq_append_getElem hk, List.foldl_append]
  rfl
def sizK (h : List ByteArray) (k : Nat) : Nat := ((h.take k).map ByteArray.size).sum
theorem sizK_succ {h : List ByteArray} {k : Nat} (hk : k < h.length) : sizK h (k + 1) = sizK h k + h[k].size := sum_take_succ _ h k hk
theorem sizK_le (h : List ByteArray) (k : Nat) : sizK h k ≤ (h.map ByteArray.size).sum := by
  unfold sizK
  rw [List.map_take]
  have := List.sum_append_nat (l₁ := (h.map ByteArray.size).take k) (l₂ := (h.map ByteArray.size).drop k)
  rw [List.take_append_drop] at this
  omega
theorem catK_size (h : List ByteArray) : ∀ k, k ≤ h.length → (catK h k).size = sizK h k
  | 0, _ => rfl
  | k + 1, hk => by
    rw [catK_succ (by omega), sizK_succ (by omega), ByteArray.size_append, catK_size h k (by omega)]
def doneS (s : TSnap) : ByteArray := if sOk s ∧ needK s.2.2.2 s.2.2.2.length = [] then catK s.2.2.1 s.2.2.1.length else emp
def doneB (s : TSnap) : Bool := decide (sOk s ∧ needK s.2.2.2 s.2.2.2.length = [])
theorem needK_mono {g : List Bool} {k : Nat} (hk : k < g.length) (h : g[k] = false) : ∀ m, k < m → needK g m ≠ []
  | 0, hm => by omega
  | m + 1, hm => by
    unfold needK
    rw [List.range_succ, List.filter_append, List.map_append]
    by_cases e : k = m
    · subst e
      simp [hk, h]
    · have := needK_mono hk h m (by omega)
      unfold needK at this
      intro hc
      exact this (List.append_eq_nil_iff.1 hc).1

abbrev bxS (r : ByteArray) (c : Int) (lh : List ByteArray) (lg : List Bool) : Blk := .box [.sc (.string r), .sc (.int .i64 c), .sl (rowsF cStr lh), .sl (rowsF cBool lg)]
theorem row_bool {g : List Bool} {k : Nat} (h : k < g.length) : (rowsF cBool g)[k]? = some [.sc (.bool g[k])] := row_at cBool g h
theorem row_str {g : List ByteArray} {k : Nat} (h : k < g.length) : (rowsF cStr g)[k]? = some [.sc (.string g[k])] := row_at cStr g h
theorem needI_s : Sound Try.prog 19 (mdl okS (fun s => [aSnap s]) fun s => if sOk s then rL 3 1 cInt (needL s) else rN) := by
  refine Sound.mdl Try.func19 rfl Try.ntmps19 ?_
  rintro ⟨r, c, lh, lg⟩ w ⟨h1, h2, h3⟩
  refine ⟨by simp, ?_⟩
  dsimp only at h1 h2 h3
  have hΓ : GSound Try.prog (look [(15, mSnapOk)]) := env_cons (has_of Try.func15 rfl rfl) snapOkI_s env_nil
  have c1 := mSnapOk_eq (r, c, lh, lg) ⟨h1, h2, h3⟩
  dsimp only [aSnap] at c1
  have hnil : rowsF cInt [] = [] := rfl
  simp only [initS, argPV, List.map_cons, List.map_nil, toPL, Nat.zero_add]
  by_cases hs : sOk (r, c, lh, lg)
  · have hz := needK_zero lg
    repeat (first | with_reducible apply W.seq | with_reducible apply W.block | with_reducible apply W.skip | with_reducible apply W.exit | with_reducible apply W.ret | with_reducible apply At.seqN | with_reducible apply At.blkN | with_reducible apply At.blkE | with_reducible apply At.blkR | with_reducible apply At.thenX | with_reducible apply At.thenR | with_reducible apply At.blkX rfl | ((with_reducible apply W.ops); (repeat (first | refine WL.opA hΓ (h := ?_) | refine WL.opX hΓ (h := ?_) | refine WL.opY (h := ?_) | refine WL.opZ (h := ?_))); with_reducible apply WL.nil) | refine W.condT (h := ?_) | refine W.condF (h := ?_))
    refine W.loopA (fun k => k ≤ lg.length) (fun k : Nat => [.slot 13 (vI k), .slot 12 (vI lg.length), .slot 11 (vL cBool lg), .slot 3 (one (.all 9)), .blk 9 (.arr true 3 1 (rowsF cInt (needK lg k)))]) (fun k => lg.length - k) 0 (Nat.zero_le _) (h := ?_)
    rintro k hk
    have hnl := needK_len lg k
    by_cases hlt : k < lg.length
    · have hrow := row_bool hlt
      cases hg : lg[k] with
      | true =>
        have e := needK_no hlt hg
        repeat (first | with_reducible apply W.seq | with_reducible apply W.block | with_reducible apply W.skip | with_reducible apply W.exit | with_reducible apply W.ret | with_reducible apply At.seqN | with_reducible apply At.blkN | with_reducible apply At.blkE | with_reducible apply At.blkR | with_reducible apply At.thenX | with_reducible apply At.thenR | with_reducible apply At.blkX rfl | ((with_reducible apply W.ops); (repeat (first | refine WL.opA hΓ (h := ?_) | refine WL.opX hΓ (h := ?_) | refine WL.opY (h := ?_) | refine WL.opZ (h := ?_))); with_reducible apply WL.nil) | refine W.condT (h := ?_) | refine W.condF (h := ?_))
        exact At.roundA (k + 1) (by omega) (by omega)
      | false =>
        have e : rowsF cInt (needK lg k) ++ [[.sc (.int .i64 k)]] = rowsF cInt (needK lg (k + 1)) := by rw [needK_yes hlt hg, ← rowsF_app]; rfl
        repeat (first | with_reducible apply W.seq | with_reducible apply W.block | with_reducible apply W.skip | with_reducible apply W.exit | with_reducible apply W.ret | with_reducible apply At.seqN | with_reducible apply At.blkN | with_reducible apply At.blkE | with_reducible apply At.blkR | with_reducible apply At.thenX | with_reducible apply At.thenR | with_reducible apply At.blkX rfl | ((with_reducible apply W.ops); (repeat (first | refine WL.opA hΓ (h := ?_) | refine WL.opX hΓ (h := ?_) | refine WL.opY (h := ?_) | refine WL.opZ (h := ?_))); with_reducible apply WL.nil) | refine W.condT (h := ?_) | refine W.condF (h := ?_))
        exact At.roundA (k + 1) (by omega) (by omega)
    · have hke : k = lg.length := by omega
      subst hke
      repeat (first | with_reducible apply W.seq | with_reducible apply W.block | with_reducible apply W.skip | with_reducible apply W.exit | with_reducible apply W.ret | with_reducible apply At.seqN | with_reducible apply At.blkN | with_reducible apply At.blkE | with_reducible apply At.blkR | with_reducible apply At.thenX | with_reducible apply At.thenR | with_reducible apply At.blkX rfl | ((with_reducible apply W.ops); (repeat (first | refine WL.opA hΓ (h := ?_) | refine WL.opX hΓ (h := ?_) | refine WL.opY (h := ?_) | refine WL.opZ (h := ?_))); with_reducible apply WL.nil) | refine W.condT (h := ?_) | refine W.condF (h := ?_))
      refine At.retA (by rw [Try.results19]) (he := ?_)
      simp only [if_pos hs, needL]
  · repeat (first | with_reducible apply W.seq | with_reducible apply W.block | with_reducible apply W.skip | with_reducible apply W.exit | with_reducible apply W.ret | with_reducible apply At.seqN | with_reducible apply At.blkN | with_reducible apply At.blkE | with_reducible apply At.blkR | with_reducible apply At.thenX | with_reducible apply At.thenR | with_reducible apply At.blkX rfl | ((with_reducible apply W.ops); (repeat (first | refine WL.opA hΓ (h := ?_) | refine WL.opX hΓ (h := ?_) | refine WL.opY (h := ?_) | refine WL.opZ (h := ?_))); with_reducible apply WL.nil) | refine W.condT (h := ?_) | refine W.condF (h := ?_))
    refine At.retA (by rw [Try.results19]) (he := ?_)
    simp only [if_neg hs]
theorem needS_s : Sound Try.prog 18 (mdl okS (fun s => [aSnap s]) fun s => rL 3 1 cInt (needL s)) := by
  refine Sound.mdl Try.func18 rfl Try.ntmps18 ?_
  rintro ⟨r, c, lh, lg⟩ w ⟨h1, h2, h3⟩
  refine ⟨by simp, ?_⟩
  dsimp only at h1 h2 h3
  have hΓ : GSound Try.prog (look [(13, mSnapOk)]) := env_cons (has_of Try.func13 rfl rfl) snapOkS_s env_nil
  have c1 := mSnapOk_eq (r, c, lh, lg) ⟨h1, h2, h3⟩
  dsimp only [aSnap] at c1
  have hnil : rowsF cInt [] = [] := rfl
  simp only [initS, argPV, List.map_cons, List.map_nil, toPL, Nat.zero_add]
  by_cases hs : sOk (r, c, lh, lg)
  · have hz := needK_zero lg
    repeat (first | with_reducible apply W.seq | with_reducible apply W.block | with_reducible apply W.skip | with_reducible apply W.exit | with_reducible apply W.ret | with_reducible apply At.seqN | with_reducible apply At.blkN | with_reducible apply At.blkE | with_reducible apply At.blkR | with_reducible apply At.thenX | with_reducible apply At.thenR | with_reducible apply At.blkX rfl | ((with_reducible apply W.ops); (repeat (first | refine WL.opA hΓ (h := ?_) | refine WL.opX hΓ (h := ?_) | refine WL.opY (h := ?_) | refine WL.opZ (h := ?_))); with_reducible apply WL.nil) | refine W.condT (h := ?_) | refine W.condF (h := ?_))
    refine W.loopA (fun k => k ≤ lg.length) (fun k : Nat => [.slot 4 (vI k), .slot 1 (one (.ptr 1 0)), .blk 1 (bxS r c lh lg), .slot 3 (one (.all 5)), .blk 5 (.arr true 3 1 (rowsF cInt (needK lg k)))]) (fun k => lg.length - k) 0 (Nat.zero_le _) (h := ?_)
    rintro k hk
    have hnl := needK_len lg k
    by_cases hlt : k < lg.length
    · have hrow := row_bool hlt
      cases hg : lg[k] with
      | true =>
        have e := needK_no hlt hg
        repeat (first | with_reducible apply W.seq | with_reducible apply W.block | with_reducible apply W.skip | with_reducible apply W.exit | with_reducible apply W.ret | with_reducible apply At.seqN | with_reducible apply At.blkN | with_reducible apply At.blkE | with_reducible apply At.blkR | with_reducible apply At.thenX | with_reducible apply At.thenR | with_reducible apply At.blkX rfl | ((with_reducible apply W.ops); (repeat (first | refine WL.opA hΓ (h := ?_) | refine WL.opX hΓ (h := ?_) | refine WL.opY (h := ?_) | refine WL.opZ (h := ?_))); with_reducible apply WL.nil) | refine W.condT (h := ?_) | refine W.condF (h := ?_))
        exact At.roundA (k + 1) (by omega) (by omega)
      | false =>
        have e : rowsF cInt (needK lg k) ++ [[.sc (.int .i64 k)]] = rowsF cInt (needK lg (k + 1)) := by rw [needK_yes hlt hg, ← rowsF_app]; rfl
        repeat (first | with_reducible apply W.seq | with_reducible apply W.block | with_reducible apply W.skip | with_reducible apply W.exit | with_reducible apply W.ret | with_reducible apply At.seqN | with_reducible apply At.blkN | with_reducible apply At.blkE | with_reducible apply At.blkR | with_reducible apply At.thenX | with_reducible apply At.thenR | with_reducible apply At.blkX rfl | ((with_reducible apply W.ops); (repeat (first | refine WL.opA hΓ (h := ?_) | refine WL.opX hΓ (h := ?_) | refine WL.opY (h := ?_) | refine WL.opZ (h := ?_))); with_reducible apply WL.nil) | refine W.condT (h := ?_) | refine W.condF (h := ?_))
        exact At.roundA (k + 1) (by omega) (by omega)
    · have hke : k = lg.length := by omega
      subst hke
      repeat (first | with_reducible apply W.seq | with_reducible apply W.block | with_reducible apply W.skip | with_reducible apply W.exit | with_reducible apply W.ret | with_reducible apply At.seqN | with_reducible apply At.blkN | with_reducible apply At.blkE | with_reducible apply At.blkR | with_reducible apply At.thenX | with_reducible apply At.thenR | with_reducible apply At.blkX rfl | ((with_reducible apply W.ops); (repeat (first | refine WL.opA hΓ (h := ?_) | refine WL.opX hΓ (h := ?_) | refine WL.opY (h := ?_) | refine WL.opZ (h := ?_))); with_reducible apply WL.nil) | refine W.condT (h := ?_) | refine W.condF (h := ?_))
      refine At.retA (by rw [Try.results18]) (he := ?_)
      simp only [if_pos hs, needL]
  · repeat (first | with_reducible apply W.seq | with_reducible apply W.block | with_reducible apply W.skip | with_reducible apply W.exit | with_reducible apply W.ret | with_reducible apply At.seqN | with_reducible apply At.blkN | with_reducible apply At.blkE | with_reducible apply At.blkR | with_reducible apply At.thenX | with_reducible apply At.thenR | with_reducible apply At.blkX rfl | ((with_reducible apply W.ops); (repeat (first | refine WL.opA hΓ (h := ?_) | refine WL.opX hΓ (h := ?_) | refine WL.opY (h := ?_) | refine WL.opZ (h := ?_))); with_reducible apply WL.nil) | refine W.condT (h := ?_) | refine W.condF (h := ?_))
    refine W.loopA (fun _ => True) (fun _ : Nat => [.slot 4 (vI 0), .slot 1 (one (.ptr 1 0)), .blk 1 (bxS r c lh lg), .slot 3 (one (.all 5)), .blk 5 (.arr true 3 1 [])]) (fun _ => 0) 0 trivial (h := ?_)
    rintro k -
    by_cases hlt : 0 < lg.length
    · repeat (first | with_reducible apply W.seq | with_reducible apply W.block | with_reducible apply W.skip | with_reducible apply W.exit | with_reducible apply W.ret | with_reducible apply At.seqN | with_reducible apply At.blkN | with_reducible apply At.blkE | with_reducible apply At.blkR | with_reducible apply At.thenX | with_reducible apply At.thenR | with_reducible apply At.blkX rfl | ((with_reducible apply W.ops); (repeat (first | refine WL.opA hΓ (h := ?_) | refine WL.opX hΓ (h := ?_) | refine WL.opY (h := ?_) | refine WL.opZ (h := ?_))); with_reducible apply WL.nil) | refine W.condT (h := ?_) | refine W.condF (h := ?_))
      refine At.retA (by rw [Try.results18]) (he := ?_)
      simp only [if_neg hs, needL]
      rfl
    · repeat (first | with_reducible apply W.seq | with_reducible apply W.block | with_reducible apply W.skip | with_reducible apply W.exit | with_reducible apply W.ret | with_reducible apply At.seqN | with_reducible apply At.blkN | with_reducible apply At.blkE | with_reducible apply At.blkR | with_reducible apply At.thenX | with_reducible apply At.thenR | with_reducible apply At.blkX rfl | ((with_reducible apply W.ops); (repeat (first | refine WL.opA hΓ (h := ?_) | refine WL.opX hΓ (h := ?_) | refine WL.opY (h := ?_) | refine WL.opZ (h := ?_))); with_reducible apply WL.nil) | refine W.condT (h := ?_) | refine W.condF (h := ?_))
      refine At.retA (by rw [Try.results18]) (he := ?_)
      simp only [if_neg hs, needL]
      rfl

theorem emp_app (b : ByteArray) : emp ++ b = b := by
  apply ba_inj
  simp [emp]
theorem cat_in {lh : List ByteArray} {k : Nat} (hk : k < lh.length) (ht : (lh.map ByteArray.size).sum ≤ 1048576) : (catK lh k).size + lh[k].size ≤ 1048576 := by
  have h1 := catK_size lh (k + 1) (by omega)
  have h2 := sizK_le lh (k + 1)
  rw [catK_succ hk, ByteArray.size_append] at h1
  omega
abbrev okD (s : TSnap) : Prop := okS s ∧ (s.2.2.1.map ByteArray.size).sum ≤ 1048576
theorem need_all {g : List Bool} {k : Nat} (hk : k ≤ g.length) (h : ∀ j (hj : j < k), g[j]'(by omega) = true) : needK g k = [] := by
  induction k with
  | zero => rfl
  | succ k ih =>
    rw [needK_no (by omega) (h k (by omega))]
    exact ih (by omega) (fun j hj => h j (by omega))
theorem doneI_s : Sound Try.prog 17 (mdl okD (fun s => [aSnap s]) fun s => .tup [rSc (.string (doneS s)), rSc (.bool (doneB s))]) := by
  refine Sound.mdl Try.func17 rfl Try.ntmps17 ?_
  rintro ⟨r, c, lh, lg⟩ w ⟨⟨h1, h2, h3⟩, ht⟩
  refine ⟨by simp, ?_⟩
  dsimp only at h1 h2 h3 ht
  have hΓ : GSound Try.prog (look [(15, mSnapOk), (19, mdl okS (fun s => [aSnap s]) fun s => if sOk s then rL 3 1 cInt (needL s) else rN)]) := env_cons (has_of Try.func15 rfl rfl) snapOkI_s (env_cons (has_of Try.func19 rfl rfl) needI_s env_nil)
  have c1 := mSnapOk_eq (r, c, lh, lg) ⟨h1, h2, h3⟩
  have c2 := mdl_eq (ok := okS) (g := fun s => if sOk s then rL 3 1 cInt (needL s) else rN) aSnap_inj (r, c, lh, lg) ⟨h1, h2, h3⟩
  dsimp only [aSnap] at c1 c2
  generalize hm : (mdl okS (fun s => [aSnap s]) fun s => if sOk s then rL 3 1 cInt (needL s) else rN) = mN at hΓ c2
  clear hm
  simp only [initS, argPV, List.map_cons, List.map_nil, toPL, Nat.zero_add]
  by_cases hs : sOk (r, c, lh, lg)
  · rw [if_pos hs] at c2
    have hN : needL (r, c, lh, lg) = needK lg lg.length := if_pos hs
    rw [hN] at c2
    by_cases hn : needK lg lg.length = []
    · rw [hn] at c2
      replace c2 : mN [.val true [.sc (.string r), .sc (.int .i64 c), .sl (rowsF cStr lh), .sl (rowsF cBool lg)]] = some (.comp false [.own true 3 1 []]) := c2
      have hz : catK lh 0 = .empty := rfl
      repeat (first | with_reducible apply W.seq | with_reducible apply W.block | with_reducible apply W.skip | with_reducible apply W.exit | with_reducible apply W.ret | with_reducible apply At.seqN | with_reducible apply At.blkN | with_reducible apply At.blkE | with_reducible apply At.blkR | with_reducible apply At.thenX | with_reducible apply At.thenR | with_reducible apply At.blkX rfl | ((with_reducible apply W.ops); (repeat (first | refine WL.opA hΓ (h := ?_) | refine WL.opX hΓ (h := ?_) | refine WL.opY (h := ?_) | refine WL.opZ (h := ?_))); with_reducible apply WL.nil) | refine W.condT (h := ?_) | refine W.condF (h := ?_))
      refine W.loopA (fun k => k ≤ lh.length) (fun k : Nat => [.slot 19 (vI k), .slot 18 (vI lh.length), .slot 17 (vL cStr lh), .slot 4 (vS (catK lh k))]) (fun k => lh.length - k) 0 (Nat.zero_le _) (h := ?_)
      rintro k hk
      by_cases hlt : k < lh.length
      · have hrow := row_str hlt
        have e := catK_succ hlt
        have hin := cat_in hlt ht
        repeat (first | with_reducible apply W.seq | with_reducible apply W.block | with_reducible apply W.skip | with_reducible apply W.exit | with_reducible apply W.ret | with_reducible apply At.seqN | with_reducible apply At.blkN | with_reducible apply At.blkE | with_reducible apply At.blkR | with_reducible apply At.thenX | with_reducible apply At.thenR | with_reducible apply At.blkX rfl | ((with_reducible apply W.ops); (repeat (first | refine WL.opA hΓ (h := ?_) | refine WL.opX hΓ (h := ?_) | refine WL.opY (h := ?_) | refine WL.opZ (h := ?_))); with_reducible apply WL.nil) | refine W.condT (h := ?_) | refine W.condF (h := ?_))
        exact At.roundA (k + 1) (by omega) (by omega)
      · have hke : k = lh.length := by omega
        subst hke
        repeat (first | with_reducible apply W.seq | with_reducible apply W.block | with_reducible apply W.skip | with_reducible apply W.exit | with_reducible apply W.ret | with_reducible apply At.seqN | with_reducible apply At.blkN | with_reducible apply At.blkE | with_reducible apply At.blkR | with_reducible apply At.thenX | with_reducible apply At.thenR | with_reducible apply At.blkX rfl | ((with_reducible apply W.ops); (repeat (first | refine WL.opA hΓ (h := ?_) | refine WL.opX hΓ (h := ?_) | refine WL.opY (h := ?_) | refine WL.opZ (h := ?_))); with_reducible apply WL.nil) | refine W.condT (h := ?_) | refine W.condF (h := ?_))
        refine At.retA (by rw [Try.results17]) (he := ?_)
        simp only [doneS, doneB, if_pos (⟨hs, hn⟩ : _ ∧ _), decide_eq_true (⟨hs, hn⟩ : _ ∧ _)]
    · have hpos : 0 < (needK lg lg.length).length := List.length_pos_iff.2 hn
      repeat (first | with_reducible apply W.seq | with_reducible apply W.block | with_reducible apply W.skip | with_reducible apply W.exit | with_reducible apply W.ret | with_reducible apply At.seqN | with_reducible apply At.blkN | with_reducible apply At.blkE | with_reducible apply At.blkR | with_reducible apply At.thenX | with_reducible apply At.thenR | with_reducible apply At.blkX rfl | ((with_reducible apply W.ops); (repeat (first | refine WL.opA hΓ (h := ?_) | refine WL.opX hΓ (h := ?_) | refine WL.opY (h := ?_) | refine WL.opZ (h := ?_))); with_reducible apply WL.nil) | refine W.condT (h := ?_) | refine W.condF (h := ?_))
      refine At.retA (by rw [Try.results17]) (he := ?_)
      simp only [doneS, doneB, if_neg (fun h : _ ∧ _ => hn h.2), decide_eq_false (fun h : _ ∧ _ => hn h.2)]
      rfl
  · rw [if_neg hs] at c2
    repeat (first | with_reducible apply W.seq | with_reducible apply W.block | with_reducible apply W.skip | with_reducible apply W.exit | with_reducible apply W.ret | with_reducible apply At.seqN | with_reducible apply At.blkN | with_reducible apply At.blkE | with_reducible apply At.blkR | with_reducible apply At.thenX | with_reducible apply At.thenR | with_reducible apply At.blkX rfl | ((with_reducible apply W.ops); (repeat (first | refine WL.opA hΓ (h := ?_) | refine WL.opX hΓ (h := ?_) | refine WL.opY (h := ?_) | refine WL.opZ (h := ?_))); with_reducible apply WL.nil) | refine W.condT (h := ?_) | refine W.condF (h := ?_))
    refine At.retA (by rw [Try.results17]) (he := ?_)
    simp only [doneS, doneB, if_neg (fun h : _ ∧ _ => hs h.1), decide_eq_false (fun h : _ ∧ _ => hs h.1)]
    rfl
theorem doneS_s : Sound Try.prog 16 (mdl okD (fun s => [aSnap s]) fun s => .tup [rSc (.string (doneS s)), rSc (.bool (doneB s))]) := by
  refine Sound.mdl Try.func16 rfl Try.ntmps16 ?_
  rintro ⟨r, c, lh, lg⟩ w ⟨⟨h1, h2, h3⟩, ht⟩
  refine ⟨by simp, ?_⟩
  dsimp only at h1 h2 h3 ht
  have hΓ : GSound Try.prog (look [(13, mSnapOk)]) := env_cons (has_of Try.func13 rfl rfl) snapOkS_s env_nil
  have c1 := mSnapOk_eq (r, c, lh, lg) ⟨h1, h2, h3⟩
  dsimp only [aSnap] at c1
  simp only [initS, argPV, List.map_cons, List.map_nil, toPL, Nat.zero_add]
  by_cases hs : sOk (r, c, lh, lg)
  · have hz : catK lh 0 = .empty := rfl
    have e1 : (lh.length : Int) = c := hs.2.2.1
    have e2 : (lg.length : Int) = c := hs.2.2.2.1
    subst e1
    have e3 : lg.length = lh.length := by omega
    repeat (first | with_reducible apply W.seq | with_reducible apply W.block | with_reducible apply W.skip | with_reducible apply W.exit | with_reducible apply W.ret | with_reducible apply At.seqN | with_reducible apply At.blkN | with_reducible apply At.blkE | with_reducible apply At.blkR | with_reducible apply At.thenX | with_reducible apply At.thenR | with_reducible apply At.blkX rfl | ((with_reducible apply W.ops); (repeat (first | refine WL.opA hΓ (h := ?_) | refine WL.opX hΓ (h := ?_) | refine WL.opY (h := ?_) | refine WL.opZ (h := ?_))); with_reducible apply WL.nil) | refine W.condT (h := ?_) | refine W.condF (h := ?_))
    refine W.loopA (fun k => k ≤ lh.length ∧ ∀ j (hj : j < k) (hl : j < lg.length), lg[j] = true) (fun k : Nat => [.slot 5 (vI k), .slot 1 (one (.ptr 1 0)), .blk 1 (bxS r lh.length lh lg), .slot 4 (vS (catK lh k))]) (fun k => lh.length - k) 0 ⟨Nat.zero_le _, by intro j hj; omega⟩ (h := ?_)
    rintro k ⟨hk, hall⟩
    by_cases hlt : k < lh.length
    · have hlg : k < lg.length := by omega
      have hrow := row_str hlt
      have hrowg := row_bool hlg
      have e := catK_succ hlt
      have hin := cat_in hlt ht
      cases hg : lg[k] with
      | true =>
        repeat (first | with_reducible apply W.seq | with_reducible apply W.block | with_reducible apply W.skip | with_reducible apply W.exit | with_reducible apply W.ret | with_reducible apply At.seqN | with_reducible apply At.blkN | with_reducible apply At.blkE | with_reducible apply At.blkR | with_reducible apply At.thenX | with_reducible apply At.thenR | with_reducible apply At.blkX rfl | ((with_reducible apply W.ops); (repeat (first | refine WL.opA hΓ (h := ?_) | refine WL.opX hΓ (h := ?_) | refine WL.opY (h := ?_) | refine WL.opZ (h := ?_))); with_reducible apply WL.nil) | refine W.condT (h := ?_) | refine W.condF (h := ?_))
        exact At.roundA (k + 1) ⟨by omega, fun j hj hl => by
          by_cases ej : j = k
          · subst ej; exact hg
          · exact hall j (by omega) hl⟩ (by omega)
      | false =>
        have hn : needK lg lg.length ≠ [] := needK_mono hlg hg _ hlg
        repeat (first | with_reducible apply W.seq | with_reducible apply W.block | with_reducible apply W.skip | with_reducible apply W.exit | with_reducible apply W.ret | with_reducible apply At.seqN | with_reducible apply At.blkN | with_reducible apply At.blkE | with_reducible apply At.blkR | with_reducible apply At.thenX | with_reducible apply At.thenR | with_reducible apply At.blkX rfl | ((with_reducible apply W.ops); (repeat (first | refine WL.opA hΓ (h := ?_) | refine WL.opX hΓ (h := ?_) | refine WL.opY (h := ?_) | refine WL.opZ (h := ?_))); with_reducible apply WL.nil) | refine W.condT (h := ?_) | refine W.condF (h := ?_))
        refine At.retA (by rw [Try.results16]) (he := ?_)
        simp only [doneS, doneB, if_neg (fun h : _ ∧ _ => hn h.2), decide_eq_false (fun h : _ ∧ _ => hn h.2)]
        rfl
    · have hke : k = lh.length := by omega
      subst hke
      have hn : needK lg lg.length = [] := need_all (Nat.le_refl _) (fun j hj => hall j (by omega) hj)
      repeat (first | with_reducible apply W.seq | with_reducible apply W.block | with_reducible apply W.skip | with_reducible apply W.exit | with_reducible apply W.ret | with_reducible apply At.seqN | with_reducible apply At.blkN | with_reducible apply At.blkE | with_reducible apply At.blkR | with_reducible apply At.thenX | with_reducible apply At.thenR | with_reducible apply At.blkX rfl | ((with_reducible apply W.ops); (repeat (first | refine WL.opA hΓ (h := ?_) | refine WL.opX hΓ (h := ?_) | refine WL.opY (h := ?_) | refine WL.opZ (h := ?_))); with_reducible apply WL.nil) | refine W.condT (h := ?_) | refine W.condF (h := ?_))
      refine At.retA (by rw [Try.results16]) (he := ?_)
      simp only [doneS, doneB, if_pos (⟨hs, hn⟩ : _ ∧ _), decide_eq_true (⟨hs, hn⟩ : _ ∧ _)]
  · repeat (first | with_reducible apply W.seq | with_reducible apply W.block | with_reducible apply W.skip | with_reducible apply W.exit | with_reducible apply W.ret | with_reducible apply At.seqN | with_reducible apply At.blkN | with_reducible apply At.blkE | with_reducible apply At.blkR | with_reducible apply At.thenX | with_reducible apply At.thenR | with_reducible apply At.blkX rfl | ((with_reducible apply W.ops); (repeat (first | refine WL.opA hΓ (h := ?_) | refine WL.opX hΓ (h := ?_) | refine WL.opY (h := ?_) | refine WL.opZ (h := ?_))); with_reducible apply WL.nil) | refine W.condT (h := ?_) | refine W.condF (h := ?_))
    refine At.retA (by rw [Try.results16]) (he := ?_)
    simp only [doneS, doneB, if_neg (fun h : _ ∧ _ => hs h.1), decide_eq_false (fun h : _ ∧ _ => hs h.1)]
    rfl

theorem needL_le (s : TSnap) : (needL s).length ≤ s.2.2.2.length := by
  unfold needL
  split
  · exact needK_len _ _
  · simp
section
variable {s : TSnap} {vh vg : Value} {w : World}
theorem need_spec (h1 : RdS w w.heap.size 1 cStr vh s.2.2.1) (h2 : RdS w w.heap.size 1 cBool vg s.2.2.2) (n1 : s.1.size ≤ 1048576) (n2 : s.2.2.1.length ≤ 1048576) (n3 : s.2.2.2.length ≤ 1048576) :
    Calls Try.prog 18 #[.agg #[.string s.1, .int .i64 s.2.1, vh, vg]] w (NewS w 1 cInt (needL s)) :=
  calls_new (fun _ => rfl) needS_s (mdl_eq aSnap_inj s ⟨n1, n2, n3⟩) (RepAs.mk1 (snap_arg h1 h2))
theorem need_impl (h1 : RdS w w.heap.size 1 cStr vh s.2.2.1) (h2 : RdS w w.heap.size 1 cBool vg s.2.2.2) (n1 : s.1.size ≤ 1048576) (n2 : s.2.2.1.length ≤ 1048576) (n3 : s.2.2.2.length ≤ 1048576) :
    Calls Try.prog 19 #[.agg #[.string s.1, .int .i64 s.2.1, vh, vg]] w (NewS w 1 cInt (needL s)) := by
  have h := mdl_eq (ok := okS) (g := fun s => if sOk s then rL 3 1 cInt (needL s) else rN) aSnap_inj s ⟨n1, n2, n3⟩
  by_cases ha : sOk s
  · rw [if_pos ha] at h
    exact calls_new (fun _ => rfl) needI_s h (RepAs.mk1 (snap_arg h1 h2))
  · rw [if_neg ha] at h
    have := calls_newN (f := cInt) (s := 1) needI_s h (RepAs.mk1 (snap_arg h1 h2))
    unfold needL
    rw [if_neg ha]
    exact this
theorem calls_saysT {P : Program} {F : FuncId} {m : List Arg → Option Res} {args : List Arg} {vs : List Value} {w : World} {a b : Value} (hs : Sound P F m) (hm : m args = some (.tup [rSc a, rSc b])) (hr : RepAs w args vs) :
    Calls P F vs.toArray w fun e w' => e = .returned (.tuple #[a, b]) ∧ Below w.heap.size w w' := (hs args _ vs w hm hr).mono fun e w' ⟨u, γ, hdr, h1, h2, _, _, h5⟩ => by
  obtain ⟨us, rfl, hl, h6⟩ := h5
  obtain ⟨v, rfl⟩ := rest_vals (rest := [b]) hl h6
  obtain ⟨v', h7, h8⟩ := h6 0 _ _ rfl
  cases h7
  obtain ⟨x, e1, h9⟩ := h8
  cases e1
  cases h9
  exact ⟨h1, h2⟩
theorem done_spec (h1 : RdS w w.heap.size 1 cStr vh s.2.2.1) (h2 : RdS w w.heap.size 1 cBool vg s.2.2.2) (n1 : s.1.size ≤ 1048576) (n2 : s.2.2.1.length ≤ 1048576) (n3 : s.2.2.2.length ≤ 1048576) (ht : (s.2.2.1.map ByteArray.size).sum ≤ 1048576) :
    Calls Try.prog 16 #[.agg #[.string s.1, .int .i64 s.2.1, vh, vg]] w fun e w' => e = .returned (.tuple #[.string (doneS s), .bool (doneB s)]) ∧ Below w.heap.size w w' :=
  calls_saysT doneS_s (mdl_eq aSnap_inj s ⟨⟨n1, n2, n3⟩, ht⟩) (RepAs.mk1 (snap_arg h1 h2))
theorem done_impl (h1 : RdS w w.heap.size 1 cStr vh s.2.2.1) (h2 : RdS w w.heap.size 1 cBool vg s.2.2.2) (n1 : s.1.size ≤ 1048576) (n2 : s.2.2.1.length ≤ 1048576) (n3 : s.2.2.2.length ≤ 1048576) (ht : (s.2.2.1.map ByteArray.size).sum ≤ 1048576) :
    Calls Try.prog 17 #[.agg #[.string s.1, .int .i64 s.2.1, vh, vg]] w fun e w' => e = .returned (.tuple #[.string (doneS s), .bool (doneB s)]) ∧ Below w.heap.size w w' :=
  calls_saysT doneI_s (mdl_eq aSnap_inj s ⟨⟨n1, n2, n3⟩, ht⟩) (RepAs.mk1 (snap_arg h1 h2))
end

end Go.Proofs.Ytilgmdgipeimaaa
