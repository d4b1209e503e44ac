/-
  PoolAdd: its callees.
-/
import Derived.Test.YtlchfjjoendimaaEvPool
import Derived.Test.YtlchfjjoendimaaEvSort
import Derived.Test.YtlchfjjoendimaaSortL
namespace Go.Proofs.Ytlchfjjoendimaa
set_option maxRecDepth 100000
set_option linter.unusedVariables false
set_option linter.unusedSimpArgs false
open Go Go.RowKit Go.Shelf Go.Sort
set_option maxHeartbeats 4000000

def keyLt (a b : TTx) : Prop := a.1 < b.1 ∨ a.1 = b.1 ∧ a.2.1 < b.2.1
def keyEq (a b : TTx) : Prop := a.1 = b.1 ∧ a.2.1 = b.2.1
instance (a b : TTx) : Decidable (keyLt a b) := by unfold keyLt; infer_instance
instance (a b : TTx) : Decidable (keyEq a b) := by unfold keyEq; infer_instance
def cmpX (a b : TTx) : Int := if a.1 < b.1 then -1 else if b.1 < a.1 then 1 else if a.2.1 < b.2.1 then -1 else if b.2.1 < a.2.1 then 1 else 0
theorem cmpX_lt (a b : TTx) : cmpX a b < 0 ↔ keyLt a b := by
  unfold cmpX keyLt
  repeat' split
  all_goals omega
theorem cmpX_swo : SWO (ltOf cmpX) where
  irrefl x := by
    have := cmpX_lt x x
    simp only [ltOf, decide_eq_false_iff_not, this, keyLt]; omega
  trans x y z h1 h2 := by
    simp only [ltOf, decide_eq_true_eq, cmpX_lt, keyLt] at *; omega
  ntrans x y z h1 h2 := by
    simp only [ltOf, decide_eq_false_iff_not, cmpX_lt, keyLt] at *; omega
theorem compareTx_says : CmpSays Try.prog 99 cTx cmpX := by
  rintro ⟨a1, a2, a3⟩ ⟨b1, b2, b3⟩ w
  show Calls _ _ #[.agg #[.int .i64 a1, .int .i64 a2, .int .i64 a3], .agg #[.int .i64 b1, .int .i64 b2, .int .i64 b3]] w _
  unfold cmpX
  dsimp only
  rcases Int.lt_trichotomy a1 b1 with h1 | h1 | h1
  · rw [if_pos h1]
    have h2 : ¬ a1 = b1 := by omega
    go_enter Try.func99, Try.ntmps99
    go_wp2
    go_ret
    exact ⟨rfl, _, by rw [alloc_eq_grow, alloc_eq_grow, grow_grow]⟩
  · subst h1
    rw [if_neg (by omega), if_neg (by omega)]
    rcases Int.lt_trichotomy a2 b2 with h1 | h1 | h1
    · rw [if_pos h1]
      go_enter Try.func99, Try.ntmps99
      go_wp2
      go_ret
      exact ⟨rfl, _, by rw [alloc_eq_grow, alloc_eq_grow, grow_grow]⟩
    · subst h1
      rw [if_neg (by omega), if_neg (by omega)]
      go_enter Try.func99, Try.ntmps99
      go_wp2
      go_ret
      exact ⟨rfl, _, by rw [alloc_eq_grow, alloc_eq_grow, grow_grow]⟩
    · rw [if_neg (by omega), if_pos h1]
      have h2 : ¬ a2 < b2 := by omega
      go_enter Try.func99, Try.ntmps99
      go_wp2
      go_ret
      exact ⟨rfl, _, by rw [alloc_eq_grow, alloc_eq_grow, grow_grow]⟩
  · rw [if_neg (by omega), if_pos h1]
    have h2 : ¬ a1 = b1 := by omega
    have h3 : ¬ a1 < b1 := by omega
    go_enter Try.func99, Try.ntmps99
    go_wp2
    go_ret
    exact ⟨rfl, _, by rw [alloc_eq_grow, alloc_eq_grow, grow_grow]⟩
theorem sortTx_s : SortsBy Try.prog 98 99 cTx 3 cmpX :=
  sorts_of Try.sortTx Try.isAgg44 Try.sizeOf44 (fun _ => rfl) (fun x v hv => by simp only [cTx, List.mem_cons, List.not_mem_nil, or_false] at hv; rcases hv with rfl | rfl | rfl <;> rfl) cmpX cmpX_swo (enters_of Try.func99 (by kernel_rfl) rfl) compareTx_says
abbrev aTx (t : TTx) : Arg := .val true [.sc (.int .i64 t.1), .sc (.int .i64 t.2.1), .sc (.int .i64 t.2.2)]
abbrev bTx (t : TTx) : List Leaf := [.sc (.int .i64 t.1), .sc (.int .i64 t.2.1), .sc (.int .i64 t.2.2)]
theorem tx_row {l : List TTx} {k : Nat} (h : k < l.length) : (rowsF cTx l)[k]? = some (bTx l[k]) := rowsF_get cTx l k h
theorem cTx_app (l : List TTx) (t : TTx) : rowsF cTx l ++ [bTx t] = rowsF cTx (l ++ [t]) := by rw [← rowsF_app]; rfl
noncomputable def mCpTx := mdl (fun l : List TTx => l.length ≤ 1048576) (fun l => [aL cTx l]) (fun l => rL 44 3 cTx l)
@[simp] theorem rowsF_TTx {a b : List TTx} : rowsF cTx a = rowsF cTx b ↔ a = b := rowsF_iff fun x y h => by
  obtain ⟨a, b, c⟩ := x
  obtain ⟨d, e, f⟩ := y
  simpa [cTx] using h
theorem mCpTx_eq (l : List TTx) (h : l.length ≤ 1048576) : mCpTx [aL cTx l] = some (rL 44 3 cTx l) := mdl_eq (by intro a b h; simpa using h) l h
theorem cpTx_s : Sound Try.prog 95 mCpTx := by
  refine Sound.mdl Try.func95 rfl Try.ntmps95 ?_
  rintro l w hl
  refine ⟨by simp, ?_⟩
  replace hl : l.length ≤ 1048576 := hl
  have hΓ : GSound Try.prog (look []) := env_nil
  have hw : wid 3 (rowsF cTx l) := rowsF_wid (f := cTx) (fun _ => rfl) l
  have hnil : ([] : List (List Leaf)) ++ rowsF cTx l = rowsF cTx l := rfl
  simp only [initS, argPV, List.map_cons, List.map_nil, toPL, Nat.zero_add]
  repeat (first | with_reducible apply W.seq | with_reducible apply W.block | with_reducible apply W.skip | with_reducible apply W.exit | with_reducible apply W.ret | with_reducible apply At.seqN | with_reducible apply At.blkN | with_reducible apply At.blkE | with_reducible apply At.blkR | with_reducible apply At.thenX | with_reducible apply At.thenR | with_reducible apply At.blkX rfl | ((with_reducible apply W.ops); (repeat (first | refine WL.opA hΓ (h := ?_) | refine WL.opX hΓ (h := ?_) | refine WL.opY (h := ?_) | refine WL.opZ (h := ?_))); with_reducible apply WL.nil) | refine W.condT (h := ?_) | refine W.condF (h := ?_))
  refine At.retA (by rw [Try.results95]) (he := rfl)
noncomputable def mKeyT := mdl (fun _ : TTx × TTx => True) (fun x => [aTx x.1, .row (bTx x.2) 0]) (fun x => rB (decide (keyEq x.1 x.2)))
theorem mKeyT_eq (x t : TTx) : mKeyT [aTx x, .row (bTx t) 0] = some (rB (decide (keyEq x t))) := mdl_eq (by
  rintro ⟨⟨a, b, c⟩, ⟨a2, b2, c2⟩⟩ ⟨⟨d, e, f⟩, ⟨d2, e2, f2⟩⟩ h
  simp at h
  simp [h]) (x, t) trivial
theorem keyT_s : Sound Try.prog 97 mKeyT := by
  refine Sound.mdl Try.func97 rfl Try.ntmps97 ?_
  rintro ⟨⟨a, b, c⟩, ⟨d, e, f⟩⟩ w -
  refine ⟨by simp, ?_⟩
  have hΓ : GSound Try.prog (look []) := env_nil
  simp only [initS, argPV, List.map_cons, List.map_nil, toPL, Nat.zero_add]
  by_cases h1 : a = d
  · subst h1
    repeat (first | with_reducible apply W.seq | with_reducible apply W.block | with_reducible apply W.skip | with_reducible apply W.exit | with_reducible apply W.ret | with_reducible apply At.seqN | with_reducible apply At.blkN | with_reducible apply At.blkE | with_reducible apply At.blkR | with_reducible apply At.thenX | with_reducible apply At.thenR | with_reducible apply At.blkX rfl | ((with_reducible apply W.ops); (repeat (first | refine WL.opA hΓ (h := ?_) | refine WL.opX hΓ (h := ?_) | refine WL.opY (h := ?_) | refine WL.opZ (h := ?_))); with_reducible apply WL.nil) | refine W.condT (h := ?_) | refine W.condF (h := ?_))
    refine At.retA (by rw [Try.results97]) (he := ?_)
    simp [keyEq]
  · repeat (first | with_reducible apply W.seq | with_reducible apply W.block | with_reducible apply W.skip | with_reducible apply W.exit | with_reducible apply W.ret | with_reducible apply At.seqN | with_reducible apply At.blkN | with_reducible apply At.blkE | with_reducible apply At.blkR | with_reducible apply At.thenX | with_reducible apply At.thenR | with_reducible apply At.blkX rfl | ((with_reducible apply W.ops); (repeat (first | refine WL.opA hΓ (h := ?_) | refine WL.opX hΓ (h := ?_) | refine WL.opY (h := ?_) | refine WL.opZ (h := ?_))); with_reducible apply WL.nil) | refine W.condT (h := ?_) | refine W.condF (h := ?_))
    refine At.retA (by rw [Try.results97]) (he := ?_)
    simp [keyEq, h1]
def idxP {α : Type} (p : α → Bool) (l : List α) : Int := if l.findIdx p < l.length then (l.findIdx p : Int) else -1
theorem idxP_at {α : Type} {p : α → Bool} {l : List α} {k : Nat} (hk : k < l.length) (hn : ∀ j, (h : j < k) → p l[j] = false) (hx : p l[k] = true) : idxP p l = k := by
  have : l.findIdx p = k := (List.findIdx_eq hk).2 ⟨hx, fun j hj => hn j hj⟩
  unfold idxP
  rw [this, if_pos hk]
theorem idxP_no {α : Type} {p : α → Bool} {l : List α} (hn : ∀ j, (h : j < l.length) → p l[j] = false) : idxP p l = -1 := by
  unfold idxP
  rw [if_neg]
  intro h
  have h1 := List.findIdx_getElem (p := p) (w := h)
  rw [hn _ h] at h1
  cases h1
noncomputable def mIdxT (f : FuncId) (boxes : List (List Leaf)) (p : TTx → Bool) := mdl (fun l : List TTx => l.length ≤ 8796093022207) (fun l => [aL cTx l, .clo f boxes]) (fun l => rI (idxP p l))
theorem mIdxT_eq (f : FuncId) (boxes : List (List Leaf)) (p : TTx → Bool) (l : List TTx) (h : l.length ≤ 8796093022207) : mIdxT f boxes p [aL cTx l, .clo f boxes] = some (rI (idxP p l)) := mdl_eq (by intro a b h; simpa using h) l h
theorem idxT_s {f : FuncId} {boxes : List (List Leaf)} {p : TTx → Bool} {mf : List Arg → Option Res} (hf : Has Try.prog f) (hs : Sound Try.prog f mf) (hm : ∀ x, mf ([aTx x] ++ boxes.map fun c => .row c 0) = some (rB (p x))) : Sound Try.prog 96 (mIdxT f boxes p) := by
  refine Sound.mdl Try.func96 rfl Try.ntmps96 ?_
  rintro l w hl
  refine ⟨by simp, ?_⟩
  replace hl : l.length ≤ 8796093022207 := hl
  have hΓ : GSound Try.prog (look [(f, mf)]) := env_cons hf hs env_nil
  clear hs hf
  simp only [initS, argPV, List.map_cons, List.map_nil, toPL, Nat.zero_add]
  repeat (first | with_reducible apply W.seq | with_reducible apply W.block | with_reducible apply W.skip | with_reducible apply W.exit | with_reducible apply W.ret | with_reducible apply At.seqN | with_reducible apply At.blkN | with_reducible apply At.blkE | with_reducible apply At.blkR | with_reducible apply At.thenX | with_reducible apply At.thenR | with_reducible apply At.blkX rfl | ((with_reducible apply W.ops); (repeat (first | refine WL.opA hΓ (h := ?_) | refine WL.opX hΓ (h := ?_) | refine WL.opY (h := ?_) | refine WL.opZ (h := ?_))); with_reducible apply WL.nil) | refine W.condT (h := ?_) | refine W.condF (h := ?_))
  refine W.loopA (fun k => k ≤ l.length ∧ ∀ j, (h : j < k) → ∀ hj : j < l.length, p l[j] = false) (fun k : Nat => [.slot 8 (vI k), .slot 7 (vI l.length), .slot 0 (vL cTx l), .slot 1 (one (.clo f boxes))]) (fun k => l.length - k) 0 ⟨Nat.zero_le _, fun j hj => by omega⟩ (h := ?_)
  rintro k ⟨hk, hn⟩
  by_cases hlt : k < l.length
  · have hrow := tx_row hlt
    have hm := hm l[k]
    simp only [List.cons_append, List.nil_append] at hm
    cases hp : p l[k] with
    | true =>
      have hv := idxP_at (p := p) hlt (fun j hj => hn j hj _) hp
      rw [hp] at hm
      clear hn hp
      generalize l[k] = x at hrow hm
      obtain ⟨a, b, c⟩ := x
      dsimp only [aTx, bTx] at hm hrow
      repeat (first | with_reducible apply W.seq | with_reducible apply W.block | with_reducible apply W.skip | with_reducible apply W.exit | with_reducible apply W.ret | with_reducible apply At.seqN | with_reducible apply At.blkN | with_reducible apply At.blkE | with_reducible apply At.blkR | with_reducible apply At.thenX | with_reducible apply At.thenR | with_reducible apply At.blkX rfl | ((with_reducible apply W.ops); (repeat (first | refine WL.opA hΓ (h := ?_) | refine WL.opX hΓ (h := ?_) | refine WL.opY (h := ?_) | refine WL.opZ (h := ?_))); with_reducible apply WL.nil) | refine W.condT (h := ?_) | refine W.condF (h := ?_))
      refine At.retA (by rw [Try.results96]) (he := ?_)
      rw [hv]
    | false =>
      have hnx : ∀ j, (h : j < k + 1) → ∀ hj : j < l.length, p l[j] = false := fun j h hj => by
        rcases Nat.lt_or_ge j k with h1 | h1
        · exact hn j h1 hj
        · have : j = k := by omega
          subst this
          exact hp
      rw [hp] at hm
      clear hn hp
      generalize l[k] = x at hrow hm
      obtain ⟨a, b, c⟩ := x
      dsimp only [aTx, bTx] at hm hrow
      repeat (first | with_reducible apply W.seq | with_reducible apply W.block | with_reducible apply W.skip | with_reducible apply W.exit | with_reducible apply W.ret | with_reducible apply At.seqN | with_reducible apply At.blkN | with_reducible apply At.blkE | with_reducible apply At.blkR | with_reducible apply At.thenX | with_reducible apply At.thenR | with_reducible apply At.blkX rfl | ((with_reducible apply W.ops); (repeat (first | refine WL.opA hΓ (h := ?_) | refine WL.opX hΓ (h := ?_) | refine WL.opY (h := ?_) | refine WL.opZ (h := ?_))); with_reducible apply WL.nil) | refine W.condT (h := ?_) | refine W.condF (h := ?_))
      exact At.roundA (k + 1) ⟨by omega, hnx⟩ (by omega)
  · have hv := idxP_no (p := p) (l := l) (fun j hj => hn j (by omega) hj)
    clear hn
    repeat (first | with_reducible apply W.seq | with_reducible apply W.block | with_reducible apply W.skip | with_reducible apply W.exit | with_reducible apply W.ret | with_reducible apply At.seqN | with_reducible apply At.blkN | with_reducible apply At.blkE | with_reducible apply At.blkR | with_reducible apply At.thenX | with_reducible apply At.thenR | with_reducible apply At.blkX rfl | ((with_reducible apply W.ops); (repeat (first | refine WL.opA hΓ (h := ?_) | refine WL.opX hΓ (h := ?_) | refine WL.opY (h := ?_) | refine WL.opZ (h := ?_))); with_reducible apply WL.nil) | refine W.condT (h := ?_) | refine W.condF (h := ?_))
    refine At.retA (by rw [Try.results96]) (he := ?_)
    rw [hv]
end Go.Proofs.Ytlchfjjoendimaa
