/-
  Validators in a law's own functions: copied, compared, measured.
-/
import Derived.Test.YtimnogjgokljbaaGreatDoorG8
import Derived.Test.YtimnogjgokljbaaGreatDoorG9
import Derived.Test.YtimnogjgokljbaaGreatDoorG12
import Derived.Test.YtimnogjgokljbaaGreatDoorHValsOk
namespace Go.Proofs.YtimnogjgokljbaaGreatDoor
set_option maxRecDepth 100000
set_option linter.unusedVariables false
set_option linter.unusedSimpArgs false
open Go Go.RowKit
set_option maxHeartbeats 8000000
set_option linter.unusedVariables false

abbrev aVl (v : TVal) : Arg := .val true [.sc (.int .i64 v.1), .sc (.int .i64 v.2)]
theorem val_row {l : List TVal} {k : Nat} (h : k < l.length) : (rowsF cVal l)[k]? = some [.sc (.int .i64 l[k].1), .sc (.int .i64 l[k].2)] := rowsF_get cVal l k h
theorem aVl_inj : ∀ x y : TVal, [aVl x] = [aVl y] → x = y := by
  rintro ⟨a, b⟩ ⟨a', b'⟩ h
  simpa [aVl] using h
def padE {α : Type} (z : List Leaf) (f : α → List Leaf) (l : List α) (k : Nat) : List (List Leaf) := (l.take k).map f ++ List.replicate (l.length - k) z
theorem padE_len {α : Type} (z : List Leaf) (f : α → List Leaf) (l : List α) {k : Nat} (h : k ≤ l.length) : (padE z f l k).length = l.length := by simp [padE]; omega
theorem padE_zero {α : Type} (z : List Leaf) (f : α → List Leaf) (l : List α) : padE z f l 0 = List.replicate l.length z := by simp [padE]
theorem padE_all {α : Type} (z : List Leaf) (f : α → List Leaf) (l : List α) : padE z f l l.length = l.map f := by simp [padE]
theorem padE_get {α : Type} (z : List Leaf) (f : α → List Leaf) (l : List α) {k : Nat} (h : k < l.length) : (padE z f l k)[k]? = some z := by
  unfold padE
  rw [List.getElem?_append_right (by simp; omega)]
  simp [List.getElem?_replicate]
  omega
theorem padE_set {α : Type} (z : List Leaf) (f : α → List Leaf) (l : List α) {k : Nat} (h : k < l.length) : (padE z f l k).set k (f l[k]) = padE z f l (k + 1) := by
  unfold padE
  rw [List.set_append_right _ _ (by simp; omega)]
  have e1 : k - ((l.take k).map f).length = 0 := by simp; omega
  rw [e1, List.take_succ_eq_append_getElem h, List.map_append, List.append_assoc]
  congr 1
  obtain ⟨m, hm⟩ : ∃ m, l.length - k = m + 1 := ⟨l.length - k - 1, by omega⟩
  have hm2 : l.length - (k + 1) = m := by omega
  rw [hm, hm2, List.replicate_succ]
  rfl
def szE (tot : Nat) (left : Int) : Int := if (tot : Int) ≤ left then left - tot else -1
abbrev leftE (n : Int) : Prop := 0 ≤ n ∧ n ≤ 1048576
/-! validators -/
abbrev rVl (v : TVal) : Res := .comp true [.ro (.sc (.int .i64 v.1)), .ro (.sc (.int .i64 v.2))]
noncomputable def mToVl := mdl (fun _ : TVal => True) (fun v => [aVl v]) (fun v => rVl v)
theorem mToVl_eq (v : TVal) : mToVl [aVl v] = some (rVl v) := mdl_eq aVl_inj v trivial
theorem toVl_s : Sound Tryz.prog 85 mToVl := by
  refine Sound.mdl Tryz.func85 rfl Tryz.ntmps85 ?_
  rintro ⟨a, b⟩ w -
  refine ⟨by simp, ?_⟩
  have hΓ : GSound Tryz.prog (look []) := env_nil
  simp only [initS, argPV, List.map_cons, List.map_nil, toPL, Nat.zero_add]
  repeat (first | with_reducible (first | apply W.seq | apply W.block | apply W.skip | apply W.exit | apply W.ret | apply At.seqN | apply At.blkN | apply At.blkE | apply At.blkR | apply At.thenX | apply At.thenR | apply At.blkX rfl) | ((with_reducible apply W.ops); (repeat (first | refine WL.opA hΓ (h := ?_) | refine WL.opX hΓ (h := ?_) | refine WL.opY (h := ?_) | refine WL.opZ (h := ?_))); with_reducible apply WL.nil) | refine W.condT (h := ?_) | refine W.condF (h := ?_))
  refine At.retA (by rw [Tryz.results85]) (he := rfl)
noncomputable def mToVlS := mdl (fun l : List TVal => l.length ≤ 1048576) (fun l => [aL cVal l]) (fun l => rL 100 2 cVal l)
theorem mToVlS_eq (l : List TVal) (h : l.length ≤ 1048576) : mToVlS [aL cVal l] = some (rL 100 2 cVal l) := mdl_eq (by intro a b h; simpa using h) l h
theorem toVlS_s : Sound Tryz.prog 44 mToVlS := by
  refine Sound.mdl Tryz.func44 rfl Tryz.ntmps44 ?_
  rintro l w hl
  refine ⟨by simp, ?_⟩
  replace hl : l.length ≤ 1048576 := hl
  have hΓ : GSound Tryz.prog (look [(85, mToVl)]) := env_cons (has_of Tryz.func85 rfl rfl) toVl_s env_nil
  have hlen := rowsF_len cVal l
  have hz : List.replicate l.length [Leaf.sc (.int .i64 0), Leaf.sc (.int .i64 0)] = padE [Leaf.sc (.int .i64 0), Leaf.sc (.int .i64 0)] (fun v : TVal => (cVal v).map Leaf.sc) l 0 := (padE_zero _ _ _).symm
  simp only [initS, argPV, List.map_cons, List.map_nil, toPL, Nat.zero_add]
  repeat (first | with_reducible (first | apply W.seq | apply W.block | apply W.skip | apply W.exit | apply W.ret | apply At.seqN | apply At.blkN | apply At.blkE | apply At.blkR | apply At.thenX | apply At.thenR | apply At.blkX rfl) | ((with_reducible apply W.ops); (repeat (first | refine WL.opA hΓ (h := ?_) | refine WL.opX hΓ (h := ?_) | refine WL.opY (h := ?_) | refine WL.opZ (h := ?_))); with_reducible apply WL.nil) | refine W.condT (h := ?_) | refine W.condF (h := ?_))
  refine W.loopA (fun k => k ≤ l.length) (fun k : Nat => [.slot 4 (vI k), .slot 0 (vL cVal l), .slot 3 (one (.all 7)), .blk 7 (.arr .ft 100 2 (padE [Leaf.sc (.int .i64 0), Leaf.sc (.int .i64 0)] (fun v : TVal => (cVal v).map Leaf.sc) l k))]) (fun k => l.length - k) 0 (Nat.zero_le _) (h := ?_)
  rintro k hk
  clear hz
  have hpl := padE_len [Leaf.sc (.int .i64 0), Leaf.sc (.int .i64 0)] (fun v : TVal => (cVal v).map Leaf.sc) l hk
  by_cases hlt : k < l.length
  · have hrow := val_row hlt
    have hset : (padE [Leaf.sc (.int .i64 0), Leaf.sc (.int .i64 0)] (fun v : TVal => (cVal v).map Leaf.sc) l k).set k [.sc (.int .i64 l[k].1), .sc (.int .i64 l[k].2)] = padE [Leaf.sc (.int .i64 0), Leaf.sc (.int .i64 0)] (fun v : TVal => (cVal v).map Leaf.sc) l (k + 1) := padE_set _ _ l hlt
    have hold := padE_get [Leaf.sc (.int .i64 0), Leaf.sc (.int .i64 0)] (fun v : TVal => (cVal v).map Leaf.sc) l hlt
    have c1 := mToVl_eq l[k]
    generalize l[k] = x at hrow hset c1
    repeat (first | with_reducible (first | apply W.seq | apply W.block | apply W.skip | apply W.exit | apply W.ret | apply At.seqN | apply At.blkN | apply At.blkE | apply At.blkR | apply At.thenX | apply At.thenR | apply At.blkX rfl) | ((with_reducible apply W.ops); (repeat (first | refine WL.opA hΓ (h := ?_) | refine WL.opX hΓ (h := ?_) | refine WL.opY (h := ?_) | refine WL.opZ (h := ?_))); with_reducible apply WL.nil) | refine W.condT (h := ?_) | refine W.condF (h := ?_))
    exact At.roundA (k + 1) (by omega) (by omega)
  · have hke : k = l.length := by omega
    subst hke
    have hall := padE_all [Leaf.sc (.int .i64 0), Leaf.sc (.int .i64 0)] (fun v : TVal => (cVal v).map Leaf.sc) l
    repeat (first | with_reducible (first | apply W.seq | apply W.block | apply W.skip | apply W.exit | apply W.ret | apply At.seqN | apply At.blkN | apply At.blkE | apply At.blkR | apply At.thenX | apply At.thenR | apply At.blkX rfl) | ((with_reducible apply W.ops); (repeat (first | refine WL.opA hΓ (h := ?_) | refine WL.opX hΓ (h := ?_) | refine WL.opY (h := ?_) | refine WL.opZ (h := ?_))); with_reducible apply WL.nil) | refine W.condT (h := ?_) | refine W.condF (h := ?_))
    refine At.retA (by rw [Tryz.results44]) (he := ?_)
    first | rfl | (rw [hall]; rfl)
noncomputable def mEqVl := mdl (fun _ : TVal × TVal => True) (fun x => [aVl x.1, aVl x.2]) (fun x => rB (decide (x.1 = x.2)))
theorem mEqVl_eq (x y : TVal) : mEqVl [aVl x, aVl y] = some (rB (decide (x = y))) := mdl_eq (by
  rintro ⟨⟨a, b⟩, ⟨c, d⟩⟩ ⟨⟨a', b'⟩, ⟨c', d'⟩⟩ h
  simp at h
  simp [h]) (x, y) trivial
theorem eqVl_s : Sound Tryz.prog 94 mEqVl := by
  refine Sound.mdl Tryz.func94 rfl Tryz.ntmps94 ?_
  rintro ⟨⟨a, b⟩, ⟨c, d⟩⟩ w -
  refine ⟨by simp, ?_⟩
  have hΓ : GSound Tryz.prog (look []) := env_nil
  simp only [initS, argPV, List.map_cons, List.map_nil, toPL, Nat.zero_add]
  by_cases h1 : a = c
  · subst h1
    by_cases h2 : b = d
    · subst h2
      repeat (first | with_reducible (first | apply W.seq | apply W.block | apply W.skip | apply W.exit | apply W.ret | apply At.seqN | apply At.blkN | apply At.blkE | apply At.blkR | apply At.thenX | apply At.thenR | apply At.blkX rfl) | ((with_reducible apply W.ops); (repeat (first | refine WL.opA hΓ (h := ?_) | refine WL.opX hΓ (h := ?_) | refine WL.opY (h := ?_) | refine WL.opZ (h := ?_))); with_reducible apply WL.nil) | refine W.condT (h := ?_) | refine W.condF (h := ?_))
      refine At.retA (by rw [Tryz.results94]) (he := ?_)
      simp
    · repeat (first | with_reducible (first | apply W.seq | apply W.block | apply W.skip | apply W.exit | apply W.ret | apply At.seqN | apply At.blkN | apply At.blkE | apply At.blkR | apply At.thenX | apply At.thenR | apply At.blkX rfl) | ((with_reducible apply W.ops); (repeat (first | refine WL.opA hΓ (h := ?_) | refine WL.opX hΓ (h := ?_) | refine WL.opY (h := ?_) | refine WL.opZ (h := ?_))); with_reducible apply WL.nil) | refine W.condT (h := ?_) | refine W.condF (h := ?_))
      refine At.retA (by rw [Tryz.results94]) (he := ?_)
      simp [h2]
  · repeat (first | with_reducible (first | apply W.seq | apply W.block | apply W.skip | apply W.exit | apply W.ret | apply At.seqN | apply At.blkN | apply At.blkE | apply At.blkR | apply At.thenX | apply At.thenR | apply At.blkX rfl) | ((with_reducible apply W.ops); (repeat (first | refine WL.opA hΓ (h := ?_) | refine WL.opX hΓ (h := ?_) | refine WL.opY (h := ?_) | refine WL.opZ (h := ?_))); with_reducible apply WL.nil) | refine W.condT (h := ?_) | refine W.condF (h := ?_))
    refine At.retA (by rw [Tryz.results94]) (he := ?_)
    simp [h1]
/-! rows of validators: equal? -/
noncomputable def mEqVS := mdl (fun x : List TVal × List TVal => x.1.length ≤ 8796093022207 ∧ x.2.length ≤ 8796093022207) (fun x => [aL cVal x.1, aL cVal x.2]) (fun x => rB (decide (x.1 = x.2)))
theorem mEqVS_eq (a b : List TVal) (h1 : a.length ≤ 8796093022207) (h2 : b.length ≤ 8796093022207) : mEqVS [aL cVal a, aL cVal b] = some (rB (decide (a = b))) := mdl_eq (by rintro ⟨a, b⟩ ⟨d, e⟩ h; simpa using h) (a, b) ⟨h1, h2⟩
theorem same_at {α : Type} {a b : List α} (hl : a.length = b.length) (h : ∀ j, (hj : j < a.length) → a[j] = b[j]'(by omega)) : a = b := List.ext_getElem hl fun j h1 h2 => h j h1
def SameK {α : Type} (a b : List α) (k : Nat) : Prop := ∀ j, j < k → a[j]? = b[j]?
theorem SameK.next {α : Type} {a b : List α} {k : Nat} (h : SameK a b k) (h1 : k < a.length) (h2 : k < b.length) (he : a[k] = b[k]) : SameK a b (k + 1) := fun j hj => by
  rcases Nat.lt_succ_iff_lt_or_eq.1 hj with h3 | rfl
  · exact h j h3
  · rw [List.getElem?_eq_getElem h1, List.getElem?_eq_getElem h2, he]
theorem SameK.all {α : Type} {a b : List α} (hl : a.length = b.length) (h : SameK a b a.length) : a = b := List.ext_getElem? fun j => by
  rcases Nat.lt_or_ge j a.length with h1 | h1
  · exact h j h1
  · rw [List.getElem?_eq_none h1, List.getElem?_eq_none (by omega)]
theorem ne_at {α : Type} {a b : List α} {k : Nat} (h1 : k < a.length) (h2 : k < b.length) (he : a[k] ≠ b[k]) : a ≠ b := fun h => by subst h; exact he rfl
theorem eqVS_s : Sound Tryz.prog 50 mEqVS := by
  refine Sound.mdl Tryz.func50 rfl Tryz.ntmps50 ?_
  rintro ⟨a, b⟩ w ⟨ha, hb⟩
  refine ⟨by simp, ?_⟩
  dsimp only at ha hb
  have hΓ : GSound Tryz.prog (look [(94, mEqVl)]) := env_cons (has_of Tryz.func94 rfl rfl) eqVl_s env_nil
  simp only [initS, argPV, List.map_cons, List.map_nil, toPL, Nat.zero_add]
  by_cases hl : a.length = b.length
  · have hli : ((a.length : Nat) : Int) = ((b.length : Nat) : Int) := by omega
    repeat (first | with_reducible (first | apply W.seq | apply W.block | apply W.skip | apply W.exit | apply W.ret | apply At.seqN | apply At.blkN | apply At.blkE | apply At.blkR | apply At.thenX | apply At.thenR | apply At.blkX rfl) | ((with_reducible apply W.ops); (repeat (first | refine WL.opA hΓ (h := ?_) | refine WL.opX hΓ (h := ?_) | refine WL.opY (h := ?_) | refine WL.opZ (h := ?_))); with_reducible apply WL.nil) | refine W.condT (h := ?_) | refine W.condF (h := ?_))
    refine W.loopA (fun k => k ≤ a.length ∧ SameK a b k) (fun k : Nat => [.slot 5 (vI k), .slot 0 (vL cVal a), .slot 1 (vL cVal b)]) (fun k => a.length - k) 0 ⟨Nat.zero_le _, fun j hj => by omega⟩ (h := ?_)
    rintro k ⟨hk, hS⟩
    have hS := Lib.hid hS
    by_cases hlt : k < a.length
    · have hlb : k < b.length := by omega
      have hra := val_row hlt
      have hrb := val_row hlb
      have c := mEqVl_eq a[k] b[k]
      by_cases he : a[k] = b[k]
      · have hn := hS.out.next hlt hlb he
        have hn := Lib.hid hn
        rw [decide_eq_true he] at c
        clear he hS hl
        generalize a[k] = x at *
        generalize b[k] = y at *
        repeat (first | with_reducible (first | apply W.seq | apply W.block | apply W.skip | apply W.exit | apply W.ret | apply At.seqN | apply At.blkN | apply At.blkE | apply At.blkR | apply At.thenX | apply At.thenR | apply At.blkX rfl) | ((with_reducible apply W.ops); (repeat (first | refine WL.opA hΓ (h := ?_) | refine WL.opX hΓ (h := ?_) | refine WL.opY (h := ?_) | refine WL.opZ (h := ?_))); with_reducible apply WL.nil) | refine W.condT (h := ?_) | refine W.condF (h := ?_))
        refine W.drawsA hΓ 10 [[], [], [0, 1], [0, 1, 2], [], [], [4, 5], [4, 5, 6], [0, 1, 2, 3, 4, 5, 6, 7], [0, 1, 2, 3, 4, 5, 6, 7, 8]] (rest := ?rest23) (Es := ?Es23) (st1 := ?st123) (h := ?h23) (hf := ?hf23) (hp := ?hp23) (hd := ?hd23) (hfr := ?hfr23) (hst := ?hst23) (hT := ?hT23)
        case h23 => kernel_rfl
        case hf23 =>
          repeat (first | refine FlowT.opA (h := ?_) | refine FlowT.opX (h := ?_) | refine FlowT.opY (h := ?_) | refine FlowT.opZ (h := ?_))
          exact FlowT.done
        case hp23 => rfl
        case hd23 => rfl
        case hfr23 => rfl
        case hst23 =>
          simp only [pick_nil, pick_all, List.cons_append, List.nil_append]
          rfl
        (repeat (first | refine WL.opA hΓ (h := ?_) | refine WL.opX hΓ (h := ?_) | refine WL.opY (h := ?_) | refine WL.opZ (h := ?_)))
        with_reducible apply WL.nil
        repeat (first | with_reducible (first | apply W.seq | apply W.block | apply W.skip | apply W.exit | apply W.ret | apply At.seqN | apply At.blkN | apply At.blkE | apply At.blkR | apply At.thenX | apply At.thenR | apply At.blkX rfl) | ((with_reducible apply W.ops); (repeat (first | refine WL.opA hΓ (h := ?_) | refine WL.opX hΓ (h := ?_) | refine WL.opY (h := ?_) | refine WL.opZ (h := ?_))); with_reducible apply WL.nil) | refine W.condT (h := ?_) | refine W.condF (h := ?_))
        exact At.roundA (k + 1) ⟨by omega, hn.out⟩ (by omega)
      · have hne := decide_eq_false (ne_at hlt hlb he)
        rw [decide_eq_false he] at c
        clear he hS hl
        generalize a[k] = x at *
        generalize b[k] = y at *
        repeat (first | with_reducible (first | apply W.seq | apply W.block | apply W.skip | apply W.exit | apply W.ret | apply At.seqN | apply At.blkN | apply At.blkE | apply At.blkR | apply At.thenX | apply At.thenR | apply At.blkX rfl) | ((with_reducible apply W.ops); (repeat (first | refine WL.opA hΓ (h := ?_) | refine WL.opX hΓ (h := ?_) | refine WL.opY (h := ?_) | refine WL.opZ (h := ?_))); with_reducible apply WL.nil) | refine W.condT (h := ?_) | refine W.condF (h := ?_))
        refine W.drawsA hΓ 10 [[], [], [0, 1], [0, 1, 2], [], [], [4, 5], [4, 5, 6], [0, 1, 2, 3, 4, 5, 6, 7], [0, 1, 2, 3, 4, 5, 6, 7, 8]] (rest := ?rest26) (Es := ?Es26) (st1 := ?st126) (h := ?h26) (hf := ?hf26) (hp := ?hp26) (hd := ?hd26) (hfr := ?hfr26) (hst := ?hst26) (hT := ?hT26)
        case h26 => kernel_rfl
        case hf26 =>
          repeat (first | refine FlowT.opA (h := ?_) | refine FlowT.opX (h := ?_) | refine FlowT.opY (h := ?_) | refine FlowT.opZ (h := ?_))
          exact FlowT.done
        case hp26 => rfl
        case hd26 => rfl
        case hfr26 => rfl
        case hst26 =>
          simp only [pick_nil, pick_all, List.cons_append, List.nil_append]
          rfl
        (repeat (first | refine WL.opA hΓ (h := ?_) | refine WL.opX hΓ (h := ?_) | refine WL.opY (h := ?_) | refine WL.opZ (h := ?_)))
        with_reducible apply WL.nil
        repeat (first | with_reducible (first | apply W.seq | apply W.block | apply W.skip | apply W.exit | apply W.ret | apply At.seqN | apply At.blkN | apply At.blkE | apply At.blkR | apply At.thenX | apply At.thenR | apply At.blkX rfl) | ((with_reducible apply W.ops); (repeat (first | refine WL.opA hΓ (h := ?_) | refine WL.opX hΓ (h := ?_) | refine WL.opY (h := ?_) | refine WL.opZ (h := ?_))); with_reducible apply WL.nil) | refine W.condT (h := ?_) | refine W.condF (h := ?_))
        refine At.retA (by rw [Tryz.results50]) (he := ?_)
        simp only [hne]
    · have hke : k = a.length := by omega
      have hE : a = b := by rw [hke] at hS; exact hS.out.all hl
      have hE := Lib.hid (decide_eq_true hE)
      clear hl hli
      repeat (first | with_reducible (first | apply W.seq | apply W.block | apply W.skip | apply W.exit | apply W.ret | apply At.seqN | apply At.blkN | apply At.blkE | apply At.blkR | apply At.thenX | apply At.thenR | apply At.blkX rfl) | ((with_reducible apply W.ops); (repeat (first | refine WL.opA hΓ (h := ?_) | refine WL.opX hΓ (h := ?_) | refine WL.opY (h := ?_) | refine WL.opZ (h := ?_))); with_reducible apply WL.nil) | refine W.condT (h := ?_) | refine W.condF (h := ?_))
      refine At.retA (by rw [Tryz.results50]) (he := ?_)
      rw [hE.out]
  · have hli : ¬ ((a.length : Nat) : Int) = ((b.length : Nat) : Int) := by omega
    have hne : decide (a = b) = false := decide_eq_false fun h => hl (by rw [h])
    clear hl
    repeat (first | with_reducible (first | apply W.seq | apply W.block | apply W.skip | apply W.exit | apply W.ret | apply At.seqN | apply At.blkN | apply At.blkE | apply At.blkR | apply At.thenX | apply At.thenR | apply At.blkX rfl) | ((with_reducible apply W.ops); (repeat (first | refine WL.opA hΓ (h := ?_) | refine WL.opX hΓ (h := ?_) | refine WL.opY (h := ?_) | refine WL.opZ (h := ?_))); with_reducible apply WL.nil) | refine W.condT (h := ?_) | refine W.condF (h := ?_))
    refine At.retA (by rw [Tryz.results50]) (he := ?_)
    simp only [hne]
noncomputable def mSzVS := mdl (fun x : List TVal × Int => x.1.length ≤ 8796093022207 ∧ leftE x.2) (fun x => [aL cVal x.1, aI x.2]) (fun x => rI (szE x.1.length x.2))
theorem mSzVS_eq (l : List TVal) (n : Int) (h1 : l.length ≤ 8796093022207) (h2 : leftE n) : mSzVS [aL cVal l, aI n] = some (rI (szE l.length n)) := mdl_eq (by rintro ⟨a, b⟩ ⟨d, e⟩ h; simpa using h) (l, n) ⟨h1, h2⟩
theorem szVS_s : Sound Tryz.prog 36 mSzVS := by
  refine Sound.mdl Tryz.func36 rfl Tryz.ntmps36 ?_
  rintro ⟨l, n⟩ w ⟨hl, n1, n2⟩
  refine ⟨by simp, ?_⟩
  dsimp only at hl n1 n2
  have hΓ : GSound Tryz.prog (look []) := env_nil
  have hlen := rowsF_len cVal l
  simp only [initS, argPV, List.map_cons, List.map_nil, toPL, Nat.zero_add]
  by_cases b1 : (l.length : Int) ≤ n
  · have hr : szE l.length n = n - l.length := if_pos b1
    repeat (first | with_reducible (first | apply W.seq | apply W.block | apply W.skip | apply W.exit | apply W.ret | apply At.seqN | apply At.blkN | apply At.blkE | apply At.blkR | apply At.thenX | apply At.thenR | apply At.blkX rfl) | ((with_reducible apply W.ops); (repeat (first | refine WL.opA hΓ (h := ?_) | refine WL.opX hΓ (h := ?_) | refine WL.opY (h := ?_) | refine WL.opZ (h := ?_))); with_reducible apply WL.nil) | refine W.condT (h := ?_) | refine W.condF (h := ?_))
    refine At.retA (by rw [Tryz.results36]) (he := ?_)
    rw [hr]
  · have hr : szE l.length n = -1 := if_neg b1
    repeat (first | with_reducible (first | apply W.seq | apply W.block | apply W.skip | apply W.exit | apply W.ret | apply At.seqN | apply At.blkN | apply At.blkE | apply At.blkR | apply At.thenX | apply At.thenR | apply At.blkX rfl) | ((with_reducible apply W.ops); (repeat (first | refine WL.opA hΓ (h := ?_) | refine WL.opX hΓ (h := ?_) | refine WL.opY (h := ?_) | refine WL.opZ (h := ?_))); with_reducible apply WL.nil) | refine W.condT (h := ?_) | refine W.condF (h := ?_))
    refine At.retA (by rw [Tryz.results36]) (he := ?_)
    rw [hr]
end Go.Proofs.YtimnogjgokljbaaGreatDoor
