/-
  Contracts of the smallest functions, by the evaluator.
-/
import Derived.Test.YtimnogjgokljbaaEvAuto
namespace Go.Proofs.Ytimnogjgokljbaa
set_option maxRecDepth 100000
set_option linter.unusedVariables false
set_option linter.unusedSimpArgs false
open Go Go.RowKit

theorem rowsF_iff {α : Type} {f : α → List Value} (hf : ∀ x y, f x = f y → x = y) {a b : List α} : rowsF f a = rowsF f b ↔ a = b := ⟨rowsF_inj hf, fun h => by rw [h]⟩
@[simp] theorem rowsF_Int {a b : List Int} : rowsF cInt a = rowsF cInt b ↔ a = b := rowsF_iff fun x y h => by simpa [cInt] using h
@[simp] theorem rowsF_Str {a b : List ByteArray} : rowsF cStr a = rowsF cStr b ↔ a = b := rowsF_iff fun x y h => by simpa [cStr] using h
@[simp] theorem rowsF_Bool {a b : List Bool} : rowsF cBool a = rowsF cBool b ↔ a = b := rowsF_iff fun x y h => by simpa [cBool] using h
abbrev aI (n : Int) : Arg := .val false [.sc (.int .i64 n)]
abbrev aB (b : Bool) : Arg := .val false [.sc (.bool b)]
abbrev aS (s : ByteArray) : Arg := .val false [.sc (.string s)]
abbrev aL {α : Type} (f : α → List Value) (l : List α) : Arg := .val false [.sl (rowsF f l)]
abbrev rI (n : Int) : Res := .comp false [.ro (.sc (.int .i64 n))]
abbrev rB (b : Bool) : Res := .comp false [.ro (.sc (.bool b))]
abbrev rS (s : ByteArray) : Res := .comp false [.ro (.sc (.string s))]
abbrev vI (n : Int) : PV := one (.sc (.int .i64 n))
abbrev vB (b : Bool) : PV := one (.sc (.bool b))
abbrev vS (s : ByteArray) : PV := one (.sc (.string s))
abbrev vL {α : Type} (f : α → List Value) (l : List α) : PV := one (.sl (rowsF f l))

noncomputable def mWithin := mdl (fun _ : Int × Int × Int => True) (fun x => [aI x.1, aI x.2.1, aI x.2.2]) (fun x => rB (decide (x.2.1 ≤ x.1 ∧ x.1 ≤ x.2.2)))
theorem mWithin_eq (x lo hi : Int) : mWithin [aI x, aI lo, aI hi] = some (rB (decide (lo ≤ x ∧ x ≤ hi))) := mdl_eq (by rintro ⟨a, b, c⟩ ⟨d, e, f⟩ h; simpa using h) (x, lo, hi) trivial
set_option maxHeartbeats 4000000
theorem within_s : Sound Try.prog 53 mWithin := by
  refine Sound.mdl Try.func53 rfl Try.ntmps53 ?_
  rintro ⟨x, lo, hi⟩ w -
  refine ⟨by simp, ?_⟩
  have hΓ : GSound Try.prog (look []) := env_nil
  simp only [initS, argPV, List.map_cons, List.map_nil, toPL, Nat.zero_add]
  by_cases h1 : lo ≤ x
  · repeat (first | with_reducible apply W.seq | with_reducible apply W.block | with_reducible apply W.skip | with_reducible apply W.exit | with_reducible apply W.ret | with_reducible apply At.seqN | with_reducible apply At.blkN | with_reducible apply At.blkE | with_reducible apply At.blkR | with_reducible apply At.thenX | with_reducible apply At.thenR | with_reducible apply At.blkX rfl | ((with_reducible apply W.ops); (repeat (first | refine WL.opA hΓ (h := ?_) | refine WL.opX hΓ (h := ?_) | refine WL.opY (h := ?_) | refine WL.opZ (h := ?_))); with_reducible apply WL.nil) | refine W.condT (h := ?_) | refine W.condF (h := ?_))
    refine At.retA (by rw [Try.results53]) (he := ?_)
    simp [h1]
  · repeat (first | with_reducible apply W.seq | with_reducible apply W.block | with_reducible apply W.skip | with_reducible apply W.exit | with_reducible apply W.ret | with_reducible apply At.seqN | with_reducible apply At.blkN | with_reducible apply At.blkE | with_reducible apply At.blkR | with_reducible apply At.thenX | with_reducible apply At.thenR | with_reducible apply At.blkX rfl | ((with_reducible apply W.ops); (repeat (first | refine WL.opA hΓ (h := ?_) | refine WL.opX hΓ (h := ?_) | refine WL.opY (h := ?_) | refine WL.opZ (h := ?_))); with_reducible apply WL.nil) | refine W.condT (h := ?_) | refine W.condF (h := ?_))
    refine At.retA (by rw [Try.results53]) (he := ?_)
    simp [h1]

noncomputable def mIn := mdl (fun _ : Int × Int × Int => True) (fun x => [aI x.1, aI x.2.1, aI x.2.2]) (fun x => rB (decide (x.2.1 ≤ x.1 ∧ x.1 ≤ x.2.2)))
theorem mIn_eq (x lo hi : Int) : mIn [aI x, aI lo, aI hi] = some (rB (decide (lo ≤ x ∧ x ≤ hi))) := mdl_eq (by rintro ⟨a, b, c⟩ ⟨d, e, f⟩ h; simpa using h) (x, lo, hi) trivial
theorem l1In_s : Sound Try.prog 46 mIn := by
  refine Sound.mdl Try.func46 rfl Try.ntmps46 ?_
  rintro ⟨x, lo, hi⟩ w -
  refine ⟨by simp, ?_⟩
  have hΓ : GSound Try.prog (look []) := env_nil
  simp only [initS, argPV, List.map_cons, List.map_nil, toPL, Nat.zero_add]
  by_cases h1 : lo ≤ x
  · repeat (first | with_reducible apply W.seq | with_reducible apply W.block | with_reducible apply W.skip | with_reducible apply W.exit | with_reducible apply W.ret | with_reducible apply At.seqN | with_reducible apply At.blkN | with_reducible apply At.blkE | with_reducible apply At.blkR | with_reducible apply At.thenX | with_reducible apply At.thenR | with_reducible apply At.blkX rfl | ((with_reducible apply W.ops); (repeat (first | refine WL.opA hΓ (h := ?_) | refine WL.opX hΓ (h := ?_) | refine WL.opY (h := ?_) | refine WL.opZ (h := ?_))); with_reducible apply WL.nil) | refine W.condT (h := ?_) | refine W.condF (h := ?_))
    refine At.retA (by rw [Try.results46]) (he := ?_)
    simp [h1]
  · repeat (first | with_reducible apply W.seq | with_reducible apply W.block | with_reducible apply W.skip | with_reducible apply W.exit | with_reducible apply W.ret | with_reducible apply At.seqN | with_reducible apply At.blkN | with_reducible apply At.blkE | with_reducible apply At.blkR | with_reducible apply At.thenX | with_reducible apply At.thenR | with_reducible apply At.blkX rfl | ((with_reducible apply W.ops); (repeat (first | refine WL.opA hΓ (h := ?_) | refine WL.opX hΓ (h := ?_) | refine WL.opY (h := ?_) | refine WL.opZ (h := ?_))); with_reducible apply WL.nil) | refine W.condT (h := ?_) | refine W.condF (h := ?_))
    refine At.retA (by rw [Try.results46]) (he := ?_)
    simp [h1]

theorem not_mem_next {α : Type} {x : α} {l : List α} {k : Nat} (hk : k < l.length) (h : x ∉ l.take k) (hx : ¬ l[k] = x) : x ∉ l.take (k + 1) := by
  rw [List.take_succ_eq_append_getElem hk]
  intro hm
  rcases List.mem_append.1 hm with hm | hm
  · exact h hm
  · exact hx (List.mem_singleton.1 hm).symm
theorem row_at {α : Type} (f : α → List Value) (l : List α) {k : Nat} (h : k < l.length) : (rowsF f l)[k]? = some ((f l[k]).map Leaf.sc) := rowsF_get f l k h


/-- where x stands first, or -1 -/
def idxI (l : List Int) (x : Int) : Int := if x ∈ l then ((l.findIdx fun y => decide (y = x) : Nat) : Int) else -1
theorem idxI_no {l : List Int} {x : Int} (h : x ∉ l) : idxI l x = -1 := if_neg h
theorem idxI_at {l : List Int} {x : Int} {k : Nat} (hk : k < l.length) (hn : x ∉ l.take k) (hx : l[k] = x) : idxI l x = k := by
  unfold idxI
  rw [if_pos (hx ▸ List.getElem_mem hk)]
  congr 1
  refine (List.findIdx_eq hk).2 ⟨by simpa using hx, fun j hj => ?_⟩
  simp only [decide_eq_false_iff_not]
  exact fun e => hn (List.mem_take_iff_getElem.2 ⟨j, by omega, e⟩)
theorem idxI_pos (l : List Int) (x : Int) : decide (0 ≤ idxI l x) = decide (x ∈ l) := by
  by_cases h : x ∈ l
  · simp [idxI, h]
  · simp [idxI, h]
theorem has_of {P : Program} {f : FuncId} {fn : Func} (h : P.funcs[f]? = some fn) (h1 : (fn.name == "runtime.NumGoroutine") = false) (h2 : fn.body.isNone = false) : Has P f := ⟨fn, h, h1, h2⟩

end Go.Proofs.Ytimnogjgokljbaa
