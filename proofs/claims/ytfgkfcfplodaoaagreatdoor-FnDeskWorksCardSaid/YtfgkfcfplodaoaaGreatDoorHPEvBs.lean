
import Derived.Test.YtfgkfcfplodaoaaGreatDoorG8
set_option linter.unusedSimpArgs false
set_option linter.unusedVariables false
set_option maxRecDepth 100000
namespace Go.Proofs.YtfgkfcfplodaoaaGreatDoor
open Go Go.RowKit
theorem rowsF_iff {α : Type} {f : α → List Value} (hf : ∀ x y, f x = f y → x = y) {a b : List α} : rowsF f a = rowsF f b ↔ a = b := ⟨rowsF_inj hf, fun h => by rw [h]⟩
@[simp] theorem rowsF_Int {a b : List Int} : rowsF cInt a = rowsF cInt b ↔ a = b := rowsF_iff fun x y h => by simpa [cInt] using h
@[simp] theorem rowsF_Str {a b : List ByteArray} : rowsF cStr a = rowsF cStr b ↔ a = b := rowsF_iff fun x y h => by simpa [cStr] using h
@[simp] theorem rowsF_Bool {a b : List Bool} : rowsF cBool a = rowsF cBool b ↔ a = b := rowsF_iff fun x y h => by simpa [cBool] using h
abbrev aI (n : Int) : Arg := .val false [.sc (.int .i64 n)]
abbrev aB (b : Bool) : Arg := .val false [.sc (.bool b)]
abbrev aS (s : ByteArray) : Arg := .val false [.sc (.string s)]
abbrev aL {α : Type} (f : α → List Value) (l : List α) : Arg := .val false [.sl (rowsF f l)]
abbrev rI (n : Int) : Res := .comp false [.ro (.sc (.int .i64 n))]
abbrev rB (b : Bool) : Res := .comp false [.ro (.sc (.bool b))]
abbrev rS (s : ByteArray) : Res := .comp false [.ro (.sc (.string s))]
abbrev vI (n : Int) : PV := one (.sc (.int .i64 n))
abbrev vB (b : Bool) : PV := one (.sc (.bool b))
abbrev vS (s : ByteArray) : PV := one (.sc (.string s))
abbrev vL {α : Type} (f : α → List Value) (l : List α) : PV := one (.sl (rowsF f l))
noncomputable def mWithin := mdl (fun _ : Int × Int × Int => True) (fun x => [aI x.1, aI x.2.1, aI x.2.2]) (fun x => rB (decide (x.2.1 ≤ x.1 ∧ x.1 ≤ x.2.2)))
theorem mWithin_eq (x lo hi : Int) : mWithin [aI x, aI lo, aI hi] = some (rB (decide (lo ≤ x ∧ x ≤ hi))) := mdl_eq (by rintro ⟨a, b, c⟩ ⟨d, e, f⟩ h; simpa using h) (x, lo, hi) trivial
set_option maxHeartbeats 4000000
theorem within_s : Sound Tryz.prog 139 mWithin := by
  refine Sound.mdl Tryz.func139 rfl Tryz.ntmps139 ?_
  rintro ⟨x, lo, hi⟩ w -
  refine ⟨by simp, ?_⟩
  have hΓ : GSound Tryz.prog (look []) := env_nil
  simp only [initS, argPV, List.map_cons, List.map_nil, toPL, Nat.zero_add]
  by_cases h1 : lo ≤ x
  · refine zR ?_
    refine At.retA (by rw [Tryz.results139]) (he := ?_)
    simp [h1]
  · refine zR ?_
    refine At.retA (by rw [Tryz.results139]) (he := ?_)
    simp [h1]
noncomputable def mIn := mdl (fun _ : Int × Int × Int => True) (fun x => [aI x.1, aI x.2.1, aI x.2.2]) (fun x => rB (decide (x.2.1 ≤ x.1 ∧ x.1 ≤ x.2.2)))
theorem mIn_eq (x lo hi : Int) : mIn [aI x, aI lo, aI hi] = some (rB (decide (lo ≤ x ∧ x ≤ hi))) := mdl_eq (by rintro ⟨a, b, c⟩ ⟨d, e, f⟩ h; simpa using h) (x, lo, hi) trivial
theorem l1In_s : Sound Tryz.prog 39 mIn := by
  refine Sound.mdl Tryz.func39 rfl Tryz.ntmps39 ?_
  rintro ⟨x, lo, hi⟩ w -
  refine ⟨by simp, ?_⟩
  have hΓ : GSound Tryz.prog (look []) := env_nil
  simp only [initS, argPV, List.map_cons, List.map_nil, toPL, Nat.zero_add]
  by_cases h1 : lo ≤ x
  · refine zR ?_
    refine At.retA (by rw [Tryz.results39]) (he := ?_)
    simp [h1]
  · refine zR ?_
    refine At.retA (by rw [Tryz.results39]) (he := ?_)
    simp [h1]
theorem not_mem_next {α : Type} {x : α} {l : List α} {k : Nat} (hk : k < l.length) (h : x ∉ l.take k) (hx : ¬ l[k] = x) : x ∉ l.take (k + 1) := by
  rw [List.take_succ_eq_append_getElem hk]
  intro hm
  rcases List.mem_append.1 hm with hm | hm
  · exact h hm
  · exact hx (List.mem_singleton.1 hm).symm
theorem row_at {α : Type} (f : α → List Value) (l : List α) {k : Nat} (h : k < l.length) : (rowsF f l)[k]? = some ((f l[k]).map Leaf.sc) := rowsF_get f l k h
def idxI (l : List Int) (x : Int) : Int := if x ∈ l then ((l.findIdx fun y => decide (y = x) : Nat) : Int) else -1
theorem idxI_no {l : List Int} {x : Int} (h : x ∉ l) : idxI l x = -1 := if_neg h
theorem idxI_at {l : List Int} {x : Int} {k : Nat} (hk : k < l.length) (hn : x ∉ l.take k) (hx : l[k] = x) : idxI l x = k := by
  unfold idxI
  rw [if_pos (hx ▸ List.getElem_mem hk)]
  congr 1
  refine (List.findIdx_eq hk).2 ⟨by simpa using hx, fun j hj => ?_⟩
  simp only [decide_eq_false_iff_not]
  exact fun e => hn (List.mem_take_iff_getElem.2 ⟨j, by omega, e⟩)
theorem idxI_pos (l : List Int) (x : Int) : decide (0 ≤ idxI l x) = decide (x ∈ l) := by
  by_cases h : x ∈ l
  · simp [idxI, h]
  · simp [idxI, h]
noncomputable def mIdxI := mdl (fun x : List Int × Int => x.1.length ≤ 8796093022207) (fun x => [aL cInt x.1, aI x.2]) (fun x => rI (idxI x.1 x.2))
theorem mIdxI_eq (l : List Int) (x : Int) (h : l.length ≤ 8796093022207) : mIdxI [aL cInt l, aI x] = some (rI (idxI l x)) := mdl_eq (by rintro ⟨a, b⟩ ⟨d, e⟩ h; simpa using h) (l, x) h
theorem idxI_s : Sound Tryz.prog 216 mIdxI := by
  refine Sound.mdl Tryz.func216 rfl Tryz.ntmps216 ?_
  rintro ⟨l, x⟩ w hl
  replace hl : l.length ≤ 8796093022207 := hl
  refine ⟨by simp, ?_⟩
  have hΓ : GSound Tryz.prog (look []) := env_nil
  have hlen := rowsF_len cInt l
  simp only [initS, argPV, List.map_cons, List.map_nil, toPL, Nat.zero_add]
  refine zR ?_
  refine W.loopA (fun k => k ≤ l.length ∧ x ∉ l.take k) (fun k : Nat => [.slot 8 (vI k), .slot 7 (vI l.length), .slot 0 (vL cInt l), .slot 1 (vI x)]) (fun k => l.length - k) 0 ⟨Nat.zero_le _, by simp⟩ (h := ?_)
  rintro k ⟨hk, hn⟩
  by_cases hlt : k < l.length
  · have hrow := row_at cInt l hlt
    simp only [cInt, List.map_cons, List.map_nil] at hrow
    refine zR ?_
    refine W.condA (h1 := ?_) (h2 := ?_)
    · intro hx
      have hx : l[k] = x := by simp only [decide_eq_true_eq] at hx; exact hx.symm
      refine zR ?_
      refine At.retA (by rw [Tryz.results216]) (he := ?_)
      rw [idxI_at hlt hn hx]
    · intro hx
      have hx : ¬ l[k] = x := by simp only [decide_eq_false_iff_not] at hx; exact fun e => hx e.symm
      refine zR ?_
      exact At.roundA (k + 1) ⟨by omega, not_mem_next hlt hn hx⟩ (by omega)
  · refine zR ?_
    refine At.retA (by rw [Tryz.results216]) (he := ?_)
    rw [List.take_of_length_le (by omega)] at hn
    rw [idxI_no hn]
theorem has_of {P : Program} {f : FuncId} {fn : Func} (h : P.funcs[f]? = some fn) (h1 : (fn.name == "runtime.NumGoroutine") = false) (h2 : fn.body.isNone = false) : Has P f := ⟨fn, h, h1, h2⟩
noncomputable def mCont := mdl (fun x : List Int × Int => x.1.length ≤ 8796093022207) (fun x => [aL cInt x.1, aI x.2]) (fun x => rB (decide (x.2 ∈ x.1)))
theorem mCont_eq (l : List Int) (x : Int) (h : l.length ≤ 8796093022207) : mCont [aL cInt l, aI x] = some (rB (decide (x ∈ l))) := mdl_eq (by rintro ⟨a, b⟩ ⟨d, e⟩ h; simpa using h) (l, x) h
theorem cont_s : Sound Tryz.prog 171 mCont := by
  refine Sound.mdl Tryz.func171 rfl Tryz.ntmps171 ?_
  rintro ⟨l, x⟩ w hl
  replace hl : l.length ≤ 8796093022207 := hl
  refine ⟨by simp, ?_⟩
  have hΓ : GSound Tryz.prog (look [(216, mIdxI)]) := env_cons (has_of Tryz.func216 rfl rfl) idxI_s env_nil
  have c1 := mIdxI_eq
  have hp := idxI_pos l x
  simp only [initS, argPV, List.map_cons, List.map_nil, toPL, Nat.zero_add]
  refine zR ?_
  refine At.retA (by rw [Tryz.results171]) (he := rfl)
end Go.Proofs.YtfgkfcfplodaoaaGreatDoor
