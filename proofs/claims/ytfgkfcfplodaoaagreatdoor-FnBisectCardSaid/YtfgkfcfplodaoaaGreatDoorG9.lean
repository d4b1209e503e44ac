/-
  Put together: PEvBs PEvWord PStr PFlatVal PEvList PEvVar.
-/
import Derived.Test.YtfgkfcfplodaoaaGreatDoorHPEvAuto
import Derived.Laws.Bits64
import Derived.Laws.Bits64b
import Derived.Test.YtfgkfcfplodaoaaGreatDoorG0
import Derived.Test.YtfgkfcfplodaoaaGreatDoorRows
import Derived.Outline
import Derived.Handy
section
/-!
  Contracts of the smallest functions, by the evaluator.
-/
namespace Go.Proofs.YtfgkfcfplodaoaaGreatDoor
set_option maxRecDepth 100000
set_option linter.unusedVariables false
set_option linter.unusedSimpArgs false
open Go Go.RowKit

theorem rowsF_iff {α : Type} {f : α → List Value} (hf : ∀ x y, f x = f y → x = y) {a b : List α} : rowsF f a = rowsF f b ↔ a = b := ⟨rowsF_inj hf, fun h => by rw [h]⟩
@[simp] theorem rowsF_Int {a b : List Int} : rowsF cInt a = rowsF cInt b ↔ a = b := rowsF_iff fun x y h => by simpa [cInt] using h
@[simp] theorem rowsF_Str {a b : List ByteArray} : rowsF cStr a = rowsF cStr b ↔ a = b := rowsF_iff fun x y h => by simpa [cStr] using h
@[simp] theorem rowsF_Bool {a b : List Bool} : rowsF cBool a = rowsF cBool b ↔ a = b := rowsF_iff fun x y h => by simpa [cBool] using h
abbrev aI (n : Int) : Arg := .val false [.sc (.int .i64 n)]
abbrev aS (s : ByteArray) : Arg := .val false [.sc (.string s)]
abbrev aL {α : Type} (f : α → List Value) (l : List α) : Arg := .val false [.sl (rowsF f l)]
abbrev rI (n : Int) : Res := .comp false [.ro (.sc (.int .i64 n))]
abbrev rB (b : Bool) : Res := .comp false [.ro (.sc (.bool b))]
abbrev rS (s : ByteArray) : Res := .comp false [.ro (.sc (.string s))]
abbrev vI (n : Int) : PV := one (.sc (.int .i64 n))
abbrev vB (b : Bool) : PV := one (.sc (.bool b))
abbrev vS (s : ByteArray) : PV := one (.sc (.string s))
abbrev vL {α : Type} (f : α → List Value) (l : List α) : PV := one (.sl (rowsF f l))

noncomputable def mWithin := mdl (fun _ : Int × Int × Int => True) (fun x => [aI x.1, aI x.2.1, aI x.2.2]) (fun x => rB (decide (x.2.1 ≤ x.1 ∧ x.1 ≤ x.2.2)))
theorem mWithin_eq (x lo hi : Int) : mWithin [aI x, aI lo, aI hi] = some (rB (decide (lo ≤ x ∧ x ≤ hi))) := mdl_eq (by rintro ⟨a, b, c⟩ ⟨d, e, f⟩ h; simpa using h) (x, lo, hi) trivial
set_option maxHeartbeats 4000000
theorem within_s : Sound Tryz.prog 139 mWithin := by
  refine Sound.mdl Tryz.func139 rfl Tryz.ntmps139 ?_
  rintro ⟨x, lo, hi⟩ w -
  refine ⟨by simp, ?_⟩
  have hΓ : GSound Tryz.prog (look []) := env_nil
  simp only [initS, argPV, List.map_cons, List.map_nil, toPL, Nat.zero_add]
  by_cases h1 : lo ≤ x
  · refine zR ?_
    refine At.retA (by rw [Tryz.results139]) (he := ?_)
    simp [h1]
  · refine zR ?_
    refine At.retA (by rw [Tryz.results139]) (he := ?_)
    simp [h1]

noncomputable def mIn := mdl (fun _ : Int × Int × Int => True) (fun x => [aI x.1, aI x.2.1, aI x.2.2]) (fun x => rB (decide (x.2.1 ≤ x.1 ∧ x.1 ≤ x.2.2)))
theorem mIn_eq (x lo hi : Int) : mIn [aI x, aI lo, aI hi] = some (rB (decide (lo ≤ x ∧ x ≤ hi))) := mdl_eq (by rintro ⟨a, b, c⟩ ⟨d, e, f⟩ h; simpa using h) (x, lo, hi) trivial
theorem l1In_s : Sound Tryz.prog 39 mIn := by
  refine Sound.mdl Tryz.func39 rfl Tryz.ntmps39 ?_
  rintro ⟨x, lo, hi⟩ w -
  refine ⟨by simp, ?_⟩
  have hΓ : GSound Tryz.prog (look []) := env_nil
  simp only [initS, argPV, List.map_cons, List.map_nil, toPL, Nat.zero_add]
  by_cases h1 : lo ≤ x
  · refine zR ?_
    refine At.retA (by rw [Tryz.results39]) (he := ?_)
    simp [h1]
  · refine zR ?_
    refine At.retA (by rw [Tryz.results39]) (he := ?_)
    simp [h1]

theorem not_mem_next {α : Type} {x : α} {l : List α} {k : Nat} (hk : k < l.length) (h : x ∉ l.take k) (hx : ¬ l[k] = x) : x ∉ l.take (k + 1) := by
  rw [List.take_succ_eq_append_getElem hk]
  intro hm
  rcases List.mem_append.1 hm with hm | hm
  · exact h hm
  · exact hx (List.mem_singleton.1 hm).symm
theorem row_at {α : Type} (f : α → List Value) (l : List α) {k : Nat} (h : k < l.length) : (rowsF f l)[k]? = some ((f l[k]).map Leaf.sc) := rowsF_get f l k h

noncomputable def mHas := mdl (fun x : List Int × Int => x.1.length ≤ 8796093022207) (fun x => [aL cInt x.1, aI x.2]) (fun x => rB (decide (x.2 ∈ x.1)))
theorem mHas_eq (l : List Int) (x : Int) (h : l.length ≤ 8796093022207) : mHas [aL cInt l, aI x] = some (rB (decide (x ∈ l))) := mdl_eq (by rintro ⟨a, b⟩ ⟨d, e⟩ h; simpa using h) (l, x) h
theorem has_s : Sound Tryz.prog 76 mHas := by
  refine Sound.mdl Tryz.func76 rfl Tryz.ntmps76 ?_
  rintro ⟨l, x⟩ w hl
  replace hl : l.length ≤ 8796093022207 := hl
  refine ⟨by simp, ?_⟩
  have hΓ : GSound Tryz.prog (look []) := env_nil
  have hlen := rowsF_len cInt l
  simp only [initS, argPV, List.map_cons, List.map_nil, toPL, Nat.zero_add]
  refine zR ?_
  refine W.loopA (fun k => k ≤ l.length ∧ x ∉ l.take k) (fun k : Nat => [.slot 5 (vI k), .slot 0 (vL cInt l), .slot 1 (vI x)]) (fun k => l.length - k) 0 ⟨Nat.zero_le _, by simp⟩ (h := ?_)
  rintro k ⟨hk, hn⟩
  by_cases hlt : k < l.length
  · have hrow := row_at cInt l hlt
    simp only [cInt, List.map_cons, List.map_nil] at hrow
    refine zR ?_
    refine W.condA (h1 := ?_) (h2 := ?_)
    · intro hx
      have hx : l[k] = x := by simpa using hx
      refine zR ?_
      refine At.retA (by rw [Tryz.results76]) (he := ?_)
      simp [← hx]
    · intro hx
      have hx : ¬ l[k] = x := by simpa using hx
      refine zR ?_
      exact At.roundA (k + 1) ⟨by omega, not_mem_next hlt hn hx⟩ (by omega)
  · refine zR ?_
    refine At.retA (by rw [Tryz.results76]) (he := ?_)
    rw [List.take_of_length_le (by omega)] at hn
    simp [hn]

/-- where x stands first, or -1 -/
def idxI (l : List Int) (x : Int) : Int := if x ∈ l then ((l.findIdx fun y => decide (y = x) : Nat) : Int) else -1
theorem idxI_no {l : List Int} {x : Int} (h : x ∉ l) : idxI l x = -1 := if_neg h
theorem idxI_at {l : List Int} {x : Int} {k : Nat} (hk : k < l.length) (hn : x ∉ l.take k) (hx : l[k] = x) : idxI l x = k := by
  unfold idxI
  rw [if_pos (hx ▸ List.getElem_mem hk)]
  congr 1
  refine (List.findIdx_eq hk).2 ⟨by simpa using hx, fun j hj => ?_⟩
  simp only [decide_eq_false_iff_not]
  exact fun e => hn (List.mem_take_iff_getElem.2 ⟨j, by omega, e⟩)
theorem idxI_pos (l : List Int) (x : Int) : decide (0 ≤ idxI l x) = decide (x ∈ l) := by
  by_cases h : x ∈ l
  · simp [idxI, h]
  · simp [idxI, h]
noncomputable def mIdxI := mdl (fun x : List Int × Int => x.1.length ≤ 8796093022207) (fun x => [aL cInt x.1, aI x.2]) (fun x => rI (idxI x.1 x.2))
theorem mIdxI_eq (l : List Int) (x : Int) (h : l.length ≤ 8796093022207) : mIdxI [aL cInt l, aI x] = some (rI (idxI l x)) := mdl_eq (by rintro ⟨a, b⟩ ⟨d, e⟩ h; simpa using h) (l, x) h
theorem idxI_s : Sound Tryz.prog 216 mIdxI := by
  refine Sound.mdl Tryz.func216 rfl Tryz.ntmps216 ?_
  rintro ⟨l, x⟩ w hl
  replace hl : l.length ≤ 8796093022207 := hl
  refine ⟨by simp, ?_⟩
  have hΓ : GSound Tryz.prog (look []) := env_nil
  have hlen := rowsF_len cInt l
  simp only [initS, argPV, List.map_cons, List.map_nil, toPL, Nat.zero_add]
  refine zR ?_
  refine W.loopA (fun k => k ≤ l.length ∧ x ∉ l.take k) (fun k : Nat => [.slot 8 (vI k), .slot 7 (vI l.length), .slot 0 (vL cInt l), .slot 1 (vI x)]) (fun k => l.length - k) 0 ⟨Nat.zero_le _, by simp⟩ (h := ?_)
  rintro k ⟨hk, hn⟩
  by_cases hlt : k < l.length
  · have hrow := row_at cInt l hlt
    simp only [cInt, List.map_cons, List.map_nil] at hrow
    refine zR ?_
    refine W.condA (h1 := ?_) (h2 := ?_)
    · intro hx
      have hx : l[k] = x := by simp only [decide_eq_true_eq] at hx; exact hx.symm
      refine zR ?_
      refine At.retA (by rw [Tryz.results216]) (he := ?_)
      rw [idxI_at hlt hn hx]
    · intro hx
      have hx : ¬ l[k] = x := by simp only [decide_eq_false_iff_not] at hx; exact fun e => hx e.symm
      refine zR ?_
      exact At.roundA (k + 1) ⟨by omega, not_mem_next hlt hn hx⟩ (by omega)
  · refine zR ?_
    refine At.retA (by rw [Tryz.results216]) (he := ?_)
    rw [List.take_of_length_le (by omega)] at hn
    rw [idxI_no hn]
theorem has_of {P : Program} {f : FuncId} {fn : Func} (h : P.funcs[f]? = some fn) (h1 : (fn.name == "runtime.NumGoroutine") = false) (h2 : fn.body.isNone = false) : Has P f := ⟨fn, h, h1, h2⟩
noncomputable def mCont := mdl (fun x : List Int × Int => x.1.length ≤ 8796093022207) (fun x => [aL cInt x.1, aI x.2]) (fun x => rB (decide (x.2 ∈ x.1)))
theorem mCont_eq (l : List Int) (x : Int) (h : l.length ≤ 8796093022207) : mCont [aL cInt l, aI x] = some (rB (decide (x ∈ l))) := mdl_eq (by rintro ⟨a, b⟩ ⟨d, e⟩ h; simpa using h) (l, x) h
theorem cont_s : Sound Tryz.prog 171 mCont := by
  refine Sound.mdl Tryz.func171 rfl Tryz.ntmps171 ?_
  rintro ⟨l, x⟩ w hl
  replace hl : l.length ≤ 8796093022207 := hl
  refine ⟨by simp, ?_⟩
  have hΓ : GSound Tryz.prog (look [(216, mIdxI)]) := env_cons (has_of Tryz.func216 rfl rfl) idxI_s env_nil
  have c1 := mIdxI_eq
  have hp := idxI_pos l x
  simp only [initS, argPV, List.map_cons, List.map_nil, toPL, Nat.zero_add]
  refine zR ?_
  refine At.retA (by rw [Tryz.results171]) (he := rfl)

end Go.Proofs.YtfgkfcfplodaoaaGreatDoor

end
section
/-!
  Words of 32 bits: what the bit operations do at natural numbers; the rotations of both programs.
-/
namespace Go.Proofs.YtfgkfcfplodaoaaGreatDoor
set_option maxRecDepth 100000
set_option linter.unusedVariables false
set_option linter.unusedSimpArgs false
open Go Go.RowKit
set_option maxHeartbeats 4000000

theorem wrap_u32n (n : Nat) : IntKind.u32.wrap (n : Int) = ((n % 4294967296 : Nat) : Int) := by
  simp [IntKind.wrap, IntKind.bits, IntKind.signed]
theorem wrap_i64n {n : Nat} (h : n < 9223372036854775808) : IntKind.i64.wrap (n : Int) = (n : Int) := wrap_i64 n (by omega)
theorem ofInt_nat {m n : Nat} (h : n < 2 ^ m) : (BitVec.ofInt m (n : Int)).toNat = n := by
  rw [BitVec.ofInt_natCast, BitVec.toNat_ofNat]
  exact Nat.mod_eq_of_lt h
section
variable {a b : Nat}
theorem and_i64 (ha : a < 9223372036854775808) (hb : b < 9223372036854775808) : bits .and .i64 (a : Int) (b : Int) = ((a &&& b : Nat) : Int) := by
  have hx : a &&& b < 2 ^ 63 := Nat.and_lt_two_pow _ (by omega)
  show IntKind.i64.wrap ((BitVec.ofInt 64 (a : Int) &&& BitVec.ofInt 64 (b : Int)).toNat : Int) = _
  rw [BitVec.toNat_and, ofInt_nat (by omega), ofInt_nat (by omega), wrap_i64n (by omega)]
theorem or_i64 (ha : a < 9223372036854775808) (hb : b < 9223372036854775808) : bits .or .i64 (a : Int) (b : Int) = ((a ||| b : Nat) : Int) := by
  have hx : a ||| b < 2 ^ 63 := Nat.or_lt_two_pow (by omega) (by omega)
  show IntKind.i64.wrap ((BitVec.ofInt 64 (a : Int) ||| BitVec.ofInt 64 (b : Int)).toNat : Int) = _
  rw [BitVec.toNat_or, ofInt_nat (by omega), ofInt_nat (by omega), wrap_i64n (by omega)]
theorem xor_i64 (ha : a < 9223372036854775808) (hb : b < 9223372036854775808) : bits .xor .i64 (a : Int) (b : Int) = ((a ^^^ b : Nat) : Int) := by
  have hx : a ^^^ b < 2 ^ 63 := Nat.xor_lt_two_pow (by omega) (by omega)
  show IntKind.i64.wrap ((BitVec.ofInt 64 (a : Int) ^^^ BitVec.ofInt 64 (b : Int)).toNat : Int) = _
  rw [BitVec.toNat_xor, ofInt_nat (by omega), ofInt_nat (by omega), wrap_i64n (by omega)]
theorem and_u32 (ha : a < 4294967296) (hb : b < 4294967296) : bits .and .u32 (a : Int) (b : Int) = ((a &&& b : Nat) : Int) := by
  have hx : a &&& b < 2 ^ 32 := Nat.and_lt_two_pow _ (by omega)
  show IntKind.u32.wrap ((BitVec.ofInt 32 (a : Int) &&& BitVec.ofInt 32 (b : Int)).toNat : Int) = _
  rw [BitVec.toNat_and, ofInt_nat (by omega), ofInt_nat (by omega), wrap_u32n, Nat.mod_eq_of_lt (by omega)]
theorem or_u32 (ha : a < 4294967296) (hb : b < 4294967296) : bits .or .u32 (a : Int) (b : Int) = ((a ||| b : Nat) : Int) := by
  have hx : a ||| b < 2 ^ 32 := Nat.or_lt_two_pow (by omega) (by omega)
  show IntKind.u32.wrap ((BitVec.ofInt 32 (a : Int) ||| BitVec.ofInt 32 (b : Int)).toNat : Int) = _
  rw [BitVec.toNat_or, ofInt_nat (by omega), ofInt_nat (by omega), wrap_u32n, Nat.mod_eq_of_lt (by omega)]
theorem xor_u32 (ha : a < 4294967296) (hb : b < 4294967296) : bits .xor .u32 (a : Int) (b : Int) = ((a ^^^ b : Nat) : Int) := by
  have hx : a ^^^ b < 2 ^ 32 := Nat.xor_lt_two_pow (by omega) (by omega)
  show IntKind.u32.wrap ((BitVec.ofInt 32 (a : Int) ^^^ BitVec.ofInt 32 (b : Int)).toNat : Int) = _
  rw [BitVec.toNat_xor, ofInt_nat (by omega), ofInt_nat (by omega), wrap_u32n, Nat.mod_eq_of_lt (by omega)]
end
theorem fdiv_nat (a n : Nat) : (a : Int).fdiv (2 ^ n) = ((a / 2 ^ n : Nat) : Int) := by
  rw [Int.fdiv_eq_ediv_of_nonneg _ (Int.pow_nonneg (by omega))]
  simp
theorem mul_pow_nat (a n : Nat) : (a : Int) * 2 ^ n = ((a * 2 ^ n : Nat) : Int) := by simp
/-- a word turned right -/
def rotr (x n : Nat) : Nat := (x / 2 ^ n ||| x * 2 ^ (32 - n)) % 4294967296
theorem rotr_lt (x n : Nat) : rotr x n < 4294967296 := Nat.mod_lt _ (by omega)
abbrev aU (n : Nat) : Arg := .val false [.sc (.int .u32 (n : Int))]
abbrev rU (n : Nat) : Res := .comp false [.ro (.sc (.int .u32 (n : Int)))]
abbrev rNat (n : Nat) : Res := .comp false [.ro (.sc (.int .i64 (n : Int)))]

noncomputable def mRot := mdl (fun x : Nat × Nat => x.1 < 4294967296 ∧ 1 ≤ x.2 ∧ x.2 ≤ 31) (fun x => [aU x.1, aI (-(x.2 : Int))]) (fun x => rU (rotr x.1 x.2))
theorem mRot_eq (x n : Nat) (h : x < 4294967296) (h1 : 1 ≤ n) (h2 : n ≤ 31) : mRot [aU x, aI (-(n : Int))] = some (rU (rotr x n)) := mdl_eq (by rintro ⟨a, b⟩ ⟨d, e⟩ h; simp at h; simp; omega) (x, n) ⟨h, h1, h2⟩
theorem rot_s : Sound Tryz.prog 254 mRot := by
  refine Sound.mdl Tryz.func254 rfl Tryz.ntmps254 ?_
  rintro ⟨x, n⟩ w ⟨hx, h1, h2⟩
  refine ⟨by simp, ?_⟩
  dsimp only at hx h1 h2
  have hΓ : GSound Tryz.prog (look []) := env_nil
  have e1 : bits .and .u64 (IntKind.u64.wrap (-(n : Int))) 31 = ((32 - n : Nat) : Int) := by
    have : IntKind.u64.wrap (-(n : Int)) = ((18446744073709551616 - n : Nat) : Int) := by
      rw [IntKind.wrap_u64]
      omega
    rw [this, show (31 : Int) = ((31 : Nat) : Int) from rfl, bits_and_u64_nat _ _ (by omega) (by omega), show 31 = 2 ^ 5 - 1 from rfl, Nat.and_two_pow_sub_one_eq_mod]
    congr 1
    omega
  have e2 : IntKind.u64.wrap (32 - ((32 - n : Nat) : Int)) = (n : Int) := by
    rw [IntKind.wrap_u64]
    omega
  simp only [initS, argPV, List.map_cons, List.map_nil, toPL, Nat.zero_add]
  refine zR ?_
  refine At.retA (by rw [Tryz.results254]) (he := ?_)
  have m1 : min (32 - n) IntKind.u32.bits = 32 - n := by show min (32 - n) 32 = _; omega
  have m2 : min n IntKind.u32.bits = n := by show min n 32 = _; omega
  rw [m1, m2, mul_pow_nat, fdiv_nat, wrap_u32n, or_u32 (Nat.mod_lt _ (by omega)) (Nat.lt_of_le_of_lt (Nat.div_le_self _ _) hx)]
  congr 5
  unfold rotr
  rw [show 4294967296 = 2 ^ 32 from rfl, Nat.or_mod_two_pow, Nat.or_comm, Nat.mod_eq_of_lt (a := x / 2 ^ n) (Nat.lt_of_le_of_lt (Nat.div_le_self _ _) hx)]

end Go.Proofs.YtfgkfcfplodaoaaGreatDoor

end
section
/-!
  String slices: szStringS, toStringS, eqStringS, by contracts.
-/
namespace Go.Proofs.YtfgkfcfplodaoaaGreatDoor
set_option maxRecDepth 100000
set_option linter.unusedVariables false
set_option linter.unusedSimpArgs false
open Go.RowKit

end Go.Proofs.YtfgkfcfplodaoaaGreatDoor

end
section
/-!
  Val: its size, copy, equality, mark and held functions, by contracts.
-/
namespace Go.Proofs.YtfgkfcfplodaoaaGreatDoor
set_option maxRecDepth 100000
set_option linter.unusedVariables false
set_option linter.unusedSimpArgs false
open Go.RowKit

abbrev TVal := Int × Int
def cVal (x : TVal) : List Value := [.int .i64 x.1, .int .i64 x.2]
end Go.Proofs.YtfgkfcfplodaoaaGreatDoor

end
section
/-!
  Contracts in the words RdS, NewS and the like, out of the evaluator's and into them.
-/
namespace Go.Proofs.YtfgkfcfplodaoaaGreatDoor
set_option maxRecDepth 100000
set_option linter.unusedVariables false
set_option linter.unusedSimpArgs false
open Go Go.RowKit

@[simp] theorem rowsF_Val {a b : List TVal} : rowsF cVal a = rowsF cVal b ↔ a = b := rowsF_iff fun x y h => by simpa [cVal, Prod.ext_iff] using h

section
variable {P : Program} {F : FuncId} {α : Type} {f : α → List Value} {s : Nat}
/-- a predicate of one list -/
theorem Sound.listB (hf : ∀ x, (f x).length = s) {ok : List α → Prop} {p : List α → Bool} (h : ∀ v l w, ok l → RdS w w.heap.size s f v l → Calls P F #[v] w (SaysB (p l) w)) : Sound P F (Go.Proofs.YtfgkfcfplodaoaaGreatDoor.mdl ok (fun l => [aL f l]) fun l => rB (p l)) :=
  Sound.says (fun _ => rfl) fun l vs w hok hr => by
    obtain ⟨v, rfl, h2⟩ := RepAs.one hr
    exact (h v l w hok (rep_RdS hf (repA_list_inv h2))).mono fun e w' hq => hq
theorem aL_rep {w : World} {v : Value} {l : List α} (hf : ∀ x, (f x).length = s) (h1 : ∀ x, ∀ u ∈ f x, u.oneCell' = true) (h : RdS w w.heap.size s f v l) : RepA w (aL f l) v := repA_list (h.rep hf h1)
abbrev rSc (v : Value) : Bool × List RL := (false, [.ro (.sc v)])
abbrev rL {α : Type} (e s : Nat) (f : α → List Value) (l : List α) : Res := .comp false [.own .ft e s (rowsF f l)]
abbrev rN : Res := .comp false [.ro (.sl [])]
theorem calls_says {m : List Arg → Option Res} {args : List Arg} {vs : List Value} {w : World} {v : Value} (hs : Sound P F m) (hm : m args = some (.comp false [.ro (.sc v)])) (hr : RepAs w args vs) (hg : GlobOk none0 w := by first | exact glob_triv | assumption) :
    Calls P F vs.toArray w fun e w' => e = .returned v ∧ Below w.heap.size w w' := (hs args _ vs w hg hm hr).mono fun e w' ⟨u, γ, hdr, h1, h2, _, _, h5⟩ => by
  obtain ⟨x, e1, h9⟩ := h5
  cases e1
  cases h9
  exact ⟨h1, h2⟩
end

/-! sums of the first k -/
def sumK {α : Type} (c : α → Int) (l : List α) (k : Nat) : Int := ((l.take k).map c).sum
theorem sumK_zero {α : Type} (c : α → Int) (l : List α) : sumK c l 0 = 0 := rfl
theorem sumK_succ {α : Type} (c : α → Int) {l : List α} {k : Nat} (h : k < l.length) : sumK c l (k + 1) = sumK c l k + c l[k] := by
  unfold sumK
  rw [List.take_succ_eq_append_getElem h, List.map_append, List.sum_append]
  simp only [List.map_cons, List.map_nil, List.sum_cons, List.sum_nil, Int.add_zero]
theorem sumK_all {α : Type} (c : α → Int) {l : List α} {k : Nat} (h : l.length ≤ k) : sumK c l k = (l.map c).sum := by unfold sumK; rw [List.take_of_length_le h]
theorem sumK_in {α : Type} {c : α → Int} {l : List α} {m : Nat} (h : ∀ k (hk : k < l.length), 0 ≤ c l[k] ∧ c l[k] ≤ m) : ∀ k, k ≤ l.length → 0 ≤ sumK c l k ∧ sumK c l k ≤ m * k
  | 0, _ => by simp [sumK]
  | k + 1, hk => by
    have ih := sumK_in h k (by omega)
    have := h k (by omega)
    rw [sumK_succ c (by omega)]
    have e : (m : Int) * ((k + 1 : Nat) : Int) = m * k + m := by rw [Int.natCast_add, Int.mul_add]; simp
    omega
end Go.Proofs.YtfgkfcfplodaoaaGreatDoor

end
section
/-!
  Var of spec and impl: a number's bytes.
-/
namespace Go.Proofs.YtfgkfcfplodaoaaGreatDoor
set_option maxRecDepth 100000
set_option linter.unusedVariables false
set_option linter.unusedSimpArgs false
open Go Go.RowKit
set_option maxHeartbeats 4000000

/-- the bytes of a number, seven bits each -/
def varF : Nat → Nat → List Nat
  | 0, n => [n]
  | k + 1, n => if n < 128 then [n] else (n % 128 + 128) :: varF k (n / 128)
def varL (n : Nat) : List Nat := varF 6 n
theorem varF_lo (k : Nat) {n : Nat} (h : n < 128) : varF k n = [n] := by
  cases k with
  | zero => rfl
  | succ k => simp [varF, h]
theorem varF_hi (k : Nat) {n : Nat} (h : ¬ n < 128) : varF (k + 1) n = (n % 128 + 128) :: varF k (n / 128) := by simp [varF, h]
theorem varF_len : ∀ k n, (varF k n).length ≤ k + 1
  | 0, n => by simp [varF]
  | k + 1, n => by
    unfold varF
    split
    · simp
    · have := varF_len k (n / 128)
      simp; omega
def bsS (l : List Nat) : ByteArray := ⟨(l.map UInt8.ofNat).toArray⟩
def cU8 (n : Nat) : List Value := [.int .u8 (n : Int)]
theorem bytes_rows (l : List Nat) : bytesE (rowsF cU8 l) = some (l.map UInt8.ofNat) := by
  induction l with
  | nil => rfl
  | cons x l ih =>
    unfold bytesE rowsF at *
    simp only [cU8] at ih
    simp only [List.map_cons, List.mapM_cons, cU8, List.map_nil, Option.bind_eq_bind, Option.bind_some, Int.toNat_natCast, Option.pure_def]
    simp only [List.map_cons, List.map_nil] at ih
    rw [ih]
    rfl
def varS (n : Int) : ByteArray := if 0 ≤ n ∧ n ≤ 562949953421311 then bsS (varL n.toNat) else ByteArray.empty
theorem bsS_size (l : List Nat) : (bsS l).size = l.length := by simp [bsS, ByteArray.size]
theorem varS_size (n : Int) : (varS n).size ≤ 7 := by
  unfold varS
  split
  · rw [bsS_size]; exact varF_len 6 _
  · simp
theorem cU8_app (l : List Nat) (x : Nat) : rowsF cU8 l ++ [[.sc (.int .u8 (x : Int))]] = rowsF cU8 (l ++ [x]) := by rw [← rowsF_app]; rfl
theorem wrap_u8n {n : Nat} (h : n < 256) : IntKind.u8.wrap (n : Int) = (n : Int) := by
  have : IntKind.u8.wrap (n : Int) = (n : Int) % 256 := by simp [IntKind.wrap, IntKind.bits, IntKind.signed]
  rw [this]; omega
/-- how far a number's bytes are written: (written, left to write, at most so many more) -/
def VarI (n : Nat) (x : List Nat × Nat × Nat) : Prop := x.1 ++ varF x.2.1 x.2.2 = varL n ∧ x.2.2 < 128 ^ (x.2.1 + 1) ∧ x.2.2 ≤ 562949953421311
theorem VarI.lt {n : Nat} {x : List Nat × Nat × Nat} (h : VarI n x) (hk : ¬ x.2.2 < 128) : ∃ k, x.2.1 = k + 1 := by
  obtain ⟨l, k, m⟩ := x
  cases k with
  | zero => exact absurd h.2.1 (by simpa using hk)
  | succ k => exact ⟨k, rfl⟩
theorem VarI.len {n : Nat} {x : List Nat × Nat × Nat} (h : VarI n x) : x.1.length ≤ 7 := by
  have h1 := congrArg List.length h.1
  have h2 : (varL n).length ≤ 7 := varF_len 6 n
  rw [List.length_append] at h1
  omega
theorem VarI.next {n k m : Nat} {l : List Nat} (h : VarI n (l, k + 1, m)) (hk : ¬ m < 128) : VarI n (l ++ [m % 128 + 128], k, m / 128) := by
  obtain ⟨h1, h2, h3⟩ := h
  dsimp only at h1 h2 h3
  refine ⟨?_, ?_, by dsimp only; omega⟩
  · dsimp only
    rw [varF_hi _ hk] at h1
    rw [List.append_assoc]
    exact h1
  · dsimp only
    rw [Nat.pow_succ] at h2
    omega
theorem VarI.last {n k m : Nat} {l : List Nat} (h : VarI n (l, k, m)) (hk : m < 128) : l ++ [m] = varL n := by
  have := h.1
  dsimp only at this
  rw [varF_lo _ hk] at this
  exact this
theorem varS_of {n : Nat} (h : n ≤ 562949953421311) : varS n = bsS (varL n) := by
  unfold varS
  rw [if_pos ⟨by omega, by omega⟩, Int.toNat_natCast]
noncomputable def mVar := mdl (fun _ : Int => True) (fun n => [aI n]) (fun n => rS (varS n))
theorem mVar_eq (n : Int) : mVar [aI n] = some (rS (varS n)) := mdl_eq (by intro a b h; simpa using h) n trivial
theorem varS_no {n : Int} (h : ¬ (0 ≤ n ∧ n ≤ 562949953421311)) : varS n = ByteArray.empty := if_neg h

theorem varSpec_s : Sound Tryz.prog 106 mVar := by
  refine Sound.mdl Tryz.func106 rfl Tryz.ntmps106 ?_
  rintro n w -
  refine ⟨by simp, ?_⟩
  have hΓ : GSound Tryz.prog (look [(39, mIn)]) := env_cons (has_of Tryz.func39 rfl rfl) l1In_s env_nil
  have c1 := mIn_eq n 0 562949953421311
  simp only [initS, argPV, List.map_cons, List.map_nil, toPL, Nat.zero_add]
  by_cases hn : 0 ≤ n ∧ n ≤ 562949953421311
  · obtain ⟨m0, rfl⟩ := Int.eq_ofNat_of_zero_le hn.1
    have hnil : rowsF cU8 [] = [] := rfl
    refine zR ?_
    refine W.loopA (VarI m0) (fun x => [.slot 0 (vI x.2.2), .slot 3 (one (.all 7)), .blk 7 (.arr .ft 5 1 (rowsF cU8 x.1))]) (fun x => x.2.2) ([], 6, m0) ⟨rfl, by simp; omega, by dsimp only; omega⟩ (h := ?_)
    rintro ⟨l, k, m⟩ hI
    have hln : l.length ≤ 7 := hI.len
    dsimp only
    by_cases hm : m < 128
    · have hl : varS (m0 : Int) = bsS (l ++ [m]) := by rw [varS_of (by omega), hI.last hm]
      have e := cU8_app l m
      have hw := wrap_u8n (n := m) (by omega)
      have hb := bytes_rows (l ++ [m])
      clear hI
      refine zR ?_
      refine At.retA (by rw [Tryz.results106]) (he := ?_)
      rw [hl]
      rfl
    · obtain ⟨k, rfl⟩ : ∃ k', k = k' + 1 := hI.lt hm
      have hnx := hI.next hm
      have hle : m ≤ 9223372036854775807 := by
        have h2 : m ≤ 562949953421311 := hI.2.2
        omega
      have t1 : (m : Int).tmod 128 = ((m % 128 : Nat) : Int) := by rw [Int.tmod_eq_emod_of_nonneg (by omega)]; omega
      have t2 : (m : Int).tdiv 128 = ((m / 128 : Nat) : Int) := by rw [Int.tdiv_eq_ediv_of_nonneg (by omega)]; omega
      have hw : IntKind.u8.wrap (128 + ((m % 128 : Nat) : Int)) = ((m % 128 + 128 : Nat) : Int) := by
        rw [show 128 + ((m % 128 : Nat) : Int) = ((m % 128 + 128 : Nat) : Int) by omega]
        exact wrap_u8n (by omega)
      have e := cU8_app l (m % 128 + 128)
      clear hI
      refine zR ?_
      exact At.roundA (l ++ [m % 128 + 128], k, m / 128) hnx (by dsimp only; omega)
  · have hv := varS_no hn
    refine zR ?_
    refine At.retA (by rw [Tryz.results106]) (he := ?_)
    rw [hv]
    rfl
theorem varImpl_s : Sound Tryz.prog 232 mVar := by
  refine Sound.mdl Tryz.func232 rfl Tryz.ntmps232 ?_
  rintro n w -
  refine ⟨by simp, ?_⟩
  have hΓ : GSound Tryz.prog (look [(139, mWithin)]) := env_cons (has_of Tryz.func139 rfl rfl) within_s env_nil
  have c1 := mWithin_eq n 0 562949953421311
  simp only [initS, argPV, List.map_cons, List.map_nil, toPL, Nat.zero_add]
  by_cases hn : 0 ≤ n ∧ n ≤ 562949953421311
  · obtain ⟨m0, rfl⟩ := Int.eq_ofNat_of_zero_le hn.1
    have hnil : rowsF cU8 [] = [] := rfl
    refine zR ?_
    refine W.loopA (VarI m0) (fun x => [.slot 0 (vI x.2.2), .slot 3 (one (.all 7)), .blk 7 (.arr .ft 5 1 (rowsF cU8 x.1))]) (fun x => x.2.2) ([], 6, m0) ⟨rfl, by simp; omega, by dsimp only; omega⟩ (h := ?_)
    rintro ⟨l, k, m⟩ hI
    have hln : l.length ≤ 7 := hI.len
    dsimp only
    by_cases hm : m < 128
    · have hl : varS (m0 : Int) = bsS (l ++ [m]) := by rw [varS_of (by omega), hI.last hm]
      have e := cU8_app l m
      have hw := wrap_u8n (n := m) (by omega)
      have hb := bytes_rows (l ++ [m])
      clear hI
      refine zR ?_
      refine At.retA (by rw [Tryz.results232]) (he := ?_)
      rw [hl]
      rfl
    · obtain ⟨k, rfl⟩ : ∃ k', k = k' + 1 := hI.lt hm
      have hnx := hI.next hm
      have hle : m < 9223372036854775808 := by
        have h2 : m ≤ 562949953421311 := hI.2.2
        omega
      have t1 : bits .and .i64 (m : Int) 127 = ((m % 128 : Nat) : Int) := by
        have := and_i64 (a := m) (b := 127) hle (by omega)
        rw [show (127 : Nat) = 2 ^ 7 - 1 from rfl, Nat.and_two_pow_sub_one_eq_mod] at this
        exact this
      have t3 : bits .or .i64 ((m % 128 : Nat) : Int) 128 = ((m % 128 + 128 : Nat) : Int) := by
        have := or_i64 (a := m % 128) (b := 128) (by omega) (by omega)
        rw [show m % 128 ||| 128 = m % 128 + 128 from by
          have h : 128 + m % 128 = 128 ||| m % 128 := Nat.two_pow_add_eq_or_of_lt (i := 7) (b := m % 128) (by omega) 1
          rw [Nat.or_comm, ← h]
          omega] at this
        exact this
      have m7 : min 7 IntKind.i64.bits = 7 := rfl
      have t2 : (m : Int).fdiv (2 ^ 7) = ((m / 128 : Nat) : Int) := fdiv_nat m 7
      have hw := wrap_u8n (n := m % 128 + 128) (by omega)
      have e := cU8_app l (m % 128 + 128)
      clear hI
      refine zR ?_
      exact At.roundA (l ++ [m % 128 + 128], k, m / 128) hnx (by dsimp only; omega)
  · have hv := varS_no hn
    refine zR ?_
    refine At.retA (by rw [Tryz.results232]) (he := ?_)
    rw [hv]
    rfl

end Go.Proofs.YtfgkfcfplodaoaaGreatDoor

end
