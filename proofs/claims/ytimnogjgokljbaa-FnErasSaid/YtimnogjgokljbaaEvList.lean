/-
  Contracts in the words RdS, NewS and the like, out of the evaluator's and into them.
-/
import Derived.Test.YtimnogjgokljbaaEvBs
import Derived.Test.YtimnogjgokljbaaFlatVal
namespace Go.Proofs.Ytimnogjgokljbaa
set_option maxRecDepth 100000
set_option linter.unusedVariables false
set_option linter.unusedSimpArgs false
open Go Go.RowKit

@[simp] theorem rowsF_Val {a b : List TVal} : rowsF cVal a = rowsF cVal b ↔ a = b := rowsF_iff fun x y h => by simpa [cVal, Prod.ext_iff] using h

section
variable {P : Program} {F : FuncId} {α : Type} {f : α → List Value} {s : Nat}
/-- a predicate of one list -/
theorem Sound.listB (hf : ∀ x, (f x).length = s) {ok : List α → Prop} {p : List α → Bool} (h : ∀ v l w, ok l → RdS w w.heap.size s f v l → Calls P F #[v] w (SaysB (p l) w)) : Sound P F (Go.Proofs.Ytimnogjgokljbaa.mdl ok (fun l => [aL f l]) fun l => rB (p l)) :=
  Sound.says (fun _ => rfl) fun l vs w hok hr => by
    obtain ⟨v, rfl, h2⟩ := RepAs.one hr
    exact (h v l w hok (rep_RdS hf (repA_list_inv h2))).mono fun e w' hq => hq
theorem aL_rep {w : World} {v : Value} {l : List α} (hf : ∀ x, (f x).length = s) (h1 : ∀ x, ∀ u ∈ f x, u.oneCell' = true) (h : RdS w w.heap.size s f v l) : RepA w (aL f l) v := repA_list (h.rep hf h1)
theorem aI_rep {w : World} (n : Int) : RepA w (aI n) (.int .i64 n) := repA_sc rfl
theorem aB_rep {w : World} (b : Bool) : RepA w (aB b) (.bool b) := repA_sc rfl
theorem aS_rep {w : World} (b : ByteArray) : RepA w (aS b) (.string b) := repA_sc rfl

/-- a slice of one's own and scalars -/
def NewT {α : Type} (W : World) (s : Nat) (f : α → List Value) (l : List α) (rest : List Value) (e : Ending) (w' : World) : Prop :=
  ∃ v, e = .returned (.tuple (v :: rest).toArray) ∧ OwnS w' W.heap.size s f v l ∧ Below W.heap.size W w'
/-- scalars alone -/
def SaysT (rest : List Value) (W : World) (e : Ending) (w' : World) : Prop := e = .returned (.tuple rest.toArray) ∧ Below W.heap.size W w'
abbrev rSc (v : Value) : Bool × List RL := (false, [.ro (.sc v)])
abbrev rL {α : Type} (e s : Nat) (f : α → List Value) (l : List α) : Res := .comp false [.own .ft e s (rowsF f l)]
abbrev rN : Res := .comp false [.ro (.sl [])]
abbrev rTL {α : Type} (e s : Nat) (f : α → List Value) (l : List α) (rest : List (Bool × List RL)) : Res := .tup ((false, [.own .ft e s (rowsF f l)]) :: rest)
abbrev rTN (rest : List (Bool × List RL)) : Res := .tup ((false, [.ro (.sl [])]) :: rest)

theorem rep_empty {w : World} {γ : Nat → Option Nat} {v : Value} (h : RepL w γ (.sl []) v) (B : Nat) : OwnS w B s f v [] := by
  cases h with
  | emp hc => exact ⟨_, _, rfl, Nat.zero_le _, hc, fun h => absurd rfl h⟩
  | sl val g1 g2 g3 g4 g5 g6 g7 => exact ⟨_, _, rfl, Nat.zero_le _, g4, fun h => absurd rfl h⟩
theorem rest_vals {B : Nat} {w : World} {γ : Nat → Option Nat} {hdr : Nat → Value} {us : List Value} {rest : List Value} {g0 : Bool × List RL} (hl : us.length = (g0 :: rest.map rSc).length)
    (h : ∀ (j : Nat) (g : Bool) (ls : List RL), (g0 :: rest.map rSc)[j]? = some (g, ls) → ∃ u, us[j]? = some u ∧ RepRC B w γ hdr (64 * j) g ls u) : ∃ v, us = v :: rest := by
  cases us with
  | nil => simp at hl
  | cons v us =>
    refine ⟨v, ?_⟩
    congr 1
    refine List.ext_getElem? fun i => ?_
    cases hi : rest[i]? with
    | none =>
      have := List.getElem?_eq_none_iff.1 hi
      simp only [List.length_cons, List.length_map] at hl
      exact List.getElem?_eq_none (by omega)
    | some x =>
      obtain ⟨u, h1, h2⟩ := h (i + 1) false [.ro (.sc x)] (by simp [hi])
      simp only [List.getElem?_cons_succ] at h1
      rw [h1]
      obtain ⟨l, e, h3⟩ := h2
      cases e
      cases h3
      rfl
theorem calls_newT {m : List Arg → Option Res} {args : List Arg} {vs : List Value} {w : World} {e : Nat} {l : List α} {rest : List Value} (hf : ∀ x, (f x).length = s) (hs : Sound P F m) (hm : m args = some (rTL e s f l (rest.map rSc))) (hr : RepAs w args vs) (hg : GlobOk none0 w := by first | exact glob_triv | assumption) :
    Calls P F vs.toArray w (NewT w s f l rest) := (hs args _ vs w hg hm hr).mono fun e w' ⟨u, γ, hdr, h1, h2, _, _, h5⟩ => by
  obtain ⟨us, rfl, hl, h6⟩ := h5
  obtain ⟨v, rfl⟩ := rest_vals hl h6
  obtain ⟨v', h7, h8⟩ := h6 0 _ _ rfl
  cases h7
  obtain ⟨x, e1, h9⟩ := h8
  cases e1
  exact ⟨v, h1, own_OwnS hf h9, h2⟩
theorem calls_newTN {m : List Arg → Option Res} {args : List Arg} {vs : List Value} {w : World} {rest : List Value} (hs : Sound P F m) (hm : m args = some (rTN (rest.map rSc))) (hr : RepAs w args vs) (hg : GlobOk none0 w := by first | exact glob_triv | assumption) :
    Calls P F vs.toArray w (NewT w s f [] rest) := (hs args _ vs w hg hm hr).mono fun e w' ⟨u, γ, hdr, h1, h2, _, _, h5⟩ => by
  obtain ⟨us, rfl, hl, h6⟩ := h5
  obtain ⟨v, rfl⟩ := rest_vals hl h6
  obtain ⟨v', h7, h8⟩ := h6 0 _ _ rfl
  cases h7
  obtain ⟨x, e1, h9⟩ := h8
  cases e1
  exact ⟨v, h1, rep_empty h9 _, h2⟩
theorem calls_new {m : List Arg → Option Res} {args : List Arg} {vs : List Value} {w : World} {e : Nat} {l : List α} (hf : ∀ x, (f x).length = s) (hs : Sound P F m) (hm : m args = some (rL e s f l)) (hr : RepAs w args vs) (hg : GlobOk none0 w := by first | exact glob_triv | assumption) :
    Calls P F vs.toArray w (NewS w s f l) := (hs args _ vs w hg hm hr).mono fun e w' ⟨u, γ, hdr, h1, h2, _, _, h5⟩ => by
  obtain ⟨x, e1, h9⟩ := h5
  cases e1
  exact ⟨u, h1, own_OwnS hf h9, h2⟩
theorem calls_newN {m : List Arg → Option Res} {args : List Arg} {vs : List Value} {w : World} (hs : Sound P F m) (hm : m args = some rN) (hr : RepAs w args vs) (hg : GlobOk none0 w := by first | exact glob_triv | assumption) :
    Calls P F vs.toArray w (NewS w s f []) := (hs args _ vs w hg hm hr).mono fun e w' ⟨u, γ, hdr, h1, h2, _, _, h5⟩ => by
  obtain ⟨x, e1, h9⟩ := h5
  cases e1
  exact ⟨u, h1, rep_empty h9 _, h2⟩
theorem calls_says {m : List Arg → Option Res} {args : List Arg} {vs : List Value} {w : World} {v : Value} (hs : Sound P F m) (hm : m args = some (.comp false [.ro (.sc v)])) (hr : RepAs w args vs) (hg : GlobOk none0 w := by first | exact glob_triv | assumption) :
    Calls P F vs.toArray w fun e w' => e = .returned v ∧ Below w.heap.size w w' := (hs args _ vs w hg hm hr).mono fun e w' ⟨u, γ, hdr, h1, h2, _, _, h5⟩ => by
  obtain ⟨x, e1, h9⟩ := h5
  cases e1
  cases h9
  exact ⟨h1, h2⟩
end

/-! sums of the first k -/
def sumK {α : Type} (c : α → Int) (l : List α) (k : Nat) : Int := ((l.take k).map c).sum
theorem sumK_zero {α : Type} (c : α → Int) (l : List α) : sumK c l 0 = 0 := rfl
theorem sumK_succ {α : Type} (c : α → Int) {l : List α} {k : Nat} (h : k < l.length) : sumK c l (k + 1) = sumK c l k + c l[k] := by
  unfold sumK
  rw [List.take_succ_eq_append_getElem h, List.map_append, List.sum_append]
  simp only [List.map_cons, List.map_nil, List.sum_cons, List.sum_nil, Int.add_zero]
theorem sumK_all {α : Type} (c : α → Int) {l : List α} {k : Nat} (h : l.length ≤ k) : sumK c l k = (l.map c).sum := by unfold sumK; rw [List.take_of_length_le h]
theorem sumK_in {α : Type} {c : α → Int} {l : List α} {m : Nat} (h : ∀ k (hk : k < l.length), 0 ≤ c l[k] ∧ c l[k] ≤ m) : ∀ k, k ≤ l.length → 0 ≤ sumK c l k ∧ sumK c l k ≤ m * k
  | 0, _ => by simp [sumK]
  | k + 1, hk => by
    have ih := sumK_in h k (by omega)
    have := h k (by omega)
    rw [sumK_succ c (by omega)]
    have e : (m : Int) * ((k + 1 : Nat) : Int) = m * k + m := by rw [Int.natCast_add, Int.mul_add]; simp
    omega
theorem one_in {α : Type} {f : α → List Value} (h : ∀ x, ∀ u ∈ f x, u.oneCell' = true) : ∀ x, ∀ u ∈ f x, u.oneCell' = true := h
theorem cInt_one : ∀ x, ∀ u ∈ cInt x, u.oneCell' = true := fun x u hu => by simp [cInt] at hu; subst hu; rfl
theorem cStr_one : ∀ x, ∀ u ∈ cStr x, u.oneCell' = true := fun x u hu => by simp [cStr] at hu; subst hu; rfl
theorem cBool_one : ∀ x, ∀ u ∈ cBool x, u.oneCell' = true := fun x u hu => by simp [cBool] at hu; subst hu; rfl
theorem cVal_one : ∀ x, ∀ u ∈ cVal x, u.oneCell' = true := fun x u hu => by simp [cVal] at hu; rcases hu with rfl | rfl <;> rfl

end Go.Proofs.Ytimnogjgokljbaa
