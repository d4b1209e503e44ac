/-
  Put together: FlatVal EvList.
-/
import Derived.Test.YtimnogjgokljbaaGreatDoorG7
section
/-!
  Val: its size, copy, equality, mark and held functions, by contracts.
-/
namespace Go.Proofs.YtimnogjgokljbaaGreatDoor
set_option maxRecDepth 100000
set_option linter.unusedVariables false
set_option linter.unusedSimpArgs false
open Go.RowKit

abbrev TVal := Int × Int
def cVal (x : TVal) : List Value := [.int .i64 x.1, .int .i64 x.2]
def zVal : List Value := [.int .i64 0, .int .i64 0]
def okVal (_ : TVal) : Prop := True

set_option maxHeartbeats 400000 in
theorem szValS_any (v : Value) (l : List TVal) (left : Int) (w : World) (h : RdS w w.heap.size 2 cVal v l) (hok : ∀ x ∈ l, okVal x)
    (h0 : 0 ≤ left) (h1 : left ≤ 1048576) (hn : l.length ≤ 9223372036854775807) :
    Calls Tryz.prog 36 #[v, .int .i64 left] w (SzB l.length left w) := by
  obtain ⟨A, c, rfl, hlc, hcm, -⟩ := h
  by_cases hneg : left - l.length < 0
  · go_enter Tryz.func36, Tryz.ntmps36
    go_wp2
    go_ret
    exact ⟨_, rfl, Below.refl _ _, by omega, by omega, by omega⟩
  · go_enter Tryz.func36, Tryz.ntmps36
    go_wp2
    go_ret
    exact ⟨_, rfl, Below.refl _ _, by omega, by omega, by omega⟩

set_option maxHeartbeats 1000000 in
theorem toVal_any (x : TVal) (w : World) :
    Calls Tryz.prog 85 #[.agg #[.int .i64 x.1, .int .i64 x.2]] w fun e w' => e = .returned (.agg #[.int .i64 x.1, .int .i64 x.2]) ∧ Below w.heap.size w w' := by
  go_enter Tryz.func85, Tryz.ntmps85
  go_wp2
  go_returns
  exact ⟨rfl, by go_grown⟩

set_option maxHeartbeats 1000000 in
theorem eqVal_any (x y : TVal) (w : World) :
    Calls Tryz.prog 94 #[.agg #[.int .i64 x.1, .int .i64 x.2], .agg #[.int .i64 y.1, .int .i64 y.2]] w (SaysB (decide (x = y)) w) := by
  go_enter Tryz.func94, Tryz.ntmps94
  go_wp2
  all_goals go_ret
  · have h : (x.1 != y.1) = true := by assumption
    exact ⟨ret_bool (Eq.symm (decide_eq_false fun e => by subst e; simp at h)), by go_grown⟩
  · have h : (x.2 != y.2) = true := by assumption
    exact ⟨ret_bool (Eq.symm (decide_eq_false fun e => by subst e; simp at h)), by go_grown⟩
  · have h0 : (x.1 != y.1) = false := by assumption
    have h1 : (x.2 != y.2) = false := by assumption
    have e0 : x.1 = y.1 := by simpa using h0
    have e1 : x.2 = y.2 := by simpa using h1
    exact ⟨ret_bool (Eq.symm (decide_eq_true (Prod.ext e0 e1))), by go_grown⟩

theorem info_Val : (Tryz.prog.info? 100).map (fun i => (i.zero, i.size, i.bytes)) = some (some (.agg #[.int .i64 0, .int .i64 0]), 2, 16) := by kernel_rfl

set_option maxHeartbeats 1000000 in
theorem toValS_any (v : Value) (l : List TVal) (w : World) (h : RdS w w.heap.size 2 cVal v l) (hn : l.length ≤ 1099511627776) :
    Calls Tryz.prog 44 #[v] w (NewS w 2 cVal l) := by
  obtain ⟨A, c, rfl, hlc, hcm, hcell⟩ := h
  have hmk := fun W : World => run_mk (P := Tryz.prog) 37 100 _ zVal 2 16 Tryz.underlying37 info_Val rfl rfl .i64 .i64 l.length (by omega) (by omega) W
  go_enter Tryz.func44, Tryz.ntmps44
  go_wp2
  go_loopw [4] (fun i wr => ∃ k : Nat, k ≤ l.length ∧ i = .int .i64 k ∧ Row wr w.heap.size 100 (rowOf cVal zVal l k) ∧ Below w.heap.size w wr) (fun i _ => l.length - (intOf i).toNat)
  case atStart =>
    refine ⟨0, Nat.zero_le _, rfl, ?_, (Below.refl _ _).alloc (Nat.le_refl _) _⟩
    rw [rowOf_zero]
    exact Row.new _ _ _
  case round =>
    obtain ⟨k, hk, rfl, hrow, hb⟩ := hrel
    clear hmk
    by_cases hlt : k < l.length
    · obtain ⟨b, off, rfl, hbb, hc⟩ := hcell (by intro e; simp [e] at hlt)
      have hx0 := (hb.cell (p := ⟨b, off + k * 2 + 0, none⟩) hbb).trans (hc k _ (List.getElem?_eq_getElem hlt) 0 _ rfl)
      have hx1 := (hb.cell (p := ⟨b, off + k * 2 + 1, none⟩) hbb).trans (hc k _ (List.getElem?_eq_getElem hlt) 1 _ rfl)
      simp only [Nat.add_zero] at hx0
      clear hc hcell
      go_wp2_with fail
      refine (toVal_any l[k] _).mono ?_
      rintro e w1 ⟨rfl, hb1⟩
      have hb2 := hb.trans (hb1.mono hb.size)
      have hrow1 := hrow.below hb1 hrow.lt
      obtain ⟨u0, hu0⟩ := rowOf_old (f := cVal) (zs := zVal) (s := 2) (fun _ => rfl) rfl l k 0 hlt (by omega)
      have ho0 := (hrow1.cell (k * 2 + 0)).trans hu0
      have hf0 := hrow1.frozen (k * 2)
      obtain ⟨u1, hu1⟩ := rowOf_old (f := cVal) (zs := zVal) (s := 2) (fun _ => rfl) rfl l k 1 hlt (by omega)
      have ho1 := (hrow1.cell (k * 2 + 1)).trans hu1
      have hf1 := hrow1.frozen (k * 2 + 1)
      simp only [Nat.add_zero] at ho0
      clear hu0 hx0 hu1 hx1 hb1 hrow hb
      go_wp2_with fail
      have hset := rowOf_next (f := cVal) (zs := zVal) (s := 2) (fun _ => rfl) rfl l k hlt
      go_roundw
      case rel => exact ⟨k + 1, by omega, by go_num, hset ▸ ((hrow1.set _ _).set _ _), ((hb2.setCell (Nat.le_refl _) _).setCell (Nat.le_refl _) _)⟩
      case measure => simp [intOf]; omega
    · go_wp2
      go_ret
      have e : k = l.length := by omega
      subst e
      rw [rowOf_all] at hrow
      exact ⟨_, rfl, OwnS.of_row hrow (Nat.le_refl _) (fun _ => rfl) (by simp only [maxLen]; omega), hb⟩

set_option maxHeartbeats 1000000 in
theorem eqValS_any (v1 v2 : Value) (xs ys : List TVal) (w : World) (h1 : RdS w w.heap.size 2 cVal v1 xs) (h2 : RdS w w.heap.size 2 cVal v2 ys) (hn : xs.length ≤ 8796093022207) (hn2 : ys.length ≤ 8796093022207) :
    Calls Tryz.prog 50 #[v1, v2] w (SaysB (decide (xs = ys)) w) := by
  obtain ⟨A1, c1, rfl, hlc1, hcm1, hcell1⟩ := h1
  obtain ⟨A2, c2, rfl, hlc2, hcm2, hcell2⟩ := h2
  by_cases hl : xs.length = ys.length
  case neg =>
    have hne : decide (xs = ys) = false := by
      simp only [decide_eq_false_iff_not]
      intro e; exact hl (by rw [e])
    rw [hne]
    go_enter Tryz.func50, Tryz.ntmps50
    go_wp2
    go_ret
    exact ⟨rfl, Below.refl _ _⟩
  have hl1 : xs.length ≤ ys.length := by omega
  have hl2 : ys.length ≤ xs.length := by omega
  have hb0 : ((xs.length : Int) != ys.length) = false := by simp [hl]
  clear hl
  go_enter Tryz.func50, Tryz.ntmps50
  go_wp2
  go_loopw [5] (fun i wr => ∃ k : Nat, k ≤ xs.length ∧ i = .int .i64 k ∧ Below w.heap.size w wr ∧ xs.take k = ys.take k) (fun i _ => xs.length - (intOf i).toNat)
  case atStart => exact ⟨0, Nat.zero_le _, rfl, Below.refl _ _, by simp⟩
  case round =>
    obtain ⟨k, hk, rfl, hb, heq⟩ := hrel
    have HE := Lib.hid heq
    clear heq
    by_cases hlt : k < xs.length
    · obtain ⟨b1, o1, rfl, hbA, hcA⟩ := hcell1 (by intro e; simp [e] at hlt)
      obtain ⟨b2, o2, rfl, hbB, hcB⟩ := hcell2 (by intro e; simp [e] at hl1; simp [hl1] at hlt)
      have hlt2 : k < ys.length := by omega
      have hx0 := (hb.cell (p := ⟨b1, o1 + k * 2 + 0, none⟩) hbA).trans (hcA k _ (List.getElem?_eq_getElem hlt) 0 _ rfl)
      have hy0 := (hb.cell (p := ⟨b2, o2 + k * 2 + 0, none⟩) hbB).trans (hcB k _ (List.getElem?_eq_getElem hlt2) 0 _ rfl)
      have hx1 := (hb.cell (p := ⟨b1, o1 + k * 2 + 1, none⟩) hbA).trans (hcA k _ (List.getElem?_eq_getElem hlt) 1 _ rfl)
      have hy1 := (hb.cell (p := ⟨b2, o2 + k * 2 + 1, none⟩) hbB).trans (hcB k _ (List.getElem?_eq_getElem hlt2) 1 _ rfl)
      simp only [Nat.add_zero] at hx0 hy0
      clear hcA hcB hcell1 hcell2
      go_wp2
      go_still_tail 8, (by kernel_rfl)
      change wpList _ _ _ _ _ wr.drew
      go_wp2_with fail
      refine (eqVal_any xs[k] ys[k] _).mono ?_
      rintro e w1 ⟨rfl, hb1⟩
      have hb2 := hb.drew.trans (hb1.mono hb.size)
      clear hx0 hy0 hx1 hy1 hb hb1
      by_cases hxy : xs[k] = ys[k]
      · have hd : decide (xs[k] = ys[k]) = true := decide_eq_true hxy
        have HX := Lib.hid hxy
        clear hxy
        rw [hd]
        clear hd
        go_wp2_with fail
        go_roundw
        case rel => exact ⟨k + 1, by omega, by go_num, hb2, by rw [List.take_succ_eq_append_getElem hlt, List.take_succ_eq_append_getElem hlt2, HE.out, HX.out]⟩
        case measure => simp [intOf]; omega
      · have hd : decide (xs[k] = ys[k]) = false := decide_eq_false hxy
        have hne : decide (xs = ys) = false := by
          simp only [decide_eq_false_iff_not]
          intro e; subst e; exact hxy rfl
        have HN := Lib.hid hne
        clear hne hxy
        rw [hd]
        clear hd
        go_wp2_with fail
        go_ret
        exact ⟨ret_bool HN.out.symm, hb2⟩
    · have hall : decide (xs = ys) = true := by
        simp only [decide_eq_true_eq]
        have := HE.out
        rwa [List.take_of_length_le (by omega), List.take_of_length_le (by omega)] at this
      have HN := Lib.hid hall
      clear hall
      go_wp2
      go_ret
      exact ⟨ret_bool HN.out.symm, hb⟩

end Go.Proofs.YtimnogjgokljbaaGreatDoor

end
section
/-!
  Contracts in the words RdS, NewS and the like, out of the evaluator's and into them.
-/
namespace Go.Proofs.YtimnogjgokljbaaGreatDoor
set_option maxRecDepth 100000
set_option linter.unusedVariables false
set_option linter.unusedSimpArgs false
open Go Go.RowKit

@[simp] theorem rowsF_Val {a b : List TVal} : rowsF cVal a = rowsF cVal b ↔ a = b := rowsF_iff fun x y h => by simpa [cVal, Prod.ext_iff] using h

section
variable {P : Program} {F : FuncId} {α : Type} {f : α → List Value} {s : Nat}
/-- a predicate of one list -/
theorem Sound.listB (hf : ∀ x, (f x).length = s) {ok : List α → Prop} {p : List α → Bool} (h : ∀ v l w, ok l → RdS w w.heap.size s f v l → Calls P F #[v] w (SaysB (p l) w)) : Sound P F (Go.Proofs.YtimnogjgokljbaaGreatDoor.mdl ok (fun l => [aL f l]) fun l => rB (p l)) :=
  Sound.says (fun _ => rfl) fun l vs w hok hr => by
    obtain ⟨v, rfl, h2⟩ := RepAs.one hr
    exact (h v l w hok (rep_RdS hf (repA_list_inv h2))).mono fun e w' hq => hq
theorem aL_rep {w : World} {v : Value} {l : List α} (hf : ∀ x, (f x).length = s) (h1 : ∀ x, ∀ u ∈ f x, u.oneCell' = true) (h : RdS w w.heap.size s f v l) : RepA w (aL f l) v := repA_list (h.rep hf h1)
theorem aI_rep {w : World} (n : Int) : RepA w (aI n) (.int .i64 n) := repA_sc rfl
theorem aB_rep {w : World} (b : Bool) : RepA w (aB b) (.bool b) := repA_sc rfl
theorem aS_rep {w : World} (b : ByteArray) : RepA w (aS b) (.string b) := repA_sc rfl

/-- a slice of one's own and scalars -/
def NewT {α : Type} (W : World) (s : Nat) (f : α → List Value) (l : List α) (rest : List Value) (e : Ending) (w' : World) : Prop :=
  ∃ v, e = .returned (.tuple (v :: rest).toArray) ∧ OwnS w' W.heap.size s f v l ∧ Below W.heap.size W w'
/-- scalars alone -/
def SaysT (rest : List Value) (W : World) (e : Ending) (w' : World) : Prop := e = .returned (.tuple rest.toArray) ∧ Below W.heap.size W w'
abbrev rSc (v : Value) : Bool × List RL := (false, [.ro (.sc v)])
abbrev rL {α : Type} (e s : Nat) (f : α → List Value) (l : List α) : Res := .comp false [.own .ft e s (rowsF f l)]
abbrev rN : Res := .comp false [.ro (.sl [])]
abbrev rTL {α : Type} (e s : Nat) (f : α → List Value) (l : List α) (rest : List (Bool × List RL)) : Res := .tup ((false, [.own .ft e s (rowsF f l)]) :: rest)
abbrev rTN (rest : List (Bool × List RL)) : Res := .tup ((false, [.ro (.sl [])]) :: rest)

theorem rep_empty {w : World} {γ : Nat → Option Nat} {v : Value} (h : RepL w γ (.sl []) v) (B : Nat) : OwnS w B s f v [] := by
  cases h with
  | emp hc => exact ⟨_, _, rfl, Nat.zero_le _, hc, fun h => absurd rfl h⟩
  | sl val g1 g2 g3 g4 g5 g6 g7 => exact ⟨_, _, rfl, Nat.zero_le _, g4, fun h => absurd rfl h⟩
theorem rest_vals {B : Nat} {w : World} {γ : Nat → Option Nat} {hdr : Nat → Value} {us : List Value} {rest : List Value} {g0 : Bool × List RL} (hl : us.length = (g0 :: rest.map rSc).length)
    (h : ∀ (j : Nat) (g : Bool) (ls : List RL), (g0 :: rest.map rSc)[j]? = some (g, ls) → ∃ u, us[j]? = some u ∧ RepRC B w γ hdr (64 * j) g ls u) : ∃ v, us = v :: rest := by
  cases us with
  | nil => simp at hl
  | cons v us =>
    refine ⟨v, ?_⟩
    congr 1
    refine List.ext_getElem? fun i => ?_
    cases hi : rest[i]? with
    | none =>
      have := List.getElem?_eq_none_iff.1 hi
      simp only [List.length_cons, List.length_map] at hl
      exact List.getElem?_eq_none (by omega)
    | some x =>
      obtain ⟨u, h1, h2⟩ := h (i + 1) false [.ro (.sc x)] (by simp [hi])
      simp only [List.getElem?_cons_succ] at h1
      rw [h1]
      obtain ⟨l, e, h3⟩ := h2
      cases e
      cases h3
      rfl
theorem calls_newT {m : List Arg → Option Res} {args : List Arg} {vs : List Value} {w : World} {e : Nat} {l : List α} {rest : List Value} (hf : ∀ x, (f x).length = s) (hs : Sound P F m) (hm : m args = some (rTL e s f l (rest.map rSc))) (hr : RepAs w args vs) (hg : GlobOk none0 w := by first | exact glob_triv | assumption) :
    Calls P F vs.toArray w (NewT w s f l rest) := (hs args _ vs w hg hm hr).mono fun e w' ⟨u, γ, hdr, h1, h2, _, _, h5⟩ => by
  obtain ⟨us, rfl, hl, h6⟩ := h5
  obtain ⟨v, rfl⟩ := rest_vals hl h6
  obtain ⟨v', h7, h8⟩ := h6 0 _ _ rfl
  cases h7
  obtain ⟨x, e1, h9⟩ := h8
  cases e1
  exact ⟨v, h1, own_OwnS hf h9, h2⟩
theorem calls_newTN {m : List Arg → Option Res} {args : List Arg} {vs : List Value} {w : World} {rest : List Value} (hs : Sound P F m) (hm : m args = some (rTN (rest.map rSc))) (hr : RepAs w args vs) (hg : GlobOk none0 w := by first | exact glob_triv | assumption) :
    Calls P F vs.toArray w (NewT w s f [] rest) := (hs args _ vs w hg hm hr).mono fun e w' ⟨u, γ, hdr, h1, h2, _, _, h5⟩ => by
  obtain ⟨us, rfl, hl, h6⟩ := h5
  obtain ⟨v, rfl⟩ := rest_vals hl h6
  obtain ⟨v', h7, h8⟩ := h6 0 _ _ rfl
  cases h7
  obtain ⟨x, e1, h9⟩ := h8
  cases e1
  exact ⟨v, h1, rep_empty h9 _, h2⟩
theorem calls_new {m : List Arg → Option Res} {args : List Arg} {vs : List Value} {w : World} {e : Nat} {l : List α} (hf : ∀ x, (f x).length = s) (hs : Sound P F m) (hm : m args = some (rL e s f l)) (hr : RepAs w args vs) (hg : GlobOk none0 w := by first | exact glob_triv | assumption) :
    Calls P F vs.toArray w (NewS w s f l) := (hs args _ vs w hg hm hr).mono fun e w' ⟨u, γ, hdr, h1, h2, _, _, h5⟩ => by
  obtain ⟨x, e1, h9⟩ := h5
  cases e1
  exact ⟨u, h1, own_OwnS hf h9, h2⟩
theorem calls_newN {m : List Arg → Option Res} {args : List Arg} {vs : List Value} {w : World} (hs : Sound P F m) (hm : m args = some rN) (hr : RepAs w args vs) (hg : GlobOk none0 w := by first | exact glob_triv | assumption) :
    Calls P F vs.toArray w (NewS w s f []) := (hs args _ vs w hg hm hr).mono fun e w' ⟨u, γ, hdr, h1, h2, _, _, h5⟩ => by
  obtain ⟨x, e1, h9⟩ := h5
  cases e1
  exact ⟨u, h1, rep_empty h9 _, h2⟩
theorem calls_says {m : List Arg → Option Res} {args : List Arg} {vs : List Value} {w : World} {v : Value} (hs : Sound P F m) (hm : m args = some (.comp false [.ro (.sc v)])) (hr : RepAs w args vs) (hg : GlobOk none0 w := by first | exact glob_triv | assumption) :
    Calls P F vs.toArray w fun e w' => e = .returned v ∧ Below w.heap.size w w' := (hs args _ vs w hg hm hr).mono fun e w' ⟨u, γ, hdr, h1, h2, _, _, h5⟩ => by
  obtain ⟨x, e1, h9⟩ := h5
  cases e1
  cases h9
  exact ⟨h1, h2⟩
end

/-! sums of the first k -/
def sumK {α : Type} (c : α → Int) (l : List α) (k : Nat) : Int := ((l.take k).map c).sum
theorem sumK_zero {α : Type} (c : α → Int) (l : List α) : sumK c l 0 = 0 := rfl
theorem sumK_succ {α : Type} (c : α → Int) {l : List α} {k : Nat} (h : k < l.length) : sumK c l (k + 1) = sumK c l k + c l[k] := by
  unfold sumK
  rw [List.take_succ_eq_append_getElem h, List.map_append, List.sum_append]
  simp only [List.map_cons, List.map_nil, List.sum_cons, List.sum_nil, Int.add_zero]
theorem sumK_all {α : Type} (c : α → Int) {l : List α} {k : Nat} (h : l.length ≤ k) : sumK c l k = (l.map c).sum := by unfold sumK; rw [List.take_of_length_le h]
theorem sumK_in {α : Type} {c : α → Int} {l : List α} {m : Nat} (h : ∀ k (hk : k < l.length), 0 ≤ c l[k] ∧ c l[k] ≤ m) : ∀ k, k ≤ l.length → 0 ≤ sumK c l k ∧ sumK c l k ≤ m * k
  | 0, _ => by simp [sumK]
  | k + 1, hk => by
    have ih := sumK_in h k (by omega)
    have := h k (by omega)
    rw [sumK_succ c (by omega)]
    have e : (m : Int) * ((k + 1 : Nat) : Int) = m * k + m := by rw [Int.natCast_add, Int.mul_add]; simp
    omega
theorem one_in {α : Type} {f : α → List Value} (h : ∀ x, ∀ u ∈ f x, u.oneCell' = true) : ∀ x, ∀ u ∈ f x, u.oneCell' = true := h
theorem cInt_one : ∀ x, ∀ u ∈ cInt x, u.oneCell' = true := fun x u hu => by simp [cInt] at hu; subst hu; rfl
theorem cStr_one : ∀ x, ∀ u ∈ cStr x, u.oneCell' = true := fun x u hu => by simp [cStr] at hu; subst hu; rfl
theorem cBool_one : ∀ x, ∀ u ∈ cBool x, u.oneCell' = true := fun x u hu => by simp [cBool] at hu; subst hu; rfl
theorem cVal_one : ∀ x, ∀ u ∈ cVal x, u.oneCell' = true := fun x u hu => by simp [cVal] at hu; rcases hu with rfl | rfl <;> rfl

end Go.Proofs.YtimnogjgokljbaaGreatDoor

end
