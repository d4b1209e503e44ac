/-
  Snapshots as arguments; SnapOk; what is wanted and what is put together.
-/
import Derived.Test.YteaohgacgcjkjaaDoorEvBs
import Derived.Test.YteaohgacgcjkjaaDoorEvList
import Derived.Test.YteaohgacgcjkjaaDoorSnapOk
namespace Go.Proofs.YteaohgacgcjkjaaDoor
set_option maxRecDepth 100000
set_option linter.unusedVariables false
set_option linter.unusedSimpArgs false
open Go Go.RowKit
set_option maxHeartbeats 4000000

abbrev TSnap := ByteArray × Int × List ByteArray × List Bool
abbrev aSnap (s : TSnap) : Arg := .val true [.sc (.string s.1), .sc (.int .i64 s.2.1), .sl (rowsF cStr s.2.2.1), .sl (rowsF cBool s.2.2.2)]
abbrev okS (s : TSnap) : Prop := s.1.size ≤ 1048576 ∧ s.2.2.1.length ≤ 1048576 ∧ s.2.2.2.length ≤ 1048576
def sOk (s : TSnap) : Prop := snapOk s.1 s.2.1 s.2.2.1 s.2.2.2
instance (s : TSnap) : Decidable (sOk s) := by unfold sOk; infer_instance
theorem snap_rep {w : World} {s : TSnap} {u : Value} (h : RepA w (aSnap s) u) : ∃ vh vg, u = .agg #[.string s.1, .int .i64 s.2.1, vh, vg] ∧ RdS w w.heap.size 1 cStr vh s.2.2.1 ∧ RdS w w.heap.size 1 cBool vg s.2.2.2 := by
  obtain ⟨us, rfl, hl, hg⟩ := h
  match us, hl with
  | [u0, u1, u2, u3], _ =>
    obtain ⟨x0, e0, r0⟩ := hg 0 _ rfl
    obtain ⟨x1, e1, r1⟩ := hg 1 _ rfl
    obtain ⟨x2, e2, r2⟩ := hg 2 _ rfl
    obtain ⟨x3, e3, r3⟩ := hg 3 _ rfl
    cases e0; cases e1; cases e2; cases e3
    cases r0; cases r1
    exact ⟨_, _, rfl, rep_RdS (fun _ => rfl) r2, rep_RdS (fun _ => rfl) r3⟩
theorem snap_arg {w : World} {s : TSnap} {vh vg : Value} (h1 : RdS w w.heap.size 1 cStr vh s.2.2.1) (h2 : RdS w w.heap.size 1 cBool vg s.2.2.2) : RepA w (aSnap s) (.agg #[.string s.1, .int .i64 s.2.1, vh, vg]) := by
  refine ⟨[.string s.1, .int .i64 s.2.1, vh, vg], rfl, rfl, fun j l hj => ?_⟩
  match j, hj with
  | 0, hj => cases hj; exact ⟨_, rfl, .sc rfl⟩
  | 1, hj => cases hj; exact ⟨_, rfl, .sc rfl⟩
  | 2, hj => cases hj; exact ⟨_, rfl, h1.rep (fun _ => rfl) cStr_one⟩
  | 3, hj => cases hj; exact ⟨_, rfl, h2.rep (fun _ => rfl) cBool_one⟩
  | j + 4, hj => simp at hj
theorem aSnap_inj : ∀ x y : TSnap, [aSnap x] = [aSnap y] → x = y := by
  rintro ⟨a, b, c, d⟩ ⟨a', b', c', d'⟩ h
  simpa [aSnap] using h
noncomputable def mSnapOk := mdl okS (fun s => [aSnap s]) (fun s => rB (decide (sOk s)))
theorem mSnapOk_eq (s : TSnap) (h : okS s) : mSnapOk [aSnap s] = some (rB (decide (sOk s))) := mdl_eq aSnap_inj s h
theorem snapOkS_s : Sound Tryd.prog 25 mSnapOk := Sound.says (fun _ => rfl) fun s vs w hok hr => by
  obtain ⟨v, rfl, h2⟩ := RepAs.one hr
  obtain ⟨vh, vg, rfl, h3, h4⟩ := snap_rep h2
  exact (snapOk_spec s.1 s.2.1 vh vg s.2.2.1 s.2.2.2 w h3 h4 hok.1 hok.2.1 hok.2.2).mono fun e w' hq => hq
theorem snapOkI_s : Sound Tryd.prog 45 mSnapOk := Sound.says (fun _ => rfl) fun s vs w hok hr => by
  obtain ⟨v, rfl, h2⟩ := RepAs.one hr
  obtain ⟨vh, vg, rfl, h3, h4⟩ := snap_rep h2
  exact (snapOk_impl s.1 s.2.1 vh vg s.2.2.1 s.2.2.2 w h3 h4 hok.1 hok.2.1 hok.2.2).mono fun e w' hq => hq


/-- which of the first k are wanted -/
def needK (g : List Bool) (k : Nat) : List Int := ((List.range k).filter fun i => !(g.getD i true)).map fun (i : Nat) => (i : Int)
def needL (s : TSnap) : List Int := if sOk s then needK s.2.2.2 s.2.2.2.length else []
theorem needK_zero (g : List Bool) : needK g 0 = [] := rfl
theorem needK_no {g : List Bool} {k : Nat} (hk : k < g.length) (h : g[k] = true) : needK g (k + 1) = needK g k := by
  unfold needK
  rw [List.range_succ, List.filter_append, List.map_append]
  simp [hk, h]
theorem needK_yes {g : List Bool} {k : Nat} (hk : k < g.length) (h : g[k] = false) : needK g (k + 1) = needK g k ++ [(k : Int)] := by
  unfold needK
  rw [List.range_succ, List.filter_append, List.map_append]
  simp [hk, h]
theorem needK_len (g : List Bool) (k : Nat) : (needK g k).length ≤ k := by
  unfold needK
  rw [List.length_map]
  have := List.length_filter_le (fun i => !(g.getD i true)) (List.range k)
  simpa using this

/-- the first k pieces, put together -/
def catK (h : List ByteArray) (k : Nat) : ByteArray := (h.take k).foldl (· ++ ·) emp
theorem catK_zero (h : List ByteArray) : catK h 0 = emp := rfl
theorem catK_succ {h : List ByteArray} {k : Nat} (hk : k < h.length) : catK h (k + 1) = catK h k ++ h[k] := by
  unfold catK
  rw [List.take_succ_eq_append_getElem hk, List.foldl_append]
  rfl
def sizK (h : List ByteArray) (k : Nat) : Nat := ((h.take k).map ByteArray.size).sum
theorem sizK_succ {h : List ByteArray} {k : Nat} (hk : k < h.length) : sizK h (k + 1) = sizK h k + h[k].size := sum_take_succ _ h k hk
theorem sizK_le (h : List ByteArray) (k : Nat) : sizK h k ≤ (h.map ByteArray.size).sum := by
  unfold sizK
  rw [List.map_take]
  have := List.sum_append_nat (l₁ := (h.map ByteArray.size).take k) (l₂ := (h.map ByteArray.size).drop k)
  rw [List.take_append_drop] at this
  omega
theorem catK_size (h : List ByteArray) : ∀ k, k ≤ h.length → (catK h k).size = sizK h k
  | 0, _ => rfl
  | k + 1, hk => by
    rw [catK_succ (by omega), sizK_succ (by omega), ByteArray.size_append, catK_size h k (by omega)]
def doneS (s : TSnap) : ByteArray := if sOk s ∧ needK s.2.2.2 s.2.2.2.length = [] then catK s.2.2.1 s.2.2.1.length else emp
def doneB (s : TSnap) : Bool := decide (sOk s ∧ needK s.2.2.2 s.2.2.2.length = [])
theorem needK_mono {g : List Bool} {k : Nat} (hk : k < g.length) (h : g[k] = false) : ∀ m, k < m → needK g m ≠ []
  | 0, hm => by omega
  | m + 1, hm => by
    unfold needK
    rw [List.range_succ, List.filter_append, List.map_append]
    by_cases e : k = m
    · subst e
      simp [hk, h]
    · have := needK_mono hk h m (by omega)
      unfold needK at this
      intro hc
      exact this (List.append_eq_nil_iff.1 hc).1

abbrev bxS (r : ByteArray) (c : Int) (lh : List ByteArray) (lg : List Bool) : Blk := .box [.sc (.string r), .sc (.int .i64 c), .sl (rowsF cStr lh), .sl (rowsF cBool lg)]
theorem row_bool {g : List Bool} {k : Nat} (h : k < g.length) : (rowsF cBool g)[k]? = some [.sc (.bool g[k])] := row_at cBool g h
theorem row_str {g : List ByteArray} {k : Nat} (h : k < g.length) : (rowsF cStr g)[k]? = some [.sc (.string g[k])] := row_at cStr g h
theorem emp_app (b : ByteArray) : emp ++ b = b := by
  apply ba_inj
  simp [emp]
theorem cat_in {lh : List ByteArray} {k : Nat} (hk : k < lh.length) (ht : (lh.map ByteArray.size).sum ≤ 1048576) : (catK lh k).size + lh[k].size ≤ 1048576 := by
  have h1 := catK_size lh (k + 1) (by omega)
  have h2 := sizK_le lh (k + 1)
  rw [catK_succ hk, ByteArray.size_append] at h1
  omega
abbrev okD (s : TSnap) : Prop := okS s ∧ (s.2.2.1.map ByteArray.size).sum ≤ 1048576
theorem need_all {g : List Bool} {k : Nat} (hk : k ≤ g.length) (h : ∀ j (hj : j < k), g[j]'(by omega) = true) : needK g k = [] := by
  induction k with
  | zero => rfl
  | succ k ih =>
    rw [needK_no (by omega) (h k (by omega))]
    exact ih (by omega) (fun j hj => h j (by omega))
theorem needL_le (s : TSnap) : (needL s).length ≤ s.2.2.2.length := by
  unfold needL
  split
  · exact needK_len _ _
  · simp

end Go.Proofs.YteaohgacgcjkjaaDoor
