/-
  Put together: Open EvGl.
-/
import Derived.Test.YtimnogjgokljbaaGreatDoorBase
import Derived.Test.YtimnogjgokljbaaGreatDoorRows
import Derived.ProofKit
import Derived.SizedLaws
import Derived.JoinedCond
import Derived.Deep.Slices
import Derived.Deep.CondSized
section
/-!
  Opening a law's arguments into lists, and the frame of a law's proof, once for all laws. No function of the program is named here.
-/
namespace Go.Proofs.YtimnogjgokljbaaGreatDoor
set_option maxRecDepth 100000
set_option linter.unusedVariables false
set_option linter.unusedSimpArgs false
open Go.RowKit Go.ChangeShapes Go.WideShapes Go.ChangeAt Go.Deep

/-- The slice value v reads in w as the list l: element i's s cells cs stand to l[i] as E says; the row of cells lies below block B. -/
def RdR {α : Type} (w : World) (B s : Nat) (E : List Value → α → Prop) (v : Value) (l : List α) : Prop :=
  ∃ A c, v = .slice A l.length c ∧ l.length ≤ c ∧ c ≤ maxLen ∧
    (l ≠ [] → ∃ b off, A = some ⟨b, off, none⟩ ∧ b < B ∧ ∀ i x, l[i]? = some x → ∃ cs, cs.length = s ∧ E cs x ∧ ∀ j u, cs[j]? = some u → w.cell? ⟨b, off + i * s + j, none⟩ = some u)

section
variable {H : Type} {enc : TypeId × Value → H} {P : Program} {w : World} {base : Nat} {spare : Nat → Bool} {held : Bool}

theorem list_of_exists {α : Type} {R : Nat → α → Prop} (n : Nat) (h : ∀ i, i < n → ∃ x, R i x) : ∃ l : List α, l.length = n ∧ ∀ i x, l[i]? = some x → R i x := by
  induction n with
  | zero => exact ⟨[], rfl, fun i x hx => by simp at hx⟩
  | succ n ih =>
    obtain ⟨l, hl, hr⟩ := ih (fun i hi => h i (by omega))
    obtain ⟨y, hy⟩ := h n (by omega)
    refine ⟨l ++ [y], by simp [hl], fun i x hx => ?_⟩
    by_cases hi : i < n
    · rw [List.getElem?_append_left (by omega)] at hx
      exact hr i x hx
    · have hlt := (List.getElem?_eq_some_iff.1 hx).1
      simp only [List.length_append, List.length_cons, List.length_nil] at hlt
      have : i = n := by omega
      subst this
      rw [List.getElem?_append_right (by omega), hl] at hx
      simp at hx
      subst hx
      exact hy

theorem open_rows {α : Type} {t e : TypeId} {s B fuel : Nat} {cs : List Value} {d : DataW H} {ps : List MemPlace} {E : List Value → α → Prop} (ht : P.underlying t = some (.slice e)) (hs : P.cellsOf e = s) (hs0 : 0 < s)
    (h : DataW.trod enc P w base spare held fuel t cs = some (d, ps)) (hB : ∀ p ∈ ps, p.block < B)
    (hE : ∀ n cs y, cs.length = s → DataW.trod enc P w base spare held n e cs = some y → (∀ p ∈ y.2, p.block < B) → ∃ x, E cs x) :
    ∃ (v : Value) (l : List α), cs = [v] ∧ RdR w B s E v l ∧ (d = .nil ∧ l = [] ∨ ∃ el sp, d = .slice el sp ∧ el.length = l.length) := by
  rcases open_slice ht h with ⟨rfl, hx⟩ | ⟨a, len, cap, m, n, D, Pl, hcs, hb, hl, hm, hmm, hx, hi⟩
  · simp only [Prod.mk.injEq] at hx
    exact ⟨_, [], rfl, ⟨none, 0, rfl, Nat.le_refl _, by simp [maxLen], fun hne => absurd rfl hne⟩, .inl ⟨hx.1, rfl⟩⟩
  · simp only [Prod.mk.injEq] at hx
    obtain ⟨rfl, rfl⟩ := hx
    have hlm : len ≤ m := by rw [hmm]; split <;> omega
    rw [hs] at hi hB
    obtain ⟨l, hll, hR⟩ := list_of_exists (α := α) (R := fun i x => ∃ cs, cs.length = s ∧ E cs x ∧ ∀ j u, cs[j]? = some u → w.cell? ((a.add (i * s)).add j) = some u) len (fun i hil => by
      obtain ⟨cs', hc, htr⟩ := hi i (by omega)
      obtain ⟨_, hlen, hcell⟩ := World.cells?_some hc
      obtain ⟨x, hx⟩ := hE n cs' _ hlen htr (fun p hp => hB p (List.mem_append_right _ (List.mem_flatMap.2 ⟨i, by simp; omega, hp⟩)))
      refine ⟨x, cs', hlen, hx, fun j u hu => ?_⟩
      have hj : j < s := by
        have := (List.getElem?_eq_some_iff.1 hu).1
        omega
      rw [hcell j hj]; exact hu)
    refine ⟨_, l, hcs, ⟨some a, cap, by rw [hll], by omega, hm, fun hne => ?_⟩, .inr ⟨_, _, rfl, by simp [hll]⟩⟩
    have hlpos : 0 < len := by
      rw [← hll]
      exact List.length_pos_iff.2 hne
    obtain ⟨b, off, spot⟩ := a
    obtain ⟨cs0, hlen0, _, hc0⟩ := hR 0 l[0] (List.getElem?_eq_getElem (by omega))
    have hcell0 := hc0 0 cs0[0] (List.getElem?_eq_getElem (by omega))
    have hspot : spot = none := by simpa [Addr.add] using World.cell?_spot hcell0
    subst hspot
    have hms : 0 < m * s := Nat.mul_pos (by omega) hs0
    refine ⟨b, off, rfl, hB (.cell b off) (List.mem_append_left _ (MemPlace.mem_row.2 ⟨0, by omega, by simp⟩)), fun i x hx => ?_⟩
    obtain ⟨cs1, h1, h2, h3⟩ := hR i x hx
    refine ⟨cs1, h1, h2, fun j u hu => ?_⟩
    have := h3 j u hu
    rwa [add_plain, add_plain] at this

/-- flat elements: the cells are a function of the element -/
theorem RdR.flat {α : Type} {s B : Nat} {f : α → List Value} {ok : α → Prop} {v : Value} {l : List α} (h : RdR w B s (fun cs x => cs = f x ∧ ok x) v l) : RdS w B s f v l ∧ ∀ x ∈ l, ok x := by
  obtain ⟨A, c, hv, hlc, hcm, hn⟩ := h
  constructor
  · refine ⟨A, c, hv, hlc, hcm, fun hne => ?_⟩
    obtain ⟨b, off, hA, hb, hc⟩ := hn hne
    refine ⟨b, off, hA, hb, fun i x hx j u hu => ?_⟩
    obtain ⟨cs, _, ⟨rfl, _⟩, h3⟩ := hc i x hx
    exact h3 j u hu
  · intro x hx
    obtain ⟨b, off, hA, hb, hc⟩ := hn (by intro e; subst e; simp at hx)
    obtain ⟨i, hi, rfl⟩ := List.getElem_of_mem hx
    obtain ⟨cs, _, ⟨_, h2⟩, _⟩ := hc i _ (List.getElem?_eq_getElem hi)
    exact h2

/-- one string cell -/
theorem elem_str {e : TypeId} (he : P.underlying e = some .string) {B : Nat} : ∀ n cs y, cs.length = 1 → DataW.trod enc P w base spare held n e cs = some y → (∀ p ∈ y.2, p.block < B) → ∃ x : ByteArray, cs = cStr x ∧ x.size ≤ maxLen := by
  intro n cs y _ h _
  obtain ⟨s, rfl, _, hs⟩ := DataW.trod_string he h
  exact ⟨s, rfl, hs⟩

theorem elem_int {e : TypeId} (he : P.underlying e = some (.int .i64)) {B : Nat} : ∀ n cs y, cs.length = 1 → DataW.trod enc P w base spare held n e cs = some y → (∀ p ∈ y.2, p.block < B) → ∃ x : Int, cs = cInt x ∧ okInt x := by
  intro n cs y _ h _
  obtain ⟨s, rfl, _, hs⟩ := DataW.trod_int he h
  exact ⟨s, rfl, hs⟩
theorem elem_bool {e : TypeId} (he : P.underlying e = some .bool) {B : Nat} : ∀ n cs y, cs.length = 1 → DataW.trod enc P w base spare held n e cs = some y → (∀ p ∈ y.2, p.block < B) → ∃ x : Bool, cs = cBool x ∧ okBool x := by
  intro n cs y _ h _
  obtain ⟨s, rfl, _⟩ := DataW.trod_bool he h
  exact ⟨s, rfl, trivial⟩

/-- an argument's slice: the form in which a law's proof meets it -/
theorem arg_rows {α : Type} {t e : TypeId} {s B : Nat} {v : Value} {d : DataW H} {ps : List MemPlace} {E : List Value → α → Prop} {r : Reach} {b0 : Nat} (ht : P.underlying t = some (.slice e)) (hs : P.cellsOf e = s) (hs0 : 0 < s)
    (hv : Value.okWide P w r b0 t v) (h : DataW.Trod enc P w base spare held t v d ps) (hB : ∀ p ∈ ps, p.block < B)
    (hE : ∀ n cs y, cs.length = s → DataW.trod enc P w base spare held n e cs = some y → (∀ p ∈ y.2, p.block < B) → ∃ x, E cs x) :
    ∃ l : List α, RdR w B s E v l ∧ (d = .nil ∧ l = [] ∨ ∃ el sp, d = .slice el sp ∧ el.length = l.length) := by
  obtain ⟨a0, len, cap, rfl⟩ := okWide_slice ht hv
  obtain ⟨fuel, hf⟩ := h
  obtain ⟨v', l, hcs, h1, h2⟩ := open_rows ht hs hs0 hf hB hE
  simp [Value.cells] at hcs
  subst hcs
  exact ⟨l, h1, h2⟩

/-- the reach of an argument's slice -/
theorem arg_reach {α : Type} {ts : List TypeId} {ds : List (DataW H)} {j : Nat} {t e : TypeId} {d : DataW H} {l : List α} (hsz : (DataW.weightsEach P ts ds).all (· ≤ reachBytes) = true) (ht : ts[j]? = some t) (hd : ds[j]? = some d)
    (hu : P.underlying t = some (.slice e)) (h : d = .nil ∧ l = [] ∨ ∃ el sp, d = .slice el sp ∧ el.length = l.length) : l.length * P.bytesOf e ≤ 140737488351232 := by
  rcases h with ⟨_, rfl⟩ | ⟨el, sp, rfl, hl⟩
  · simp
  · have := sized_slice hsz ht hd hu
    simp only [reachBytes] at this
    rw [← hl]
    exact Nat.le_trans (Nat.mul_le_mul_right _ (by omega)) this

theorem below_trodAll (hl : laidOutB P = true) {W W' : World} (hb : Below W.heap.size W W') : ∀ (ts : List TypeId) (vs : List Value) (ds : List (DataW H)) (ps : List MemPlace),
    (∀ t ∈ ts, P.readableRec t = true ∧ t < P.types.size) → DataW.TrodAll enc P W 0 (fun _ => true) true ts vs ds ps → (∀ x ∈ ps, x.block < W.heap.size) →
    DataW.TrodAll enc P W' 0 (fun b => decide (b < W.heap.size)) true ts vs ds ps
  | [], [], [], _, _, h, _ => h
  | t :: ts, v :: vs, d :: ds, ps, hr, h, hlt => by
    obtain ⟨p, q, h1, h2, rfl⟩ := h
    obtain ⟨hr1, hr2⟩ := hr t (by simp)
    exact ⟨p, q, Below.trod hl hr1 hr2 h1 hb (fun x hx => hlt x (List.mem_append_left _ hx)), below_trodAll hl hb ts vs ds q (fun t ht => hr t (by simp [ht])) h2 (fun x hx => hlt x (List.mem_append_right _ hx)), rfl⟩
  | [], [], _ :: _, _, _, h, _ => h.elim
  | [], _ :: _, [], _, _, h, _ => h.elim
  | [], _ :: _, _ :: _, _, _, h, _ => h.elim
  | _ :: _, [], [], _, _, h, _ => h.elim
  | _ :: _, [], _ :: _, _, _, h, _ => h.elim
  | _ :: _, _ :: _, [], _, _, h, _ => h.elim

/-- A LAW's POST, out of 'it returned true, and nothing that was there has turned'. -/
theorem law_post {fn : Func} {sp : ChangeSpec} {tb : TypeId} (hbt : P.underlying tb = some .bool) (hres : fn.resultTypes = #[tb]) (hvars : sp.vars = []) (hl : laidOutB P = true)
    (hr : ∀ t ∈ fn.params.toList, P.readableRec t = true ∧ t < P.types.size) {W W' : World} {args : Array Value} {ds gs : List (DataW H)} {before : List MemPlace}
    (hW : DataW.Whole enc P fn.params.toList sp.vars false W args.toList ds gs before)
    (hfn : (sp.fn H (ds ++ [])).results = [.lit (.bool true)] ∧ (sp.fn H (ds ++ [])).args = ds ∧ (sp.fn H (ds ++ [])).vars = []) (hb : Below W.heap.size W W') :
    sp.post enc P fn false true false false W args (.bool true) W' := by
  have hW' := hW
  obtain ⟨p, q, hA, hV, rfl, _, _⟩ := hW
  rw [hvars] at hV
  obtain ⟨rfl, rfl⟩ := trodVars_none hV
  have hlt : ∀ x ∈ p, x.block < W.heap.size := fun x hx => by simpa using hW'.lt x (List.mem_append_left _ hx)
  refine ⟨_, _, _, [], p, [], hW', ?_, ?_, ?_, hb.frame _, fun h => by cases h⟩
  · rw [hfn.1, hres]
    exact trodAll_mk1 (shut_bool hbt true)
  · rw [hfn.2.1]
    exact below_trodAll hl hb _ _ _ _ hr hA hlt
  · rw [hfn.2.2, hvars]
    rfl
end

end Go.Proofs.YtimnogjgokljbaaGreatDoor

end
section
/-!
  The package variables that are read, and what they hold.
-/
namespace Go.Proofs.YtimnogjgokljbaaGreatDoor
set_option maxRecDepth 100000
set_option linter.unusedVariables false
set_option linter.unusedSimpArgs false
open Go Go.RowKit
def shaW : List Nat := [1116352408, 1899447441, 3049323471, 3921009573, 961987163, 1508970993, 2453635748, 2870763221, 3624381080, 310598401, 607225278, 1426881987, 1925078388, 2162078206, 2614888103, 3248222580, 3835390401, 4022224774, 264347078, 604807628, 770255983, 1249150122, 1555081692, 1996064986, 2554220882, 2821834349, 2952996808, 3210313671, 3336571891, 3584528711, 113926993, 338241895, 666307205, 773529912, 1294757372, 1396182291, 1695183700, 1986661051, 2177026350, 2456956037, 2730485921, 2820302411, 3259730800, 3345764771, 3516065817, 3600352804, 4094571909, 275423344, 430227734, 506948616, 659060556, 883997877, 958139571, 1322822218, 1537002063, 1747873779, 1955562222, 2024104815, 2227730452, 2361852424, 2428436474, 2756734187, 3204031479, 3329325298]
def globs : Nat → Option (List Value) := fun g => if g = 0 then some (shaW.map fun (n : Nat) => Value.int .u32 (n : Int)) else none
/-- they hold it in w -/
def GlobOk (γ0 : Nat → Option Nat) (w : World) : Prop := ∀ g cs, globs g = some cs → γ0 g = none ∧ g < w.heap.size ∧ ∀ (j : Nat) (v : Value), cs[j]? = some v → v.oneCell' = true ∧ w.cell? ⟨g, j, none⟩ = some v
end Go.Proofs.YtimnogjgokljbaaGreatDoor

end
