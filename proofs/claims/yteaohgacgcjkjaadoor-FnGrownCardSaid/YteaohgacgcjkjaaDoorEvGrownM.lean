/-
  MuchAlike, out of the walked contract.
-/
import Derived.Test.YteaohgacgcjkjaaDoorEvTree
import Derived.Test.YteaohgacgcjkjaaDoorEvList
import Derived.Test.YteaohgacgcjkjaaDoorMuch
namespace Go.Proofs.YteaohgacgcjkjaaDoor
set_option maxRecDepth 100000
set_option linter.unusedVariables false
set_option linter.unusedSimpArgs false
open Go Go.RowKit
set_option maxHeartbeats 4000000

theorem lcp_self (l : List ByteArray) : lcp l l = l.length := by
  induction l with
  | nil => rfl
  | cons x l ih => simp [lcp, ih]
noncomputable def mMuch := mdl (fun x : List ByteArray × List ByteArray => x.1.length ≤ 8796093022207 ∧ x.2.length ≤ 8796093022207) (fun x => [aL cStr x.1, aL cStr x.2]) (fun x => rI (lcp x.1 x.2))
theorem mMuch_eq (a b : List ByteArray) (h1 : a.length ≤ 8796093022207) (h2 : b.length ≤ 8796093022207) : mMuch [aL cStr a, aL cStr b] = some (rI (lcp a b)) := mdl_eq (by rintro ⟨a, b⟩ ⟨d, e⟩ h; simpa using h) (a, b) ⟨h1, h2⟩
theorem quiet_says {v : Value} {w : World} {e : Ending} {w' : World} (h : Quiet v w e w') : e = .returned v ∧ Below w.heap.size w w' := by
  obtain ⟨h1, n, rfl⟩ := h
  exact ⟨h1, below_drewN (Below.refl _ _) n⟩
theorem RepAs.two {w : World} {x y : Arg} {vs : List Value} (h : RepAs w [x, y] vs) : ∃ v u, vs = [v, u] ∧ RepA w x v ∧ RepA w y u := by
  obtain ⟨h1, h2⟩ := h
  obtain ⟨v, h3, h4⟩ := h2 0 x rfl
  obtain ⟨u, h5, h6⟩ := h2 1 y rfl
  match vs, h1 with
  | [a, b], _ =>
    cases h3
    cases h5
    exact ⟨_, _, rfl, h4, h6⟩
theorem muchS_s : Sound Tryd.prog 16 mMuch := Sound.says (fun _ => rfl) fun x vs w hok hr => by
  obtain ⟨v1, v2, rfl, h1, h2⟩ := RepAs.two hr
  exact (muchAlike_spec v1 v2 x.1 x.2 w.heap.size w (rep_RdS (s := 1) (fun _ => rfl) (repA_list_inv h1)) (rep_RdS (s := 1) (fun _ => rfl) (repA_list_inv h2)) hok.1 hok.2).mono fun e w' hq => quiet_says hq
theorem muchI_s : Sound Tryd.prog 15 mMuch := Sound.says (fun _ => rfl) fun x vs w hok hr => by
  obtain ⟨v1, v2, rfl, h1, h2⟩ := RepAs.two hr
  exact (muchAlike_impl v1 v2 x.1 x.2 w.heap.size w (rep_RdS (s := 1) (fun _ => rfl) (repA_list_inv h1)) (rep_RdS (s := 1) (fun _ => rfl) (repA_list_inv h2)) hok.1 hok.2).mono fun e w' hq => quiet_says hq
end Go.Proofs.YteaohgacgcjkjaaDoor
