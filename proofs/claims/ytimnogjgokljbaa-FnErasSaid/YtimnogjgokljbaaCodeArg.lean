/-
  A law's one argument: a code.
-/
import Derived.Test.YtimnogjgokljbaaOpen
import Derived.Test.YtimnogjgokljbaaEvFresh
namespace Go.Proofs.Ytimnogjgokljbaa
set_option maxRecDepth 100000
set_option linter.unusedVariables false
set_option linter.unusedSimpArgs false
open Go Go.RowKit Go.ChangeShapes Go.WideShapes Go.ChangeAt Go.Deep

theorem cellsU8 : Try.prog.cellsOf 5 = 1 := by kernel_rfl
theorem bytesU8 : Try.prog.bytesOf 5 = 1 := by kernel_rfl
theorem elem_u8 {P : Program} {H : Type} {enc : TypeId × Value → H} {w : World} {base : Nat} {spare : Nat → Bool} {held : Bool} {e : TypeId} (he : P.underlying e = some (.int .u8)) {B : Nat} : ∀ n cs y, cs.length = 1 → DataW.trod enc P w base spare held n e cs = some y → (∀ p ∈ y.2, p.block < B) → ∃ x : Nat, cs = cU8 x ∧ x < 256 := by
  intro n cs y _ h _
  obtain ⟨s, rfl, _, hs⟩ := DataW.trod_int he h
  have h1 : 0 ≤ s ∧ s ≤ 255 := by
    simpa [Lit.wf, IntKind.min, IntKind.max, IntKind.signed, IntKind.bits] using hs
  refine ⟨s.toNat, ?_, by omega⟩
  have : ((s.toNat : Nat) : Int) = s := by omega
  unfold cU8
  rw [this]
theorem law_code {f : FuncId} {v : Value} {bs : List Nat} {w : World} (hs : Sound Try.prog f (mdl (fun bs : List Nat => bs.length ≤ 9223372036854775807 ∧ ∀ n ∈ bs, n < 256) (fun bs => [aL cU8 bs]) fun _ => rB true)) (h : RdS w w.heap.size 1 cU8 v bs) (hb : ∀ n ∈ bs, n < 256) (hl : bs.length ≤ 9223372036854775807) (hg : GlobOk none0 w := by first | exact glob_triv | assumption) :
    Calls Try.prog f #[v] w fun e w' => e = .returned (.bool true) ∧ Below w.heap.size w w' :=
  calls_says hs (mdl_eq (by intro a b h; simpa [rowsF_U8] using h) bs ⟨hl, hb⟩) (RepAs.cons (aL_rep (fun _ => rfl) (fun x u hu => by simp only [cU8, List.mem_singleton] at hu; rw [hu]; rfl) h) RepAs.nil) hg
end Go.Proofs.Ytimnogjgokljbaa
