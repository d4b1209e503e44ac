/-
  Items are sorted by their keys.
-/
import Derived.Test.YtlogbmdfjnldlaaEvBookO
import Derived.Test.YtlogbmdfjnldlaaEvSort
import Derived.Test.YtlogbmdfjnldlaaSortL
namespace Go.Proofs.Ytlogbmdfjnldlaa
set_option maxRecDepth 100000
set_option linter.unusedVariables false
set_option linter.unusedSimpArgs false
open Go Go.RowKit Go.Shelf Go.Sort
set_option maxHeartbeats 4000000
set_option linter.unusedVariables false

theorem cmpI_swo : SWO (ltOf cmpI) where
  irrefl x := by
    have := cmpI_lt x x
    rw [klt_irr] at this
    simp only [ltOf, decide_eq_false_iff_not, this]
    simp
  trans x y z h1 h2 := by
    simp only [ltOf, decide_eq_true_eq, cmpI_lt] at *
    exact klt_trans h1 h2
  ntrans x y z h1 h2 := by
    simp only [ltOf, decide_eq_false_iff_not, cmpI_lt] at *
    intro h
    rcases klt_tri x.1 y.1 with h3 | h3 | h3
    · exact h1 h3
    · rw [h3] at h
      exact h2 h
    · exact h2 (klt_trans h3 h)
theorem compareI_says : CmpSays Try.prog 169 cItem cmpI := by
  rintro ⟨a1, a2⟩ ⟨b1, b2⟩ w
  show Calls _ _ #[.agg #[.string a1, .int .i64 a2], .agg #[.string b1, .int .i64 b2]] w _
  unfold cmpI
  dsimp only
  cases h : klt a1 b1 with
  | true =>
    unfold klt at h
    rw [if_pos rfl]
    go_enter Try.func169, Try.ntmps169
    go_wp2
    go_ret
    exact ⟨rfl, _, by rw [alloc_eq_grow, alloc_eq_grow, grow_grow]⟩
  | false =>
    unfold klt at h
    rw [if_neg (by simp)]
    go_enter Try.func169, Try.ntmps169
    go_wp2
    go_ret
    exact ⟨rfl, _, by rw [alloc_eq_grow, alloc_eq_grow, grow_grow]⟩
theorem sortI_s : SortsBy Try.prog 168 169 cItem 2 cmpI :=
  haveI : Inhabited TItem := ⟨(ByteArray.empty, 0)⟩
  sorts_of Try.sortItem Try.isAgg139 Try.sizeOf139 (fun _ => rfl) (fun x v hv => by simp only [cItem, List.mem_cons, List.not_mem_nil, or_false] at hv; rcases hv with rfl | rfl <;> rfl) cmpI cmpI_swo (enters_of Try.func169 (by kernel_rfl) rfl) compareI_says
end Go.Proofs.Ytlogbmdfjnldlaa
