/-
  booked: a filtered row with one more, sorted, is setI; amount.
-/
import Derived.Test.YtlogbmdfjnldlaaEvBookI
namespace Go.Proofs.Ytlogbmdfjnldlaa
set_option maxRecDepth 100000
set_option linter.unusedVariables false
set_option linter.unusedSimpArgs false
open Go Go.RowKit
set_option maxHeartbeats 4000000
set_option linter.unusedVariables false

def cmpI (a b : TItem) : Int := if klt a.1 b.1 = true then -1 else 1
theorem cmpI_lt (a b : TItem) : cmpI a b < 0 ↔ klt a.1 b.1 = true := by
  unfold cmpI
  split <;> simp_all
def addI (key : ByteArray) (n : Int) : List TItem := if n = 0 then [] else [(key, n)]
theorem filter_gt {key : ByteArray} {l : List TItem} (h : ∀ x ∈ l, x.1 ≠ key) : (l.filter fun x => !decide (x.1 = key)) = l := by
  refine List.filter_eq_self.2 fun x hx => ?_
  simp [h x hx]
theorem perm_set {key : ByteArray} {n : Int} : ∀ {l : List TItem} (_ : AscI l), (setI key n l).Perm ((l.filter fun x => !decide (x.1 = key)) ++ addI key n)
  | [], _ => by
    unfold setI addI
    split <;> exact List.Perm.refl _
  | x :: r, h => by
    obtain ⟨h1, h2⟩ := List.pairwise_cons.1 h
    unfold setI
    by_cases hlt : klt x.1 key = true
    · rw [if_pos hlt, List.filter_cons, if_pos (by simp [klt_ne hlt])]
      exact (perm_set h2).cons x
    · rw [if_neg hlt]
      by_cases heq : x.1 = key
      · have hf := filter_gt (key := key) (l := r) (fun y hy => fun e => klt_ne (h1 y hy) (by rw [heq, e]))
        have hx : (!decide (x.1 = key)) = false := by rw [decide_eq_true heq]; rfl
        rw [if_pos heq, List.filter_cons, hx, hf]
        simp only [Bool.false_eq_true, if_false]
        unfold addI
        by_cases hn : n = 0
        · rw [if_pos hn, if_pos hn, List.append_nil]
        · rw [if_neg hn, if_neg hn]
          exact (List.perm_append_singleton (key, n) r).symm
      · have hkx : klt key x.1 = true := by
          rcases klt_tri x.1 key with h | h | h
          · exact absurd h hlt
          · exact absurd h heq
          · exact h
        have hf := filter_gt (key := key) (l := x :: r) (fun y hy => fun e => by
          rcases List.mem_cons.1 hy with rfl | hy
          · exact heq e
          · have := klt_trans hkx (h1 y hy)
            rw [e, klt_irr] at this
            cases this)
        rw [if_neg heq, hf]
        unfold addI
        by_cases hn : n = 0
        · rw [if_pos hn, if_pos hn, List.append_nil]
        · rw [if_neg hn, if_neg hn]
          exact (List.perm_append_singleton (key, n) (x :: r)).symm
theorem sortI_one : ∀ {m l : List TItem} (_ : l.Perm m) (_ : l.Pairwise fun x y => ¬ cmpI y x < 0) (_ : AscI m), l = m
  | [], l, hp, _, _ => List.Perm.eq_nil hp
  | a :: m, l, hp, hs, hm => by
    obtain ⟨m1, m2⟩ := List.pairwise_cons.1 hm
    cases l with
    | nil => exact absurd hp.symm (by simp)
    | cons c l =>
      obtain ⟨s1, s2⟩ := List.pairwise_cons.1 hs
      have hca : c = a := by
        rcases List.mem_cons.1 (hp.mem_iff.1 List.mem_cons_self) with h | h
        · exact h
        · rcases List.mem_cons.1 (hp.mem_iff.2 (List.mem_cons_self (a := a) (l := m))) with h' | h'
          · exact h'.symm
          · exact absurd ((cmpI_lt a c).2 (m1 c h)) (s1 a h')
      subst hca
      rw [sortI_one hp.cons_inv s2 m2]
noncomputable def mAmt := mdl (fun s : ByteArray => s.size ≤ 9223372036854775807) (fun s => [aS s]) (fun s => .tup [rSc (.int .i64 (readZ s).1), rSc (.bool ((readZ s).2 && decide ((readZ s).1 ≤ 1000000)))])
theorem mAmt_eq (s : ByteArray) (h : s.size ≤ 9223372036854775807) : mAmt [aS s] = some (.tup [rSc (.int .i64 (readZ s).1), rSc (.bool ((readZ s).2 && decide ((readZ s).1 ≤ 1000000)))]) := mdl_eq (by intro a b h; simpa using h) s h
theorem amount_s : Sound Try.prog 136 mAmt := by
  refine Sound.mdl Try.func136 rfl Try.ntmps136 ?_
  rintro s w hs
  refine ⟨by simp, ?_⟩
  replace hs : s.size ≤ 9223372036854775807 := hs
  have hΓ : GSound Try.prog (look [(165, mRead)]) := env_cons (has_of Try.func165 rfl rfl) readI_s env_nil
  have c := mRead_eq s hs
  cases hr : (readZ s).2 with
  | false =>
    rw [hr] at c
    simp only [initS, argPV, List.map_cons, List.map_nil, toPL, Nat.zero_add]
    repeat (first | with_reducible apply W.seq | with_reducible apply W.block | with_reducible apply W.skip | with_reducible apply W.exit | with_reducible apply W.ret | with_reducible apply At.seqN | with_reducible apply At.blkN | with_reducible apply At.blkE | with_reducible apply At.blkR | with_reducible apply At.thenX | with_reducible apply At.thenR | with_reducible apply At.blkX rfl | ((with_reducible apply W.ops); (repeat (first | refine WL.opA hΓ (h := ?_) | refine WL.opX hΓ (h := ?_) | refine WL.opY (h := ?_) | refine WL.opZ (h := ?_))); with_reducible apply WL.nil) | refine W.condT (h := ?_) | refine W.condF (h := ?_))
    refine At.retA (by rw [Try.results136]) (he := ?_)
    simp [hr]
  | true =>
    rw [hr] at c
    simp only [initS, argPV, List.map_cons, List.map_nil, toPL, Nat.zero_add]
    repeat (first | with_reducible apply W.seq | with_reducible apply W.block | with_reducible apply W.skip | with_reducible apply W.exit | with_reducible apply W.ret | with_reducible apply At.seqN | with_reducible apply At.blkN | with_reducible apply At.blkE | with_reducible apply At.blkR | with_reducible apply At.thenX | with_reducible apply At.thenR | with_reducible apply At.blkX rfl | ((with_reducible apply W.ops); (repeat (first | refine WL.opA hΓ (h := ?_) | refine WL.opX hΓ (h := ?_) | refine WL.opY (h := ?_) | refine WL.opZ (h := ?_))); with_reducible apply WL.nil) | refine W.condT (h := ?_) | refine W.condF (h := ?_))
    refine At.retA (by rw [Try.results136]) (he := ?_)
    simp [hr]
end Go.Proofs.Ytlogbmdfjnldlaa
