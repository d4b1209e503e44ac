/-
  Grown of both programs; the words of the laws.
-/
import Derived.Test.YteaohgacgcjkjaaDoorEvOld
namespace Go.Proofs.YteaohgacgcjkjaaDoor
set_option maxRecDepth 100000
set_option linter.unusedVariables false
set_option linter.unusedSimpArgs false
open Go Go.RowKit
set_option maxHeartbeats 4000000

def grownB (a : ByteArray) (m : Int) (b : ByteArray) (n : Int) (p : List ByteArray) : Bool := (oldR m n p).2.2 && decide ((oldR m n p).1 = a) && decide ((oldR m n p).2.1 = b)
abbrev encG (x : ByteArray × Int × ByteArray × Int × List ByteArray) : List Arg := [aS x.1, aI x.2.1, aS x.2.2.1, aI x.2.2.2.1, aL cStr x.2.2.2.2]
theorem encG_inj : ∀ x y, encG x = encG y → x = y := by
  rintro ⟨a, b, c, d, e⟩ ⟨a', b', c', d', e'⟩ h
  simpa [encG] using h
noncomputable def mGrown := mdl (fun x : ByteArray × Int × ByteArray × Int × List ByteArray => okP x.2.2.2.2) encG (fun x => rB (grownB x.1 x.2.1 x.2.2.1 x.2.2.2.1 x.2.2.2.2))
theorem mGrown_eq (a : ByteArray) (m : Int) (b : ByteArray) (n : Int) (p : List ByteArray) (h : okP p) : mGrown [aS a, aI m, aS b, aI n, aL cStr p] = some (rB (grownB a m b n p)) := mdl_eq encG_inj (a, m, b, n, p) h
theorem grownS_s : Sound Tryd.prog 12 mGrown := by
  refine Sound.mdl Tryd.func12 rfl Tryd.ntmps12 ?_
  rintro ⟨a, m, b, n, p⟩ w hp
  refine ⟨by simp, ?_⟩
  replace hp : okP p := hp
  have hΓ : GSound Tryd.prog (look [(37, mOld)]) := env_cons (has_of Tryd.func37 rfl rfl) oldS_s env_nil
  have c1 := mOld_eq m n p hp
  have hv : grownB a m b n p = ((oldR m n p).2.2 && decide ((oldR m n p).1 = a) && decide ((oldR m n p).2.1 = b)) := rfl
  clear hp
  generalize oldR m n p = r at *
  obtain ⟨r1, r2, r3⟩ := r
  dsimp only [rT3] at c1 hv
  cases r3 with
  | false =>
    simp only [initS, argPV, List.map_cons, List.map_nil, toPL, Nat.zero_add]
    repeat (first | with_reducible apply W.seq | with_reducible apply W.block | with_reducible apply W.skip | with_reducible apply W.exit | with_reducible apply W.ret | with_reducible apply At.seqN | with_reducible apply At.blkN | with_reducible apply At.blkE | with_reducible apply At.blkR | with_reducible apply At.thenX | with_reducible apply At.thenR | with_reducible apply At.blkX rfl | ((with_reducible apply W.ops); (repeat (first | refine WL.opA hΓ (h := ?_) | refine WL.opX hΓ (h := ?_) | refine WL.opY (h := ?_) | refine WL.opZ (h := ?_))); with_reducible apply WL.nil) | refine W.condT (h := ?_) | refine W.condF (h := ?_))
    refine At.retA (by rw [Tryd.results12]) (he := ?_)
    rw [hv]
    rfl
  | true =>
    by_cases h1 : r1 = a
    · subst h1
      by_cases h2 : r2 = b
      · subst h2
        simp only [initS, argPV, List.map_cons, List.map_nil, toPL, Nat.zero_add]
        repeat (first | with_reducible apply W.seq | with_reducible apply W.block | with_reducible apply W.skip | with_reducible apply W.exit | with_reducible apply W.ret | with_reducible apply At.seqN | with_reducible apply At.blkN | with_reducible apply At.blkE | with_reducible apply At.blkR | with_reducible apply At.thenX | with_reducible apply At.thenR | with_reducible apply At.blkX rfl | ((with_reducible apply W.ops); (repeat (first | refine WL.opA hΓ (h := ?_) | refine WL.opX hΓ (h := ?_) | refine WL.opY (h := ?_) | refine WL.opZ (h := ?_))); with_reducible apply WL.nil) | refine W.condT (h := ?_) | refine W.condF (h := ?_))
        refine At.retA (by rw [Tryd.results12]) (he := ?_)
        rw [hv]
        simp
      · simp only [initS, argPV, List.map_cons, List.map_nil, toPL, Nat.zero_add]
        repeat (first | with_reducible apply W.seq | with_reducible apply W.block | with_reducible apply W.skip | with_reducible apply W.exit | with_reducible apply W.ret | with_reducible apply At.seqN | with_reducible apply At.blkN | with_reducible apply At.blkE | with_reducible apply At.blkR | with_reducible apply At.thenX | with_reducible apply At.thenR | with_reducible apply At.blkX rfl | ((with_reducible apply W.ops); (repeat (first | refine WL.opA hΓ (h := ?_) | refine WL.opX hΓ (h := ?_) | refine WL.opY (h := ?_) | refine WL.opZ (h := ?_))); with_reducible apply WL.nil) | refine W.condT (h := ?_) | refine W.condF (h := ?_))
        refine At.retA (by rw [Tryd.results12]) (he := ?_)
        rw [hv]
        simp [h2]
    · simp only [initS, argPV, List.map_cons, List.map_nil, toPL, Nat.zero_add]
      repeat (first | with_reducible apply W.seq | with_reducible apply W.block | with_reducible apply W.skip | with_reducible apply W.exit | with_reducible apply W.ret | with_reducible apply At.seqN | with_reducible apply At.blkN | with_reducible apply At.blkE | with_reducible apply At.blkR | with_reducible apply At.thenX | with_reducible apply At.thenR | with_reducible apply At.blkX rfl | ((with_reducible apply W.ops); (repeat (first | refine WL.opA hΓ (h := ?_) | refine WL.opX hΓ (h := ?_) | refine WL.opY (h := ?_) | refine WL.opZ (h := ?_))); with_reducible apply WL.nil) | refine W.condT (h := ?_) | refine W.condF (h := ?_))
      refine At.retA (by rw [Tryd.results12]) (he := ?_)
      rw [hv]
      simp [h1]
theorem grownI_s : Sound Tryd.prog 9 mGrown := by
  refine Sound.mdl Tryd.func9 rfl Tryd.ntmps9 ?_
  rintro ⟨a, m, b, n, p⟩ w hp
  refine ⟨by simp, ?_⟩
  replace hp : okP p := hp
  have hΓ : GSound Tryd.prog (look [(34, mOld)]) := env_cons (has_of Tryd.func34 rfl rfl) oldI_s env_nil
  have c1 := mOld_eq m n p hp
  have hv : grownB a m b n p = ((oldR m n p).2.2 && decide ((oldR m n p).1 = a) && decide ((oldR m n p).2.1 = b)) := rfl
  clear hp
  generalize oldR m n p = r at *
  obtain ⟨r1, r2, r3⟩ := r
  dsimp only [rT3] at c1 hv
  cases r3 with
  | false =>
    simp only [initS, argPV, List.map_cons, List.map_nil, toPL, Nat.zero_add]
    repeat (first | with_reducible apply W.seq | with_reducible apply W.block | with_reducible apply W.skip | with_reducible apply W.exit | with_reducible apply W.ret | with_reducible apply At.seqN | with_reducible apply At.blkN | with_reducible apply At.blkE | with_reducible apply At.blkR | with_reducible apply At.thenX | with_reducible apply At.thenR | with_reducible apply At.blkX rfl | ((with_reducible apply W.ops); (repeat (first | refine WL.opA hΓ (h := ?_) | refine WL.opX hΓ (h := ?_) | refine WL.opY (h := ?_) | refine WL.opZ (h := ?_))); with_reducible apply WL.nil) | refine W.condT (h := ?_) | refine W.condF (h := ?_))
    refine At.retA (by rw [Tryd.results9]) (he := ?_)
    rw [hv]
    rfl
  | true =>
    by_cases h1 : r1 = a
    · subst h1
      by_cases h2 : r2 = b
      · subst h2
        simp only [initS, argPV, List.map_cons, List.map_nil, toPL, Nat.zero_add]
        repeat (first | with_reducible apply W.seq | with_reducible apply W.block | with_reducible apply W.skip | with_reducible apply W.exit | with_reducible apply W.ret | with_reducible apply At.seqN | with_reducible apply At.blkN | with_reducible apply At.blkE | with_reducible apply At.blkR | with_reducible apply At.thenX | with_reducible apply At.thenR | with_reducible apply At.blkX rfl | ((with_reducible apply W.ops); (repeat (first | refine WL.opA hΓ (h := ?_) | refine WL.opX hΓ (h := ?_) | refine WL.opY (h := ?_) | refine WL.opZ (h := ?_))); with_reducible apply WL.nil) | refine W.condT (h := ?_) | refine W.condF (h := ?_))
        refine At.retA (by rw [Tryd.results9]) (he := ?_)
        rw [hv]
        simp
      · simp only [initS, argPV, List.map_cons, List.map_nil, toPL, Nat.zero_add]
        repeat (first | with_reducible apply W.seq | with_reducible apply W.block | with_reducible apply W.skip | with_reducible apply W.exit | with_reducible apply W.ret | with_reducible apply At.seqN | with_reducible apply At.blkN | with_reducible apply At.blkE | with_reducible apply At.blkR | with_reducible apply At.thenX | with_reducible apply At.thenR | with_reducible apply At.blkX rfl | ((with_reducible apply W.ops); (repeat (first | refine WL.opA hΓ (h := ?_) | refine WL.opX hΓ (h := ?_) | refine WL.opY (h := ?_) | refine WL.opZ (h := ?_))); with_reducible apply WL.nil) | refine W.condT (h := ?_) | refine W.condF (h := ?_))
        refine At.retA (by rw [Tryd.results9]) (he := ?_)
        rw [hv]
        simp [h2]
    · simp only [initS, argPV, List.map_cons, List.map_nil, toPL, Nat.zero_add]
      repeat (first | with_reducible apply W.seq | with_reducible apply W.block | with_reducible apply W.skip | with_reducible apply W.exit | with_reducible apply W.ret | with_reducible apply At.seqN | with_reducible apply At.blkN | with_reducible apply At.blkE | with_reducible apply At.blkR | with_reducible apply At.thenX | with_reducible apply At.thenR | with_reducible apply At.blkX rfl | ((with_reducible apply W.ops); (repeat (first | refine WL.opA hΓ (h := ?_) | refine WL.opX hΓ (h := ?_) | refine WL.opY (h := ?_) | refine WL.opZ (h := ?_))); with_reducible apply WL.nil) | refine W.condT (h := ?_) | refine W.condF (h := ?_))
      refine At.retA (by rw [Tryd.results9]) (he := ?_)
      rw [hv]
      simp [h1]
section
variable {w : World} {v : Value} {l : List ByteArray}
theorem old_args (m n : Int) (h : RdS w w.heap.size 1 cStr v l) : RepAs w [aI m, aI n, aL cStr l] [.int .i64 m, .int .i64 n, v] :=
  RepAs.cons (aI_rep m) (RepAs.cons (aI_rep n) (RepAs.cons (aL_rep (fun _ => rfl) cStr_one h) RepAs.nil))
theorem grown_args (a b : ByteArray) (m n : Int) (h : RdS w w.heap.size 1 cStr v l) : RepAs w [aS a, aI m, aS b, aI n, aL cStr l] [.string a, .int .i64 m, .string b, .int .i64 n, v] :=
  RepAs.cons (aS_rep a) (RepAs.cons (aI_rep m) (RepAs.cons (aS_rep b) (RepAs.cons (aI_rep n) (RepAs.cons (aL_rep (fun _ => rfl) cStr_one h) RepAs.nil))))
end

end Go.Proofs.YteaohgacgcjkjaaDoor
