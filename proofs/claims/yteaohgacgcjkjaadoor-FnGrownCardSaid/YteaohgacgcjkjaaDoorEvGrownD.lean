/-
  What the law of Grown draws.
-/
import Derived.Test.YteaohgacgcjkjaaDoorEvSpoil
import Derived.Test.YteaohgacgcjkjaaDoorEvGrownP
import Derived.Test.YteaohgacgcjkjaaDoorEvRef
namespace Go.Proofs.YteaohgacgcjkjaaDoor
set_option maxRecDepth 100000
set_option linter.unusedVariables false
set_option linter.unusedSimpArgs false
open Go Go.RowKit
set_option maxHeartbeats 4000000

theorem parts_sz (n : Nat) : ∀ (m : Nat) (l : List ByteArray), l.length = n → ∀ x ∈ parts m l, x.size ≤ 32 := by
  induction n using Nat.strongRecOn with
  | _ n ih =>
    intro m l hl x hx
    by_cases hm : m = l.length
    · rw [parts_eq hm] at hx
      rw [List.mem_singleton.1 hx, root_size]
      omega
    · by_cases hn : l.length < 2 ∨ 64 < l.length
      · rw [parts, if_neg hm, dif_pos hn] at hx; simp at hx
      · have hs := spl_lt (n := l.length) (by omega) (by omega)
        by_cases hk : m ≤ spl l.length
        · rw [parts_lo hm (by omega) (by omega) hk] at hx
          rcases List.mem_append.1 hx with h | h
          · exact ih (spl l.length) (by omega) m (l.take (spl l.length)) (by rw [List.length_take]; omega) x h
          · rw [List.mem_singleton.1 h, root_size]
            omega
        · rw [parts_hi hm (by omega) (by omega) hk] at hx
          rcases List.mem_append.1 hx with h | h
          · rw [List.mem_singleton.1 h, root_size]
            omega
          · exact ih (l.length - spl l.length) (by omega) (m - spl l.length) (l.drop (spl l.length)) (by rw [List.length_drop]) x h
theorem oldL_sz (l : List ByteArray) (m : Int) : ∀ x ∈ oldL l m, x.size ≤ 32 := by
  by_cases h : pathOk l m
  · unfold oldL; rw [if_pos h]
    exact parts_sz _ _ l rfl
  · rw [oldL_no h]; simp
theorem okP_set {p : List ByteArray} (h : p.length ≤ 41) (hs : ∀ x ∈ p, x.size ≤ 64) (k : Nat) {y : ByteArray} (hy : y.size ≤ 1048576) : okP (p.set k y) := by
  refine ⟨by simp; omega, fun x hx => ?_⟩
  rcases List.mem_or_eq_of_mem_set hx with h1 | h1
  · have := hs x h1; omega
  · rw [h1]; exact hy
noncomputable def mOlP := mdl (fun x => okT x.1) encP rOl
theorem mOlP_eq (l : List ByteArray) (m : Int) (h : okT l) : mOlP [aL cStr l, aI m] = some (rL 9 1 cStr (oldL l m)) := mdl_eq (g := rOl) encP_inj (l, m) h
abbrev rDrG (_ : List Nat) (y : (ByteArray × Int × ByteArray) × Int × List ByteArray) : Prop := okP y.2.2
abbrev resDrG (_ : List Nat) (y : (ByteArray × Int × ByteArray) × Int × List ByteArray) : Res := .tup [rSc (.string y.1.1), rSc (.int .i64 y.1.2.1), rSc (.string y.1.2.2), rSc (.int .i64 y.2.1), (false, [.own true 9 1 (rowsF cStr y.2.2)])]
theorem DrawGrown_s : SoundR Tryd.prog 13 CodeOk (fun bs => [aL cU8 bs]) rDrG resDrG := by
  refine SoundR.ofXA Tryd.func13 rfl Tryd.ntmps13 (by decide) ?_
  rintro bs v w hcode
  simp only [initX]
  have hΓ : GSound Tryd.prog (look [(11, mOlP), (7, mTree)]) := env_cons (has_of Tryd.func11 rfl rfl) oldPathS_s (env_cons (has_of Tryd.func7 rfl rfl) treeS_s env_nil)
  have hNw : Has Tryd.prog 38 := has_of Tryd.func38 rfl rfl
  have hLe : Has Tryd.prog 39 := has_of Tryd.func39 rfl rfl
  have hBe : Has Tryd.prog 40 := has_of Tryd.func40 rfl rfl
  have hSp : Has Tryd.prog 41 := has_of Tryd.func41 rfl rfl
  have hcu := lsNms_cu
  have hck := kill_cu
  repeat (first | with_reducible apply W.seq | with_reducible apply W.block | with_reducible apply W.skip | with_reducible apply W.exit | with_reducible apply W.ret | with_reducible apply At.seqN | with_reducible apply At.blkN | with_reducible apply At.blkE | with_reducible apply At.blkR | with_reducible apply At.thenX | with_reducible apply At.thenR | with_reducible apply At.blkX rfl | ((with_reducible apply W.ops); (repeat (first | refine WL.opA hΓ (h := ?_) | refine WL.opX hΓ (h := ?_) | refine WL.opY (h := ?_) | refine WL.opZ (h := ?_))); with_reducible apply WL.nil) | refine W.condT (h := ?_) | refine W.condF (h := ?_))
  with_reducible apply W.ops
  repeat (first | refine WL.opA hΓ (h := ?_) | refine WL.opX hΓ (h := ?_) | refine WL.opY (h := ?_) | refine WL.opZ (h := ?_))
  refine WL.opNew hNw l1New_s v bs hcode (h := ?_)
  intro k0 hk0
  (repeat (first | refine WL.opA hΓ (h := ?_) | refine WL.opX hΓ (h := ?_) | refine WL.opY (h := ?_) | refine WL.opZ (h := ?_)))
  with_reducible apply WL.nil
  repeat (first | with_reducible apply W.seq | with_reducible apply W.block | with_reducible apply W.skip | with_reducible apply W.exit | with_reducible apply W.ret | with_reducible apply At.seqN | with_reducible apply At.blkN | with_reducible apply At.blkE | with_reducible apply At.blkR | with_reducible apply At.thenX | with_reducible apply At.thenR | with_reducible apply At.blkX rfl | ((with_reducible apply W.ops); (repeat (first | refine WL.opA hΓ (h := ?_) | refine WL.opX hΓ (h := ?_) | refine WL.opY (h := ?_) | refine WL.opZ (h := ?_))); with_reducible apply WL.nil) | refine W.condT (h := ?_) | refine W.condF (h := ?_))
  with_reducible apply W.ops
  repeat (first | refine WL.opA hΓ (h := ?_) | refine WL.opX hΓ (h := ?_) | refine WL.opY (h := ?_) | refine WL.opZ (h := ?_))
  refine WL.opCu hLe l34Leaves_s k0 hk0 () trivial (h := ?_)
  rintro k1 l hk1 ⟨hl1, hl2, hsz⟩
  have hlen := rowsF_len cStr l
  (repeat (first | refine WL.opA hΓ (h := ?_) | refine WL.opX hΓ (h := ?_) | refine WL.opY (h := ?_) | refine WL.opZ (h := ?_)))
  with_reducible apply WL.nil
  refine At.seqN ?_
  refine W.frzA 8 17 (h := ?_)
  repeat (first | with_reducible apply W.seq | with_reducible apply W.block | with_reducible apply W.skip | with_reducible apply W.exit | with_reducible apply W.ret | with_reducible apply At.seqN | with_reducible apply At.blkN | with_reducible apply At.blkE | with_reducible apply At.blkR | with_reducible apply At.thenX | with_reducible apply At.thenR | with_reducible apply At.blkX rfl | ((with_reducible apply W.ops); (repeat (first | refine WL.opA hΓ (h := ?_) | refine WL.opX hΓ (h := ?_) | refine WL.opY (h := ?_) | refine WL.opZ (h := ?_))); with_reducible apply WL.nil) | refine W.condT (h := ?_) | refine W.condF (h := ?_))
  with_reducible apply W.ops
  repeat (first | refine WL.opA hΓ (h := ?_) | refine WL.opX hΓ (h := ?_) | refine WL.opY (h := ?_) | refine WL.opZ (h := ?_))
  refine WL.opCu hBe l1Below_s k1 hk1.ok (l.length : Int) ⟨by omega, by omega⟩ (h := ?_)
  rintro k2 r hk2 ⟨hr0, hr1, -⟩
  replace hr1 : r < l.length := hr1 (by omega)
  have hok : okT l := ⟨by omega, fun x hx => by have := hsz x hx; omega⟩
  have c1 := mOlP_eq l (1 + r) hok
  have c2 := mTree_eq l hok
  have c3 := mTree_eq (l.take (1 + r).toNat) (hok.take _)
  have hT := rowsF_take cStr l (1 + r).toNat
  have s1 := tree_size l
  have s2 := tree_size (l.take (1 + r).toNat)
  have s3 := oldL_sz l (1 + r)
  have s4 := oldL_le l (1 + r)
  clear hsz
  generalize tree l = b0 at c2 s1
  generalize tree (l.take (1 + r).toNat) = a0 at c3 s2
  generalize oldL l (1 + r) = p0 at c1 s3 s4
  have x0 := row_ex (l := l) (k := 0) (by omega)
  (repeat (first | refine WL.opA hΓ (h := ?_) | refine WL.opX hΓ (h := ?_) | refine WL.opY (h := ?_) | refine WL.opZ (h := ?_)))
  with_reducible apply WL.nil
  repeat (first | with_reducible apply W.seq | with_reducible apply W.block | with_reducible apply W.skip | with_reducible apply W.exit | with_reducible apply W.ret | with_reducible apply At.seqN | with_reducible apply At.blkN | with_reducible apply At.blkE | with_reducible apply At.blkR | with_reducible apply At.thenX | with_reducible apply At.thenR | with_reducible apply At.blkX rfl | ((with_reducible apply W.ops); (repeat (first | refine WL.opA hΓ (h := ?_) | refine WL.opX hΓ (h := ?_) | refine WL.opY (h := ?_) | refine WL.opZ (h := ?_))); with_reducible apply WL.nil) | refine W.condT (h := ?_) | refine W.condF (h := ?_))
  with_reducible apply W.ops
  repeat (first | refine WL.opA hΓ (h := ?_) | refine WL.opX hΓ (h := ?_) | refine WL.opY (h := ?_) | refine WL.opZ (h := ?_))
  refine WL.opCu hBe l1Below_s k2 hk2.ok 6 (by decide) (h := ?_)
  rintro k3 q hk3 -
  (repeat (first | refine WL.opA hΓ (h := ?_) | refine WL.opX hΓ (h := ?_) | refine WL.opY (h := ?_) | refine WL.opZ (h := ?_)))
  with_reducible apply WL.nil
  clear x0
  have hp0 : okP p0 := ⟨by omega, fun x hx => by have := s3 x hx; omega⟩
  by_cases q0 : q = 0
  · subst q0
    repeat (first | with_reducible apply W.seq | with_reducible apply W.block | with_reducible apply W.skip | with_reducible apply W.exit | with_reducible apply W.ret | with_reducible apply At.seqN | with_reducible apply At.blkN | with_reducible apply At.blkE | with_reducible apply At.blkR | with_reducible apply At.thenX | with_reducible apply At.thenR | with_reducible apply At.blkX rfl | ((with_reducible apply W.ops); (repeat (first | refine WL.opA hΓ (h := ?_) | refine WL.opX hΓ (h := ?_) | refine WL.opY (h := ?_) | refine WL.opZ (h := ?_))); with_reducible apply WL.nil) | refine W.condT (h := ?_) | refine W.condF (h := ?_))
    with_reducible apply W.ops
    repeat (first | refine WL.opA hΓ (h := ?_) | refine WL.opX hΓ (h := ?_) | refine WL.opY (h := ?_) | refine WL.opZ (h := ?_))
    refine WL.opCu hSp l1Spoil_s k3 hk3.ok a0 (by omega) (h := ?_)
    rintro k4 y hk4 hy
    (repeat (first | refine WL.opA hΓ (h := ?_) | refine WL.opX hΓ (h := ?_) | refine WL.opY (h := ?_) | refine WL.opZ (h := ?_)))
    with_reducible apply WL.nil
    repeat (first | with_reducible apply W.seq | with_reducible apply W.block | with_reducible apply W.skip | with_reducible apply W.exit | with_reducible apply W.ret | with_reducible apply At.seqN | with_reducible apply At.blkN | with_reducible apply At.blkE | with_reducible apply At.blkR | with_reducible apply At.thenX | with_reducible apply At.thenR | with_reducible apply At.blkX rfl | ((with_reducible apply W.ops); (repeat (first | refine WL.opA hΓ (h := ?_) | refine WL.opX hΓ (h := ?_) | refine WL.opY (h := ?_) | refine WL.opZ (h := ?_))); with_reducible apply WL.nil) | refine W.condT (h := ?_) | refine W.condF (h := ?_))
    refine At.retRA (by rw [Tryd.results13]) (he := ?_) ((y, 1 + r, b0), (l.length : Int), p0) hp0
    rfl
  · by_cases q1 : q = 1
    · subst q1
      repeat (first | with_reducible apply W.seq | with_reducible apply W.block | with_reducible apply W.skip | with_reducible apply W.exit | with_reducible apply W.ret | with_reducible apply At.seqN | with_reducible apply At.blkN | with_reducible apply At.blkE | with_reducible apply At.blkR | with_reducible apply At.thenX | with_reducible apply At.thenR | with_reducible apply At.blkX rfl | ((with_reducible apply W.ops); (repeat (first | refine WL.opA hΓ (h := ?_) | refine WL.opX hΓ (h := ?_) | refine WL.opY (h := ?_) | refine WL.opZ (h := ?_))); with_reducible apply WL.nil) | refine W.condT (h := ?_) | refine W.condF (h := ?_))
      with_reducible apply W.ops
      repeat (first | refine WL.opA hΓ (h := ?_) | refine WL.opX hΓ (h := ?_) | refine WL.opY (h := ?_) | refine WL.opZ (h := ?_))
      refine WL.opCu hSp l1Spoil_s k3 hk3.ok b0 (by omega) (h := ?_)
      rintro k4 y hk4 hy
      (repeat (first | refine WL.opA hΓ (h := ?_) | refine WL.opX hΓ (h := ?_) | refine WL.opY (h := ?_) | refine WL.opZ (h := ?_)))
      with_reducible apply WL.nil
      repeat (first | with_reducible apply W.seq | with_reducible apply W.block | with_reducible apply W.skip | with_reducible apply W.exit | with_reducible apply W.ret | with_reducible apply At.seqN | with_reducible apply At.blkN | with_reducible apply At.blkE | with_reducible apply At.blkR | with_reducible apply At.thenX | with_reducible apply At.thenR | with_reducible apply At.blkX rfl | ((with_reducible apply W.ops); (repeat (first | refine WL.opA hΓ (h := ?_) | refine WL.opX hΓ (h := ?_) | refine WL.opY (h := ?_) | refine WL.opZ (h := ?_))); with_reducible apply WL.nil) | refine W.condT (h := ?_) | refine W.condF (h := ?_))
      refine At.retRA (by rw [Tryd.results13]) (he := ?_) ((a0, 1 + r, y), (l.length : Int), p0) hp0
      rfl
    · by_cases q2 : q = 2
      · subst q2
        have hplen := rowsF_len cStr p0
        by_cases hp : 0 < p0.length
        · repeat (first | with_reducible apply W.seq | with_reducible apply W.block | with_reducible apply W.skip | with_reducible apply W.exit | with_reducible apply W.ret | with_reducible apply At.seqN | with_reducible apply At.blkN | with_reducible apply At.blkE | with_reducible apply At.blkR | with_reducible apply At.thenX | with_reducible apply At.thenR | with_reducible apply At.blkX rfl | ((with_reducible apply W.ops); (repeat (first | refine WL.opA hΓ (h := ?_) | refine WL.opX hΓ (h := ?_) | refine WL.opY (h := ?_) | refine WL.opZ (h := ?_))); with_reducible apply WL.nil) | refine W.condT (h := ?_) | refine W.condF (h := ?_))
          with_reducible apply W.ops
          repeat (first | refine WL.opA hΓ (h := ?_) | refine WL.opX hΓ (h := ?_) | refine WL.opY (h := ?_) | refine WL.opZ (h := ?_))
          refine WL.opCu hBe l1Below_s k3 hk3.ok (p0.length : Int) ⟨by omega, by omega⟩ (h := ?_)
          rintro k4 j hk4 ⟨hj0, hj1, -⟩
          replace hj1 : j < p0.length := hj1 (by omega)
          have hlt : j.toNat < p0.length := by omega
          have hrow : (rowsF cStr p0)[j.toNat]? = some [.sc (.string p0[j.toNat])] := rowsF_get cStr p0 j.toNat hlt
          have hz := s3 _ (List.getElem_mem hlt)
          generalize p0[j.toNat] = x at hrow hz
          (repeat (first | refine WL.opA hΓ (h := ?_) | refine WL.opX hΓ (h := ?_) | refine WL.opY (h := ?_) | refine WL.opZ (h := ?_)))
          with_reducible apply WL.nil
          repeat (first | with_reducible apply W.seq | with_reducible apply W.block | with_reducible apply W.skip | with_reducible apply W.exit | with_reducible apply W.ret | with_reducible apply At.seqN | with_reducible apply At.blkN | with_reducible apply At.blkE | with_reducible apply At.blkR | with_reducible apply At.thenX | with_reducible apply At.thenR | with_reducible apply At.blkX rfl | ((with_reducible apply W.ops); (repeat (first | refine WL.opA hΓ (h := ?_) | refine WL.opX hΓ (h := ?_) | refine WL.opY (h := ?_) | refine WL.opZ (h := ?_))); with_reducible apply WL.nil) | refine W.condT (h := ?_) | refine W.condF (h := ?_))
          with_reducible apply W.ops
          repeat (first | refine WL.opA hΓ (h := ?_) | refine WL.opX hΓ (h := ?_) | refine WL.opY (h := ?_) | refine WL.opZ (h := ?_))
          refine WL.opCu hSp l1Spoil_s k4 hk4.ok x (by omega) (h := ?_)
          rintro k5 y hk5 hy
          have e := rowsF_set cStr p0 j.toNat y
          (repeat (first | refine WL.opA hΓ (h := ?_) | refine WL.opX hΓ (h := ?_) | refine WL.opY (h := ?_) | refine WL.opZ (h := ?_)))
          with_reducible apply WL.nil
          repeat (first | with_reducible apply W.seq | with_reducible apply W.block | with_reducible apply W.skip | with_reducible apply W.exit | with_reducible apply W.ret | with_reducible apply At.seqN | with_reducible apply At.blkN | with_reducible apply At.blkE | with_reducible apply At.blkR | with_reducible apply At.thenX | with_reducible apply At.thenR | with_reducible apply At.blkX rfl | ((with_reducible apply W.ops); (repeat (first | refine WL.opA hΓ (h := ?_) | refine WL.opX hΓ (h := ?_) | refine WL.opY (h := ?_) | refine WL.opZ (h := ?_))); with_reducible apply WL.nil) | refine W.condT (h := ?_) | refine W.condF (h := ?_))
          refine At.retRA (by rw [Tryd.results13]) (he := ?_) ((a0, 1 + r, b0), (l.length : Int), p0.set j.toNat y) (okP_set s4 (fun x hx => by have := s3 x hx; omega) _ (by have : y.size ≤ x.size + 3 := hy; omega))
          have e' : (rowsF cStr p0).set j.toNat [Leaf.sc (Value.string y)] = rowsF cStr (p0.set j.toNat y) := e
          rw [e']
        · repeat (first | with_reducible apply W.seq | with_reducible apply W.block | with_reducible apply W.skip | with_reducible apply W.exit | with_reducible apply W.ret | with_reducible apply At.seqN | with_reducible apply At.blkN | with_reducible apply At.blkE | with_reducible apply At.blkR | with_reducible apply At.thenX | with_reducible apply At.thenR | with_reducible apply At.blkX rfl | ((with_reducible apply W.ops); (repeat (first | refine WL.opA hΓ (h := ?_) | refine WL.opX hΓ (h := ?_) | refine WL.opY (h := ?_) | refine WL.opZ (h := ?_))); with_reducible apply WL.nil) | refine W.condT (h := ?_) | refine W.condF (h := ?_))
          refine At.retRA (by rw [Tryd.results13]) (he := ?_) ((a0, 1 + r, b0), (l.length : Int), p0) hp0
          rfl
      · repeat (first | with_reducible apply W.seq | with_reducible apply W.block | with_reducible apply W.skip | with_reducible apply W.exit | with_reducible apply W.ret | with_reducible apply At.seqN | with_reducible apply At.blkN | with_reducible apply At.blkE | with_reducible apply At.blkR | with_reducible apply At.thenX | with_reducible apply At.thenR | with_reducible apply At.blkX rfl | ((with_reducible apply W.ops); (repeat (first | refine WL.opA hΓ (h := ?_) | refine WL.opX hΓ (h := ?_) | refine WL.opY (h := ?_) | refine WL.opZ (h := ?_))); with_reducible apply WL.nil) | refine W.condT (h := ?_) | refine W.condF (h := ?_))
        refine At.retRA (by rw [Tryd.results13]) (he := ?_) ((a0, 1 + r, b0), (l.length : Int), p0) hp0
        rfl
abbrev rDrM (_ : List Nat) (y : List ByteArray × List ByteArray) : Prop := y.1.length ≤ 41 ∧ y.2.length ≤ 41
abbrev resDrM (_ : List Nat) (y : List ByteArray × List ByteArray) : Res := .tup [(false, [.own true 9 1 (rowsF cStr y.1)]), (false, [.own true 9 1 (rowsF cStr y.2)])]
theorem DrawMuchAlike_s : SoundR Tryd.prog 14 CodeOk (fun bs => [aL cU8 bs]) rDrM resDrM := by
  refine SoundR.ofXA Tryd.func14 rfl Tryd.ntmps14 (by decide) ?_
  rintro bs v w hcode
  simp only [initX]
  have hΓ : GSound Tryd.prog (look []) := env_nil
  have hNw : Has Tryd.prog 38 := has_of Tryd.func38 rfl rfl
  have hLe : Has Tryd.prog 42 := has_of Tryd.func42 rfl rfl
  have hBe : Has Tryd.prog 40 := has_of Tryd.func40 rfl rfl
  have hOn : Has Tryd.prog 43 := has_of Tryd.func43 rfl rfl
  have hcu := lsNms_cu
  have hck := kill_cu
  repeat (first | with_reducible apply W.seq | with_reducible apply W.block | with_reducible apply W.skip | with_reducible apply W.exit | with_reducible apply W.ret | with_reducible apply At.seqN | with_reducible apply At.blkN | with_reducible apply At.blkE | with_reducible apply At.blkR | with_reducible apply At.thenX | with_reducible apply At.thenR | with_reducible apply At.blkX rfl | ((with_reducible apply W.ops); (repeat (first | refine WL.opA hΓ (h := ?_) | refine WL.opX hΓ (h := ?_) | refine WL.opY (h := ?_) | refine WL.opZ (h := ?_))); with_reducible apply WL.nil) | refine W.condT (h := ?_) | refine W.condF (h := ?_))
  with_reducible apply W.ops
  repeat (first | refine WL.opA hΓ (h := ?_) | refine WL.opX hΓ (h := ?_) | refine WL.opY (h := ?_) | refine WL.opZ (h := ?_))
  refine WL.opNew hNw l1New_s v bs hcode (h := ?_)
  intro k0 hk0
  (repeat (first | refine WL.opA hΓ (h := ?_) | refine WL.opX hΓ (h := ?_) | refine WL.opY (h := ?_) | refine WL.opZ (h := ?_)))
  with_reducible apply WL.nil
  repeat (first | with_reducible apply W.seq | with_reducible apply W.block | with_reducible apply W.skip | with_reducible apply W.exit | with_reducible apply W.ret | with_reducible apply At.seqN | with_reducible apply At.blkN | with_reducible apply At.blkE | with_reducible apply At.blkR | with_reducible apply At.thenX | with_reducible apply At.thenR | with_reducible apply At.blkX rfl | ((with_reducible apply W.ops); (repeat (first | refine WL.opA hΓ (h := ?_) | refine WL.opX hΓ (h := ?_) | refine WL.opY (h := ?_) | refine WL.opZ (h := ?_))); with_reducible apply WL.nil) | refine W.condT (h := ?_) | refine W.condF (h := ?_))
  with_reducible apply W.ops
  repeat (first | refine WL.opA hΓ (h := ?_) | refine WL.opX hΓ (h := ?_) | refine WL.opY (h := ?_) | refine WL.opZ (h := ?_))
  refine WL.opCu hLe l4Leaves_s k0 hk0 () trivial (h := ?_)
  rintro k1 l hk1 ⟨hl2, hsz⟩
  have hlen := rowsF_len cStr l
  have hwid := rowsF_wid (f := cStr) (s := 1) (fun _ => rfl) l
  (repeat (first | refine WL.opA hΓ (h := ?_) | refine WL.opX hΓ (h := ?_) | refine WL.opY (h := ?_) | refine WL.opZ (h := ?_)))
  with_reducible apply WL.nil
  by_cases h0 : 0 < l.length
  · repeat (first | with_reducible apply W.seq | with_reducible apply W.block | with_reducible apply W.skip | with_reducible apply W.exit | with_reducible apply W.ret | with_reducible apply At.seqN | with_reducible apply At.blkN | with_reducible apply At.blkE | with_reducible apply At.blkR | with_reducible apply At.thenX | with_reducible apply At.thenR | with_reducible apply At.blkX rfl | ((with_reducible apply W.ops); (repeat (first | refine WL.opA hΓ (h := ?_) | refine WL.opX hΓ (h := ?_) | refine WL.opY (h := ?_) | refine WL.opZ (h := ?_))); with_reducible apply WL.nil) | refine W.condT (h := ?_) | refine W.condF (h := ?_))
    with_reducible apply W.ops
    repeat (first | refine WL.opA hΓ (h := ?_) | refine WL.opX hΓ (h := ?_) | refine WL.opY (h := ?_) | refine WL.opZ (h := ?_))
    refine WL.opCu hBe l1Below_s k1 hk1.ok (l.length : Int) ⟨by omega, by omega⟩ (h := ?_)
    rintro k2 r hk2 ⟨hr0, hr1, -⟩
    replace hr1 : r < l.length := hr1 (by omega)
    (repeat (first | refine WL.opA hΓ (h := ?_) | refine WL.opX hΓ (h := ?_) | refine WL.opY (h := ?_) | refine WL.opZ (h := ?_)))
    with_reducible apply WL.nil
    repeat (first | with_reducible apply W.seq | with_reducible apply W.block | with_reducible apply W.skip | with_reducible apply W.exit | with_reducible apply W.ret | with_reducible apply At.seqN | with_reducible apply At.blkN | with_reducible apply At.blkE | with_reducible apply At.blkR | with_reducible apply At.thenX | with_reducible apply At.thenR | with_reducible apply At.blkX rfl | ((with_reducible apply W.ops); (repeat (first | refine WL.opA hΓ (h := ?_) | refine WL.opX hΓ (h := ?_) | refine WL.opY (h := ?_) | refine WL.opZ (h := ?_))); with_reducible apply WL.nil) | refine W.condT (h := ?_) | refine W.condF (h := ?_))
    with_reducible apply W.ops
    repeat (first | refine WL.opA hΓ (h := ?_) | refine WL.opX hΓ (h := ?_) | refine WL.opY (h := ?_) | refine WL.opZ (h := ?_))
    refine WL.opCu hOn l1Once_s k2 hk2.ok 2 (by decide) (h := ?_)
    rintro k3 o hk3 -
    (repeat (first | refine WL.opA hΓ (h := ?_) | refine WL.opX hΓ (h := ?_) | refine WL.opY (h := ?_) | refine WL.opZ (h := ?_)))
    with_reducible apply WL.nil
    cases o with
    | false =>
      repeat (first | with_reducible apply W.seq | with_reducible apply W.block | with_reducible apply W.skip | with_reducible apply W.exit | with_reducible apply W.ret | with_reducible apply At.seqN | with_reducible apply At.blkN | with_reducible apply At.blkE | with_reducible apply At.blkR | with_reducible apply At.thenX | with_reducible apply At.thenR | with_reducible apply At.blkX rfl | ((with_reducible apply W.ops); (repeat (first | refine WL.opA hΓ (h := ?_) | refine WL.opX hΓ (h := ?_) | refine WL.opY (h := ?_) | refine WL.opZ (h := ?_))); with_reducible apply WL.nil) | refine W.condT (h := ?_) | refine W.condF (h := ?_))
      refine At.cutA 3 12 (r.toNat - 0) (h := ?_)
      refine At.retRA (by rw [Tryd.results14]) (he := ?_) (l, l.take r.toNat) ⟨by omega, by simp; omega⟩
      have e' : (rowsF cStr l).take (r.toNat - 0) = rowsF cStr (l.take r.toNat) := rowsF_take cStr l r.toNat
      rw [e']
    | true =>
      have hlt : r.toNat < l.length := by omega
      have hrow : (rowsF cStr l)[r.toNat]? = some [.sc (.string l[r.toNat])] := rowsF_get cStr l r.toNat hlt
      have hs0 := hsz _ (List.getElem_mem hlt)
      have z1 : (⟨#[122]⟩ : ByteArray).size = 1 := rfl
      have z := ByteArray.size_append (a := l[r.toNat]) (b := ⟨#[122]⟩)
      have e := rowsF_set cStr l r.toNat (l[r.toNat] ++ ⟨#[122]⟩)
      generalize l[r.toNat] = x at *
      repeat (first | with_reducible apply W.seq | with_reducible apply W.block | with_reducible apply W.skip | with_reducible apply W.exit | with_reducible apply W.ret | with_reducible apply At.seqN | with_reducible apply At.blkN | with_reducible apply At.blkE | with_reducible apply At.blkR | with_reducible apply At.thenX | with_reducible apply At.thenR | with_reducible apply At.blkX rfl | ((with_reducible apply W.ops); (repeat (first | refine WL.opA hΓ (h := ?_) | refine WL.opX hΓ (h := ?_) | refine WL.opY (h := ?_) | refine WL.opZ (h := ?_))); with_reducible apply WL.nil) | refine W.condT (h := ?_) | refine W.condF (h := ?_))
      refine At.retRA (by rw [Tryd.results14]) (he := ?_) (l, l.set r.toNat (x ++ ⟨#[122]⟩)) ⟨by omega, by simp; omega⟩
      have e' : (rowsF cStr l).set r.toNat [Leaf.sc (Value.string (x ++ ⟨#[122]⟩))] = rowsF cStr (l.set r.toNat (x ++ ⟨#[122]⟩)) := e
      rw [e']
  · repeat (first | with_reducible apply W.seq | with_reducible apply W.block | with_reducible apply W.skip | with_reducible apply W.exit | with_reducible apply W.ret | with_reducible apply At.seqN | with_reducible apply At.blkN | with_reducible apply At.blkE | with_reducible apply At.blkR | with_reducible apply At.thenX | with_reducible apply At.thenR | with_reducible apply At.blkX rfl | ((with_reducible apply W.ops); (repeat (first | refine WL.opA hΓ (h := ?_) | refine WL.opX hΓ (h := ?_) | refine WL.opY (h := ?_) | refine WL.opZ (h := ?_))); with_reducible apply WL.nil) | refine W.condT (h := ?_) | refine W.condF (h := ?_))
    refine At.retRA (by rw [Tryd.results14]) (he := ?_) (l, l) ⟨by omega, by omega⟩
    rfl
end Go.Proofs.YteaohgacgcjkjaaDoor
