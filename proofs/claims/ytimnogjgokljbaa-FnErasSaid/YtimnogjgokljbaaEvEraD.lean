/-
  Drawn eras.
-/
import Derived.Test.YtimnogjgokljbaaEvEraQ
import Derived.Test.YtimnogjgokljbaaEvDrV
import Derived.Test.YtimnogjgokljbaaEvRen
import Derived.Test.YtimnogjgokljbaaEvLoose
namespace Go.Proofs.Ytimnogjgokljbaa
set_option maxRecDepth 100000
set_option linter.unusedVariables false
set_option linter.unusedSimpArgs false
open Go Go.RowKit
set_option maxHeartbeats 8000000
set_option linter.unusedVariables false
set_option linter.unusedSimpArgs false

/-- eras as drawn -/
def rEras (_ : Unit) (l : List TEra) : Prop := l.length ≤ 9 ∧ ∀ e ∈ l, e.2.length ≤ 8
theorem rEras.ok {u : Unit} {l : List TEra} (h : rEras u l) : okEc l := ⟨by have := h.1; omega, fun e he => by have := h.2 e he; omega⟩
theorem addL_len (l : List TEra) (f : Int) (v : List TVal) : (addL l f v).length ≤ l.length + 1 := by
  unfold addL
  split
  · split
    · omega
    · split
      · simp
      · omega
  · simp
theorem addL_mem {l : List TEra} {f : Int} {v : List TVal} {e : TEra} (h : e ∈ addL l f v) : e ∈ l ∨ e = (f, v) := by
  unfold addL at h
  split at h
  · split at h
    · exact .inl h
    · split at h
      · rcases List.mem_append.1 h with h | h
        · exact .inl h
        · exact .inr (List.mem_singleton.1 h)
      · exact .inl h
  · cases h
theorem eraRows_setF {l : List TEra} {k : Nat} (r : Int) (h : k < l.length) : (eraRows l).set k [.sc (.int .i64 r), .sl (rowsF cVal l[k].2)] = eraRows (l.set k (r, l[k].2)) := by
  unfold eraRows
  rw [List.map_set]
theorem eraRows_setV {l : List TEra} {k : Nat} (v : List TVal) (h : k < l.length) : (eraRows l).set k [.sc (.int .i64 l[k].1), .sl (rowsF cVal v)] = eraRows (l.set k (l[k].1, v)) := by
  unfold eraRows
  rw [List.map_set]
theorem rEras_set {l : List TEra} {k : Nat} {e : TEra} (h1 : l.length ≤ 9) (h2 : ∀ e ∈ l, e.2.length ≤ 8) (he : e.2.length ≤ 8) : rEras () (l.set k e) := ⟨by simpa using h1, fun x hx => by
  rcases List.mem_or_eq_of_mem_set hx with hx | rfl
  · exact h2 x hx
  · exact he⟩
abbrev rED (l : List TEra) : Res := .comp false [.ro (.sl (eraRows l))]
theorem l29Some_s : SoundCuN Try.prog 42 (fun _ : Unit => True) (fun _ => []) rEras (fun _ l => rED l) := by
  refine SoundCuN.of Try.func42 rfl Try.ntmps42 ?_
  rintro k0 - b w hc - hB
  refine ⟨by simp, ?_⟩
  simp only [initC]
  have hΓ : GSound Try.prog (look [(17, mAddS)]) := env_cons (has_of Try.func17 rfl rfl) addS_s env_nil
  have hBe : Has Try.prog 48 := has_of Try.func48 rfl rfl
  have hOn : Has Try.prog 44 := has_of Try.func44 rfl rfl
  have hPi : Has Try.prog 43 := has_of Try.func43 rfl rfl
  have hSo : Has Try.prog 51 := has_of Try.func51 rfl rfl
  have hAn : Has Try.prog 45 := has_of Try.func45 rfl rfl
  have hcu := lsNms_cu
  have hck := kill_cu
  simp only [initS, argPV, List.map_cons, List.map_nil, toPL, Nat.zero_add]
  repeat (first | with_reducible apply W.seq | with_reducible apply W.block | with_reducible apply W.skip | with_reducible apply W.exit | with_reducible apply W.ret | with_reducible apply At.seqN | with_reducible apply At.blkN | with_reducible apply At.blkE | with_reducible apply At.blkR | with_reducible apply At.thenX | with_reducible apply At.thenR | with_reducible apply At.blkX rfl | ((with_reducible apply W.ops); (repeat (first | refine WL.opA hΓ (h := ?_) | refine WL.opX hΓ (h := ?_) | refine WL.opY (h := ?_) | refine WL.opZ (h := ?_))); with_reducible apply WL.nil) | refine W.condT (h := ?_) | refine W.condF (h := ?_))
  with_reducible apply W.ops
  repeat (first | refine WL.opA hΓ (h := ?_) | refine WL.opX hΓ (h := ?_) | refine WL.opY (h := ?_) | refine WL.opZ (h := ?_))
  refine WL.opCu hBe l1Below_s k0 hc 8 (by decide) (h := ?_)
  rintro k1 n0 hk1 ⟨hn0, hn1, -⟩
  replace hn1 : n0 < 8 := hn1 (by decide)
  (repeat (first | refine WL.opA hΓ (h := ?_) | refine WL.opX hΓ (h := ?_) | refine WL.opY (h := ?_) | refine WL.opZ (h := ?_)))
  with_reducible apply WL.nil
  repeat (first | with_reducible apply W.seq | with_reducible apply W.block | with_reducible apply W.skip | with_reducible apply W.exit | with_reducible apply W.ret | with_reducible apply At.seqN | with_reducible apply At.blkN | with_reducible apply At.blkE | with_reducible apply At.blkR | with_reducible apply At.thenX | with_reducible apply At.thenR | with_reducible apply At.blkX rfl | ((with_reducible apply W.ops); (repeat (first | refine WL.opA hΓ (h := ?_) | refine WL.opX hΓ (h := ?_) | refine WL.opY (h := ?_) | refine WL.opZ (h := ?_))); with_reducible apply WL.nil) | refine W.condT (h := ?_) | refine W.condF (h := ?_))
  refine W.toNd 9 (h := ?_)
  refine W.loopA (fun x : List TEra × Int × Int × Cu => CuTo k0 x.2.2.2 ∧ (0 ≤ x.2.2.1 ∧ x.1.length + x.2.2.1 ≤ 8 ∧ x.2.2.1 ≤ 8) ∧ (0 ≤ x.2.1 ∧ x.2.1 ≤ 5 * (8 - x.2.2.1)) ∧ ∀ e ∈ x.1, e.2.length ≤ 8) (fun x => [.slot 0 (one (.ptr 999 0)), .blk 999 (.box (cuL x.2.2.2)), .slot 3 (one (.all 9)), .blk 9 (.arr .nd 52 2 (eraRows x.1)), .slot 4 (vI x.2.1), .slot 5 (vI x.2.2.1)]) (fun x => x.2.2.1.toNat) ([], 0, n0, k1) ⟨hk1, ⟨hn0, by simp; omega, by dsimp only; omega⟩, ⟨by simp, by dsimp only; omega⟩, by simp⟩ (h := ?_)
  rintro ⟨l, fr, n, k⟩ ⟨hk, ⟨hn, hl, hn8⟩, ⟨hf0, hf1⟩, hel⟩
  dsimp only at hk hn hl hf0 hf1 hel hn8 ⊢
  have hll := eraRows_len l
  by_cases hp : 0 < n
  · repeat (first | with_reducible apply W.seq | with_reducible apply W.block | with_reducible apply W.skip | with_reducible apply W.exit | with_reducible apply W.ret | with_reducible apply At.seqN | with_reducible apply At.blkN | with_reducible apply At.blkE | with_reducible apply At.blkR | with_reducible apply At.thenX | with_reducible apply At.thenR | with_reducible apply At.blkX rfl | ((with_reducible apply W.ops); (repeat (first | refine WL.opA hΓ (h := ?_) | refine WL.opX hΓ (h := ?_) | refine WL.opY (h := ?_) | refine WL.opZ (h := ?_))); with_reducible apply WL.nil) | refine W.condT (h := ?_) | refine W.condF (h := ?_))
    with_reducible apply W.ops
    repeat (first | refine WL.opA hΓ (h := ?_) | refine WL.opX hΓ (h := ?_) | refine WL.opY (h := ?_) | refine WL.opZ (h := ?_))
    refine WL.opCu hBe l1Below_s k hk.ok 4 (by decide) (h := ?_)
    rintro k2 r hk2 ⟨hr0, hr1, -⟩
    replace hr1 : r < 4 := hr1 (by decide)
    (repeat (first | refine WL.opA hΓ (h := ?_) | refine WL.opX hΓ (h := ?_) | refine WL.opY (h := ?_) | refine WL.opZ (h := ?_)))
    with_reducible apply WL.nil
    repeat (first | with_reducible apply W.seq | with_reducible apply W.block | with_reducible apply W.skip | with_reducible apply W.exit | with_reducible apply W.ret | with_reducible apply At.seqN | with_reducible apply At.blkN | with_reducible apply At.blkE | with_reducible apply At.blkR | with_reducible apply At.thenX | with_reducible apply At.thenR | with_reducible apply At.blkX rfl | ((with_reducible apply W.ops); (repeat (first | refine WL.opA hΓ (h := ?_) | refine WL.opX hΓ (h := ?_) | refine WL.opY (h := ?_) | refine WL.opZ (h := ?_))); with_reducible apply WL.nil) | refine W.condT (h := ?_) | refine W.condF (h := ?_))
    with_reducible apply W.ops
    repeat (first | refine WL.opA hΓ (h := ?_) | refine WL.opX hΓ (h := ?_) | refine WL.opY (h := ?_) | refine WL.opZ (h := ?_))
    refine WL.opCu hSo l6Some_s k2 hk2.ok () trivial (h := ?_)
    rintro k3 v hk3 ⟨hv0, hv1⟩
    have c := mAddS_eq l (fr + 1 + r) v ⟨by omega, fun e he => by have := hel e he; omega⟩ (by omega)
    have hal := addL_len l (fr + 1 + r) v
    have ham : ∀ e ∈ addL l (fr + 1 + r) v, e.2.length ≤ 8 := fun e he => by
      rcases addL_mem he with h | rfl
      · exact hel e h
      · show v.length ≤ 8; omega
    generalize addL l (fr + 1 + r) v = l2 at *
    generalize addB l (fr + 1 + r) v = b2 at *
    (repeat (first | refine WL.opA hΓ (h := ?_) | refine WL.opX hΓ (h := ?_) | refine WL.opY (h := ?_) | refine WL.opZ (h := ?_)))
    with_reducible apply WL.nil
    cases b2 with
    | true =>
      repeat (first | with_reducible apply W.seq | with_reducible apply W.block | with_reducible apply W.skip | with_reducible apply W.exit | with_reducible apply W.ret | with_reducible apply At.seqN | with_reducible apply At.blkN | with_reducible apply At.blkE | with_reducible apply At.blkR | with_reducible apply At.thenX | with_reducible apply At.thenR | with_reducible apply At.blkX rfl | ((with_reducible apply W.ops); (repeat (first | refine WL.opA hΓ (h := ?_) | refine WL.opX hΓ (h := ?_) | refine WL.opY (h := ?_) | refine WL.opZ (h := ?_))); with_reducible apply WL.nil) | refine W.condT (h := ?_) | refine W.condF (h := ?_))
      refine At.ren 3 26 9 (h := ?_)
      exact At.roundA (l2, fr + 1 + r, n - 1, k3) ⟨(hk.trans hk2).trans hk3, ⟨by dsimp only; omega, by dsimp only; omega, by dsimp only; omega⟩, ⟨by dsimp only; omega, by dsimp only; omega⟩, ham⟩ (by dsimp only; omega)
    | false =>
      repeat (first | with_reducible apply W.seq | with_reducible apply W.block | with_reducible apply W.skip | with_reducible apply W.exit | with_reducible apply W.ret | with_reducible apply At.seqN | with_reducible apply At.blkN | with_reducible apply At.blkE | with_reducible apply At.blkR | with_reducible apply At.thenX | with_reducible apply At.thenR | with_reducible apply At.blkX rfl | ((with_reducible apply W.ops); (repeat (first | refine WL.opA hΓ (h := ?_) | refine WL.opX hΓ (h := ?_) | refine WL.opY (h := ?_) | refine WL.opZ (h := ?_))); with_reducible apply WL.nil) | refine W.condT (h := ?_) | refine W.condF (h := ?_))
      exact At.roundA (l, fr + 1 + r, n - 1, k3) ⟨(hk.trans hk2).trans hk3, ⟨by dsimp only; omega, by dsimp only; omega, by dsimp only; omega⟩, ⟨by dsimp only; omega, by dsimp only; omega⟩, hel⟩ (by dsimp only; omega)
  · have hn0' : n = 0 := by omega
    subst hn0'
    by_cases hpos : 0 < l.length
    · repeat (first | with_reducible apply W.seq | with_reducible apply W.block | with_reducible apply W.skip | with_reducible apply W.exit | with_reducible apply W.ret | with_reducible apply At.seqN | with_reducible apply At.blkN | with_reducible apply At.blkE | with_reducible apply At.blkR | with_reducible apply At.thenX | with_reducible apply At.thenR | with_reducible apply At.blkX rfl | ((with_reducible apply W.ops); (repeat (first | refine WL.opA hΓ (h := ?_) | refine WL.opX hΓ (h := ?_) | refine WL.opY (h := ?_) | refine WL.opZ (h := ?_))); with_reducible apply WL.nil) | refine W.condT (h := ?_) | refine W.condF (h := ?_))
      with_reducible apply W.ops
      repeat (first | refine WL.opA hΓ (h := ?_) | refine WL.opX hΓ (h := ?_) | refine WL.opY (h := ?_) | refine WL.opZ (h := ?_))
      refine WL.unG (h := ?_)
      refine WL.opCu hOn l1Once_s k hk.ok 10 (by decide) (h := ?_)
      rintro k2 o hk2 -
      (repeat (first | refine WL.opA hΓ (h := ?_) | refine WL.opX hΓ (h := ?_) | refine WL.opY (h := ?_) | refine WL.opZ (h := ?_)))
      with_reducible apply WL.nil
      cases o with
      | false =>
        repeat (first | with_reducible apply W.seq | with_reducible apply W.block | with_reducible apply W.skip | with_reducible apply W.exit | with_reducible apply W.ret | with_reducible apply At.seqN | with_reducible apply At.blkN | with_reducible apply At.blkE | with_reducible apply At.blkR | with_reducible apply At.thenX | with_reducible apply At.thenR | with_reducible apply At.blkX rfl | ((with_reducible apply W.ops); (repeat (first | refine WL.opA hΓ (h := ?_) | refine WL.opX hΓ (h := ?_) | refine WL.opY (h := ?_) | refine WL.opZ (h := ?_))); with_reducible apply WL.nil) | refine W.condT (h := ?_) | refine W.condF (h := ?_))
        refine At.frzA 2 9 (h := ?_)
        refine At.retCuN (by rw [Try.results42]) hB k2 l (hk.trans hk2) ⟨by omega, hel⟩ (hls := ?_) (he := ?_)
        · rfl
        · rfl
      | true =>
        repeat (first | with_reducible apply W.seq | with_reducible apply W.block | with_reducible apply W.skip | with_reducible apply W.exit | with_reducible apply W.ret | with_reducible apply At.seqN | with_reducible apply At.blkN | with_reducible apply At.blkE | with_reducible apply At.blkR | with_reducible apply At.thenX | with_reducible apply At.thenR | with_reducible apply At.blkX rfl | ((with_reducible apply W.ops); (repeat (first | refine WL.opA hΓ (h := ?_) | refine WL.opX hΓ (h := ?_) | refine WL.opY (h := ?_) | refine WL.opZ (h := ?_))); with_reducible apply WL.nil) | refine W.condT (h := ?_) | refine W.condF (h := ?_))
        with_reducible apply W.ops
        repeat (first | refine WL.opA hΓ (h := ?_) | refine WL.opX hΓ (h := ?_) | refine WL.opY (h := ?_) | refine WL.opZ (h := ?_))
        refine WL.opCu hBe l1Below_s k2 hk2.ok (l.length : Int) ⟨by omega, by omega⟩ (h := ?_)
        rintro k3 i hk3 ⟨hi0, hi1, -⟩
        replace hi1 : i < l.length := hi1 (by omega)
        have hlt : i.toNat < l.length := by omega
        have hrow := eraRows_get hlt
        have hmem := hel _ (List.getElem_mem hlt)
        (repeat (first | refine WL.opA hΓ (h := ?_) | refine WL.opX hΓ (h := ?_) | refine WL.opY (h := ?_) | refine WL.opZ (h := ?_)))
        with_reducible apply WL.nil
        repeat (first | with_reducible apply W.seq | with_reducible apply W.block | with_reducible apply W.skip | with_reducible apply W.exit | with_reducible apply W.ret | with_reducible apply At.seqN | with_reducible apply At.blkN | with_reducible apply At.blkE | with_reducible apply At.blkR | with_reducible apply At.thenX | with_reducible apply At.thenR | with_reducible apply At.blkX rfl | ((with_reducible apply W.ops); (repeat (first | refine WL.opA hΓ (h := ?_) | refine WL.opX hΓ (h := ?_) | refine WL.opY (h := ?_) | refine WL.opZ (h := ?_))); with_reducible apply WL.nil) | refine W.condT (h := ?_) | refine W.condF (h := ?_))
        with_reducible apply W.ops
        repeat (first | refine WL.opA hΓ (h := ?_) | refine WL.opX hΓ (h := ?_) | refine WL.opY (h := ?_) | refine WL.opZ (h := ?_))
        refine WL.opCu hBe l1Below_s k3 hk3.ok 3 (by decide) (h := ?_)
        rintro k4 q hk4 ⟨hq0, hq1, -⟩
        replace hq1 : q < 3 := hq1 (by decide)
        (repeat (first | refine WL.opA hΓ (h := ?_) | refine WL.opX hΓ (h := ?_) | refine WL.opY (h := ?_) | refine WL.opZ (h := ?_)))
        with_reducible apply WL.nil
        have hk40 := ((hk.trans hk2).trans hk3).trans hk4
        by_cases h0 : q = 0
        · subst h0
          repeat (first | with_reducible apply W.seq | with_reducible apply W.block | with_reducible apply W.skip | with_reducible apply W.exit | with_reducible apply W.ret | with_reducible apply At.seqN | with_reducible apply At.blkN | with_reducible apply At.blkE | with_reducible apply At.blkR | with_reducible apply At.thenX | with_reducible apply At.thenR | with_reducible apply At.blkX rfl | ((with_reducible apply W.ops); (repeat (first | refine WL.opA hΓ (h := ?_) | refine WL.opX hΓ (h := ?_) | refine WL.opY (h := ?_) | refine WL.opZ (h := ?_))); with_reducible apply WL.nil) | refine W.condT (h := ?_) | refine W.condF (h := ?_))
          with_reducible apply W.ops
          repeat (first | refine WL.opA hΓ (h := ?_) | refine WL.opX hΓ (h := ?_) | refine WL.opY (h := ?_) | refine WL.opZ (h := ?_))
          refine WL.opCu hPi l1PickInt_s k4 hk4.ok [0, 3, 1000000, 1000001] ⟨by decide, by decide⟩ (h := ?_)
          rintro k5 r hk5 -
          have hset := eraRows_setF r hlt
          have hres := rEras_set (l := l) (k := i.toNat) (e := (r, l[i.toNat].2)) (by omega) hel hmem
          generalize l[i.toNat] = x at *
          obtain ⟨xf, xv⟩ := x
          dsimp only at hrow hset hres
          generalize l.set i.toNat (r, xv) = l5 at *
          (repeat (first | refine WL.opA hΓ (h := ?_) | refine WL.opX hΓ (h := ?_) | refine WL.opY (h := ?_) | refine WL.opZ (h := ?_)))
          with_reducible apply WL.nil
          repeat (first | with_reducible apply W.seq | with_reducible apply W.block | with_reducible apply W.skip | with_reducible apply W.exit | with_reducible apply W.ret | with_reducible apply At.seqN | with_reducible apply At.blkN | with_reducible apply At.blkE | with_reducible apply At.blkR | with_reducible apply At.thenX | with_reducible apply At.thenR | with_reducible apply At.blkX rfl | ((with_reducible apply W.ops); (repeat (first | refine WL.opA hΓ (h := ?_) | refine WL.opX hΓ (h := ?_) | refine WL.opY (h := ?_) | refine WL.opZ (h := ?_))); with_reducible apply WL.nil) | refine W.condT (h := ?_) | refine W.condF (h := ?_))
          refine At.frzA 2 9 (h := ?_)
          refine At.retCuN (by rw [Try.results42]) hB k5 l5 (hk40.trans hk5) hres (hls := ?_) (he := ?_)
          · rfl
          · rfl
        · by_cases h1 : q = 1
          · subst h1
            repeat (first | with_reducible apply W.seq | with_reducible apply W.block | with_reducible apply W.skip | with_reducible apply W.exit | with_reducible apply W.ret | with_reducible apply At.seqN | with_reducible apply At.blkN | with_reducible apply At.blkE | with_reducible apply At.blkR | with_reducible apply At.thenX | with_reducible apply At.thenR | with_reducible apply At.blkX rfl | ((with_reducible apply W.ops); (repeat (first | refine WL.opA hΓ (h := ?_) | refine WL.opX hΓ (h := ?_) | refine WL.opY (h := ?_) | refine WL.opZ (h := ?_))); with_reducible apply WL.nil) | refine W.condT (h := ?_) | refine W.condF (h := ?_))
            with_reducible apply W.ops
            repeat (first | refine WL.opA hΓ (h := ?_) | refine WL.opX hΓ (h := ?_) | refine WL.opY (h := ?_) | refine WL.opZ (h := ?_))
            refine WL.opCu hAn l6Any_s k4 hk4.ok () trivial (h := ?_)
            rintro k5 v hk5 hv
            have hset := eraRows_setV v hlt
            have hres := rEras_set (l := l) (k := i.toNat) (e := (l[i.toNat].1, v)) (by omega) hel hv
            generalize l[i.toNat] = x at *
            obtain ⟨xf, xv⟩ := x
            dsimp only at hrow hset hres
            generalize l.set i.toNat (xf, v) = l5 at *
            (repeat (first | refine WL.opA hΓ (h := ?_) | refine WL.opX hΓ (h := ?_) | refine WL.opY (h := ?_) | refine WL.opZ (h := ?_)))
            with_reducible apply WL.nil
            repeat (first | with_reducible apply W.seq | with_reducible apply W.block | with_reducible apply W.skip | with_reducible apply W.exit | with_reducible apply W.ret | with_reducible apply At.seqN | with_reducible apply At.blkN | with_reducible apply At.blkE | with_reducible apply At.blkR | with_reducible apply At.thenX | with_reducible apply At.thenR | with_reducible apply At.blkX rfl | ((with_reducible apply W.ops); (repeat (first | refine WL.opA hΓ (h := ?_) | refine WL.opX hΓ (h := ?_) | refine WL.opY (h := ?_) | refine WL.opZ (h := ?_))); with_reducible apply WL.nil) | refine W.condT (h := ?_) | refine W.condF (h := ?_))
            refine At.frzA 2 9 (h := ?_)
            refine At.retCuN (by rw [Try.results42]) hB k5 l5 (hk40.trans hk5) hres (hls := ?_) (he := ?_)
            · rfl
            · rfl
          · have hsn := eraRows_snoc l l[i.toNat].1 l[i.toNat].2
            have hres : rEras () (l ++ [(l[i.toNat].1, l[i.toNat].2)]) := ⟨by simp; omega, fun x hx => by
              rcases List.mem_append.1 hx with hx | hx
              · exact hel x hx
              · rw [List.mem_singleton.1 hx]; exact hmem⟩
            generalize l[i.toNat] = x at *
            obtain ⟨xf, xv⟩ := x
            dsimp only at hrow hsn hres
            generalize l ++ [(xf, xv)] = l5 at *
            refine W.loose 9 (h := ?_)
            repeat (first | with_reducible apply W.seq | with_reducible apply W.block | with_reducible apply W.skip | with_reducible apply W.exit | with_reducible apply W.ret | with_reducible apply At.seqN | with_reducible apply At.blkN | with_reducible apply At.blkE | with_reducible apply At.blkR | with_reducible apply At.thenX | with_reducible apply At.thenR | with_reducible apply At.blkX rfl | ((with_reducible apply W.ops); (repeat (first | refine WL.opA hΓ (h := ?_) | refine WL.opX hΓ (h := ?_) | refine WL.opY (h := ?_) | refine WL.opZ (h := ?_))); with_reducible apply WL.nil) | refine W.condT (h := ?_) | refine W.condF (h := ?_))
            refine At.frzA 2 9 (h := ?_)
            refine At.retCuN (by rw [Try.results42]) hB k4 l5 hk40 hres (hls := ?_) (he := ?_)
            · rfl
            · rfl
    · have hnil : l = [] := List.length_eq_zero_iff.1 (by omega)
      repeat (first | with_reducible apply W.seq | with_reducible apply W.block | with_reducible apply W.skip | with_reducible apply W.exit | with_reducible apply W.ret | with_reducible apply At.seqN | with_reducible apply At.blkN | with_reducible apply At.blkE | with_reducible apply At.blkR | with_reducible apply At.thenX | with_reducible apply At.thenR | with_reducible apply At.blkX rfl | ((with_reducible apply W.ops); (repeat (first | refine WL.opA hΓ (h := ?_) | refine WL.opX hΓ (h := ?_) | refine WL.opY (h := ?_) | refine WL.opZ (h := ?_))); with_reducible apply WL.nil) | refine W.condT (h := ?_) | refine W.condF (h := ?_))
      refine At.frzA 2 9 (h := ?_)
      refine At.retCuN (by rw [Try.results42]) hB k l hk ⟨by omega, hel⟩ (hls := ?_) (he := ?_)
      · rfl
      · rw [hnil]; rfl
end Go.Proofs.Ytimnogjgokljbaa
