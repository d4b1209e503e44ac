/-
  SnapCut and SnapNew of both programs, where they do not refuse.
-/
import Derived.Test.YteaohgacgcjkjaaDoorEvSnapPut
import Derived.Test.YteaohgacgcjkjaaDoorEvVar
namespace Go.Proofs.YteaohgacgcjkjaaDoor
set_option maxRecDepth 100000
set_option linter.unusedVariables false
set_option linter.unusedSimpArgs false
open Go Go.RowKit
set_option maxHeartbeats 4000000

/-- the first k pieces -/
def pcs (s : ByteArray) (k : Nat) : List ByteArray := (List.range k).map fun i => s.extract (10 * i) (min (10 * i + 10) s.size)
theorem pcs_len (s : ByteArray) (k : Nat) : (pcs s k).length = k := by simp [pcs]
theorem pcs_next (s : ByteArray) (k : Nat) : pcs s (k + 1) = pcs s k ++ [s.extract (10 * k) (min (10 * k + 10) s.size)] := by simp [pcs, List.range_succ]
theorem pcs_at (s : ByteArray) {n k : Nat} (h : k < n) : (pcs s n)[k]'(by rw [pcs_len]; exact h) = s.extract (10 * k) (min (10 * k + 10) s.size) := by simp [pcs]
def cutS (s : ByteArray) : List ByteArray := pcs s ((s.size + 9) / 10)
theorem cutS_len (s : ByteArray) : (cutS s).length = (s.size + 9) / 10 := pcs_len _ _
theorem cutS_sz (s : ByteArray) : ∀ x ∈ cutS s, x.size ≤ 10 := by
  intro x hx
  obtain ⟨i, _, rfl⟩ := List.mem_map.1 hx
  rw [ByteArray.size_extract]
  omega
theorem pcs_app (s : ByteArray) (k : Nat) {e : Nat} (he : e = min (10 * k + 10) s.size) : rowsF cStr (pcs s k) ++ [[Leaf.sc (.string (s.extract (10 * k) e))]] = rowsF cStr (pcs s (k + 1)) := by
  rw [pcs_next, ← rowsF_app, he]
  rfl
noncomputable def mCut := mdl (fun s : ByteArray => s.size ≤ 400) (fun s => [aS s]) (fun s => rL 9 1 cStr (cutS s))
theorem mCut_eq (s : ByteArray) (h : s.size ≤ 400) : mCut [aS s] = some (rL 9 1 cStr (cutS s)) := mdl_eq (by intro a b h; simpa using h) s h
theorem cutI_s : Sound Tryd.prog 18 mCut := by
  refine Sound.mdl Tryd.func18 rfl Tryd.ntmps18 ?_
  rintro s w h
  refine ⟨by simp, ?_⟩
  replace h : s.size ≤ 400 := h
  have hΓ : GSound Tryd.prog (look []) := env_nil
  have hz : rowsF cStr (pcs s 0) = [] := rfl
  simp only [initS, argPV, List.map_cons, List.map_nil, toPL, Nat.zero_add]
  repeat (first | with_reducible apply W.seq | with_reducible apply W.block | with_reducible apply W.skip | with_reducible apply W.exit | with_reducible apply W.ret | with_reducible apply At.seqN | with_reducible apply At.blkN | with_reducible apply At.blkE | with_reducible apply At.blkR | with_reducible apply At.thenX | with_reducible apply At.thenR | with_reducible apply At.blkX rfl | ((with_reducible apply W.ops); (repeat (first | refine WL.opA hΓ (h := ?_) | refine WL.opX hΓ (h := ?_) | refine WL.opY (h := ?_) | refine WL.opZ (h := ?_))); with_reducible apply WL.nil) | refine W.condT (h := ?_) | refine W.condF (h := ?_))
  refine W.loopA (fun k => 10 * k < s.size + 10) (fun k : Nat => [.slot 0 (vS s), .slot 4 (vI ((10 * k : Nat) : Int)), .slot 3 (one (.all 8)), .blk 8 (.arr true 9 1 (rowsF cStr (pcs s k)))]) (fun k => s.size + 10 - 10 * k) 0 (by omega) (h := ?_)
  rintro k hk
  have hlen := pcs_len s k
  have e0 : ((10 * k : Nat) : Int) + 10 = ((10 * (k + 1) : Nat) : Int) := by omega
  clear hz
  by_cases hlt : 10 * k < s.size
  · by_cases hend : 10 * k + 10 ≤ s.size
    · have e := pcs_app s k (e := 10 * (k + 1)) (by omega)
      repeat (first | with_reducible apply W.seq | with_reducible apply W.block | with_reducible apply W.skip | with_reducible apply W.exit | with_reducible apply W.ret | with_reducible apply At.seqN | with_reducible apply At.blkN | with_reducible apply At.blkE | with_reducible apply At.blkR | with_reducible apply At.thenX | with_reducible apply At.thenR | with_reducible apply At.blkX rfl | ((with_reducible apply W.ops); (repeat (first | refine WL.opA hΓ (h := ?_) | refine WL.opX hΓ (h := ?_) | refine WL.opY (h := ?_) | refine WL.opZ (h := ?_))); with_reducible apply WL.nil) | refine W.condT (h := ?_) | refine W.condF (h := ?_))
      exact At.roundA (k + 1) (by omega) (by omega)
    · have e := pcs_app s k (e := s.size) (by omega)
      repeat (first | with_reducible apply W.seq | with_reducible apply W.block | with_reducible apply W.skip | with_reducible apply W.exit | with_reducible apply W.ret | with_reducible apply At.seqN | with_reducible apply At.blkN | with_reducible apply At.blkE | with_reducible apply At.blkR | with_reducible apply At.thenX | with_reducible apply At.thenR | with_reducible apply At.blkX rfl | ((with_reducible apply W.ops); (repeat (first | refine WL.opA hΓ (h := ?_) | refine WL.opX hΓ (h := ?_) | refine WL.opY (h := ?_) | refine WL.opZ (h := ?_))); with_reducible apply WL.nil) | refine W.condT (h := ?_) | refine W.condF (h := ?_))
      exact At.roundA (k + 1) (by omega) (by omega)
  · have hk : k = (s.size + 9) / 10 := by omega
    have hv : cutS s = pcs s k := by rw [hk]; rfl
    clear hk e0
    repeat (first | with_reducible apply W.seq | with_reducible apply W.block | with_reducible apply W.skip | with_reducible apply W.exit | with_reducible apply W.ret | with_reducible apply At.seqN | with_reducible apply At.blkN | with_reducible apply At.blkE | with_reducible apply At.blkR | with_reducible apply At.thenX | with_reducible apply At.thenR | with_reducible apply At.blkX rfl | ((with_reducible apply W.ops); (repeat (first | refine WL.opA hΓ (h := ?_) | refine WL.opX hΓ (h := ?_) | refine WL.opY (h := ?_) | refine WL.opZ (h := ?_))); with_reducible apply WL.nil) | refine W.condT (h := ?_) | refine W.condF (h := ?_))
    refine At.retA (by rw [Tryd.results18]) (he := ?_)
    rw [hv]
theorem cutS_s : Sound Tryd.prog 20 mCut := by
  refine Sound.mdl Tryd.func20 rfl Tryd.ntmps20 ?_
  rintro s w h
  refine ⟨by simp, ?_⟩
  replace h : s.size ≤ 400 := h
  have hΓ : GSound Tryd.prog (look []) := env_nil
  have hz : rowsF cStr (pcs s 0) = [] := rfl
  simp only [initS, argPV, List.map_cons, List.map_nil, toPL, Nat.zero_add]
  repeat (first | with_reducible apply W.seq | with_reducible apply W.block | with_reducible apply W.skip | with_reducible apply W.exit | with_reducible apply W.ret | with_reducible apply At.seqN | with_reducible apply At.blkN | with_reducible apply At.blkE | with_reducible apply At.blkR | with_reducible apply At.thenX | with_reducible apply At.thenR | with_reducible apply At.blkX rfl | ((with_reducible apply W.ops); (repeat (first | refine WL.opA hΓ (h := ?_) | refine WL.opX hΓ (h := ?_) | refine WL.opY (h := ?_) | refine WL.opZ (h := ?_))); with_reducible apply WL.nil) | refine W.condT (h := ?_) | refine W.condF (h := ?_))
  refine W.loopA (fun k => 10 * k < s.size + 10) (fun k : Nat => [.slot 0 (vS s), .slot 4 (vI ((10 * k : Nat) : Int)), .slot 3 (one (.all 6)), .blk 6 (.arr true 9 1 (rowsF cStr (pcs s k)))]) (fun k => s.size + 10 - 10 * k) 0 (by omega) (h := ?_)
  rintro k hk
  have hlen := pcs_len s k
  have e0 : ((10 * k : Nat) : Int) + 10 = ((10 * (k + 1) : Nat) : Int) := by omega
  clear hz
  by_cases hlt : 10 * k < s.size
  · by_cases hend : 10 * k + 10 ≤ s.size
    · have e := pcs_app s k (e := 10 * (k + 1)) (by omega)
      repeat (first | with_reducible apply W.seq | with_reducible apply W.block | with_reducible apply W.skip | with_reducible apply W.exit | with_reducible apply W.ret | with_reducible apply At.seqN | with_reducible apply At.blkN | with_reducible apply At.blkE | with_reducible apply At.blkR | with_reducible apply At.thenX | with_reducible apply At.thenR | with_reducible apply At.blkX rfl | ((with_reducible apply W.ops); (repeat (first | refine WL.opA hΓ (h := ?_) | refine WL.opX hΓ (h := ?_) | refine WL.opY (h := ?_) | refine WL.opZ (h := ?_))); with_reducible apply WL.nil) | refine W.condT (h := ?_) | refine W.condF (h := ?_))
      exact At.roundA (k + 1) (by omega) (by omega)
    · have e := pcs_app s k (e := s.size) (by omega)
      repeat (first | with_reducible apply W.seq | with_reducible apply W.block | with_reducible apply W.skip | with_reducible apply W.exit | with_reducible apply W.ret | with_reducible apply At.seqN | with_reducible apply At.blkN | with_reducible apply At.blkE | with_reducible apply At.blkR | with_reducible apply At.thenX | with_reducible apply At.thenR | with_reducible apply At.blkX rfl | ((with_reducible apply W.ops); (repeat (first | refine WL.opA hΓ (h := ?_) | refine WL.opX hΓ (h := ?_) | refine WL.opY (h := ?_) | refine WL.opZ (h := ?_))); with_reducible apply WL.nil) | refine W.condT (h := ?_) | refine W.condF (h := ?_))
      exact At.roundA (k + 1) (by omega) (by omega)
  · have hk : k = (s.size + 9) / 10 := by omega
    have hv : cutS s = pcs s k := by rw [hk]; rfl
    clear hk e0
    repeat (first | with_reducible apply W.seq | with_reducible apply W.block | with_reducible apply W.skip | with_reducible apply W.exit | with_reducible apply W.ret | with_reducible apply At.seqN | with_reducible apply At.blkN | with_reducible apply At.blkE | with_reducible apply At.blkR | with_reducible apply At.thenX | with_reducible apply At.thenR | with_reducible apply At.blkX rfl | ((with_reducible apply W.ops); (repeat (first | refine WL.opA hΓ (h := ?_) | refine WL.opX hΓ (h := ?_) | refine WL.opY (h := ?_) | refine WL.opZ (h := ?_))); with_reducible apply WL.nil) | refine W.condT (h := ?_) | refine W.condF (h := ?_))
    refine At.retA (by rw [Tryd.results20]) (he := ?_)
    rw [hv]
/-- a new snap: nothing is there -/
abbrev snew (r : ByteArray) (n : Nat) : TSnap := (r, n, List.replicate n ByteArray.empty, List.replicate n false)
theorem snew_ok {r : ByteArray} {n : Nat} (hr : r.size = 32) (h1 : 1 ≤ n) (h2 : n ≤ 40) : sOk (snew r n) := by
  refine ⟨hr, ⟨by show (1 : Int) ≤ (n : Int); omega, by show (n : Int) ≤ 40; omega⟩, by simp, by simp, fun k hk _ => ?_⟩
  have hk : k < n := by simpa using hk
  simp [hk, List.getD_eq_getElem?_getD]
  rfl
abbrev okSn (x : ByteArray × Int) : Prop := x.1.size = 32 ∧ 1 ≤ x.2 ∧ x.2 ≤ 40
noncomputable def mSnew := mdl okSn (fun x => [aS x.1, aI x.2]) (fun x => rPutO (snew x.1 x.2.toNat) true)
theorem mSnew_eq (r : ByteArray) (n : Nat) (h : okSn (r, n)) : mSnew [aS r, aI (n : Int)] = some (rPutO (snew r n) true) := mdl_eq (ok := okSn) (enc := fun x => [aS x.1, aI x.2]) (g := fun x => rPutO (snew x.1 x.2.toNat) true) (by rintro ⟨a, b⟩ ⟨d, e⟩ h; simpa using h) (r, (n : Int)) h
theorem rowsF_rep {α : Type} (f : α → List Value) (x : α) (n : Nat) : rowsF f (List.replicate n x) = List.replicate n ((f x).map Leaf.sc) := by
  unfold rowsF
  rw [List.map_replicate]
theorem newI_s : Sound Tryd.prog 19 mSnew := by
  refine Sound.mdl Tryd.func19 rfl Tryd.ntmps19 ?_
  rintro ⟨r, n⟩ w ⟨h1, h2, h3⟩
  refine ⟨by simp, ?_⟩
  dsimp only at h1 h2 h3
  have hΓ : GSound Tryd.prog (look [(31, mWithin)]) := env_cons (has_of Tryd.func31 rfl rfl) within_s env_nil
  have c1 := mWithin_eq n 1 40
  rw [decide_eq_true (⟨h2, h3⟩ : 1 ≤ n ∧ n ≤ 40)] at c1
  obtain ⟨k, rfl⟩ := Int.eq_ofNat_of_zero_le (show 0 ≤ n by omega)
  simp only [initS, argPV, List.map_cons, List.map_nil, toPL, Nat.zero_add]
  repeat (first | with_reducible apply W.seq | with_reducible apply W.block | with_reducible apply W.skip | with_reducible apply W.exit | with_reducible apply W.ret | with_reducible apply At.seqN | with_reducible apply At.blkN | with_reducible apply At.blkE | with_reducible apply At.blkR | with_reducible apply At.thenX | with_reducible apply At.thenR | with_reducible apply At.blkX rfl | ((with_reducible apply W.ops); (repeat (first | refine WL.opA hΓ (h := ?_) | refine WL.opX hΓ (h := ?_) | refine WL.opY (h := ?_) | refine WL.opZ (h := ?_))); with_reducible apply WL.nil) | refine W.condT (h := ?_) | refine W.condF (h := ?_))
  refine W.drawsA hΓ 7 [[], [], [], [2], [], [4], [0, 1, 2, 3, 4, 5], [0, 1, 2, 3, 4, 5, 6], [0, 1, 2, 3, 4, 5, 6, 7]] (rest := ?rest18) (Es := ?Es18) (st1 := ?st118) (h := ?h18) (hf := ?hf18) (hp := ?hp18) (hd := ?hd18) (hfr := ?hfr18) (hst := ?hst18) (hT := ?hT18)
  case h18 => kernel_rfl
  case hf18 =>
    repeat (first | refine FlowT.opA (h := ?_) | refine FlowT.opX (h := ?_) | refine FlowT.opY (h := ?_) | refine FlowT.opZ (h := ?_))
    exact FlowT.done
  case hp18 => rfl
  case hd18 => rfl
  case hfr18 => rfl
  case hst18 =>
    simp only [pick_nil, pick_all, List.cons_append, List.nil_append]
    rfl
  (repeat (first | refine WL.opA hΓ (h := ?_) | refine WL.opX hΓ (h := ?_) | refine WL.opY (h := ?_) | refine WL.opZ (h := ?_)))
  with_reducible apply WL.nil
  repeat (first | with_reducible apply W.seq | with_reducible apply W.block | with_reducible apply W.skip | with_reducible apply W.exit | with_reducible apply W.ret | with_reducible apply At.seqN | with_reducible apply At.blkN | with_reducible apply At.blkE | with_reducible apply At.blkR | with_reducible apply At.thenX | with_reducible apply At.thenR | with_reducible apply At.blkX rfl | ((with_reducible apply W.ops); (repeat (first | refine WL.opA hΓ (h := ?_) | refine WL.opX hΓ (h := ?_) | refine WL.opY (h := ?_) | refine WL.opZ (h := ?_))); with_reducible apply WL.nil) | refine W.condT (h := ?_) | refine W.condF (h := ?_))
  refine At.retA (by rw [Tryd.results19]) (he := ?_)
  simp only [Int.toNat_natCast, rPutO, snew, rowsSnap, rowsF_rep]
  rfl
theorem newS_s : Sound Tryd.prog 64 mSnew := by
  refine Sound.mdl Tryd.func64 rfl Tryd.ntmps64 ?_
  rintro ⟨r, n⟩ w ⟨h1, h2, h3⟩
  refine ⟨by simp, ?_⟩
  dsimp only at h1 h2 h3
  have hΓ : GSound Tryd.prog (look [(35, mIn)]) := env_cons (has_of Tryd.func35 rfl rfl) l1In_s env_nil
  have c1 := mIn_eq n 1 40
  rw [decide_eq_true (⟨h2, h3⟩ : 1 ≤ n ∧ n ≤ 40)] at c1
  obtain ⟨k, rfl⟩ := Int.eq_ofNat_of_zero_le (show 0 ≤ n by omega)
  simp only [initS, argPV, List.map_cons, List.map_nil, toPL, Nat.zero_add]
  repeat (first | with_reducible apply W.seq | with_reducible apply W.block | with_reducible apply W.skip | with_reducible apply W.exit | with_reducible apply W.ret | with_reducible apply At.seqN | with_reducible apply At.blkN | with_reducible apply At.blkE | with_reducible apply At.blkR | with_reducible apply At.thenX | with_reducible apply At.thenR | with_reducible apply At.blkX rfl | ((with_reducible apply W.ops); (repeat (first | refine WL.opA hΓ (h := ?_) | refine WL.opX hΓ (h := ?_) | refine WL.opY (h := ?_) | refine WL.opZ (h := ?_))); with_reducible apply WL.nil) | refine W.condT (h := ?_) | refine W.condF (h := ?_))
  refine W.drawsA hΓ 7 [[], [], [], [2], [], [4], [0, 1, 2, 3, 4, 5], [0, 1, 2, 3, 4, 5, 6], [0, 1, 2, 3, 4, 5, 6, 7]] (rest := ?rest24) (Es := ?Es24) (st1 := ?st124) (h := ?h24) (hf := ?hf24) (hp := ?hp24) (hd := ?hd24) (hfr := ?hfr24) (hst := ?hst24) (hT := ?hT24)
  case h24 => kernel_rfl
  case hf24 =>
    repeat (first | refine FlowT.opA (h := ?_) | refine FlowT.opX (h := ?_) | refine FlowT.opY (h := ?_) | refine FlowT.opZ (h := ?_))
    exact FlowT.done
  case hp24 => rfl
  case hd24 => rfl
  case hfr24 => rfl
  case hst24 =>
    simp only [pick_nil, pick_all, List.cons_append, List.nil_append]
    rfl
  (repeat (first | refine WL.opA hΓ (h := ?_) | refine WL.opX hΓ (h := ?_) | refine WL.opY (h := ?_) | refine WL.opZ (h := ?_)))
  with_reducible apply WL.nil
  repeat (first | with_reducible apply W.seq | with_reducible apply W.block | with_reducible apply W.skip | with_reducible apply W.exit | with_reducible apply W.ret | with_reducible apply At.seqN | with_reducible apply At.blkN | with_reducible apply At.blkE | with_reducible apply At.blkR | with_reducible apply At.thenX | with_reducible apply At.thenR | with_reducible apply At.blkX rfl | ((with_reducible apply W.ops); (repeat (first | refine WL.opA hΓ (h := ?_) | refine WL.opX hΓ (h := ?_) | refine WL.opY (h := ?_) | refine WL.opZ (h := ?_))); with_reducible apply WL.nil) | refine W.condT (h := ?_) | refine W.condF (h := ?_))
  refine At.retA (by rw [Tryd.results64]) (he := ?_)
  simp only [Int.toNat_natCast, rPutO, snew, rowsSnap, rowsF_rep]
  rfl
end Go.Proofs.YteaohgacgcjkjaaDoor
