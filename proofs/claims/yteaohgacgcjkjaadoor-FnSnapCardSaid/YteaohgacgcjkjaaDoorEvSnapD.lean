/-
  What the law of snaps draws.
-/
import Derived.Test.YteaohgacgcjkjaaDoorEvSnapP
import Derived.Test.YteaohgacgcjkjaaDoorEvSpoil
import Derived.Test.YteaohgacgcjkjaaDoorEvSwap
namespace Go.Proofs.YteaohgacgcjkjaaDoor
set_option maxRecDepth 100000
set_option linter.unusedVariables false
set_option linter.unusedSimpArgs false
open Go Go.RowKit
set_option maxHeartbeats 4000000

theorem swL_cu (p q : Nat) (c : Cu) : swL p q (cuL c) = cuL c := rfl
noncomputable def mPut := mdl okSP encS rPut
theorem mPut_eq (s : TSnap) (i : Int) (b : ByteArray) (p : List ByteArray) (hs : sOk s) (h : okSP (s, i, b, p)) : mPut (encS (s, i, b, p)) = some (rPutO (putS s i b p) (decide (putOk s i b p))) := by
  have := mdl_eq (ok := okSP) (g := rPut) encS_inj (s, i, b, p) h
  unfold mPut
  rw [this]
  unfold rPut
  rw [if_pos hs]
theorem mPut_no (s : TSnap) (i : Int) (b : ByteArray) (p : List ByteArray) (hs : ¬ sOk s) (h : okSP (s, i, b, p)) : mPut (encS (s, i, b, p)) = some rPutN := by
  have := mdl_eq (ok := okSP) (g := rPut) encS_inj (s, i, b, p) h
  unfold mPut
  rw [this]
  unfold rPut
  rw [if_neg hs]
theorem sOk_okS {s : TSnap} (h : sOk s) : okS s := by
  obtain ⟨h1, h2, h3, h4, _⟩ := h
  exact ⟨by omega, by omega, by omega⟩
theorem putS_keep (s : TSnap) (i : Int) (b : ByteArray) (p : List ByteArray) (hs : sOk s) : (putS s i b p).1 = s.1 ∧ (putS s i b p).2.1 = s.2.1 := by
  by_cases h : putOk s i b p
  · rw [putS_yes h]; exact ⟨rfl, rfl⟩
  · rw [putS_same h hs]; exact ⟨rfl, rfl⟩
abbrev rDrC (_ : List Nat) (s : ByteArray) : Prop := s.size ≤ 401
abbrev resDrC (_ : List Nat) (s : ByteArray) : Res := rS s
theorem DrawSnapCut_s : SoundR Tryd.prog 17 CodeOk (fun bs => [aL cU8 bs]) rDrC resDrC := by
  refine SoundR.ofXA Tryd.func17 rfl Tryd.ntmps17 (by decide) ?_
  rintro bs v w hcode
  simp only [initX]
  have hΓ : GSound Tryd.prog (look []) := env_nil
  have hNw : Has Tryd.prog 38 := has_of Tryd.func38 rfl rfl
  have hBe : Has Tryd.prog 40 := has_of Tryd.func40 rfl rfl
  have hOn : Has Tryd.prog 43 := has_of Tryd.func43 rfl rfl
  have hTe : Has Tryd.prog 44 := has_of Tryd.func44 rfl rfl
  have hcu := lsNms_cu
  have hck := kill_cu
  repeat (first | with_reducible apply W.seq | with_reducible apply W.block | with_reducible apply W.skip | with_reducible apply W.exit | with_reducible apply W.ret | with_reducible apply At.seqN | with_reducible apply At.blkN | with_reducible apply At.blkE | with_reducible apply At.blkR | with_reducible apply At.thenX | with_reducible apply At.thenR | with_reducible apply At.blkX rfl | ((with_reducible apply W.ops); (repeat (first | refine WL.opA hΓ (h := ?_) | refine WL.opX hΓ (h := ?_) | refine WL.opY (h := ?_) | refine WL.opZ (h := ?_))); with_reducible apply WL.nil) | refine W.condT (h := ?_) | refine W.condF (h := ?_))
  with_reducible apply W.ops
  repeat (first | refine WL.opA hΓ (h := ?_) | refine WL.opX hΓ (h := ?_) | refine WL.opY (h := ?_) | refine WL.opZ (h := ?_))
  refine WL.opNew hNw l1New_s v bs hcode (h := ?_)
  intro k0 hk0
  (repeat (first | refine WL.opA hΓ (h := ?_) | refine WL.opX hΓ (h := ?_) | refine WL.opY (h := ?_) | refine WL.opZ (h := ?_)))
  with_reducible apply WL.nil
  repeat (first | with_reducible apply W.seq | with_reducible apply W.block | with_reducible apply W.skip | with_reducible apply W.exit | with_reducible apply W.ret | with_reducible apply At.seqN | with_reducible apply At.blkN | with_reducible apply At.blkE | with_reducible apply At.blkR | with_reducible apply At.thenX | with_reducible apply At.thenR | with_reducible apply At.blkX rfl | ((with_reducible apply W.ops); (repeat (first | refine WL.opA hΓ (h := ?_) | refine WL.opX hΓ (h := ?_) | refine WL.opY (h := ?_) | refine WL.opZ (h := ?_))); with_reducible apply WL.nil) | refine W.condT (h := ?_) | refine W.condF (h := ?_))
  with_reducible apply W.ops
  repeat (first | refine WL.opA hΓ (h := ?_) | refine WL.opX hΓ (h := ?_) | refine WL.opY (h := ?_) | refine WL.opZ (h := ?_))
  refine WL.opCu hOn l1Once_s k0 hk0 30 (by decide) (h := ?_)
  rintro k1 o hk1 -
  (repeat (first | refine WL.opA hΓ (h := ?_) | refine WL.opX hΓ (h := ?_) | refine WL.opY (h := ?_) | refine WL.opZ (h := ?_)))
  with_reducible apply WL.nil
  cases o with
  | true =>
    repeat (first | with_reducible apply W.seq | with_reducible apply W.block | with_reducible apply W.skip | with_reducible apply W.exit | with_reducible apply W.ret | with_reducible apply At.seqN | with_reducible apply At.blkN | with_reducible apply At.blkE | with_reducible apply At.blkR | with_reducible apply At.thenX | with_reducible apply At.thenR | with_reducible apply At.blkX rfl | ((with_reducible apply W.ops); (repeat (first | refine WL.opA hΓ (h := ?_) | refine WL.opX hΓ (h := ?_) | refine WL.opY (h := ?_) | refine WL.opZ (h := ?_))); with_reducible apply WL.nil) | refine W.condT (h := ?_) | refine W.condF (h := ?_))
    with_reducible apply W.ops
    repeat (first | refine WL.opA hΓ (h := ?_) | refine WL.opX hΓ (h := ?_) | refine WL.opY (h := ?_) | refine WL.opZ (h := ?_))
    refine WL.opCu hBe l1Below_s k1 hk1.ok 2 (by decide) (h := ?_)
    rintro k2 r hk2 ⟨hr0, hr1, -⟩
    replace hr1 : r < 2 := hr1 (by decide)
    have hrep : List.replicate (400 + r).toNat [Leaf.sc (Value.int .u8 0)] = rowsF cU8 (List.replicate (400 + r).toNat 0) := (rowsF_rep cU8 0 _).symm
    have hb := bytes_rows (List.replicate (400 + r).toNat 0)
    have hz : (bsS (List.replicate (400 + r).toNat 0)).size = (400 + r).toNat := by rw [bsS_size]; simp
    (repeat (first | refine WL.opA hΓ (h := ?_) | refine WL.opX hΓ (h := ?_) | refine WL.opY (h := ?_) | refine WL.opZ (h := ?_)))
    with_reducible apply WL.nil
    repeat (first | with_reducible apply W.seq | with_reducible apply W.block | with_reducible apply W.skip | with_reducible apply W.exit | with_reducible apply W.ret | with_reducible apply At.seqN | with_reducible apply At.blkN | with_reducible apply At.blkE | with_reducible apply At.blkR | with_reducible apply At.thenX | with_reducible apply At.thenR | with_reducible apply At.blkX rfl | ((with_reducible apply W.ops); (repeat (first | refine WL.opA hΓ (h := ?_) | refine WL.opX hΓ (h := ?_) | refine WL.opY (h := ?_) | refine WL.opZ (h := ?_))); with_reducible apply WL.nil) | refine W.condT (h := ?_) | refine W.condF (h := ?_))
    refine At.retRA (by rw [Tryd.results17]) (he := ?_) (bsS (List.replicate (400 + r).toNat 0)) (show _ ≤ 401 by omega)
    rfl
  | false =>
    repeat (first | with_reducible apply W.seq | with_reducible apply W.block | with_reducible apply W.skip | with_reducible apply W.exit | with_reducible apply W.ret | with_reducible apply At.seqN | with_reducible apply At.blkN | with_reducible apply At.blkE | with_reducible apply At.blkR | with_reducible apply At.thenX | with_reducible apply At.thenR | with_reducible apply At.blkX rfl | ((with_reducible apply W.ops); (repeat (first | refine WL.opA hΓ (h := ?_) | refine WL.opX hΓ (h := ?_) | refine WL.opY (h := ?_) | refine WL.opZ (h := ?_))); with_reducible apply WL.nil) | refine W.condT (h := ?_) | refine W.condF (h := ?_))
    with_reducible apply W.ops
    repeat (first | refine WL.opA hΓ (h := ?_) | refine WL.opX hΓ (h := ?_) | refine WL.opY (h := ?_) | refine WL.opZ (h := ?_))
    refine WL.opCu hTe l1Text_s k1 hk1.ok 60 (by decide) (h := ?_)
    rintro k2 s hk2 hs
    (repeat (first | refine WL.opA hΓ (h := ?_) | refine WL.opX hΓ (h := ?_) | refine WL.opY (h := ?_) | refine WL.opZ (h := ?_)))
    with_reducible apply WL.nil
    repeat (first | with_reducible apply W.seq | with_reducible apply W.block | with_reducible apply W.skip | with_reducible apply W.exit | with_reducible apply W.ret | with_reducible apply At.seqN | with_reducible apply At.blkN | with_reducible apply At.blkE | with_reducible apply At.blkR | with_reducible apply At.thenX | with_reducible apply At.thenR | with_reducible apply At.blkX rfl | ((with_reducible apply W.ops); (repeat (first | refine WL.opA hΓ (h := ?_) | refine WL.opX hΓ (h := ?_) | refine WL.opY (h := ?_) | refine WL.opZ (h := ?_))); with_reducible apply WL.nil) | refine W.condT (h := ?_) | refine W.condF (h := ?_))
    refine At.retRA (by rw [Tryd.results17]) (he := ?_) s (show s.size ≤ 401 by have : (s.size : Int) ≤ 60 := hs; omega)
    rfl
abbrev rSome (_ : Unit) (y : List ByteArray × TSnap) : Prop := (1 ≤ y.1.length ∧ y.1.length ≤ 40 ∧ ∀ x ∈ y.1, x.size ≤ 10) ∧ okS y.2
abbrev resSome (_ : Unit) (y : List ByteArray × TSnap) : Res := .tup [(false, [.own true 9 1 (rowsF cStr y.1)]), (true, rowsSnap y.2)]
theorem l33Some_s : SoundCu Tryd.prog 51 (fun _ : Unit => True) (fun _ => []) rSome resSome := by
  refine SoundCu.of Tryd.func51 rfl Tryd.ntmps51 ?_
  rintro k0 - b w hc - hB
  refine ⟨by simp, ?_⟩
  simp only [initC]
  have hΓ : GSound Tryd.prog (look [(20, mCut), (7, mTree), (64, mSnew), (22, mPa), (28, mPut)]) := env_cons (has_of Tryd.func20 rfl rfl) cutS_s (env_cons (has_of Tryd.func7 rfl rfl) treeS_s (env_cons (has_of Tryd.func64 rfl rfl) newS_s (env_cons (has_of Tryd.func22 rfl rfl) tpathS_s (env_cons (has_of Tryd.func28 rfl rfl) putS_s env_nil))))
  have hBe : Has Tryd.prog 40 := has_of Tryd.func40 rfl rfl
  have hOn : Has Tryd.prog 43 := has_of Tryd.func43 rfl rfl
  have hTe : Has Tryd.prog 44 := has_of Tryd.func44 rfl rfl
  have hcu := lsNms_cu
  have hck := kill_cu
  have hcs := swL_cu
  simp only [initS, argPV, List.map_cons, List.map_nil, toPL, Nat.zero_add]
  repeat (first | with_reducible apply W.seq | with_reducible apply W.block | with_reducible apply W.skip | with_reducible apply W.exit | with_reducible apply W.ret | with_reducible apply At.seqN | with_reducible apply At.blkN | with_reducible apply At.blkE | with_reducible apply At.blkR | with_reducible apply At.thenX | with_reducible apply At.thenR | with_reducible apply At.blkX rfl | ((with_reducible apply W.ops); (repeat (first | refine WL.opA hΓ (h := ?_) | refine WL.opX hΓ (h := ?_) | refine WL.opY (h := ?_) | refine WL.opZ (h := ?_))); with_reducible apply WL.nil) | refine W.condT (h := ?_) | refine W.condF (h := ?_))
  with_reducible apply W.ops
  repeat (first | refine WL.opA hΓ (h := ?_) | refine WL.opX hΓ (h := ?_) | refine WL.opY (h := ?_) | refine WL.opZ (h := ?_))
  refine WL.opCu hTe l1Text_s k0 hc 45 (by decide) (h := ?_)
  rintro k1 s hk1 hs
  replace hs : (s.size : Int) ≤ 45 := hs
  have z1 : (⟨#[115]⟩ : ByteArray).size = 1 := rfl
  have z2 := ByteArray.size_append (a := ⟨#[115]⟩) (b := s)
  have hln := cutS_len (⟨#[115]⟩ ++ s)
  have hsz := cutS_sz (⟨#[115]⟩ ++ s)
  have c1 := mCut_eq (⟨#[115]⟩ ++ s) (by omega)
  (repeat (first | refine WL.opA hΓ (h := ?_) | refine WL.opX hΓ (h := ?_) | refine WL.opY (h := ?_) | refine WL.opZ (h := ?_)))
  with_reducible apply WL.nil
  generalize hS : (⟨#[115]⟩ ++ s : ByteArray) = S at *
  clear hS
  generalize cutS S = l at *
  have hl1 : 1 ≤ l.length := by omega
  have hl2 : l.length ≤ 40 := by omega
  have hlen := rowsF_len cStr l
  have hokT : okT l := ⟨by omega, fun x hx => by have := hsz x hx; omega⟩
  have hokL : okL l := ⟨⟨hl1, hl2⟩, hokT.2⟩
  have c2 := mTree_eq l hokT
  have ht : (tree l).size = 32 := by rw [tree_root hl1 hl2, root_size]
  have c3 := mSnew_eq (tree l) l.length ⟨ht, by dsimp only; omega, by dsimp only; omega⟩
  have hs0 := snew_ok ht hl1 hl2
  generalize tree l = T at *
  clear c1 z1 z2 hln
  have HS := Lib.hid hsz
  have HL := Lib.hid hokL
  clear hsz hokT hokL
  dsimp only [rPutO, snew, rowsSnap] at c3
  repeat (first | with_reducible apply W.seq | with_reducible apply W.block | with_reducible apply W.skip | with_reducible apply W.exit | with_reducible apply W.ret | with_reducible apply At.seqN | with_reducible apply At.blkN | with_reducible apply At.blkE | with_reducible apply At.blkR | with_reducible apply At.thenX | with_reducible apply At.thenR | with_reducible apply At.blkX rfl | ((with_reducible apply W.ops); (repeat (first | refine WL.opA hΓ (h := ?_) | refine WL.opX hΓ (h := ?_) | refine WL.opY (h := ?_) | refine WL.opZ (h := ?_))); with_reducible apply WL.nil) | refine W.condT (h := ?_) | refine W.condF (h := ?_))
  refine W.loopA (fun x : TSnap × Nat × Cu => CuTo k0 x.2.2 ∧ x.2.1 ≤ l.length ∧ sOk x.1 ∧ x.1.2.1 = l.length) (fun x => [.slot 0 (one (.ptr 999 0)), .blk 999 (.box (cuL x.2.2)), .slot 4 (one (.all 13)), .blk 13 (.arr true 9 1 (rowsF cStr l)), .slot 5 (one (.ptr 5 0)), .blk 5 (.box [.sc (.string x.1.1), .sc (.int .i64 x.1.2.1), .all 2019, .all 3019]), .blk 2019 (.arr true 9 1 (rowsF cStr x.1.2.2.1)), .blk 3019 (.arr true 4 1 (rowsF cBool x.1.2.2.2)), .slot 3 (one (.ptr 3 0)), .blk 3 (.box [.sc (.string ByteArray.empty), .sc (.int .i64 0), .nil, .nil]), .slot 7 (vI x.2.1)]) (fun x => l.length - x.2.1) (snew T l.length, 0, k1) ⟨hk1, by dsimp only; omega, hs0, rfl⟩ (h := ?_)
  rintro ⟨⟨r, c, lh, lg⟩, i, k⟩ ⟨hk, hi, hs1, hc1⟩
  dsimp only at hk hi hs1 hc1 ⊢
  clear c2 c3 hs0
  subst hc1
  obtain ⟨q1, q2, q3, q4, -⟩ := id hs1
  dsimp only at q1 q2 q3 q4
  by_cases hlt : i < l.length
  · repeat (first | with_reducible apply W.seq | with_reducible apply W.block | with_reducible apply W.skip | with_reducible apply W.exit | with_reducible apply W.ret | with_reducible apply At.seqN | with_reducible apply At.blkN | with_reducible apply At.blkE | with_reducible apply At.blkR | with_reducible apply At.thenX | with_reducible apply At.thenR | with_reducible apply At.blkX rfl | ((with_reducible apply W.ops); (repeat (first | refine WL.opA hΓ (h := ?_) | refine WL.opX hΓ (h := ?_) | refine WL.opY (h := ?_) | refine WL.opZ (h := ?_))); with_reducible apply WL.nil) | refine W.condT (h := ?_) | refine W.condF (h := ?_))
    with_reducible apply W.ops
    repeat (first | refine WL.opA hΓ (h := ?_) | refine WL.opX hΓ (h := ?_) | refine WL.opY (h := ?_) | refine WL.opZ (h := ?_))
    refine WL.opCu hOn l1Once_s k hk.ok 3 (by decide) (h := ?_)
    rintro k2 o hk2 -
    (repeat (first | refine WL.opA hΓ (h := ?_) | refine WL.opX hΓ (h := ?_) | refine WL.opY (h := ?_) | refine WL.opZ (h := ?_)))
    with_reducible apply WL.nil
    cases o with
    | true =>
      repeat (first | with_reducible apply W.seq | with_reducible apply W.block | with_reducible apply W.skip | with_reducible apply W.exit | with_reducible apply W.ret | with_reducible apply At.seqN | with_reducible apply At.blkN | with_reducible apply At.blkE | with_reducible apply At.blkR | with_reducible apply At.thenX | with_reducible apply At.thenR | with_reducible apply At.blkX rfl | ((with_reducible apply W.ops); (repeat (first | refine WL.opA hΓ (h := ?_) | refine WL.opX hΓ (h := ?_) | refine WL.opY (h := ?_) | refine WL.opZ (h := ?_))); with_reducible apply WL.nil) | refine W.condT (h := ?_) | refine W.condF (h := ?_))
      exact At.roundA ((r, (l.length : Int), lh, lg), i + 1, k2) ⟨hk.trans hk2, by dsimp only; omega, hs1, rfl⟩ (by dsimp only; omega)
    | false =>
      have hrow := row_s hlt
      have hz := sz_at HL.out.2 i
      have c4 := mPa_eq l i HL.out hlt
      have c5 := mPut_eq (r, (l.length : Int), lh, lg) i (l.getD i ByteArray.empty) (pathL i l) hs1 ⟨sOk_okS hs1, hz, path_okT i (by omega)⟩
      have hs2 := sOk_put (i : Int) (l.getD i ByteArray.empty) (pathL i l) hs1
      have hkp := putS_keep (r, (l.length : Int), lh, lg) (i : Int) (l.getD i ByteArray.empty) (pathL i l) hs1
      generalize l.getD i ByteArray.empty = li at hrow c5 hs2 hkp hz
      generalize pathL i l = px at c4 c5 hs2 hkp
      generalize putS (r, (l.length : Int), lh, lg) (i : Int) li px = y at c5 hs2 hkp
      generalize decide (putOk (r, (l.length : Int), lh, lg) (i : Int) li px) = b at c5
      obtain ⟨r2, c2, lh2, lg2⟩ := y
      dsimp only at hkp
      obtain ⟨e1, e2⟩ := hkp
      subst e1 e2
      dsimp only [encS, aSnap, rPutO, rowsSnap] at c5
      have HS1 := Lib.hid hs1
      clear hs1
      repeat (first | with_reducible apply W.seq | with_reducible apply W.block | with_reducible apply W.skip | with_reducible apply W.exit | with_reducible apply W.ret | with_reducible apply At.seqN | with_reducible apply At.blkN | with_reducible apply At.blkE | with_reducible apply At.blkR | with_reducible apply At.thenX | with_reducible apply At.thenR | with_reducible apply At.blkX rfl | ((with_reducible apply W.ops); (repeat (first | refine WL.opA hΓ (h := ?_) | refine WL.opX hΓ (h := ?_) | refine WL.opY (h := ?_) | refine WL.opZ (h := ?_))); with_reducible apply WL.nil) | refine W.condT (h := ?_) | refine W.condF (h := ?_))
      refine W.lateA hΓ 14 [[], [], [], [], [2, 3], [2, 3, 4], [], [], [6, 7], [0, 1, 2, 3, 4, 5, 6, 7, 8], [0, 1, 2, 3, 4, 5, 6, 7, 8, 9], [0, 1, 2, 3, 4, 5, 6, 7, 8, 9, 10], [0, 1, 2, 3, 4, 5, 6, 7, 8, 9, 10], [], [0, 1, 2, 3, 4, 5, 6, 7, 8, 9, 10, 11, 13], [0, 1, 2, 3, 4, 5, 6, 7, 8, 9, 10, 11, 12, 13, 14]] [12] (rest := ?rest31) (Es := ?Es31) (st1 := ?st131) (stA := ?stA31) (t := ?t31) (x := ?x31) (y := ?y31) (ty := ?ty31) (pos := ?pos31) (after := ?af31) (n := ?n31) (b := ?b31) (h := ?h31) (hl := ?hl31) (hf := ?hf31) (hp := ?hp31) (hd := ?hd31) (hfr := ?hfr31) (hA := ?hA31) (hst := ?hst31) (hst1 := ?hst131) (hT := ?hT31)
      case h31 => kernel_rfl
      case hl31 => kernel_rfl
      case hf31 =>
        repeat (first | refine FlowT.opA (h := ?_) | refine FlowT.opX (h := ?_) | refine FlowT.opY (h := ?_) | refine FlowT.opZ (h := ?_))
        exact FlowT.done
      case hp31 => rfl
      case hd31 => rfl
      case hfr31 => rfl
      case hA31 =>
        simp (disch := decide) only [pick_nil, pick_t, pick_f, List.cons_append, List.nil_append, Nat.reduceAdd]
        rfl
      case hst31 =>
        unfold storeL
        simp (config := { maxSteps := 1000000 }) (disch := first | assumption | omega) only [TY, ar_u64, binE, eqCells, eqVal, eqOp, step_mk, makeE, List.toList_toArray, Value.oneCell', step_fnv, step_makeFunc, ev_func, callV, cells_agg, cells_int, cells_bool, cells_str, cells_sl, List.size_toArray, flatB_nil, flatB_cons, wid_nil, wid_cons, rowsF_len, rowsF_flat, rowsF_app, step_build, buildE, fillE, indexSlE, indexArrE, shiftE, indexArrV, indexStE, step_move, step_assign, step_pick, step_load, step_nilCheck, step_binOp, step_unOp, step_convert, step_slice, step_fieldAddr, step_field, step_indexAddr, step_index, step_extract, step_len, step_min, step_max, step_alloc, step_box, step_lit, step_app, step_fn, step_store, putV_some, getS_hit, getS_miss, getS_blk, getS_kill, getS_nil, getB_nil, getB_slot, getB_hit, getB_miss, getB_kill0, getB_kill1, ev_tmp, ev_int, ev_bool, ev_str, ev_nil, ev_agg, cl_int, cl_bool, cl_str, cl_nil, loadE, loadV, fieldAddrE, fieldE, partV, indexAddrE, lenE, lenO, strIdx, indexE, boundE, subE, sliceE, convE, minE, scal, nilE, tupE, capsE, optE, pickE, pbin, pint, pstr, pun, ar_in, ar_u32, ar_u8, allocE, boxE, litE, rowsO, leafO, leafsO, frz, clr, rowsOf, destOf, appE, storeE, argO, argsO, boxesO, callG, callE, impE, pvR, pvs, pvRL, pvT, owns, ownsT, ownsR, clrL, withB, PV.kill, PL.kill, PL.names, Blk.kill, PL.live, toPL, resV, resO, compsO, compO, rlsO, rlO, toRes, Leaf.isSc, List.map_cons, List.map_nil, List.all_cons, List.all_nil, List.length_cons, List.length_nil, List.drop_zero, List.drop_succ_cons, List.take_succ_cons, List.take_zero, List.drop_nil, List.take_nil, List.getElem?_cons_zero, List.getElem?_cons_succ, List.getElem?_nil, Option.map_some, Option.map_none, Option.bind_some, Option.isSome_some, Option.isSome_none, List.cons_append, List.nil_append, List.append_nil, if_true, if_false, reduceIte, Nat.reduceLT, Nat.reduceBEq, Nat.reduceLeDiff, Nat.reduceEqDiff, Nat.reduceAdd, Nat.reduceMul, Nat.zero_add, Nat.add_zero, Nat.mul_one, Int.reduceToNat, Bool.and_true, Bool.true_and, Bool.false_and, Bool.and_false, Bool.not_true, Bool.not_false, Bool.false_eq_true, decide_true, decide_false, and_self, and_true, true_and, or_true, true_or, or_false, false_or, if_pos, if_neg, Int.toNat_natCast, decide_eq_true, decide_eq_false, look_hit, look_miss, Int.ofNat_eq_natCast, Bool.or_false, Bool.or_true, Bool.true_or, Bool.false_or, Bool.not_eq_true, beq_self_eq_true, ne_eq, not_false_eq_true, not_true_eq_false, eq_self, ent_move, ent_assign, ent_pick, ent_load, ent_nilCheck, ent_binOp, ent_unOp, ent_convert, ent_slice, ent_fieldAddr, ent_field, ent_indexAddr, ent_index, ent_extract, ent_len, ent_min, ent_max, ent_alloc, ent_box, ent_lit, ent_build, ent_fn, ent_mk, makeL, ent_makeFunc, valL_some, allocL, boxL, litL, callL, blkL, noRef, *]
        rfl
      case hst131 =>
        simp only [pick_nil, pick_all, List.cons_append, List.nil_append]
        rfl
      (repeat (first | refine WL.opA hΓ (h := ?_) | refine WL.opX hΓ (h := ?_) | refine WL.opY (h := ?_) | refine WL.opZ (h := ?_)))
      with_reducible apply WL.nil
      repeat (first | with_reducible apply W.seq | with_reducible apply W.block | with_reducible apply W.skip | with_reducible apply W.exit | with_reducible apply W.ret | with_reducible apply At.seqN | with_reducible apply At.blkN | with_reducible apply At.blkE | with_reducible apply At.blkR | with_reducible apply At.thenX | with_reducible apply At.thenR | with_reducible apply At.blkX rfl | ((with_reducible apply W.ops); (repeat (first | refine WL.opA hΓ (h := ?_) | refine WL.opX hΓ (h := ?_) | refine WL.opY (h := ?_) | refine WL.opZ (h := ?_))); with_reducible apply WL.nil) | refine W.condT (h := ?_) | refine W.condF (h := ?_))
      refine At.sw2 2019 2041 3019 3041 [.slot 0 (one (.ptr 999 0)), .blk 999 (.box (cuL k2)), .slot 4 (one (.all 13)), .blk 13 (.arr true 9 1 (rowsF cStr l)), .slot 5 (one (.ptr 5 0)), .blk 5 (.box [.sc (.string r2), .sc (.int .i64 l.length), .all 2019, .all 3019]), .blk 2019 (.arr true 9 1 (rowsF cStr lh2)), .blk 3019 (.arr true 4 1 (rowsF cBool lg2)), .slot 3 (one (.ptr 3 0)), .blk 3 (.box [.sc (.string ByteArray.empty), .sc (.int .i64 0), .nil, .nil]), .slot 7 (vI ((i : Int) + 1))] (h := ?_)
      exact At.roundA ((r2, (l.length : Int), lh2, lg2), i + 1, k2) ⟨hk.trans hk2, by dsimp only; omega, hs2, rfl⟩ (by dsimp only; omega)
  · have hlen2 := rowsF_len cStr lh
    have hlen3 := rowsF_len cBool lg
    have w1 : wid 1 (rowsF cStr lh) := rowsF_wid (f := cStr) (s := 1) (fun _ => rfl) lh
    have w2 : wid 1 (rowsF cBool lg) := rowsF_wid (f := cBool) (s := 1) (fun _ => rfl) lg
    repeat (first | with_reducible apply W.seq | with_reducible apply W.block | with_reducible apply W.skip | with_reducible apply W.exit | with_reducible apply W.ret | with_reducible apply At.seqN | with_reducible apply At.blkN | with_reducible apply At.blkE | with_reducible apply At.blkR | with_reducible apply At.thenX | with_reducible apply At.thenR | with_reducible apply At.blkX rfl | ((with_reducible apply W.ops); (repeat (first | refine WL.opA hΓ (h := ?_) | refine WL.opX hΓ (h := ?_) | refine WL.opY (h := ?_) | refine WL.opZ (h := ?_))); with_reducible apply WL.nil) | refine W.condT (h := ?_) | refine W.condF (h := ?_))
    with_reducible apply W.ops
    repeat (first | refine WL.opA hΓ (h := ?_) | refine WL.opX hΓ (h := ?_) | refine WL.opY (h := ?_) | refine WL.opZ (h := ?_))
    refine WL.opCu hOn l1Once_s k hk.ok 12 (by decide) (h := ?_)
    rintro k2 o hk2 -
    (repeat (first | refine WL.opA hΓ (h := ?_) | refine WL.opX hΓ (h := ?_) | refine WL.opY (h := ?_) | refine WL.opZ (h := ?_)))
    with_reducible apply WL.nil
    cases o with
    | false =>
      repeat (first | with_reducible apply W.seq | with_reducible apply W.block | with_reducible apply W.skip | with_reducible apply W.exit | with_reducible apply W.ret | with_reducible apply At.seqN | with_reducible apply At.blkN | with_reducible apply At.blkE | with_reducible apply At.blkR | with_reducible apply At.thenX | with_reducible apply At.thenR | with_reducible apply At.blkX rfl | ((with_reducible apply W.ops); (repeat (first | refine WL.opA hΓ (h := ?_) | refine WL.opX hΓ (h := ?_) | refine WL.opY (h := ?_) | refine WL.opZ (h := ?_))); with_reducible apply WL.nil) | refine W.condT (h := ?_) | refine W.condF (h := ?_))
      refine W.drawsA hΓ 3 [[], [], [0], [0, 1, 2]] (rest := ?rest37) (Es := ?Es37) (st1 := ?st137) (h := ?h37) (hf := ?hf37) (hp := ?hp37) (hd := ?hd37) (hfr := ?hfr37) (hst := ?hst37) (hT := ?hT37)
      case h37 => kernel_rfl
      case hf37 =>
        repeat (first | refine FlowT.opA (h := ?_) | refine FlowT.opX (h := ?_) | refine FlowT.opY (h := ?_) | refine FlowT.opZ (h := ?_))
        exact FlowT.done
      case hp37 => rfl
      case hd37 => rfl
      case hfr37 => rfl
      case hst37 =>
        simp only [pick_nil, pick_all, List.cons_append, List.nil_append]
        rfl
      (repeat (first | refine WL.opA hΓ (h := ?_) | refine WL.opX hΓ (h := ?_) | refine WL.opY (h := ?_) | refine WL.opZ (h := ?_)))
      with_reducible apply WL.nil
      repeat (first | with_reducible apply W.seq | with_reducible apply W.block | with_reducible apply W.skip | with_reducible apply W.exit | with_reducible apply W.ret | with_reducible apply At.seqN | with_reducible apply At.blkN | with_reducible apply At.blkE | with_reducible apply At.blkR | with_reducible apply At.thenX | with_reducible apply At.thenR | with_reducible apply At.blkX rfl | ((with_reducible apply W.ops); (repeat (first | refine WL.opA hΓ (h := ?_) | refine WL.opX hΓ (h := ?_) | refine WL.opY (h := ?_) | refine WL.opZ (h := ?_))); with_reducible apply WL.nil) | refine W.condT (h := ?_) | refine W.condF (h := ?_))
      refine At.retCu (by rw [Tryd.results51]) hB (hls := ?_) (he := ?_) k2 (l, (r, (l.length : Int), lh, lg)) (hk.trans hk2) ⟨⟨hl1, hl2, HS.out⟩, sOk_okS hs1⟩
      · rfl
      · rfl
    | true =>
      repeat (first | with_reducible apply W.seq | with_reducible apply W.block | with_reducible apply W.skip | with_reducible apply W.exit | with_reducible apply W.ret | with_reducible apply At.seqN | with_reducible apply At.blkN | with_reducible apply At.blkE | with_reducible apply At.blkR | with_reducible apply At.thenX | with_reducible apply At.thenR | with_reducible apply At.blkX rfl | ((with_reducible apply W.ops); (repeat (first | refine WL.opA hΓ (h := ?_) | refine WL.opX hΓ (h := ?_) | refine WL.opY (h := ?_) | refine WL.opZ (h := ?_))); with_reducible apply WL.nil) | refine W.condT (h := ?_) | refine W.condF (h := ?_))
      with_reducible apply W.ops
      repeat (first | refine WL.opA hΓ (h := ?_) | refine WL.opX hΓ (h := ?_) | refine WL.opY (h := ?_) | refine WL.opZ (h := ?_))
      refine WL.opCu hBe l1Below_s k2 hk2.ok 4 (by decide) (h := ?_)
      rintro k3 q hk3 ⟨hq0, hq1, -⟩
      replace hq1 : q < 4 := hq1 (by decide)
      have hkk := (hk.trans hk2).trans hk3
      (repeat (first | refine WL.opA hΓ (h := ?_) | refine WL.opX hΓ (h := ?_) | refine WL.opY (h := ?_) | refine WL.opZ (h := ?_)))
      with_reducible apply WL.nil
      by_cases q0 : q = 0
      · subst q0
        repeat (first | with_reducible apply W.seq | with_reducible apply W.block | with_reducible apply W.skip | with_reducible apply W.exit | with_reducible apply W.ret | with_reducible apply At.seqN | with_reducible apply At.blkN | with_reducible apply At.blkE | with_reducible apply At.blkR | with_reducible apply At.thenX | with_reducible apply At.thenR | with_reducible apply At.blkX rfl | ((with_reducible apply W.ops); (repeat (first | refine WL.opA hΓ (h := ?_) | refine WL.opX hΓ (h := ?_) | refine WL.opY (h := ?_) | refine WL.opZ (h := ?_))); with_reducible apply WL.nil) | refine W.condT (h := ?_) | refine W.condF (h := ?_))
        refine W.drawsA hΓ 3 [[], [], [0], [0, 1, 2]] (rest := ?rest44) (Es := ?Es44) (st1 := ?st144) (h := ?h44) (hf := ?hf44) (hp := ?hp44) (hd := ?hd44) (hfr := ?hfr44) (hst := ?hst44) (hT := ?hT44)
        case h44 => kernel_rfl
        case hf44 =>
          repeat (first | refine FlowT.opA (h := ?_) | refine FlowT.opX (h := ?_) | refine FlowT.opY (h := ?_) | refine FlowT.opZ (h := ?_))
          exact FlowT.done
        case hp44 => rfl
        case hd44 => rfl
        case hfr44 => rfl
        case hst44 =>
          simp only [pick_nil, pick_all, List.cons_append, List.nil_append]
          rfl
        (repeat (first | refine WL.opA hΓ (h := ?_) | refine WL.opX hΓ (h := ?_) | refine WL.opY (h := ?_) | refine WL.opZ (h := ?_)))
        with_reducible apply WL.nil
        repeat (first | with_reducible apply W.seq | with_reducible apply W.block | with_reducible apply W.skip | with_reducible apply W.exit | with_reducible apply W.ret | with_reducible apply At.seqN | with_reducible apply At.blkN | with_reducible apply At.blkE | with_reducible apply At.blkR | with_reducible apply At.thenX | with_reducible apply At.thenR | with_reducible apply At.blkX rfl | ((with_reducible apply W.ops); (repeat (first | refine WL.opA hΓ (h := ?_) | refine WL.opX hΓ (h := ?_) | refine WL.opY (h := ?_) | refine WL.opZ (h := ?_))); with_reducible apply WL.nil) | refine W.condT (h := ?_) | refine W.condF (h := ?_))
        refine At.retCu (by rw [Tryd.results51]) hB (hls := ?_) (he := ?_) k3 (l, (⟨#[120]⟩, (l.length : Int), lh, lg)) hkk ⟨⟨hl1, hl2, HS.out⟩, ⟨by show (1 : Nat) ≤ _; omega, by dsimp only; omega, by dsimp only; omega⟩⟩
        · rfl
        · rfl
      · by_cases q1' : q = 1
        · subst q1'
          repeat (first | with_reducible apply W.seq | with_reducible apply W.block | with_reducible apply W.skip | with_reducible apply W.exit | with_reducible apply W.ret | with_reducible apply At.seqN | with_reducible apply At.blkN | with_reducible apply At.blkE | with_reducible apply At.blkR | with_reducible apply At.thenX | with_reducible apply At.thenR | with_reducible apply At.blkX rfl | ((with_reducible apply W.ops); (repeat (first | refine WL.opA hΓ (h := ?_) | refine WL.opX hΓ (h := ?_) | refine WL.opY (h := ?_) | refine WL.opZ (h := ?_))); with_reducible apply WL.nil) | refine W.condT (h := ?_) | refine W.condF (h := ?_))
          refine W.drawsA hΓ 3 [[], [], [0], [0, 1, 2]] (rest := ?rest48) (Es := ?Es48) (st1 := ?st148) (h := ?h48) (hf := ?hf48) (hp := ?hp48) (hd := ?hd48) (hfr := ?hfr48) (hst := ?hst48) (hT := ?hT48)
          case h48 => kernel_rfl
          case hf48 =>
            repeat (first | refine FlowT.opA (h := ?_) | refine FlowT.opX (h := ?_) | refine FlowT.opY (h := ?_) | refine FlowT.opZ (h := ?_))
            exact FlowT.done
          case hp48 => rfl
          case hd48 => rfl
          case hfr48 => rfl
          case hst48 =>
            simp only [pick_nil, pick_all, List.cons_append, List.nil_append]
            rfl
          (repeat (first | refine WL.opA hΓ (h := ?_) | refine WL.opX hΓ (h := ?_) | refine WL.opY (h := ?_) | refine WL.opZ (h := ?_)))
          with_reducible apply WL.nil
          repeat (first | with_reducible apply W.seq | with_reducible apply W.block | with_reducible apply W.skip | with_reducible apply W.exit | with_reducible apply W.ret | with_reducible apply At.seqN | with_reducible apply At.blkN | with_reducible apply At.blkE | with_reducible apply At.blkR | with_reducible apply At.thenX | with_reducible apply At.thenR | with_reducible apply At.blkX rfl | ((with_reducible apply W.ops); (repeat (first | refine WL.opA hΓ (h := ?_) | refine WL.opX hΓ (h := ?_) | refine WL.opY (h := ?_) | refine WL.opZ (h := ?_))); with_reducible apply WL.nil) | refine W.condT (h := ?_) | refine W.condF (h := ?_))
          refine At.retCu (by rw [Tryd.results51]) hB (hls := ?_) (he := ?_) k3 (l, (r, (l.length : Int) + 1, lh, lg)) hkk ⟨⟨hl1, hl2, HS.out⟩, ⟨by dsimp only; omega, by dsimp only; omega, by dsimp only; omega⟩⟩
          · rfl
          · rfl
        · by_cases q2' : q = 2
          · subst q2'
            have e := rowsF_set cStr lh 0 ⟨#[121]⟩
            have e' : (rowsF cStr lh).set 0 [Leaf.sc (Value.string ⟨#[121]⟩)] = rowsF cStr (lh.set 0 ⟨#[121]⟩) := e
            have hrow := row_s (l := lh) (k := 0) (by omega)
            repeat (first | with_reducible apply W.seq | with_reducible apply W.block | with_reducible apply W.skip | with_reducible apply W.exit | with_reducible apply W.ret | with_reducible apply At.seqN | with_reducible apply At.blkN | with_reducible apply At.blkE | with_reducible apply At.blkR | with_reducible apply At.thenX | with_reducible apply At.thenR | with_reducible apply At.blkX rfl | ((with_reducible apply W.ops); (repeat (first | refine WL.opA hΓ (h := ?_) | refine WL.opX hΓ (h := ?_) | refine WL.opY (h := ?_) | refine WL.opZ (h := ?_))); with_reducible apply WL.nil) | refine W.condT (h := ?_) | refine W.condF (h := ?_))
            refine W.drawsA hΓ 3 [[], [], [0], [0, 1, 2]] (rest := ?rest52) (Es := ?Es52) (st1 := ?st152) (h := ?h52) (hf := ?hf52) (hp := ?hp52) (hd := ?hd52) (hfr := ?hfr52) (hst := ?hst52) (hT := ?hT52)
            case h52 => kernel_rfl
            case hf52 =>
              repeat (first | refine FlowT.opA (h := ?_) | refine FlowT.opX (h := ?_) | refine FlowT.opY (h := ?_) | refine FlowT.opZ (h := ?_))
              exact FlowT.done
            case hp52 => rfl
            case hd52 => rfl
            case hfr52 => rfl
            case hst52 =>
              simp only [pick_nil, pick_all, List.cons_append, List.nil_append]
              rfl
            (repeat (first | refine WL.opA hΓ (h := ?_) | refine WL.opX hΓ (h := ?_) | refine WL.opY (h := ?_) | refine WL.opZ (h := ?_)))
            with_reducible apply WL.nil
            repeat (first | with_reducible apply W.seq | with_reducible apply W.block | with_reducible apply W.skip | with_reducible apply W.exit | with_reducible apply W.ret | with_reducible apply At.seqN | with_reducible apply At.blkN | with_reducible apply At.blkE | with_reducible apply At.blkR | with_reducible apply At.thenX | with_reducible apply At.thenR | with_reducible apply At.blkX rfl | ((with_reducible apply W.ops); (repeat (first | refine WL.opA hΓ (h := ?_) | refine WL.opX hΓ (h := ?_) | refine WL.opY (h := ?_) | refine WL.opZ (h := ?_))); with_reducible apply WL.nil) | refine W.condT (h := ?_) | refine W.condF (h := ?_))
            refine At.retCu (by rw [Tryd.results51]) hB (hls := ?_) (he := ?_) k3 (l, (r, (l.length : Int), lh.set 0 ⟨#[121]⟩, lg)) hkk ⟨⟨hl1, hl2, HS.out⟩, ⟨by dsimp only; omega, by simp; omega, by dsimp only; omega⟩⟩
            · rfl
            · rfl
          · have hrow := row_bo (g := lg) (k := 0) (by omega)
            generalize lg.getD 0 true = g0 at hrow
            have e' : (rowsF cBool lg).set 0 [Leaf.sc (Value.bool !g0)] = rowsF cBool (lg.set 0 !g0) := rowsF_set cBool lg 0 !g0
            repeat (first | with_reducible apply W.seq | with_reducible apply W.block | with_reducible apply W.skip | with_reducible apply W.exit | with_reducible apply W.ret | with_reducible apply At.seqN | with_reducible apply At.blkN | with_reducible apply At.blkE | with_reducible apply At.blkR | with_reducible apply At.thenX | with_reducible apply At.thenR | with_reducible apply At.blkX rfl | ((with_reducible apply W.ops); (repeat (first | refine WL.opA hΓ (h := ?_) | refine WL.opX hΓ (h := ?_) | refine WL.opY (h := ?_) | refine WL.opZ (h := ?_))); with_reducible apply WL.nil) | refine W.condT (h := ?_) | refine W.condF (h := ?_))
            refine W.drawsA hΓ 8 [[], [0], [], [2], [2, 3], [2, 3, 4], [2, 3, 4, 5], [0, 1, 2, 3, 4, 5, 6], [0, 1, 2, 3, 4, 5, 6, 7]] (rest := ?rest56) (Es := ?Es56) (st1 := ?st156) (h := ?h56) (hf := ?hf56) (hp := ?hp56) (hd := ?hd56) (hfr := ?hfr56) (hst := ?hst56) (hT := ?hT56)
            case h56 => kernel_rfl
            case hf56 =>
              repeat (first | refine FlowT.opA (h := ?_) | refine FlowT.opX (h := ?_) | refine FlowT.opY (h := ?_) | refine FlowT.opZ (h := ?_))
              exact FlowT.done
            case hp56 => rfl
            case hd56 => rfl
            case hfr56 => rfl
            case hst56 =>
              simp only [pick_nil, pick_all, List.cons_append, List.nil_append]
              rfl
            (repeat (first | refine WL.opA hΓ (h := ?_) | refine WL.opX hΓ (h := ?_) | refine WL.opY (h := ?_) | refine WL.opZ (h := ?_)))
            with_reducible apply WL.nil
            repeat (first | with_reducible apply W.seq | with_reducible apply W.block | with_reducible apply W.skip | with_reducible apply W.exit | with_reducible apply W.ret | with_reducible apply At.seqN | with_reducible apply At.blkN | with_reducible apply At.blkE | with_reducible apply At.blkR | with_reducible apply At.thenX | with_reducible apply At.thenR | with_reducible apply At.blkX rfl | ((with_reducible apply W.ops); (repeat (first | refine WL.opA hΓ (h := ?_) | refine WL.opX hΓ (h := ?_) | refine WL.opY (h := ?_) | refine WL.opZ (h := ?_))); with_reducible apply WL.nil) | refine W.condT (h := ?_) | refine W.condF (h := ?_))
            refine W.drawsA hΓ 3 [[], [], [0], [0, 1, 2]] (rest := ?rest58) (Es := ?Es58) (st1 := ?st158) (h := ?h58) (hf := ?hf58) (hp := ?hp58) (hd := ?hd58) (hfr := ?hfr58) (hst := ?hst58) (hT := ?hT58)
            case h58 => kernel_rfl
            case hf58 =>
              repeat (first | refine FlowT.opA (h := ?_) | refine FlowT.opX (h := ?_) | refine FlowT.opY (h := ?_) | refine FlowT.opZ (h := ?_))
              exact FlowT.done
            case hp58 => rfl
            case hd58 => rfl
            case hfr58 => rfl
            case hst58 =>
              simp only [pick_nil, pick_all, List.cons_append, List.nil_append]
              rfl
            (repeat (first | refine WL.opA hΓ (h := ?_) | refine WL.opX hΓ (h := ?_) | refine WL.opY (h := ?_) | refine WL.opZ (h := ?_)))
            with_reducible apply WL.nil
            repeat (first | with_reducible apply W.seq | with_reducible apply W.block | with_reducible apply W.skip | with_reducible apply W.exit | with_reducible apply W.ret | with_reducible apply At.seqN | with_reducible apply At.blkN | with_reducible apply At.blkE | with_reducible apply At.blkR | with_reducible apply At.thenX | with_reducible apply At.thenR | with_reducible apply At.blkX rfl | ((with_reducible apply W.ops); (repeat (first | refine WL.opA hΓ (h := ?_) | refine WL.opX hΓ (h := ?_) | refine WL.opY (h := ?_) | refine WL.opZ (h := ?_))); with_reducible apply WL.nil) | refine W.condT (h := ?_) | refine W.condF (h := ?_))
            refine At.retCu (by rw [Tryd.results51]) hB (hls := ?_) (he := ?_) k3 (l, (r, (l.length : Int), lh, lg.set 0 !g0)) hkk ⟨⟨hl1, hl2, HS.out⟩, ⟨by dsimp only; omega, by dsimp only; omega, by simp; omega⟩⟩
            · rfl
            · rfl
end Go.Proofs.YteaohgacgcjkjaaDoor
