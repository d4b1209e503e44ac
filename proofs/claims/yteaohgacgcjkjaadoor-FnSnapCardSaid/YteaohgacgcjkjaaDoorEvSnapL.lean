/-
  The law FnSnap.
-/
import Derived.Test.YteaohgacgcjkjaaDoorEvSnapD
import Derived.Test.YteaohgacgcjkjaaDoorEvGrownS
import Derived.Test.YteaohgacgcjkjaaDoorEvSnap
namespace Go.Proofs.YteaohgacgcjkjaaDoor
set_option maxRecDepth 100000
set_option linter.unusedVariables false
set_option linter.unusedSimpArgs false
open Go Go.RowKit
set_option maxHeartbeats 4000000

theorem cStr_eq_of (l : List ByteArray) : decide (l = l) = true := by simp
noncomputable def mNeedI := mdl okS (fun s => [aSnap s]) fun s => if sOk s then rL 3 1 cInt (needL s) else rN
theorem mNeedI_eq (s : TSnap) (h : sOk s) : mNeedI [aSnap s] = some (rL 3 1 cInt (needK s.2.2.2 s.2.2.2.length)) := by
  have := mdl_eq (ok := okS) (g := fun s => if sOk s then rL 3 1 cInt (needL s) else rN) aSnap_inj s (sOk_okS h)
  unfold mNeedI
  rw [this]
  unfold needL
  rw [if_pos h, if_pos h]
noncomputable def mDoneI := mdl okD (fun s => [aSnap s]) fun s => .tup [rSc (.string (doneS s)), rSc (.bool (doneB s))]
theorem mDoneI_eq (s : TSnap) (h : okD s) : mDoneI [aSnap s] = some (.tup [rSc (.string (doneS s)), rSc (.bool (doneB s))]) := mdl_eq (ok := okD) (g := fun s => .tup [rSc (.string (doneS s)), rSc (.bool (doneB s))]) aSnap_inj s h
theorem sum_le {l : List ByteArray} {m : Nat} (h : ∀ x ∈ l, x.size ≤ m) : (l.map ByteArray.size).sum ≤ m * l.length := by
  induction l with
  | nil => simp
  | cons a r ih =>
    have := ih fun x hx => h x (List.mem_cons_of_mem _ hx)
    have := h a List.mem_cons_self
    simp only [List.map_cons, List.sum_cons, List.length_cons, Nat.mul_succ]
    omega
theorem SnI.okD {l : List ByteArray} {a k : Nat} {x : TSnap} (h : SnI l a k x) (h1 : 1 ≤ l.length) (h40 : l.length ≤ 40) (hsz : ∀ y ∈ l, y.size ≤ 10) : okD x := by
  refine ⟨sOk_okS (h.ok h1 h40), ?_⟩
  have hx : ∀ y ∈ x.2.2.1, y.size ≤ 10 := fun y hy => by
    obtain ⟨i, hi, rfl⟩ := List.mem_iff_getElem.1 hy
    have hil : i < l.length := by have := h.len1; omega
    have e : x.2.2.1.getD i ByteArray.empty = x.2.2.1[i] := by rw [List.getD_eq_getElem?_getD, List.getElem?_eq_getElem hi]; rfl
    cases hg : x.2.2.2.getD i true with
    | true =>
      rw [← e, h.yes i hil hg, List.getD_eq_getElem?_getD, List.getElem?_eq_getElem hil]
      exact hsz _ (List.getElem_mem hil)
    | false =>
      rw [← e, h.no i hil hg]
      simp
  have := sum_le hx
  have := h.len1
  omega
abbrev rDrSP (_ : List Nat) (y : TPut) : Prop := okSP y
abbrev resDrSP (_ : List Nat) (y : TPut) : Res := .tup [(true, rowsSnap y.1), rSc (.int .i64 y.2.1), rSc (.string y.2.2.1), (false, [.own true 9 1 (rowsF cStr y.2.2.2)])]
theorem DrawSnapPut_s : SoundR Tryd.prog 27 CodeOk (fun bs => [aL cU8 bs]) rDrSP resDrSP := by
  refine SoundR.ofXA Tryd.func27 rfl Tryd.ntmps27 (by decide) ?_
  rintro bs v w hcode
  simp only [initX]
  have hΓ : GSound Tryd.prog (look [(22, mPa)]) := env_cons (has_of Tryd.func22 rfl rfl) tpathS_s env_nil
  have hNw : Has Tryd.prog 38 := has_of Tryd.func38 rfl rfl
  have hSo : Has Tryd.prog 51 := has_of Tryd.func51 rfl rfl
  have hBe : Has Tryd.prog 40 := has_of Tryd.func40 rfl rfl
  have hSp : Has Tryd.prog 41 := has_of Tryd.func41 rfl rfl
  have hcu := lsNms_cu
  have hck := kill_cu
  repeat (first | with_reducible apply W.seq | with_reducible apply W.block | with_reducible apply W.skip | with_reducible apply W.exit | with_reducible apply W.ret | with_reducible apply At.seqN | with_reducible apply At.blkN | with_reducible apply At.blkE | with_reducible apply At.blkR | with_reducible apply At.thenX | with_reducible apply At.thenR | with_reducible apply At.blkX rfl | ((with_reducible apply W.ops); (repeat (first | refine WL.opA hΓ (h := ?_) | refine WL.opX hΓ (h := ?_) | refine WL.opY (h := ?_) | refine WL.opZ (h := ?_))); with_reducible apply WL.nil) | refine W.condT (h := ?_) | refine W.condF (h := ?_))
  with_reducible apply W.ops
  repeat (first | refine WL.opA hΓ (h := ?_) | refine WL.opX hΓ (h := ?_) | refine WL.opY (h := ?_) | refine WL.opZ (h := ?_))
  refine WL.opNew hNw l1New_s v bs hcode (h := ?_)
  intro k0 hk0
  (repeat (first | refine WL.opA hΓ (h := ?_) | refine WL.opX hΓ (h := ?_) | refine WL.opY (h := ?_) | refine WL.opZ (h := ?_)))
  with_reducible apply WL.nil
  repeat (first | with_reducible apply W.seq | with_reducible apply W.block | with_reducible apply W.skip | with_reducible apply W.exit | with_reducible apply W.ret | with_reducible apply At.seqN | with_reducible apply At.blkN | with_reducible apply At.blkE | with_reducible apply At.blkR | with_reducible apply At.thenX | with_reducible apply At.thenR | with_reducible apply At.blkX rfl | ((with_reducible apply W.ops); (repeat (first | refine WL.opA hΓ (h := ?_) | refine WL.opX hΓ (h := ?_) | refine WL.opY (h := ?_) | refine WL.opZ (h := ?_))); with_reducible apply WL.nil) | refine W.condT (h := ?_) | refine W.condF (h := ?_))
  with_reducible apply W.ops
  repeat (first | refine WL.opA hΓ (h := ?_) | refine WL.opX hΓ (h := ?_) | refine WL.opY (h := ?_) | refine WL.opZ (h := ?_))
  refine WL.opCu hSo l33Some_s k0 hk0 () trivial (h := ?_)
  rintro k1 ⟨l, r, c, lh, lg⟩ hk1 ⟨⟨hl1, hl2, hsz⟩, ho⟩
  dsimp only at hl1 hl2 hsz
  have hlen := rowsF_len cStr l
  have hokL : okL l := ⟨⟨hl1, hl2⟩, fun x hx => by have := hsz x hx; omega⟩
  have HO := Lib.hid ho
  have HS := Lib.hid hsz
  have HL := Lib.hid hokL
  clear ho hsz hokL
  (repeat (first | refine WL.opA hΓ (h := ?_) | refine WL.opX hΓ (h := ?_) | refine WL.opY (h := ?_) | refine WL.opZ (h := ?_)))
  with_reducible apply WL.nil
  repeat (first | with_reducible apply W.seq | with_reducible apply W.block | with_reducible apply W.skip | with_reducible apply W.exit | with_reducible apply W.ret | with_reducible apply At.seqN | with_reducible apply At.blkN | with_reducible apply At.blkE | with_reducible apply At.blkR | with_reducible apply At.thenX | with_reducible apply At.thenR | with_reducible apply At.blkX rfl | ((with_reducible apply W.ops); (repeat (first | refine WL.opA hΓ (h := ?_) | refine WL.opX hΓ (h := ?_) | refine WL.opY (h := ?_) | refine WL.opZ (h := ?_))); with_reducible apply WL.nil) | refine W.condT (h := ?_) | refine W.condF (h := ?_))
  with_reducible apply W.ops
  repeat (first | refine WL.opA hΓ (h := ?_) | refine WL.opX hΓ (h := ?_) | refine WL.opY (h := ?_) | refine WL.opZ (h := ?_))
  refine WL.opCu hBe l1Below_s k1 hk1.ok (l.length : Int) ⟨by omega, by omega⟩ (h := ?_)
  rintro k2 i hk2 ⟨hi0, hi1, -⟩
  replace hi1 : i < l.length := hi1 (by omega)
  obtain ⟨i, rfl⟩ := Int.eq_ofNat_of_zero_le hi0
  have hlt : i < l.length := by omega
  have hrow := row_s hlt
  have hz : (l.getD i ByteArray.empty).size ≤ 10 := by
    rw [List.getD_eq_getElem?_getD, List.getElem?_eq_getElem hlt]
    exact HS.out _ (List.getElem_mem hlt)
  have c4 := mPa_eq l i HL.out hlt
  have hpx := path_okT i (l := l) (by omega)
  generalize l.getD i ByteArray.empty = li at hrow hz
  generalize pathL i l = px at c4 hpx
  have HP := Lib.hid hpx
  clear hpx
  (repeat (first | refine WL.opA hΓ (h := ?_) | refine WL.opX hΓ (h := ?_) | refine WL.opY (h := ?_) | refine WL.opZ (h := ?_)))
  with_reducible apply WL.nil
  repeat (first | with_reducible apply W.seq | with_reducible apply W.block | with_reducible apply W.skip | with_reducible apply W.exit | with_reducible apply W.ret | with_reducible apply At.seqN | with_reducible apply At.blkN | with_reducible apply At.blkE | with_reducible apply At.blkR | with_reducible apply At.thenX | with_reducible apply At.thenR | with_reducible apply At.blkX rfl | ((with_reducible apply W.ops); (repeat (first | refine WL.opA hΓ (h := ?_) | refine WL.opX hΓ (h := ?_) | refine WL.opY (h := ?_) | refine WL.opZ (h := ?_))); with_reducible apply WL.nil) | refine W.condT (h := ?_) | refine W.condF (h := ?_))
  with_reducible apply W.ops
  repeat (first | refine WL.opA hΓ (h := ?_) | refine WL.opX hΓ (h := ?_) | refine WL.opY (h := ?_) | refine WL.opZ (h := ?_))
  refine WL.opCu hBe l1Below_s k2 hk2.ok 5 (by decide) (h := ?_)
  rintro k3 q hk3 -
  (repeat (first | refine WL.opA hΓ (h := ?_) | refine WL.opX hΓ (h := ?_) | refine WL.opY (h := ?_) | refine WL.opZ (h := ?_)))
  with_reducible apply WL.nil
  by_cases q0 : q = 0
  · subst q0
    repeat (first | with_reducible apply W.seq | with_reducible apply W.block | with_reducible apply W.skip | with_reducible apply W.exit | with_reducible apply W.ret | with_reducible apply At.seqN | with_reducible apply At.blkN | with_reducible apply At.blkE | with_reducible apply At.blkR | with_reducible apply At.thenX | with_reducible apply At.thenR | with_reducible apply At.blkX rfl | ((with_reducible apply W.ops); (repeat (first | refine WL.opA hΓ (h := ?_) | refine WL.opX hΓ (h := ?_) | refine WL.opY (h := ?_) | refine WL.opZ (h := ?_))); with_reducible apply WL.nil) | refine W.condT (h := ?_) | refine W.condF (h := ?_))
    with_reducible apply W.ops
    repeat (first | refine WL.opA hΓ (h := ?_) | refine WL.opX hΓ (h := ?_) | refine WL.opY (h := ?_) | refine WL.opZ (h := ?_))
    refine WL.opCu hSp l1Spoil_s k3 hk3.ok li (by omega) (h := ?_)
    rintro k4 y hk4 hy
    (repeat (first | refine WL.opA hΓ (h := ?_) | refine WL.opX hΓ (h := ?_) | refine WL.opY (h := ?_) | refine WL.opZ (h := ?_)))
    with_reducible apply WL.nil
    repeat (first | with_reducible apply W.seq | with_reducible apply W.block | with_reducible apply W.skip | with_reducible apply W.exit | with_reducible apply W.ret | with_reducible apply At.seqN | with_reducible apply At.blkN | with_reducible apply At.blkE | with_reducible apply At.blkR | with_reducible apply At.thenX | with_reducible apply At.thenR | with_reducible apply At.blkX rfl | ((with_reducible apply W.ops); (repeat (first | refine WL.opA hΓ (h := ?_) | refine WL.opX hΓ (h := ?_) | refine WL.opY (h := ?_) | refine WL.opZ (h := ?_))); with_reducible apply WL.nil) | refine W.condT (h := ?_) | refine W.condF (h := ?_))
    refine At.retRA (by rw [Tryd.results27]) (he := ?_) ((r, c, lh, lg), (i : Int), y, px) ⟨HO.out, by have : y.size ≤ li.size + 3 := hy; dsimp only; omega, HP.out⟩
    rfl
  · by_cases q1 : q = 1
    · subst q1
      repeat (first | with_reducible apply W.seq | with_reducible apply W.block | with_reducible apply W.skip | with_reducible apply W.exit | with_reducible apply W.ret | with_reducible apply At.seqN | with_reducible apply At.blkN | with_reducible apply At.blkE | with_reducible apply At.blkR | with_reducible apply At.thenX | with_reducible apply At.thenR | with_reducible apply At.blkX rfl | ((with_reducible apply W.ops); (repeat (first | refine WL.opA hΓ (h := ?_) | refine WL.opX hΓ (h := ?_) | refine WL.opY (h := ?_) | refine WL.opZ (h := ?_))); with_reducible apply WL.nil) | refine W.condT (h := ?_) | refine W.condF (h := ?_))
      with_reducible apply W.ops
      repeat (first | refine WL.opA hΓ (h := ?_) | refine WL.opX hΓ (h := ?_) | refine WL.opY (h := ?_) | refine WL.opZ (h := ?_))
      refine WL.opCu hBe l1Below_s k3 hk3.ok ((l.length : Int) + 2) ⟨by omega, by omega⟩ (h := ?_)
      rintro k4 j hk4 ⟨hj0, hj1, -⟩
      replace hj1 : j < (l.length : Int) + 2 := hj1 (by omega)
      (repeat (first | refine WL.opA hΓ (h := ?_) | refine WL.opX hΓ (h := ?_) | refine WL.opY (h := ?_) | refine WL.opZ (h := ?_)))
      with_reducible apply WL.nil
      repeat (first | with_reducible apply W.seq | with_reducible apply W.block | with_reducible apply W.skip | with_reducible apply W.exit | with_reducible apply W.ret | with_reducible apply At.seqN | with_reducible apply At.blkN | with_reducible apply At.blkE | with_reducible apply At.blkR | with_reducible apply At.thenX | with_reducible apply At.thenR | with_reducible apply At.blkX rfl | ((with_reducible apply W.ops); (repeat (first | refine WL.opA hΓ (h := ?_) | refine WL.opX hΓ (h := ?_) | refine WL.opY (h := ?_) | refine WL.opZ (h := ?_))); with_reducible apply WL.nil) | refine W.condT (h := ?_) | refine W.condF (h := ?_))
      refine At.retRA (by rw [Tryd.results27]) (he := ?_) ((r, c, lh, lg), j - 1, li, px) ⟨HO.out, by dsimp only; omega, HP.out⟩
      rfl
    · repeat (first | with_reducible apply W.seq | with_reducible apply W.block | with_reducible apply W.skip | with_reducible apply W.exit | with_reducible apply W.ret | with_reducible apply At.seqN | with_reducible apply At.blkN | with_reducible apply At.blkE | with_reducible apply At.blkR | with_reducible apply At.thenX | with_reducible apply At.thenR | with_reducible apply At.blkX rfl | ((with_reducible apply W.ops); (repeat (first | refine WL.opA hΓ (h := ?_) | refine WL.opX hΓ (h := ?_) | refine WL.opY (h := ?_) | refine WL.opZ (h := ?_))); with_reducible apply WL.nil) | refine W.condT (h := ?_) | refine W.condF (h := ?_))
      refine At.retRA (by rw [Tryd.results27]) (he := ?_) ((r, c, lh, lg), (i : Int), li, px) ⟨HO.out, by dsimp only; omega, HP.out⟩
      rfl
/-- what a round shows -/
theorem round_facts {l : List ByteArray} {a k : Nat} {x : TSnap} (h : SnI l a (k + 1) x) (h1 : 1 ≤ l.length) (h40 : l.length ≤ 40) (b : ByteArray) (i : Nat) (hi : i = (k + a) % l.length) (hb : inclB (tree l) b i l.length (pathL i l) = false) :
    putS x i b (pathL i l) = x ∧ decide (putOk x i b (pathL i l)) = false ∧ decide (putOk x i (l.getD i ByteArray.empty) (pathL i l)) = true ∧
    SnI l a k (putS x i (l.getD i ByteArray.empty) (pathL i l)) ∧ decide (putOk (putS x i (l.getD i ByteArray.empty) (pathL i l)) i (l.getD i ByteArray.empty) (pathL i l)) = false := by
  subst hi
  obtain ⟨s1, s2, s3⟩ := h.step h1 h40
  have hs := h.ok h1 h40
  obtain ⟨b1, b2⟩ := put_bad (x := x) (i := (((k + a) % l.length : Nat) : Int)) (b := b) (p := pathL ((k + a) % l.length) l) (by rw [h.root, h.count]; exact hb) hs
  exact ⟨b1, decide_eq_false b2, decide_eq_true s1, s2, decide_eq_false s3⟩
theorem lawFnSnap_s : Sound Tryd.prog 4 (mdl (fun bs : List Nat => bs.length ≤ 9223372036854775807 ∧ ∀ n ∈ bs, n < 256) (fun bs => [aL cU8 bs]) fun _ => rB true) := by
  refine Sound.mdl Tryd.func4 rfl Tryd.ntmps4 ?_
  rintro bs w ⟨hlen, hbs⟩
  refine ⟨by simp, ?_⟩
  have hΓ : GSound Tryd.prog (look [(5, mBig), (6, mAt), (10, mEqSS), (7, mTree), (22, mPa), (23, mIncl), (20, mCut), (18, mCut), (19, mSnew), (21, mPut), (28, mPut), (24, mNeedI), (25, mSnapOk), (26, mDoneI)]) := env_cons (has_of Tryd.func5 rfl rfl) big_s (env_cons (has_of Tryd.func6 rfl rfl) at_s (env_cons (has_of Tryd.func10 rfl rfl) sameT_s (env_cons (has_of Tryd.func7 rfl rfl) treeS_s (env_cons (has_of Tryd.func22 rfl rfl) tpathS_s (env_cons (has_of Tryd.func23 rfl rfl) inclS_s (env_cons (has_of Tryd.func20 rfl rfl) cutS_s (env_cons (has_of Tryd.func18 rfl rfl) cutI_s (env_cons (has_of Tryd.func19 rfl rfl) newI_s (env_cons (has_of Tryd.func21 rfl rfl) putI_s (env_cons (has_of Tryd.func28 rfl rfl) putS_s (env_cons (has_of Tryd.func24 rfl rfl) needI_s (env_cons (has_of Tryd.func25 rfl rfl) snapOkS_s (env_cons (has_of Tryd.func26 rfl rfl) doneI_s env_nil)))))))))))))
  have hDc : Has Tryd.prog 17 := has_of Tryd.func17 rfl rfl
  have hDp : Has Tryd.prog 27 := has_of Tryd.func27 rfl rfl
  have cb := mBig_eq bs hlen
  by_cases hbig : 1048576 < bs.length
  · rw [decide_eq_true hbig] at cb
    simp only [initS, argPV, List.map_cons, List.map_nil, toPL, Nat.zero_add]
    repeat (first | with_reducible apply W.seq | with_reducible apply W.block | with_reducible apply W.skip | with_reducible apply W.exit | with_reducible apply W.ret | with_reducible apply At.seqN | with_reducible apply At.blkN | with_reducible apply At.blkE | with_reducible apply At.blkR | with_reducible apply At.thenX | with_reducible apply At.thenR | with_reducible apply At.blkX rfl | ((with_reducible apply W.ops); (repeat (first | refine WL.opA hΓ (h := ?_) | refine WL.opX hΓ (h := ?_) | refine WL.opY (h := ?_) | refine WL.opZ (h := ?_))); with_reducible apply WL.nil) | refine W.condT (h := ?_) | refine W.condF (h := ?_))
    refine At.retA (by rw [Tryd.results4]) (he := rfl)
  · rw [decide_eq_false hbig] at cb
    have hcode : CodeOk bs := .le (by omega) hbs
    have a0 := mAt_eq bs 0 ⟨⟨hbs, by dsimp only; omega⟩, by dsimp only; omega, by dsimp only; omega⟩
    obtain ⟨a1, a2⟩ := atC_range (bs := bs) (i := 0) ⟨⟨hbs, by dsimp only; omega⟩, by dsimp only; omega, by dsimp only; omega⟩
    obtain ⟨a, ha⟩ := Int.eq_ofNat_of_zero_le a1
    rw [ha] at a0 a2
    clear ha a1 hbs
    have HA := Lib.hid a0
    clear a0
    simp only [initS, argPV, List.map_cons, List.map_nil, toPL, Nat.zero_add]
    repeat (first | with_reducible apply W.seq | with_reducible apply W.block | with_reducible apply W.skip | with_reducible apply W.exit | with_reducible apply W.ret | with_reducible apply At.seqN | with_reducible apply At.blkN | with_reducible apply At.blkE | with_reducible apply At.blkR | with_reducible apply At.thenX | with_reducible apply At.thenR | with_reducible apply At.blkX rfl | ((with_reducible apply W.ops); (repeat (first | refine WL.opA hΓ (h := ?_) | refine WL.opX hΓ (h := ?_) | refine WL.opY (h := ?_) | refine WL.opZ (h := ?_))); with_reducible apply WL.nil) | refine W.condT (h := ?_) | refine W.condF (h := ?_))
    with_reducible apply W.ops
    repeat (first | refine WL.opA hΓ (h := ?_) | refine WL.opX hΓ (h := ?_) | refine WL.opY (h := ?_) | refine WL.opZ (h := ?_))
    refine WL.opRA hDc DrawSnapCut_s bs hcode (h := ?_)
    rintro s0 hs0
    replace hs0 : s0.size ≤ 401 := hs0
    have z1 : (⟨#[120]⟩ : ByteArray).size = 1 := rfl
    have z2 := ByteArray.size_append (a := ⟨#[120]⟩) (b := s0)
    (repeat (first | refine WL.opA hΓ (h := ?_) | refine WL.opX hΓ (h := ?_) | refine WL.opY (h := ?_) | refine WL.opZ (h := ?_)))
    with_reducible apply WL.nil
    generalize hS0 : (⟨#[120]⟩ ++ s0 : ByteArray) = S0 at *
    clear hS0 cb
    obtain ⟨s, hs1, hs2, hs3, hs4⟩ : ∃ s : ByteArray, 1 ≤ s.size ∧ s.size ≤ 300 ∧ (300 < S0.size → s = S0.extract 0 300) ∧ (¬ 300 < S0.size → s = S0) := by
      by_cases h3 : 300 < S0.size
      · exact ⟨S0.extract 0 300, by rw [ByteArray.size_extract]; omega, by rw [ByteArray.size_extract]; omega, fun _ => rfl, fun h => absurd h3 h⟩
      · exact ⟨S0, by omega, by omega, fun h => absurd h h3, fun _ => rfl⟩
    clear z1 z2
    have HS3 := Lib.hid hs3
    have HS4 := Lib.hid hs4
    clear hs3 hs4
    refine (fun (key : W Tryd.prog none0 w Tryd.f4.ntmps [.slot 0 (vL cU8 bs), .slot 3 (vS s)] ?codeK ?postK) => ?mainK) ?partK
    case mainK =>
      by_cases h3 : 300 < S0.size
      · rw [HS3.out h3] at key
        repeat (first | with_reducible apply W.seq | with_reducible apply W.block | with_reducible apply W.skip | with_reducible apply W.exit | with_reducible apply W.ret | with_reducible apply At.seqN | with_reducible apply At.blkN | with_reducible apply At.blkE | with_reducible apply At.blkR | with_reducible apply At.thenX | with_reducible apply At.thenR | with_reducible apply At.blkX rfl | ((with_reducible apply W.ops); (repeat (first | refine WL.opA hΓ (h := ?_) | refine WL.opX hΓ (h := ?_) | refine WL.opY (h := ?_) | refine WL.opZ (h := ?_))); with_reducible apply WL.nil) | refine W.condT (h := ?_) | refine W.condF (h := ?_))
        refine W.subA [.slot 0 (vL cU8 bs), .slot 3 (vS (S0.extract 0 300))] (h := ?_)
        exact key
      · rw [HS4.out h3] at key
        repeat (first | with_reducible apply W.seq | with_reducible apply W.block | with_reducible apply W.skip | with_reducible apply W.exit | with_reducible apply W.ret | with_reducible apply At.seqN | with_reducible apply At.blkN | with_reducible apply At.blkE | with_reducible apply At.blkR | with_reducible apply At.thenX | with_reducible apply At.thenR | with_reducible apply At.blkX rfl | ((with_reducible apply W.ops); (repeat (first | refine WL.opA hΓ (h := ?_) | refine WL.opX hΓ (h := ?_) | refine WL.opY (h := ?_) | refine WL.opZ (h := ?_))); with_reducible apply WL.nil) | refine W.condT (h := ?_) | refine W.condF (h := ?_))
        refine W.subA [.slot 0 (vL cU8 bs), .slot 3 (vS S0)] (h := ?_)
        exact key
    case partK =>
      clear hs0 S0 HS3 HS4 s0
      have hln := cutS_len s
      have hsz := cutS_sz s
      have c1 := mCut_eq s (by omega)
      have hdone := fun x => SnI.done (s := s) (a := a) (x := x)
      generalize cutS s = l at *
      have hl1 : 1 ≤ l.length := by omega
      have hl2 : l.length ≤ 40 := by omega
      have hlr := rowsF_len cStr l
      have hokT : okT l := ⟨by omega, fun x hx => by have := hsz x hx; omega⟩
      have hokL : okL l := ⟨⟨hl1, hl2⟩, hokT.2⟩
      have c2 := mTree_eq l hokT
      have ht : (tree l).size = 32 := by rw [tree_root hl1 hl2, root_size]
      have c3 := mSnew_eq (tree l) l.length ⟨ht, by dsimp only; omega, by dsimp only; omega⟩
      have hs0 := SnI.start (l := l) (a := a)
      have c4 := mEqSS_eq l l (by omega) (by omega)
      rw [cStr_eq_of] at c4
      have HT := Lib.hid (show tree l = tree l from rfl)
      clear hln hlen
      have HS := Lib.hid hsz
      have HL := Lib.hid hokL
      have HD := Lib.hid hdone
      clear hsz hokT hokL hdone
      generalize hTr : tree l = T at c2 c3 ht
      rw [hTr] at hs0
      have HTr := Lib.hid hTr
      clear hTr HT
      have hcs := swL_cu
      dsimp only [rPutO, snew, rowsSnap] at c3
      repeat (first | with_reducible apply W.seq | with_reducible apply W.block | with_reducible apply W.skip | with_reducible apply W.exit | with_reducible apply W.ret | with_reducible apply At.seqN | with_reducible apply At.blkN | with_reducible apply At.blkE | with_reducible apply At.blkR | with_reducible apply At.thenX | with_reducible apply At.thenR | with_reducible apply At.blkX rfl | ((with_reducible apply W.ops); (repeat (first | refine WL.opA hΓ (h := ?_) | refine WL.opX hΓ (h := ?_) | refine WL.opY (h := ?_) | refine WL.opZ (h := ?_))); with_reducible apply WL.nil) | refine W.condT (h := ?_) | refine W.condF (h := ?_))
      refine W.frzA 4 36 (h := ?_)
      repeat (first | with_reducible apply W.seq | with_reducible apply W.block | with_reducible apply W.skip | with_reducible apply W.exit | with_reducible apply W.ret | with_reducible apply At.seqN | with_reducible apply At.blkN | with_reducible apply At.blkE | with_reducible apply At.blkR | with_reducible apply At.thenX | with_reducible apply At.thenR | with_reducible apply At.blkX rfl | ((with_reducible apply W.ops); (repeat (first | refine WL.opA hΓ (h := ?_) | refine WL.opX hΓ (h := ?_) | refine WL.opY (h := ?_) | refine WL.opZ (h := ?_))); with_reducible apply WL.nil) | refine W.condT (h := ?_) | refine W.condF (h := ?_))
      refine W.loopA (fun x : TSnap × Nat => SnI l a x.2 x.1) (fun x => [.slot 0 (vL cU8 bs), .slot 3 (vS s), .slot 4 (vL cStr l), .slot 5 (one (.ptr 5 0)), .blk 5 (.box [.sc (.string x.1.1), .sc (.int .i64 x.1.2.1), .all 2042, .all 3042]), .blk 2042 (.arr true 9 1 (rowsF cStr x.1.2.2.1)), .blk 3042 (.arr true 4 1 (rowsF cBool x.1.2.2.2)), .slot 7 (vI ((x.2 : Int) - 1))]) (fun x => x.2) (snew T l.length, l.length) hs0 (h := ?_)
      rintro ⟨⟨r, c, lh, lg⟩, k⟩ hI
      dsimp only at hI ⊢
      clear c3 hs0
      obtain rfl : r = T := hI.root.trans HTr.out
      obtain rfl : c = (l.length : Int) := hI.count
      cases k with
      | succ k =>
        have hmost := hI.most
        have e1 : ((k + 1 : Nat) : Int) - 1 = (k : Int) := by omega
        have e2 : ((k : Int) + (a : Int)).tmod (l.length : Int) = (((k + a) % l.length : Nat) : Int) := by rw [← Int.natCast_add]; exact (Int.ofNat_tmod _ _).symm
        have hnz : ((l.length : Int) = 0) = False := by simp; intro e; rw [e] at hl1; simp at hl1
        have hlt : (k + a) % l.length < l.length := Nat.mod_lt _ (by omega)
        have F := round_facts hI hl1 hl2 (l.getD ((k + a) % l.length) ByteArray.empty ++ ⟨#[121]⟩) _ rfl
        rw [HTr.out] at F
        have hs := hI.ok hl1 hl2
        have hat := HA.out
        generalize (k + a) % l.length = i at *
        have hrow := row_s hlt
        have hz : (l.getD i ByteArray.empty).size ≤ 10 := by
          rw [List.getD_eq_getElem?_getD, List.getElem?_eq_getElem hlt]
          exact HS.out _ (List.getElem_mem hlt)
        have c5 := mPa_eq l i HL.out hlt
        have hpx := path_okT i (l := l) (by omega)
        generalize l.getD i ByteArray.empty = li at *
        generalize pathL i l = px at *
        have z1 : (⟨#[121]⟩ : ByteArray).size = 1 := rfl
        have z2 := ByteArray.size_append (a := li) (b := ⟨#[121]⟩)
        have c6 := mIncl_eq r (li ++ ⟨#[121]⟩) i l.length px (by omega) hpx
        generalize inclB r (li ++ ⟨#[121]⟩) i l.length px = b0 at *
        have c7 := mPut_eq (r, (l.length : Int), lh, lg) i (li ++ ⟨#[121]⟩) px hs ⟨sOk_okS hs, by dsimp only; omega, hpx⟩
        have hs1 := sOk_put (i : Int) (li ++ ⟨#[121]⟩) px hs
        have F1 : b0 = false → putS (r, (l.length : Int), lh, lg) i (li ++ ⟨#[121]⟩) px = (r, (l.length : Int), lh, lg) ∧ decide (putOk (r, (l.length : Int), lh, lg) i (li ++ ⟨#[121]⟩) px) = false := fun h => ⟨(F h).1, (F h).2.1⟩
        generalize putS (r, (l.length : Int), lh, lg) i (li ++ ⟨#[121]⟩) px = y1 at *
        generalize decide (putOk (r, (l.length : Int), lh, lg) i (li ++ ⟨#[121]⟩) px) = o1 at *
        have c8 := mPut_eq y1 i li px hs1 ⟨sOk_okS hs1, by dsimp only; omega, hpx⟩
        have hs2 := sOk_put (i : Int) li px hs1
        have F2 : b0 = false → (o1 = false ∧ decide (putOk y1 i li px) = true ∧ decide (putOk (putS y1 i li px) i li px) = false) ∧ SnI l a k (putS y1 i li px) := fun h => by
          obtain ⟨f1, f2, f3, f4, f5⟩ := F h
          rw [f1]
          exact ⟨⟨f2, f3, f5⟩, f4⟩
        generalize putS y1 i li px = y2 at *
        generalize decide (putOk y1 i li px) = o2 at *
        have c9 := mPut_eq y2 i li px hs2 ⟨sOk_okS hs2, by dsimp only; omega, hpx⟩
        generalize putS y2 i li px = y3 at *
        generalize decide (putOk y2 i li px) = o3 at *
        have c10 := mNeedI_eq y2 hs2
        have c11 := mSnapOk_eq y2 (sOk_okS hs2)
        rw [decide_eq_true hs2] at c11
        have F3 : b0 = false → o1 = false ∧ o2 = true ∧ o3 = false ∧ (needK y2.2.2.2 y2.2.2.2.length).length = k := fun h => by
          obtain ⟨⟨f1, f2, f3⟩, f4⟩ := F2 h
          exact ⟨f1, f2, f3, by rw [f4.len2]; exact f4.need⟩
        generalize needK y2.2.2.2 y2.2.2.2.length = L at *
        have FF := Lib.hid F3
        have FI := Lib.hid fun h => (F2 h).2
        clear F F1 F2 F3 hI hs hs1 hs2 hpx
        obtain ⟨r1, n1, lh1, lg1⟩ := y1
        obtain ⟨r2, n2, lh2, lg2⟩ := y2
        obtain ⟨r3, n3, lh3, lg3⟩ := y3
        dsimp only [encS, aSnap, rPutO, rowsSnap] at c7 c8 c9 c10 c11
        repeat (first | with_reducible apply W.seq | with_reducible apply W.block | with_reducible apply W.skip | with_reducible apply W.exit | with_reducible apply W.ret | with_reducible apply At.seqN | with_reducible apply At.blkN | with_reducible apply At.blkE | with_reducible apply At.blkR | with_reducible apply At.thenX | with_reducible apply At.thenR | with_reducible apply At.blkX rfl | ((with_reducible apply W.ops); (repeat (first | refine WL.opA hΓ (h := ?_) | refine WL.opX hΓ (h := ?_) | refine WL.opY (h := ?_) | refine WL.opZ (h := ?_))); with_reducible apply WL.nil) | refine W.condT (h := ?_) | refine W.condF (h := ?_))
        refine W.lateA hΓ 15 [[], [], [], [], [2, 3], [2, 3, 4], [2, 3, 4, 5], [], [], [7, 8], [0, 1, 2, 3, 4, 5, 6, 7, 8, 9], [0, 1, 2, 3, 4, 5, 6, 7, 8, 9, 10], [0, 1, 2, 3, 4, 5, 6, 7, 8, 9, 10, 11], [0, 1, 2, 3, 4, 5, 6, 7, 8, 9, 10, 11], [], [0, 1, 2, 3, 4, 5, 6, 7, 8, 9, 10, 11, 12, 14], [0, 1, 2, 3, 4, 5, 6, 7, 8, 9, 10, 11, 12, 13, 14, 15]] [13] (rest := ?rest40) (Es := ?Es40) (st1 := ?st140) (stA := ?stA40) (t := ?t40) (x := ?x40) (y := ?y40) (ty := ?ty40) (pos := ?pos40) (after := ?af40) (n := ?n40) (b := ?b40) (h := ?h40) (hl := ?hl40) (hf := ?hf40) (hp := ?hp40) (hd := ?hd40) (hfr := ?hfr40) (hA := ?hA40) (hst := ?hst40) (hst1 := ?hst140) (hT := ?hT40)
        case h40 => kernel_rfl
        case hl40 => kernel_rfl
        case hf40 =>
          repeat (first | refine FlowT.opA (h := ?_) | refine FlowT.opX (h := ?_) | refine FlowT.opY (h := ?_) | refine FlowT.opZ (h := ?_))
          exact FlowT.done
        case hp40 => rfl
        case hd40 => rfl
        case hfr40 => rfl
        case hA40 =>
          simp (disch := decide) only [pick_nil, pick_t, pick_f, List.cons_append, List.nil_append, Nat.reduceAdd]
          rfl
        case hst40 =>
          unfold storeL
          simp (config := { maxSteps := 1000000 }) (disch := first | assumption | omega) only [TY, ar_u64, binE, eqCells, eqVal, eqOp, step_mk, makeE, List.toList_toArray, Value.oneCell', step_fnv, step_makeFunc, ev_func, callV, cells_agg, cells_int, cells_bool, cells_str, cells_sl, List.size_toArray, flatB_nil, flatB_cons, wid_nil, wid_cons, rowsF_len, rowsF_flat, rowsF_app, step_build, buildE, fillE, indexSlE, indexArrE, shiftE, indexArrV, indexStE, step_move, step_assign, step_pick, step_load, step_nilCheck, step_binOp, step_unOp, step_convert, step_slice, step_fieldAddr, step_field, step_indexAddr, step_index, step_extract, step_len, step_min, step_max, step_alloc, step_box, step_lit, step_app, step_fn, step_store, putV_some, getS_hit, getS_miss, getS_blk, getS_kill, getS_nil, getB_nil, getB_slot, getB_hit, getB_miss, getB_kill0, getB_kill1, ev_tmp, ev_int, ev_bool, ev_str, ev_nil, ev_agg, cl_int, cl_bool, cl_str, cl_nil, loadE, loadV, fieldAddrE, fieldE, partV, indexAddrE, lenE, lenO, strIdx, indexE, boundE, subE, sliceE, convE, minE, scal, nilE, tupE, capsE, optE, pickE, pbin, pint, pstr, pun, ar_in, ar_u32, ar_u8, allocE, boxE, litE, rowsO, leafO, leafsO, frz, clr, rowsOf, destOf, appE, storeE, argO, argsO, boxesO, callG, callE, impE, pvR, pvs, pvRL, pvT, owns, ownsT, ownsR, clrL, withB, PV.kill, PL.kill, PL.names, Blk.kill, PL.live, toPL, resV, resO, compsO, compO, rlsO, rlO, toRes, Leaf.isSc, List.map_cons, List.map_nil, List.all_cons, List.all_nil, List.length_cons, List.length_nil, List.drop_zero, List.drop_succ_cons, List.take_succ_cons, List.take_zero, List.drop_nil, List.take_nil, List.getElem?_cons_zero, List.getElem?_cons_succ, List.getElem?_nil, Option.map_some, Option.map_none, Option.bind_some, Option.isSome_some, Option.isSome_none, List.cons_append, List.nil_append, List.append_nil, if_true, if_false, reduceIte, Nat.reduceLT, Nat.reduceBEq, Nat.reduceLeDiff, Nat.reduceEqDiff, Nat.reduceAdd, Nat.reduceMul, Nat.zero_add, Nat.add_zero, Nat.mul_one, Int.reduceToNat, Bool.and_true, Bool.true_and, Bool.false_and, Bool.and_false, Bool.not_true, Bool.not_false, Bool.false_eq_true, decide_true, decide_false, and_self, and_true, true_and, or_true, true_or, or_false, false_or, if_pos, if_neg, Int.toNat_natCast, decide_eq_true, decide_eq_false, look_hit, look_miss, Int.ofNat_eq_natCast, Bool.or_false, Bool.or_true, Bool.true_or, Bool.false_or, Bool.not_eq_true, beq_self_eq_true, ne_eq, not_false_eq_true, not_true_eq_false, eq_self, ent_move, ent_assign, ent_pick, ent_load, ent_nilCheck, ent_binOp, ent_unOp, ent_convert, ent_slice, ent_fieldAddr, ent_field, ent_indexAddr, ent_index, ent_extract, ent_len, ent_min, ent_max, ent_alloc, ent_box, ent_lit, ent_build, ent_fn, ent_mk, makeL, ent_makeFunc, valL_some, allocL, boxL, litL, callL, blkL, noRef, *]
          rfl
        case hst140 =>
          simp only [pick_nil, pick_all, List.cons_append, List.nil_append]
          rfl
        (repeat (first | refine WL.opA hΓ (h := ?_) | refine WL.opX hΓ (h := ?_) | refine WL.opY (h := ?_) | refine WL.opZ (h := ?_)))
        with_reducible apply WL.nil
        repeat (first | with_reducible apply W.seq | with_reducible apply W.block | with_reducible apply W.skip | with_reducible apply W.exit | with_reducible apply W.ret | with_reducible apply At.seqN | with_reducible apply At.blkN | with_reducible apply At.blkE | with_reducible apply At.blkR | with_reducible apply At.thenX | with_reducible apply At.thenR | with_reducible apply At.blkX rfl | ((with_reducible apply W.ops); (repeat (first | refine WL.opA hΓ (h := ?_) | refine WL.opX hΓ (h := ?_) | refine WL.opY (h := ?_) | refine WL.opZ (h := ?_))); with_reducible apply WL.nil) | refine W.condT (h := ?_) | refine W.condF (h := ?_))
        refine W.lateA hΓ 14 [[], [], [], [], [2, 3], [2, 3, 4], [], [], [6, 7], [0, 1, 2, 3, 4, 5, 6, 7, 8], [0, 1, 2, 3, 4, 5, 6, 7, 8, 9], [0, 1, 2, 3, 4, 5, 6, 7, 8, 9, 10], [0, 1, 2, 3, 4, 5, 6, 7, 8, 9, 10], [], [0, 1, 2, 3, 4, 5, 6, 7, 8, 9, 10, 11, 13], [0, 1, 2, 3, 4, 5, 6, 7, 8, 9, 10, 11, 12, 13, 14]] [12] (rest := ?rest42) (Es := ?Es42) (st1 := ?st142) (stA := ?stA42) (t := ?t42) (x := ?x42) (y := ?y42) (ty := ?ty42) (pos := ?pos42) (after := ?af42) (n := ?n42) (b := ?b42) (h := ?h42) (hl := ?hl42) (hf := ?hf42) (hp := ?hp42) (hd := ?hd42) (hfr := ?hfr42) (hA := ?hA42) (hst := ?hst42) (hst1 := ?hst142) (hT := ?hT42)
        case h42 => kernel_rfl
        case hl42 => kernel_rfl
        case hf42 =>
          repeat (first | refine FlowT.opA (h := ?_) | refine FlowT.opX (h := ?_) | refine FlowT.opY (h := ?_) | refine FlowT.opZ (h := ?_))
          exact FlowT.done
        case hp42 => rfl
        case hd42 => rfl
        case hfr42 => rfl
        case hA42 =>
          simp (disch := decide) only [pick_nil, pick_t, pick_f, List.cons_append, List.nil_append, Nat.reduceAdd]
          rfl
        case hst42 =>
          unfold storeL
          simp (config := { maxSteps := 1000000 }) (disch := first | assumption | omega) only [TY, ar_u64, binE, eqCells, eqVal, eqOp, step_mk, makeE, List.toList_toArray, Value.oneCell', step_fnv, step_makeFunc, ev_func, callV, cells_agg, cells_int, cells_bool, cells_str, cells_sl, List.size_toArray, flatB_nil, flatB_cons, wid_nil, wid_cons, rowsF_len, rowsF_flat, rowsF_app, step_build, buildE, fillE, indexSlE, indexArrE, shiftE, indexArrV, indexStE, step_move, step_assign, step_pick, step_load, step_nilCheck, step_binOp, step_unOp, step_convert, step_slice, step_fieldAddr, step_field, step_indexAddr, step_index, step_extract, step_len, step_min, step_max, step_alloc, step_box, step_lit, step_app, step_fn, step_store, putV_some, getS_hit, getS_miss, getS_blk, getS_kill, getS_nil, getB_nil, getB_slot, getB_hit, getB_miss, getB_kill0, getB_kill1, ev_tmp, ev_int, ev_bool, ev_str, ev_nil, ev_agg, cl_int, cl_bool, cl_str, cl_nil, loadE, loadV, fieldAddrE, fieldE, partV, indexAddrE, lenE, lenO, strIdx, indexE, boundE, subE, sliceE, convE, minE, scal, nilE, tupE, capsE, optE, pickE, pbin, pint, pstr, pun, ar_in, ar_u32, ar_u8, allocE, boxE, litE, rowsO, leafO, leafsO, frz, clr, rowsOf, destOf, appE, storeE, argO, argsO, boxesO, callG, callE, impE, pvR, pvs, pvRL, pvT, owns, ownsT, ownsR, clrL, withB, PV.kill, PL.kill, PL.names, Blk.kill, PL.live, toPL, resV, resO, compsO, compO, rlsO, rlO, toRes, Leaf.isSc, List.map_cons, List.map_nil, List.all_cons, List.all_nil, List.length_cons, List.length_nil, List.drop_zero, List.drop_succ_cons, List.take_succ_cons, List.take_zero, List.drop_nil, List.take_nil, List.getElem?_cons_zero, List.getElem?_cons_succ, List.getElem?_nil, Option.map_some, Option.map_none, Option.bind_some, Option.isSome_some, Option.isSome_none, List.cons_append, List.nil_append, List.append_nil, if_true, if_false, reduceIte, Nat.reduceLT, Nat.reduceBEq, Nat.reduceLeDiff, Nat.reduceEqDiff, Nat.reduceAdd, Nat.reduceMul, Nat.zero_add, Nat.add_zero, Nat.mul_one, Int.reduceToNat, Bool.and_true, Bool.true_and, Bool.false_and, Bool.and_false, Bool.not_true, Bool.not_false, Bool.false_eq_true, decide_true, decide_false, and_self, and_true, true_and, or_true, true_or, or_false, false_or, if_pos, if_neg, Int.toNat_natCast, decide_eq_true, decide_eq_false, look_hit, look_miss, Int.ofNat_eq_natCast, Bool.or_false, Bool.or_true, Bool.true_or, Bool.false_or, Bool.not_eq_true, beq_self_eq_true, ne_eq, not_false_eq_true, not_true_eq_false, eq_self, ent_move, ent_assign, ent_pick, ent_load, ent_nilCheck, ent_binOp, ent_unOp, ent_convert, ent_slice, ent_fieldAddr, ent_field, ent_indexAddr, ent_index, ent_extract, ent_len, ent_min, ent_max, ent_alloc, ent_box, ent_lit, ent_build, ent_fn, ent_mk, makeL, ent_makeFunc, valL_some, allocL, boxL, litL, callL, blkL, noRef, *]
          rfl
        case hst142 =>
          simp only [pick_nil, pick_all, List.cons_append, List.nil_append]
          rfl
        (repeat (first | refine WL.opA hΓ (h := ?_) | refine WL.opX hΓ (h := ?_) | refine WL.opY (h := ?_) | refine WL.opZ (h := ?_)))
        with_reducible apply WL.nil
        repeat (first | with_reducible apply W.seq | with_reducible apply W.block | with_reducible apply W.skip | with_reducible apply W.exit | with_reducible apply W.ret | with_reducible apply At.seqN | with_reducible apply At.blkN | with_reducible apply At.blkE | with_reducible apply At.blkR | with_reducible apply At.thenX | with_reducible apply At.thenR | with_reducible apply At.blkX rfl | ((with_reducible apply W.ops); (repeat (first | refine WL.opA hΓ (h := ?_) | refine WL.opX hΓ (h := ?_) | refine WL.opY (h := ?_) | refine WL.opZ (h := ?_))); with_reducible apply WL.nil) | refine W.condT (h := ?_) | refine W.condF (h := ?_))
        refine W.lateA hΓ 14 [[], [], [], [], [2, 3], [2, 3, 4], [], [], [6, 7], [0, 1, 2, 3, 4, 5, 6, 7, 8], [0, 1, 2, 3, 4, 5, 6, 7, 8, 9], [0, 1, 2, 3, 4, 5, 6, 7, 8, 9, 10], [0, 1, 2, 3, 4, 5, 6, 7, 8, 9, 10], [], [0, 1, 2, 3, 4, 5, 6, 7, 8, 9, 10, 11, 13], [0, 1, 2, 3, 4, 5, 6, 7, 8, 9, 10, 11, 12, 13, 14]] [12] (rest := ?rest44) (Es := ?Es44) (st1 := ?st144) (stA := ?stA44) (t := ?t44) (x := ?x44) (y := ?y44) (ty := ?ty44) (pos := ?pos44) (after := ?af44) (n := ?n44) (b := ?b44) (h := ?h44) (hl := ?hl44) (hf := ?hf44) (hp := ?hp44) (hd := ?hd44) (hfr := ?hfr44) (hA := ?hA44) (hst := ?hst44) (hst1 := ?hst144) (hT := ?hT44)
        case h44 => kernel_rfl
        case hl44 => kernel_rfl
        case hf44 =>
          repeat (first | refine FlowT.opA (h := ?_) | refine FlowT.opX (h := ?_) | refine FlowT.opY (h := ?_) | refine FlowT.opZ (h := ?_))
          exact FlowT.done
        case hp44 => rfl
        case hd44 => rfl
        case hfr44 => rfl
        case hA44 =>
          simp (disch := decide) only [pick_nil, pick_t, pick_f, List.cons_append, List.nil_append, Nat.reduceAdd]
          rfl
        case hst44 =>
          unfold storeL
          simp (config := { maxSteps := 1000000 }) (disch := first | assumption | omega) only [TY, ar_u64, binE, eqCells, eqVal, eqOp, step_mk, makeE, List.toList_toArray, Value.oneCell', step_fnv, step_makeFunc, ev_func, callV, cells_agg, cells_int, cells_bool, cells_str, cells_sl, List.size_toArray, flatB_nil, flatB_cons, wid_nil, wid_cons, rowsF_len, rowsF_flat, rowsF_app, step_build, buildE, fillE, indexSlE, indexArrE, shiftE, indexArrV, indexStE, step_move, step_assign, step_pick, step_load, step_nilCheck, step_binOp, step_unOp, step_convert, step_slice, step_fieldAddr, step_field, step_indexAddr, step_index, step_extract, step_len, step_min, step_max, step_alloc, step_box, step_lit, step_app, step_fn, step_store, putV_some, getS_hit, getS_miss, getS_blk, getS_kill, getS_nil, getB_nil, getB_slot, getB_hit, getB_miss, getB_kill0, getB_kill1, ev_tmp, ev_int, ev_bool, ev_str, ev_nil, ev_agg, cl_int, cl_bool, cl_str, cl_nil, loadE, loadV, fieldAddrE, fieldE, partV, indexAddrE, lenE, lenO, strIdx, indexE, boundE, subE, sliceE, convE, minE, scal, nilE, tupE, capsE, optE, pickE, pbin, pint, pstr, pun, ar_in, ar_u32, ar_u8, allocE, boxE, litE, rowsO, leafO, leafsO, frz, clr, rowsOf, destOf, appE, storeE, argO, argsO, boxesO, callG, callE, impE, pvR, pvs, pvRL, pvT, owns, ownsT, ownsR, clrL, withB, PV.kill, PL.kill, PL.names, Blk.kill, PL.live, toPL, resV, resO, compsO, compO, rlsO, rlO, toRes, Leaf.isSc, List.map_cons, List.map_nil, List.all_cons, List.all_nil, List.length_cons, List.length_nil, List.drop_zero, List.drop_succ_cons, List.take_succ_cons, List.take_zero, List.drop_nil, List.take_nil, List.getElem?_cons_zero, List.getElem?_cons_succ, List.getElem?_nil, Option.map_some, Option.map_none, Option.bind_some, Option.isSome_some, Option.isSome_none, List.cons_append, List.nil_append, List.append_nil, if_true, if_false, reduceIte, Nat.reduceLT, Nat.reduceBEq, Nat.reduceLeDiff, Nat.reduceEqDiff, Nat.reduceAdd, Nat.reduceMul, Nat.zero_add, Nat.add_zero, Nat.mul_one, Int.reduceToNat, Bool.and_true, Bool.true_and, Bool.false_and, Bool.and_false, Bool.not_true, Bool.not_false, Bool.false_eq_true, decide_true, decide_false, and_self, and_true, true_and, or_true, true_or, or_false, false_or, if_pos, if_neg, Int.toNat_natCast, decide_eq_true, decide_eq_false, look_hit, look_miss, Int.ofNat_eq_natCast, Bool.or_false, Bool.or_true, Bool.true_or, Bool.false_or, Bool.not_eq_true, beq_self_eq_true, ne_eq, not_false_eq_true, not_true_eq_false, eq_self, ent_move, ent_assign, ent_pick, ent_load, ent_nilCheck, ent_binOp, ent_unOp, ent_convert, ent_slice, ent_fieldAddr, ent_field, ent_indexAddr, ent_index, ent_extract, ent_len, ent_min, ent_max, ent_alloc, ent_box, ent_lit, ent_build, ent_fn, ent_mk, makeL, ent_makeFunc, valL_some, allocL, boxL, litL, callL, blkL, noRef, *]
          rfl
        case hst144 =>
          simp only [pick_nil, pick_all, List.cons_append, List.nil_append]
          rfl
        (repeat (first | refine WL.opA hΓ (h := ?_) | refine WL.opX hΓ (h := ?_) | refine WL.opY (h := ?_) | refine WL.opZ (h := ?_)))
        with_reducible apply WL.nil
        repeat (first | with_reducible apply W.seq | with_reducible apply W.block | with_reducible apply W.skip | with_reducible apply W.exit | with_reducible apply W.ret | with_reducible apply At.seqN | with_reducible apply At.blkN | with_reducible apply At.blkE | with_reducible apply At.blkR | with_reducible apply At.thenX | with_reducible apply At.thenR | with_reducible apply At.blkX rfl | ((with_reducible apply W.ops); (repeat (first | refine WL.opA hΓ (h := ?_) | refine WL.opX hΓ (h := ?_) | refine WL.opY (h := ?_) | refine WL.opZ (h := ?_))); with_reducible apply WL.nil) | refine W.condT (h := ?_) | refine W.condF (h := ?_))
        refine W.drawsA hΓ 14 [[], [0], [], [], [2, 3], [2, 3, 4], [2, 3, 4, 5], [], [], [8], [], [], [0, 1, 10, 11], [0, 1, 2, 3, 4, 5, 6, 7, 8, 9, 10, 11, 12]] (rest := ?rest46) (Es := ?Es46) (st1 := ?st146) (h := ?h46) (hf := ?hf46) (hp := ?hp46) (hd := ?hd46) (hfr := ?hfr46) (hst := ?hst46) (hT := ?hT46)
        case h46 => kernel_rfl
        case hf46 =>
          repeat (first | refine FlowT.opA (h := ?_) | refine FlowT.opX (h := ?_) | refine FlowT.opY (h := ?_) | refine FlowT.opZ (h := ?_))
          exact FlowT.done
        case hp46 => rfl
        case hd46 => rfl
        case hfr46 => rfl
        case hst46 =>
          simp only [pick_nil, pick_all, List.cons_append, List.nil_append]
          rfl
        (repeat (first | refine WL.opA hΓ (h := ?_) | refine WL.opX hΓ (h := ?_) | refine WL.opY (h := ?_) | refine WL.opZ (h := ?_)))
        with_reducible apply WL.nil
        repeat (first | with_reducible apply W.seq | with_reducible apply W.block | with_reducible apply W.skip | with_reducible apply W.exit | with_reducible apply W.ret | with_reducible apply At.seqN | with_reducible apply At.blkN | with_reducible apply At.blkE | with_reducible apply At.blkR | with_reducible apply At.thenX | with_reducible apply At.thenR | with_reducible apply At.blkX rfl | ((with_reducible apply W.ops); (repeat (first | refine WL.opA hΓ (h := ?_) | refine WL.opX hΓ (h := ?_) | refine WL.opY (h := ?_) | refine WL.opZ (h := ?_))); with_reducible apply WL.nil) | refine W.condT (h := ?_) | refine W.condF (h := ?_))
        refine W.condA (h1 := ?_) (h2 := ?_)
        · intro hb
          repeat (first | with_reducible apply W.seq | with_reducible apply W.block | with_reducible apply W.skip | with_reducible apply W.exit | with_reducible apply W.ret | with_reducible apply At.seqN | with_reducible apply At.blkN | with_reducible apply At.blkE | with_reducible apply At.blkR | with_reducible apply At.thenX | with_reducible apply At.thenR | with_reducible apply At.blkX rfl | ((with_reducible apply W.ops); (repeat (first | refine WL.opA hΓ (h := ?_) | refine WL.opX hΓ (h := ?_) | refine WL.opY (h := ?_) | refine WL.opZ (h := ?_))); with_reducible apply WL.nil) | refine W.condT (h := ?_) | refine W.condF (h := ?_))
          refine At.retA (by rw [Tryd.results4]) (he := rfl)
        · intro hb
          obtain ⟨f1, f2, f3, f4⟩ := FF.out hb
          have f5 := FI.out hb
          subst hb f1 f2 f3
          have hLl := rowsF_len cInt L
          have hd : decide ((L.length : Int) = (k : Int)) = true := decide_eq_true (by omega)
          clear f4
          repeat (first | with_reducible apply W.seq | with_reducible apply W.block | with_reducible apply W.skip | with_reducible apply W.exit | with_reducible apply W.ret | with_reducible apply At.seqN | with_reducible apply At.blkN | with_reducible apply At.blkE | with_reducible apply At.blkR | with_reducible apply At.thenX | with_reducible apply At.thenR | with_reducible apply At.blkX rfl | ((with_reducible apply W.ops); (repeat (first | refine WL.opA hΓ (h := ?_) | refine WL.opX hΓ (h := ?_) | refine WL.opY (h := ?_) | refine WL.opZ (h := ?_))); with_reducible apply WL.nil) | refine W.condT (h := ?_) | refine W.condF (h := ?_))
          refine At.sw2 2042 2092 3042 3092 [.slot 0 (vL cU8 bs), .slot 3 (vS s), .slot 4 (vL cStr l), .slot 5 (one (.ptr 5 0)), .blk 5 (.box [.sc (.string r2), .sc (.int .i64 n2), .all 2042, .all 3042]), .blk 2042 (.arr true 9 1 (rowsF cStr lh2)), .blk 3042 (.arr true 4 1 (rowsF cBool lg2)), .slot 7 (vI ((k : Int) - 1))] (h := ?_)
          exact At.roundA ((r2, n2, lh2, lg2), k) f5 (by dsimp only; omega)
      | zero =>
        have c11 := mDoneI_eq (r, (l.length : Int), lh, lg) (hI.okD hl1 hl2 HS.out)
        obtain ⟨d1, d2⟩ := HD.out _ hI hl1 hl2
        rw [d1, d2] at c11
        dsimp only [aSnap] at c11
        have hss : decide (s = s) = true := by simp
        clear hI d1 d2
        repeat (first | with_reducible apply W.seq | with_reducible apply W.block | with_reducible apply W.skip | with_reducible apply W.exit | with_reducible apply W.ret | with_reducible apply At.seqN | with_reducible apply At.blkN | with_reducible apply At.blkE | with_reducible apply At.blkR | with_reducible apply At.thenX | with_reducible apply At.thenR | with_reducible apply At.blkX rfl | ((with_reducible apply W.ops); (repeat (first | refine WL.opA hΓ (h := ?_) | refine WL.opX hΓ (h := ?_) | refine WL.opY (h := ?_) | refine WL.opZ (h := ?_))); with_reducible apply WL.nil) | refine W.condT (h := ?_) | refine W.condF (h := ?_))
        with_reducible apply W.ops
        repeat (first | refine WL.opA hΓ (h := ?_) | refine WL.opX hΓ (h := ?_) | refine WL.opY (h := ?_) | refine WL.opZ (h := ?_))
        refine WL.opRA hDp DrawSnapPut_s bs hcode (h := ?_)
        rintro ⟨⟨r3, n3, lh3, lg3⟩, i3, p3, px3⟩ hp3
        replace hp3 : okSP ((r3, n3, lh3, lg3), i3, p3, px3) := hp3
        by_cases hs3 : sOk (r3, n3, lh3, lg3)
        · have c12 := mPut_eq _ i3 p3 px3 hs3 hp3
          generalize putS (r3, n3, lh3, lg3) i3 p3 px3 = y3 at c12
          generalize decide (putOk (r3, n3, lh3, lg3) i3 p3 px3) = o3 at c12
          obtain ⟨r4, n4, lh4, lg4⟩ := y3
          dsimp only [encS, aSnap, rPutO, rowsSnap] at c12
          have ho : (o3 == o3) = true := by simp
          clear hp3 hs3
          (repeat (first | refine WL.opA hΓ (h := ?_) | refine WL.opX hΓ (h := ?_) | refine WL.opY (h := ?_) | refine WL.opZ (h := ?_)))
          with_reducible apply WL.nil
          repeat (first | with_reducible apply W.seq | with_reducible apply W.block | with_reducible apply W.skip | with_reducible apply W.exit | with_reducible apply W.ret | with_reducible apply At.seqN | with_reducible apply At.blkN | with_reducible apply At.blkE | with_reducible apply At.blkR | with_reducible apply At.thenX | with_reducible apply At.thenR | with_reducible apply At.blkX rfl | ((with_reducible apply W.ops); (repeat (first | refine WL.opA hΓ (h := ?_) | refine WL.opX hΓ (h := ?_) | refine WL.opY (h := ?_) | refine WL.opZ (h := ?_))); with_reducible apply WL.nil) | refine W.condT (h := ?_) | refine W.condF (h := ?_))
          refine At.retA (by rw [Tryd.results4]) (he := rfl)
        · have c12 := mPut_no _ i3 p3 px3 hs3 hp3
          dsimp only [encS, aSnap, rPutN] at c12
          clear hp3 hs3
          (repeat (first | refine WL.opA hΓ (h := ?_) | refine WL.opX hΓ (h := ?_) | refine WL.opY (h := ?_) | refine WL.opZ (h := ?_)))
          with_reducible apply WL.nil
          repeat (first | with_reducible apply W.seq | with_reducible apply W.block | with_reducible apply W.skip | with_reducible apply W.exit | with_reducible apply W.ret | with_reducible apply At.seqN | with_reducible apply At.blkN | with_reducible apply At.blkE | with_reducible apply At.blkR | with_reducible apply At.thenX | with_reducible apply At.thenR | with_reducible apply At.blkX rfl | ((with_reducible apply W.ops); (repeat (first | refine WL.opA hΓ (h := ?_) | refine WL.opX hΓ (h := ?_) | refine WL.opY (h := ?_) | refine WL.opZ (h := ?_))); with_reducible apply WL.nil) | refine W.condT (h := ?_) | refine W.condF (h := ?_))
          refine At.retA (by rw [Tryd.results4]) (he := rfl)
end Go.Proofs.YteaohgacgcjkjaaDoor
