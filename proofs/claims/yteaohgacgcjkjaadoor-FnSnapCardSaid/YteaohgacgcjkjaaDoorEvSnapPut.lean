/-
  SnapPut of both programs.
-/
import Derived.Test.YteaohgacgcjkjaaDoorEvPRoot
import Derived.Test.YteaohgacgcjkjaaDoorEvOldPath
import Derived.Test.YteaohgacgcjkjaaDoorEvSnapA
namespace Go.Proofs.YteaohgacgcjkjaaDoor
set_option maxRecDepth 100000
set_option linter.unusedVariables false
set_option linter.unusedSimpArgs false
open Go Go.RowKit
set_option maxHeartbeats 4000000

abbrev rowsSnap (s : TSnap) : List RL := [.ro (.sc (.string s.1)), .ro (.sc (.int .i64 s.2.1)), .own true 9 1 (rowsF cStr s.2.2.1), .own true 4 1 (rowsF cBool s.2.2.2)]
abbrev rSnap (s : TSnap) : Res := .comp true (rowsSnap s)
noncomputable def mCopyS := mdl okS (fun s => [aSnap s]) (fun s => rSnap s)
theorem mCopyS_eq (s : TSnap) (h : okS s) : mCopyS [aSnap s] = some (rSnap s) := mdl_eq aSnap_inj s h
theorem copyS_s : Sound Tryd.prog 52 mCopyS := by
  refine Sound.mdl Tryd.func52 rfl Tryd.ntmps52 ?_
  rintro ⟨r, c, lh, lg⟩ w ⟨h1, h2, h3⟩
  refine ⟨by simp, ?_⟩
  dsimp only at h1 h2 h3
  have hΓ : GSound Tryd.prog (look []) := env_nil
  have w1 : wid 1 (rowsF cStr lh) := rowsF_wid (f := cStr) (s := 1) (fun _ => rfl) lh
  have w2 : wid 1 (rowsF cBool lg) := rowsF_wid (f := cBool) (s := 1) (fun _ => rfl) lg
  simp only [initS, argPV, List.map_cons, List.map_nil, toPL, Nat.zero_add]
  repeat (first | with_reducible apply W.seq | with_reducible apply W.block | with_reducible apply W.skip | with_reducible apply W.exit | with_reducible apply W.ret | with_reducible apply At.seqN | with_reducible apply At.blkN | with_reducible apply At.blkE | with_reducible apply At.blkR | with_reducible apply At.thenX | with_reducible apply At.thenR | with_reducible apply At.blkX rfl | ((with_reducible apply W.ops); (repeat (first | refine WL.opA hΓ (h := ?_) | refine WL.opX hΓ (h := ?_) | refine WL.opY (h := ?_) | refine WL.opZ (h := ?_))); with_reducible apply WL.nil) | refine W.condT (h := ?_) | refine W.condF (h := ?_))
  refine At.retA (by rw [Tryd.results52]) (he := rfl)
theorem copyI_s : Sound Tryd.prog 46 mCopyS := by
  refine Sound.mdl Tryd.func46 rfl Tryd.ntmps46 ?_
  rintro ⟨r, c, lh, lg⟩ w ⟨h1, h2, h3⟩
  refine ⟨by simp, ?_⟩
  dsimp only at h1 h2 h3
  have hΓ : GSound Tryd.prog (look []) := env_nil
  have w1 : wid 1 (rowsF cStr lh) := rowsF_wid (f := cStr) (s := 1) (fun _ => rfl) lh
  have w2 : wid 1 (rowsF cBool lg) := rowsF_wid (f := cBool) (s := 1) (fun _ => rfl) lg
  simp only [initS, argPV, List.map_cons, List.map_nil, toPL, Nat.zero_add]
  repeat (first | with_reducible apply W.seq | with_reducible apply W.block | with_reducible apply W.skip | with_reducible apply W.exit | with_reducible apply W.ret | with_reducible apply At.seqN | with_reducible apply At.blkN | with_reducible apply At.blkE | with_reducible apply At.blkR | with_reducible apply At.thenX | with_reducible apply At.thenR | with_reducible apply At.blkX rfl | ((with_reducible apply W.ops); (repeat (first | refine WL.opA hΓ (h := ?_) | refine WL.opX hΓ (h := ?_) | refine WL.opY (h := ?_) | refine WL.opZ (h := ?_))); with_reducible apply WL.nil) | refine W.condT (h := ?_) | refine W.condF (h := ?_))
  refine At.retA (by rw [Tryd.results46]) (he := rfl)
/-- the piece is taken -/
def putOk (s : TSnap) (i : Int) (piece : ByteArray) (p : List ByteArray) : Prop := sOk s ∧ (0 ≤ i ∧ i < s.2.1) ∧ s.2.2.2.getD i.toNat true = false ∧ inclB s.1 piece i s.2.1 p = true
instance (s : TSnap) (i : Int) (piece : ByteArray) (p : List ByteArray) : Decidable (putOk s i piece p) := by unfold putOk; infer_instance
def putS (s : TSnap) (i : Int) (piece : ByteArray) (p : List ByteArray) : TSnap :=
  if putOk s i piece p then (s.1, s.2.1, s.2.2.1.set i.toNat piece, s.2.2.2.set i.toNat true) else if sOk s then s else (ByteArray.empty, 0, [], [])
theorem putS_yes {s : TSnap} {i : Int} {piece : ByteArray} {p : List ByteArray} (h : putOk s i piece p) : putS s i piece p = (s.1, s.2.1, s.2.2.1.set i.toNat piece, s.2.2.2.set i.toNat true) := if_pos h
theorem putS_same {s : TSnap} {i : Int} {piece : ByteArray} {p : List ByteArray} (h : ¬ putOk s i piece p) (hs : sOk s) : putS s i piece p = s := by unfold putS; rw [if_neg h, if_pos hs]
theorem putS_bad {s : TSnap} {i : Int} {piece : ByteArray} {p : List ByteArray} (hs : ¬ sOk s) : putS s i piece p = (ByteArray.empty, 0, [], []) := by unfold putS; rw [if_neg (fun h => hs h.1), if_neg hs]
theorem putS_le (s : TSnap) (i : Int) (piece : ByteArray) (p : List ByteArray) : (putS s i piece p).2.2.1.length ≤ s.2.2.1.length ∧ (putS s i piece p).2.2.2.length ≤ s.2.2.2.length := by
  unfold putS
  split
  · simp
  · split <;> simp
abbrev TPut := TSnap × Int × ByteArray × List ByteArray
abbrev encS (x : TPut) : List Arg := [aSnap x.1, aI x.2.1, aS x.2.2.1, aL cStr x.2.2.2]
theorem encS_inj : ∀ x y, encS x = encS y → x = y := by
  rintro ⟨⟨a, b, c, d⟩, e, f, g⟩ ⟨⟨a', b', c', d'⟩, e', f', g'⟩ h
  simp [encS, aSnap] at h
  simp [h]
abbrev okSP (x : TPut) : Prop := okS x.1 ∧ x.2.2.1.size ≤ 1048576 ∧ okT x.2.2.2
abbrev rPutO (s : TSnap) (b : Bool) : Res := .tup [(true, rowsSnap s), (false, [.ro (.sc (.bool b))])]
abbrev rPutN : Res := .tup [(true, [.ro (.sc (.string ByteArray.empty)), .ro (.sc (.int .i64 0)), .ro (.sl []), .ro (.sl [])]), (false, [.ro (.sc (.bool false))])]
abbrev rPut (x : TPut) : Res := if sOk x.1 then rPutO (putS x.1 x.2.1 x.2.2.1 x.2.2.2) (decide (putOk x.1 x.2.1 x.2.2.1 x.2.2.2)) else rPutN
theorem rPut_no {x : TPut} (h : ¬ sOk x.1) : rPut x = rPutN := if_neg h
theorem rPut_same {x : TPut} (h : sOk x.1) (hp : ¬ putOk x.1 x.2.1 x.2.2.1 x.2.2.2) : rPut x = rPutO x.1 false := by
  unfold rPut
  rw [if_pos h, putS_same hp h, decide_eq_false hp]
theorem rPut_yes {x : TPut} (hp : putOk x.1 x.2.1 x.2.2.1 x.2.2.2) : rPut x = rPutO (x.1.1, x.1.2.1, x.1.2.2.1.set x.2.1.toNat x.2.2.1, x.1.2.2.2.set x.2.1.toNat true) true := by
  unfold rPut
  rw [if_pos hp.1, putS_yes hp, decide_eq_true hp]
theorem row_bo {g : List Bool} {k : Nat} (h : k < g.length) : (rowsF cBool g)[k]? = some [.sc (.bool (g.getD k true))] := by
  rw [row_at cBool g h, List.getD_eq_getElem?_getD, List.getElem?_eq_getElem h]
  rfl
theorem putS_s : Sound Tryd.prog 28 (mdl okSP encS rPut) := by
  refine Sound.mdl Tryd.func28 rfl Tryd.ntmps28 ?_
  rintro ⟨⟨r, c, lh, lg⟩, i, piece, p⟩ w ⟨⟨h1, h2, h3⟩, h4, h5⟩
  refine ⟨by simp, ?_⟩
  dsimp only at h1 h2 h3 h4 h5
  have hΓ : GSound Tryd.prog (look [(25, mSnapOk), (52, mCopyS), (23, mIncl)]) := env_cons (has_of Tryd.func25 rfl rfl) snapOkS_s (env_cons (has_of Tryd.func52 rfl rfl) copyS_s (env_cons (has_of Tryd.func23 rfl rfl) inclS_s env_nil))
  have c1 := mSnapOk_eq (r, c, lh, lg) ⟨h1, h2, h3⟩
  have c2 := mCopyS_eq (r, c, lh, lg) ⟨h1, h2, h3⟩
  have c3 := mIncl_eq r piece i c p h4 h5
  dsimp only [aSnap, rSnap, rowsSnap] at c1 c2
  have hl1 := rowsF_len cStr lh
  have hl2 := rowsF_len cBool lg
  clear h5
  by_cases hs : sOk (r, c, lh, lg)
  · rw [decide_eq_true hs] at c1
    have hc1 : (lh.length : Int) = c := hs.2.2.1
    have hc2 : (lg.length : Int) = c := hs.2.2.2.1
    by_cases hi : 0 ≤ i ∧ i < c
    · obtain ⟨k, rfl⟩ := Int.eq_ofNat_of_zero_le hi.1
      have hk1 : k < lh.length := by omega
      have hk2 : k < lg.length := by omega
      have hrow := row_bo hk2
      have c5 := mWithin_eq (k : Int) 0 (c - 1)
      cases hg : lg.getD k true with
      | true =>
        have hno : ¬ putOk (r, c, lh, lg) (k : Int) piece p := fun h => by
          have := h.2.2.1
          dsimp only at this
          rw [Int.toNat_natCast, hg] at this
          cases this
        have hv := rPut_same (x := ((r, c, lh, lg), (k : Int), piece, p)) hs hno
        rw [hg] at hrow
        clear hs hno
        simp only [initS, argPV, List.map_cons, List.map_nil, toPL, Nat.zero_add]
        repeat (first | with_reducible apply W.seq | with_reducible apply W.block | with_reducible apply W.skip | with_reducible apply W.exit | with_reducible apply W.ret | with_reducible apply At.seqN | with_reducible apply At.blkN | with_reducible apply At.blkE | with_reducible apply At.blkR | with_reducible apply At.thenX | with_reducible apply At.thenR | with_reducible apply At.blkX rfl | ((with_reducible apply W.ops); (repeat (first | refine WL.opA hΓ (h := ?_) | refine WL.opX hΓ (h := ?_) | refine WL.opY (h := ?_) | refine WL.opZ (h := ?_))); with_reducible apply WL.nil) | refine W.condT (h := ?_) | refine W.condF (h := ?_))
        refine At.retA (by rw [Tryd.results28]) (he := ?_)
        rw [hv]
      | false =>
        rw [hg] at hrow
        cases hb : inclB r piece (k : Int) c p with
        | false =>
          rw [hb] at c3
          have hno : ¬ putOk (r, c, lh, lg) (k : Int) piece p := fun h => by
            have := h.2.2.2
            dsimp only at this
            rw [hb] at this
            cases this
          have hv := rPut_same (x := ((r, c, lh, lg), (k : Int), piece, p)) hs hno
          clear hs hno
          simp only [initS, argPV, List.map_cons, List.map_nil, toPL, Nat.zero_add]
          repeat (first | with_reducible apply W.seq | with_reducible apply W.block | with_reducible apply W.skip | with_reducible apply W.exit | with_reducible apply W.ret | with_reducible apply At.seqN | with_reducible apply At.blkN | with_reducible apply At.blkE | with_reducible apply At.blkR | with_reducible apply At.thenX | with_reducible apply At.thenR | with_reducible apply At.blkX rfl | ((with_reducible apply W.ops); (repeat (first | refine WL.opA hΓ (h := ?_) | refine WL.opX hΓ (h := ?_) | refine WL.opY (h := ?_) | refine WL.opZ (h := ?_))); with_reducible apply WL.nil) | refine W.condT (h := ?_) | refine W.condF (h := ?_))
          refine At.retA (by rw [Tryd.results28]) (he := ?_)
          rw [hv]
        | true =>
          rw [hb] at c3
          have hp : putOk (r, c, lh, lg) (k : Int) piece p := ⟨hs, hi, by dsimp only; rw [Int.toNat_natCast]; exact hg, hb⟩
          have hv := rPut_yes (x := ((r, c, lh, lg), (k : Int), piece, p)) hp
          have s1 : (rowsF cStr lh).set k [.sc (.string piece)] = rowsF cStr (lh.set k piece) := rowsF_set cStr lh k piece
          have s2 : (rowsF cBool lg).set k [.sc (.bool true)] = rowsF cBool (lg.set k true) := rowsF_set cBool lg k true
          have ho := row_s hk1
          clear hs hp
          simp only [initS, argPV, List.map_cons, List.map_nil, toPL, Nat.zero_add]
          repeat (first | with_reducible apply W.seq | with_reducible apply W.block | with_reducible apply W.skip | with_reducible apply W.exit | with_reducible apply W.ret | with_reducible apply At.seqN | with_reducible apply At.blkN | with_reducible apply At.blkE | with_reducible apply At.blkR | with_reducible apply At.thenX | with_reducible apply At.thenR | with_reducible apply At.blkX rfl | ((with_reducible apply W.ops); (repeat (first | refine WL.opA hΓ (h := ?_) | refine WL.opX hΓ (h := ?_) | refine WL.opY (h := ?_) | refine WL.opZ (h := ?_))); with_reducible apply WL.nil) | refine W.condT (h := ?_) | refine W.condF (h := ?_))
          refine At.retA (by rw [Tryd.results28]) (he := ?_)
          rw [hv]
          simp only [Int.toNat_natCast]
    · have hno : ¬ putOk (r, c, lh, lg) i piece p := fun h => hi h.2.1
      have hv := rPut_same (x := ((r, c, lh, lg), i, piece, p)) hs hno
      clear hs hno
      by_cases hneg : i < 0
      · simp only [initS, argPV, List.map_cons, List.map_nil, toPL, Nat.zero_add]
        repeat (first | with_reducible apply W.seq | with_reducible apply W.block | with_reducible apply W.skip | with_reducible apply W.exit | with_reducible apply W.ret | with_reducible apply At.seqN | with_reducible apply At.blkN | with_reducible apply At.blkE | with_reducible apply At.blkR | with_reducible apply At.thenX | with_reducible apply At.thenR | with_reducible apply At.blkX rfl | ((with_reducible apply W.ops); (repeat (first | refine WL.opA hΓ (h := ?_) | refine WL.opX hΓ (h := ?_) | refine WL.opY (h := ?_) | refine WL.opZ (h := ?_))); with_reducible apply WL.nil) | refine W.condT (h := ?_) | refine W.condF (h := ?_))
        refine At.retA (by rw [Tryd.results28]) (he := ?_)
        rw [hv]
      · simp only [initS, argPV, List.map_cons, List.map_nil, toPL, Nat.zero_add]
        repeat (first | with_reducible apply W.seq | with_reducible apply W.block | with_reducible apply W.skip | with_reducible apply W.exit | with_reducible apply W.ret | with_reducible apply At.seqN | with_reducible apply At.blkN | with_reducible apply At.blkE | with_reducible apply At.blkR | with_reducible apply At.thenX | with_reducible apply At.thenR | with_reducible apply At.blkX rfl | ((with_reducible apply W.ops); (repeat (first | refine WL.opA hΓ (h := ?_) | refine WL.opX hΓ (h := ?_) | refine WL.opY (h := ?_) | refine WL.opZ (h := ?_))); with_reducible apply WL.nil) | refine W.condT (h := ?_) | refine W.condF (h := ?_))
        refine At.retA (by rw [Tryd.results28]) (he := ?_)
        rw [hv]
  · rw [decide_eq_false hs] at c1
    have hv := rPut_no (x := ((r, c, lh, lg), i, piece, p)) hs
    have hem : (⟨#[]⟩ : ByteArray) = ByteArray.empty := rfl
    clear hs
    simp only [initS, argPV, List.map_cons, List.map_nil, toPL, Nat.zero_add]
    repeat (first | with_reducible apply W.seq | with_reducible apply W.block | with_reducible apply W.skip | with_reducible apply W.exit | with_reducible apply W.ret | with_reducible apply At.seqN | with_reducible apply At.blkN | with_reducible apply At.blkE | with_reducible apply At.blkR | with_reducible apply At.thenX | with_reducible apply At.thenR | with_reducible apply At.blkX rfl | ((with_reducible apply W.ops); (repeat (first | refine WL.opA hΓ (h := ?_) | refine WL.opX hΓ (h := ?_) | refine WL.opY (h := ?_) | refine WL.opZ (h := ?_))); with_reducible apply WL.nil) | refine W.condT (h := ?_) | refine W.condF (h := ?_))
    refine At.retA (by rw [Tryd.results28]) (he := ?_)
    rw [hv]
theorem putI_s : Sound Tryd.prog 21 (mdl okSP encS rPut) := by
  refine Sound.mdl Tryd.func21 rfl Tryd.ntmps21 ?_
  rintro ⟨⟨r, c, lh, lg⟩, i, piece, p⟩ w ⟨⟨h1, h2, h3⟩, h4, h5⟩
  refine ⟨by simp, ?_⟩
  dsimp only at h1 h2 h3 h4 h5
  have hΓ : GSound Tryd.prog (look [(45, mSnapOk), (46, mCopyS), (47, mIncl), (31, mWithin)]) := env_cons (has_of Tryd.func45 rfl rfl) snapOkI_s (env_cons (has_of Tryd.func46 rfl rfl) copyI_s (env_cons (has_of Tryd.func47 rfl rfl) inclI_s (env_cons (has_of Tryd.func31 rfl rfl) within_s env_nil)))
  have c1 := mSnapOk_eq (r, c, lh, lg) ⟨h1, h2, h3⟩
  have c2 := mCopyS_eq (r, c, lh, lg) ⟨h1, h2, h3⟩
  have c3 := mIncl_eq r piece i c p h4 h5
  dsimp only [aSnap, rSnap, rowsSnap] at c1 c2
  have hl1 := rowsF_len cStr lh
  have hl2 := rowsF_len cBool lg
  clear h5
  by_cases hs : sOk (r, c, lh, lg)
  · rw [decide_eq_true hs] at c1
    have hc1 : (lh.length : Int) = c := hs.2.2.1
    have hc2 : (lg.length : Int) = c := hs.2.2.2.1
    by_cases hi : 0 ≤ i ∧ i < c
    · obtain ⟨k, rfl⟩ := Int.eq_ofNat_of_zero_le hi.1
      have hk1 : k < lh.length := by omega
      have hk2 : k < lg.length := by omega
      have hrow := row_bo hk2
      have c5 := mWithin_eq (k : Int) 0 (c - 1)
      cases hg : lg.getD k true with
      | true =>
        have hno : ¬ putOk (r, c, lh, lg) (k : Int) piece p := fun h => by
          have := h.2.2.1
          dsimp only at this
          rw [Int.toNat_natCast, hg] at this
          cases this
        have hv := rPut_same (x := ((r, c, lh, lg), (k : Int), piece, p)) hs hno
        rw [hg] at hrow
        clear hs hno
        simp only [initS, argPV, List.map_cons, List.map_nil, toPL, Nat.zero_add]
        repeat (first | with_reducible apply W.seq | with_reducible apply W.block | with_reducible apply W.skip | with_reducible apply W.exit | with_reducible apply W.ret | with_reducible apply At.seqN | with_reducible apply At.blkN | with_reducible apply At.blkE | with_reducible apply At.blkR | with_reducible apply At.thenX | with_reducible apply At.thenR | with_reducible apply At.blkX rfl | ((with_reducible apply W.ops); (repeat (first | refine WL.opA hΓ (h := ?_) | refine WL.opX hΓ (h := ?_) | refine WL.opY (h := ?_) | refine WL.opZ (h := ?_))); with_reducible apply WL.nil) | refine W.condT (h := ?_) | refine W.condF (h := ?_))
        refine At.retA (by rw [Tryd.results21]) (he := ?_)
        rw [hv]
      | false =>
        rw [hg] at hrow
        cases hb : inclB r piece (k : Int) c p with
        | false =>
          rw [hb] at c3
          have hno : ¬ putOk (r, c, lh, lg) (k : Int) piece p := fun h => by
            have := h.2.2.2
            dsimp only at this
            rw [hb] at this
            cases this
          have hv := rPut_same (x := ((r, c, lh, lg), (k : Int), piece, p)) hs hno
          clear hs hno
          simp only [initS, argPV, List.map_cons, List.map_nil, toPL, Nat.zero_add]
          repeat (first | with_reducible apply W.seq | with_reducible apply W.block | with_reducible apply W.skip | with_reducible apply W.exit | with_reducible apply W.ret | with_reducible apply At.seqN | with_reducible apply At.blkN | with_reducible apply At.blkE | with_reducible apply At.blkR | with_reducible apply At.thenX | with_reducible apply At.thenR | with_reducible apply At.blkX rfl | ((with_reducible apply W.ops); (repeat (first | refine WL.opA hΓ (h := ?_) | refine WL.opX hΓ (h := ?_) | refine WL.opY (h := ?_) | refine WL.opZ (h := ?_))); with_reducible apply WL.nil) | refine W.condT (h := ?_) | refine W.condF (h := ?_))
          refine At.retA (by rw [Tryd.results21]) (he := ?_)
          rw [hv]
        | true =>
          rw [hb] at c3
          have hp : putOk (r, c, lh, lg) (k : Int) piece p := ⟨hs, hi, by dsimp only; rw [Int.toNat_natCast]; exact hg, hb⟩
          have hv := rPut_yes (x := ((r, c, lh, lg), (k : Int), piece, p)) hp
          have s1 : (rowsF cStr lh).set k [.sc (.string piece)] = rowsF cStr (lh.set k piece) := rowsF_set cStr lh k piece
          have s2 : (rowsF cBool lg).set k [.sc (.bool true)] = rowsF cBool (lg.set k true) := rowsF_set cBool lg k true
          have ho := row_s hk1
          clear hs hp
          simp only [initS, argPV, List.map_cons, List.map_nil, toPL, Nat.zero_add]
          repeat (first | with_reducible apply W.seq | with_reducible apply W.block | with_reducible apply W.skip | with_reducible apply W.exit | with_reducible apply W.ret | with_reducible apply At.seqN | with_reducible apply At.blkN | with_reducible apply At.blkE | with_reducible apply At.blkR | with_reducible apply At.thenX | with_reducible apply At.thenR | with_reducible apply At.blkX rfl | ((with_reducible apply W.ops); (repeat (first | refine WL.opA hΓ (h := ?_) | refine WL.opX hΓ (h := ?_) | refine WL.opY (h := ?_) | refine WL.opZ (h := ?_))); with_reducible apply WL.nil) | refine W.condT (h := ?_) | refine W.condF (h := ?_))
          refine At.retA (by rw [Tryd.results21]) (he := ?_)
          rw [hv]
          simp only [Int.toNat_natCast]
    · have hno : ¬ putOk (r, c, lh, lg) i piece p := fun h => hi h.2.1
      have hv := rPut_same (x := ((r, c, lh, lg), i, piece, p)) hs hno
      clear hs hno
      have c5 := mWithin_eq i 0 (c - 1)
      have hi2 : ¬ (0 ≤ i ∧ i ≤ c - 1) := fun h => hi ⟨h.1, by omega⟩
      simp only [initS, argPV, List.map_cons, List.map_nil, toPL, Nat.zero_add]
      repeat (first | with_reducible apply W.seq | with_reducible apply W.block | with_reducible apply W.skip | with_reducible apply W.exit | with_reducible apply W.ret | with_reducible apply At.seqN | with_reducible apply At.blkN | with_reducible apply At.blkE | with_reducible apply At.blkR | with_reducible apply At.thenX | with_reducible apply At.thenR | with_reducible apply At.blkX rfl | ((with_reducible apply W.ops); (repeat (first | refine WL.opA hΓ (h := ?_) | refine WL.opX hΓ (h := ?_) | refine WL.opY (h := ?_) | refine WL.opZ (h := ?_))); with_reducible apply WL.nil) | refine W.condT (h := ?_) | refine W.condF (h := ?_))
      refine At.retA (by rw [Tryd.results21]) (he := ?_)
      rw [hv]
  · rw [decide_eq_false hs] at c1
    have hv := rPut_no (x := ((r, c, lh, lg), i, piece, p)) hs
    have hem : (⟨#[]⟩ : ByteArray) = ByteArray.empty := rfl
    clear hs
    simp only [initS, argPV, List.map_cons, List.map_nil, toPL, Nat.zero_add]
    repeat (first | with_reducible apply W.seq | with_reducible apply W.block | with_reducible apply W.skip | with_reducible apply W.exit | with_reducible apply W.ret | with_reducible apply At.seqN | with_reducible apply At.blkN | with_reducible apply At.blkE | with_reducible apply At.blkR | with_reducible apply At.thenX | with_reducible apply At.thenR | with_reducible apply At.blkX rfl | ((with_reducible apply W.ops); (repeat (first | refine WL.opA hΓ (h := ?_) | refine WL.opX hΓ (h := ?_) | refine WL.opY (h := ?_) | refine WL.opZ (h := ?_))); with_reducible apply WL.nil) | refine W.condT (h := ?_) | refine W.condF (h := ?_))
    refine At.retA (by rw [Tryd.results21]) (he := ?_)
    rw [hv]

end Go.Proofs.YteaohgacgcjkjaaDoor
