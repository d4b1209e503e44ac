/-
  SnapPut of both programs.
-/
import Derived.Test.YtilgmdgipeimaaaDoorEvPRoot
import Derived.Test.YtilgmdgipeimaaaDoorEvOldPath
import Derived.Test.YtilgmdgipeimaaaDoorSnapOk
import Derived.Test.YtilgmdgipeimaaaDoorSnap
namespace Go.Proofs.YtilgmdgipeimaaaDoor
set_option maxRecDepth 100000
set_option linter.unusedVariables false
set_option linter.unusedSimpArgs false
open Go Go.RowKit
set_option maxHeartbeats 4000000

abbrev TSnap := ByteArray × Int × List ByteArray × List Bool
abbrev aSnap (s : TSnap) : Arg := .val true [.sc (.string s.1), .sc (.int .i64 s.2.1), .sl (rowsF cStr s.2.2.1), .sl (rowsF cBool s.2.2.2)]
abbrev okS (s : TSnap) : Prop := s.1.size ≤ 1048576 ∧ s.2.2.1.length ≤ 1048576 ∧ s.2.2.2.length ≤ 1048576
def sOk (s : TSnap) : Prop := snapOk s.1 s.2.1 s.2.2.1 s.2.2.2
instance (s : TSnap) : Decidable (sOk s) := by unfold sOk; infer_instance
theorem snap_rep {w : World} {s : TSnap} {u : Value} (h : RepA w (aSnap s) u) : ∃ vh vg, u = .agg #[.string s.1, .int .i64 s.2.1, vh, vg] ∧ RdS w w.heap.size 1 cStr vh s.2.2.1 ∧ RdS w w.heap.size 1 cBool vg s.2.2.2 := by
  obtain ⟨us, rfl, hl, hg⟩ := h
  match us, hl with
  | [u0, u1, u2, u3], _ =>
    obtain ⟨x0, e0, r0⟩ := hg 0 _ rfl
    obtain ⟨x1, e1, r1⟩ := hg 1 _ rfl
    obtain ⟨x2, e2, r2⟩ := hg 2 _ rfl
    obtain ⟨x3, e3, r3⟩ := hg 3 _ rfl
    cases e0; cases e1; cases e2; cases e3
    cases r0; cases r1
    exact ⟨_, _, rfl, rep_RdS (fun _ => rfl) r2, rep_RdS (fun _ => rfl) r3⟩
theorem snap_arg {w : World} {s : TSnap} {vh vg : Value} (h1 : RdS w w.heap.size 1 cStr vh s.2.2.1) (h2 : RdS w w.heap.size 1 cBool vg s.2.2.2) : RepA w (aSnap s) (.agg #[.string s.1, .int .i64 s.2.1, vh, vg]) := by
  refine ⟨[.string s.1, .int .i64 s.2.1, vh, vg], rfl, rfl, fun j l hj => ?_⟩
  match j, hj with
  | 0, hj => cases hj; exact ⟨_, rfl, .sc rfl⟩
  | 1, hj => cases hj; exact ⟨_, rfl, .sc rfl⟩
  | 2, hj => cases hj; exact ⟨_, rfl, h1.rep (fun _ => rfl) cStr_one⟩
  | 3, hj => cases hj; exact ⟨_, rfl, h2.rep (fun _ => rfl) cBool_one⟩
  | j + 4, hj => simp at hj
theorem aSnap_inj : ∀ x y : TSnap, [aSnap x] = [aSnap y] → x = y := by
  rintro ⟨a, b, c, d⟩ ⟨a', b', c', d'⟩ h
  simpa [aSnap] using h
noncomputable def mSnapOk := mdl okS (fun s => [aSnap s]) (fun s => rB (decide (sOk s)))
theorem mSnapOk_eq (s : TSnap) (h : okS s) : mSnapOk [aSnap s] = some (rB (decide (sOk s))) := mdl_eq aSnap_inj s h
theorem snapOkS_s : Sound Tryd.prog 52 mSnapOk := Sound.says (fun _ => rfl) fun s vs w hok hr => by
  obtain ⟨v, rfl, h2⟩ := RepAs.one hr
  obtain ⟨vh, vg, rfl, h3, h4⟩ := snap_rep h2
  exact (snapOk_spec s.1 s.2.1 vh vg s.2.2.1 s.2.2.2 w h3 h4 hok.1 hok.2.1 hok.2.2).mono fun e w' hq => hq
theorem snapOkI_s : Sound Tryd.prog 83 mSnapOk := Sound.says (fun _ => rfl) fun s vs w hok hr => by
  obtain ⟨v, rfl, h2⟩ := RepAs.one hr
  obtain ⟨vh, vg, rfl, h3, h4⟩ := snap_rep h2
  exact (snapOk_impl s.1 s.2.1 vh vg s.2.2.1 s.2.2.2 w h3 h4 hok.1 hok.2.1 hok.2.2).mono fun e w' hq => hq


abbrev rowsSnap (s : TSnap) : List RL := [.ro (.sc (.string s.1)), .ro (.sc (.int .i64 s.2.1)), .own true 9 1 (rowsF cStr s.2.2.1), .own true 4 1 (rowsF cBool s.2.2.2)]
abbrev rSnap (s : TSnap) : Res := .comp true (rowsSnap s)
noncomputable def mCopyS := mdl okS (fun s => [aSnap s]) (fun s => rSnap s)
theorem mCopyS_eq (s : TSnap) (h : okS s) : mCopyS [aSnap s] = some (rSnap s) := mdl_eq aSnap_inj s h
theorem copyS_s : Sound Tryd.prog 81 mCopyS := by
  refine Sound.mdl Tryd.func81 rfl Tryd.ntmps81 ?_
  rintro ⟨r, c, lh, lg⟩ w ⟨h1, h2, h3⟩
  refine ⟨by simp, ?_⟩
  dsimp only at h1 h2 h3
  have hΓ : GSound Tryd.prog (look []) := env_nil
  have w1 : wid 1 (rowsF cStr lh) := rowsF_wid (f := cStr) (s := 1) (fun _ => rfl) lh
  have w2 : wid 1 (rowsF cBool lg) := rowsF_wid (f := cBool) (s := 1) (fun _ => rfl) lg
  simp only [initS, argPV, List.map_cons, List.map_nil, toPL, Nat.zero_add]
  repeat (first | with_reducible apply W.seq | with_reducible apply W.block | with_reducible apply W.skip | with_reducible apply W.exit | with_reducible apply W.ret | with_reducible apply At.seqN | with_reducible apply At.blkN | with_reducible apply At.blkE | with_reducible apply At.blkR | with_reducible apply At.thenX | with_reducible apply At.thenR | with_reducible apply At.blkX rfl | ((with_reducible apply W.ops); (repeat (first | refine WL.opA hΓ (h := ?_) | refine WL.opX hΓ (h := ?_) | refine WL.opY (h := ?_) | refine WL.opZ (h := ?_))); with_reducible apply WL.nil) | refine W.condT (h := ?_) | refine W.condF (h := ?_))
  refine At.retA (by rw [Tryd.results81]) (he := rfl)
theorem copyI_s : Sound Tryd.prog 84 mCopyS := by
  refine Sound.mdl Tryd.func84 rfl Tryd.ntmps84 ?_
  rintro ⟨r, c, lh, lg⟩ w ⟨h1, h2, h3⟩
  refine ⟨by simp, ?_⟩
  dsimp only at h1 h2 h3
  have hΓ : GSound Tryd.prog (look []) := env_nil
  have w1 : wid 1 (rowsF cStr lh) := rowsF_wid (f := cStr) (s := 1) (fun _ => rfl) lh
  have w2 : wid 1 (rowsF cBool lg) := rowsF_wid (f := cBool) (s := 1) (fun _ => rfl) lg
  simp only [initS, argPV, List.map_cons, List.map_nil, toPL, Nat.zero_add]
  repeat (first | with_reducible apply W.seq | with_reducible apply W.block | with_reducible apply W.skip | with_reducible apply W.exit | with_reducible apply W.ret | with_reducible apply At.seqN | with_reducible apply At.blkN | with_reducible apply At.blkE | with_reducible apply At.blkR | with_reducible apply At.thenX | with_reducible apply At.thenR | with_reducible apply At.blkX rfl | ((with_reducible apply W.ops); (repeat (first | refine WL.opA hΓ (h := ?_) | refine WL.opX hΓ (h := ?_) | refine WL.opY (h := ?_) | refine WL.opZ (h := ?_))); with_reducible apply WL.nil) | refine W.condT (h := ?_) | refine W.condF (h := ?_))
  refine At.retA (by rw [Tryd.results84]) (he := rfl)
/-- the piece is taken -/
def putOk (s : TSnap) (i : Int) (piece : ByteArray) (p : List ByteArray) : Prop := sOk s ∧ (0 ≤ i ∧ i < s.2.1) ∧ s.2.2.2.getD i.toNat true = false ∧ inclB s.1 piece i s.2.1 p = true
instance (s : TSnap) (i : Int) (piece : ByteArray) (p : List ByteArray) : Decidable (putOk s i piece p) := by unfold putOk; infer_instance
def putS (s : TSnap) (i : Int) (piece : ByteArray) (p : List ByteArray) : TSnap :=
  if putOk s i piece p then (s.1, s.2.1, s.2.2.1.set i.toNat piece, s.2.2.2.set i.toNat true) else if sOk s then s else (ByteArray.empty, 0, [], [])
theorem putS_yes {s : TSnap} {i : Int} {piece : ByteArray} {p : List ByteArray} (h : putOk s i piece p) : putS s i piece p = (s.1, s.2.1, s.2.2.1.set i.toNat piece, s.2.2.2.set i.toNat true) := if_pos h
theorem putS_same {s : TSnap} {i : Int} {piece : ByteArray} {p : List ByteArray} (h : ¬ putOk s i piece p) (hs : sOk s) : putS s i piece p = s := by unfold putS; rw [if_neg h, if_pos hs]
theorem putS_bad {s : TSnap} {i : Int} {piece : ByteArray} {p : List ByteArray} (hs : ¬ sOk s) : putS s i piece p = (ByteArray.empty, 0, [], []) := by unfold putS; rw [if_neg (fun h => hs h.1), if_neg hs]
theorem putS_le (s : TSnap) (i : Int) (piece : ByteArray) (p : List ByteArray) : (putS s i piece p).2.2.1.length ≤ s.2.2.1.length ∧ (putS s i piece p).2.2.2.length ≤ s.2.2.2.length := by
  unfold putS
  split
  · simp
  · split <;> simp
abbrev TPut := TSnap × Int × ByteArray × List ByteArray
abbrev encS (x : TPut) : List Arg := [aSnap x.1, aI x.2.1, aS x.2.2.1, aL cStr x.2.2.2]
theorem encS_inj : ∀ x y, encS x = encS y → x = y := by
  rintro ⟨⟨a, b, c, d⟩, e, f, g⟩ ⟨⟨a', b', c', d'⟩, e', f', g'⟩ h
  simp [encS, aSnap] at h
  simp [h]
abbrev okSP (x : TPut) : Prop := okS x.1 ∧ x.2.2.1.size ≤ 1048576 ∧ okT x.2.2.2
abbrev rPutO (s : TSnap) (b : Bool) : Res := .tup [(true, rowsSnap s), (false, [.ro (.sc (.bool b))])]
abbrev rPutN : Res := .tup [(true, [.ro (.sc (.string ByteArray.empty)), .ro (.sc (.int .i64 0)), .ro (.sl []), .ro (.sl [])]), (false, [.ro (.sc (.bool false))])]
abbrev rPut (x : TPut) : Res := if sOk x.1 then rPutO (putS x.1 x.2.1 x.2.2.1 x.2.2.2) (decide (putOk x.1 x.2.1 x.2.2.1 x.2.2.2)) else rPutN
theorem rPut_no {x : TPut} (h : ¬ sOk x.1) : rPut x = rPutN := if_neg h
theorem rPut_same {x : TPut} (h : sOk x.1) (hp : ¬ putOk x.1 x.2.1 x.2.2.1 x.2.2.2) : rPut x = rPutO x.1 false := by
  unfold rPut
  rw [if_pos h, putS_same hp h, decide_eq_false hp]
theorem rPut_yes {x : TPut} (hp : putOk x.1 x.2.1 x.2.2.1 x.2.2.2) : rPut x = rPutO (x.1.1, x.1.2.1, x.1.2.2.1.set x.2.1.toNat x.2.2.1, x.1.2.2.2.set x.2.1.toNat true) true := by
  unfold rPut
  rw [if_pos hp.1, putS_yes hp, decide_eq_true hp]
theorem row_bo {g : List Bool} {k : Nat} (h : k < g.length) : (rowsF cBool g)[k]? = some [.sc (.bool (g.getD k true))] := by
  rw [row_at cBool g h, List.getD_eq_getElem?_getD, List.getElem?_eq_getElem h]
  rfl
theorem putS_s : Sound Tryd.prog 39 (mdl okSP encS rPut) := by
  refine Sound.mdl Tryd.func39 rfl Tryd.ntmps39 ?_
  rintro ⟨⟨r, c, lh, lg⟩, i, piece, p⟩ w ⟨⟨h1, h2, h3⟩, h4, h5⟩
  refine ⟨by simp, ?_⟩
  dsimp only at h1 h2 h3 h4 h5
  have hΓ : GSound Tryd.prog (look [(52, mSnapOk), (81, mCopyS), (50, mIncl)]) := env_cons (has_of Tryd.func52 rfl rfl) snapOkS_s (env_cons (has_of Tryd.func81 rfl rfl) copyS_s (env_cons (has_of Tryd.func50 rfl rfl) inclS_s env_nil))
  have c1 := mSnapOk_eq (r, c, lh, lg) ⟨h1, h2, h3⟩
  have c2 := mCopyS_eq (r, c, lh, lg) ⟨h1, h2, h3⟩
  have c3 := mIncl_eq r piece i c p h4 h5
  dsimp only [aSnap, rSnap, rowsSnap] at c1 c2
  have hl1 := rowsF_len cStr lh
  have hl2 := rowsF_len cBool lg
  clear h5
  by_cases hs : sOk (r, c, lh, lg)
  · rw [decide_eq_true hs] at c1
    have hc1 : (lh.length : Int) = c := hs.2.2.1
    have hc2 : (lg.length : Int) = c := hs.2.2.2.1
    by_cases hi : 0 ≤ i ∧ i < c
    · obtain ⟨k, rfl⟩ := Int.eq_ofNat_of_zero_le hi.1
      have hk1 : k < lh.length := by omega
      have hk2 : k < lg.length := by omega
      have hrow := row_bo hk2
      have c5 := mWithin_eq (k : Int) 0 (c - 1)
      cases hg : lg.getD k true with
      | true =>
        have hno : ¬ putOk (r, c, lh, lg) (k : Int) piece p := fun h => by
          have := h.2.2.1
          dsimp only at this
          rw [Int.toNat_natCast, hg] at this
          cases this
        have hv := rPut_same (x := ((r, c, lh, lg), (k : Int), piece, p)) hs hno
        rw [hg] at hrow
        clear hs hno
        simp only [initS, argPV, List.map_cons, List.map_nil, toPL, Nat.zero_add]
        repeat (first | with_reducible apply W.seq | with_reducible apply W.block | with_reducible apply W.skip | with_reducible apply W.exit | with_reducible apply W.ret | with_reducible apply At.seqN | with_reducible apply At.blkN | with_reducible apply At.blkE | with_reducible apply At.blkR | with_reducible apply At.thenX | with_reducible apply At.thenR | with_reducible apply At.blkX rfl | ((with_reducible apply W.ops); (repeat (first | refine WL.opA hΓ (h := ?_) | refine WL.opX hΓ (h := ?_) | refine WL.opY (h := ?_) | refine WL.opZ (h := ?_))); with_reducible apply WL.nil) | refine W.condT (h := ?_) | refine W.condF (h := ?_))
        refine At.retA (by rw [Tryd.results39]) (he := ?_)
        rw [hv]
      | false =>
        rw [hg] at hrow
        cases hb : inclB r piece (k : Int) c p with
        | false =>
          rw [hb] at c3
          have hno : ¬ putOk (r, c, lh, lg) (k : Int) piece p := fun h => by
            have := h.2.2.2
            dsimp only at this
            rw [hb] at this
            cases this
          have hv := rPut_same (x := ((r, c, lh, lg), (k : Int), piece, p)) hs hno
          clear hs hno
          simp only [initS, argPV, List.map_cons, List.map_nil, toPL, Nat.zero_add]
          repeat (first | with_reducible apply W.seq | with_reducible apply W.block | with_reducible apply W.skip | with_reducible apply W.exit | with_reducible apply W.ret | with_reducible apply At.seqN | with_reducible apply At.blkN | with_reducible apply At.blkE | with_reducible apply At.blkR | with_reducible apply At.thenX | with_reducible apply At.thenR | with_reducible apply At.blkX rfl | ((with_reducible apply W.ops); (repeat (first | refine WL.opA hΓ (h := ?_) | refine WL.opX hΓ (h := ?_) | refine WL.opY (h := ?_) | refine WL.opZ (h := ?_))); with_reducible apply WL.nil) | refine W.condT (h := ?_) | refine W.condF (h := ?_))
          refine At.retA (by rw [Tryd.results39]) (he := ?_)
          rw [hv]
        | true =>
          rw [hb] at c3
          have hp : putOk (r, c, lh, lg) (k : Int) piece p := ⟨hs, hi, by dsimp only; rw [Int.toNat_natCast]; exact hg, hb⟩
          have hv := rPut_yes (x := ((r, c, lh, lg), (k : Int), piece, p)) hp
          have s1 : (rowsF cStr lh).set k [.sc (.string piece)] = rowsF cStr (lh.set k piece) := rowsF_set cStr lh k piece
          have s2 : (rowsF cBool lg).set k [.sc (.bool true)] = rowsF cBool (lg.set k true) := rowsF_set cBool lg k true
          have ho := row_s hk1
          clear hs hp
          simp only [initS, argPV, List.map_cons, List.map_nil, toPL, Nat.zero_add]
          repeat (first | with_reducible apply W.seq | with_reducible apply W.block | with_reducible apply W.skip | with_reducible apply W.exit | with_reducible apply W.ret | with_reducible apply At.seqN | with_reducible apply At.blkN | with_reducible apply At.blkE | with_reducible apply At.blkR | with_reducible apply At.thenX | with_reducible apply At.thenR | with_reducible apply At.blkX rfl | ((with_reducible apply W.ops); (repeat (first | refine WL.opA hΓ (h := ?_) | refine WL.opX hΓ (h := ?_) | refine WL.opY (h := ?_) | refine WL.opZ (h := ?_))); with_reducible apply WL.nil) | refine W.condT (h := ?_) | refine W.condF (h := ?_))
          refine At.retA (by rw [Tryd.results39]) (he := ?_)
          rw [hv]
          simp only [Int.toNat_natCast]
    · have hno : ¬ putOk (r, c, lh, lg) i piece p := fun h => hi h.2.1
      have hv := rPut_same (x := ((r, c, lh, lg), i, piece, p)) hs hno
      clear hs hno
      by_cases hneg : i < 0
      · simp only [initS, argPV, List.map_cons, List.map_nil, toPL, Nat.zero_add]
        repeat (first | with_reducible apply W.seq | with_reducible apply W.block | with_reducible apply W.skip | with_reducible apply W.exit | with_reducible apply W.ret | with_reducible apply At.seqN | with_reducible apply At.blkN | with_reducible apply At.blkE | with_reducible apply At.blkR | with_reducible apply At.thenX | with_reducible apply At.thenR | with_reducible apply At.blkX rfl | ((with_reducible apply W.ops); (repeat (first | refine WL.opA hΓ (h := ?_) | refine WL.opX hΓ (h := ?_) | refine WL.opY (h := ?_) | refine WL.opZ (h := ?_))); with_reducible apply WL.nil) | refine W.condT (h := ?_) | refine W.condF (h := ?_))
        refine At.retA (by rw [Tryd.results39]) (he := ?_)
        rw [hv]
      · simp only [initS, argPV, List.map_cons, List.map_nil, toPL, Nat.zero_add]
        repeat (first | with_reducible apply W.seq | with_reducible apply W.block | with_reducible apply W.skip | with_reducible apply W.exit | with_reducible apply W.ret | with_reducible apply At.seqN | with_reducible apply At.blkN | with_reducible apply At.blkE | with_reducible apply At.blkR | with_reducible apply At.thenX | with_reducible apply At.thenR | with_reducible apply At.blkX rfl | ((with_reducible apply W.ops); (repeat (first | refine WL.opA hΓ (h := ?_) | refine WL.opX hΓ (h := ?_) | refine WL.opY (h := ?_) | refine WL.opZ (h := ?_))); with_reducible apply WL.nil) | refine W.condT (h := ?_) | refine W.condF (h := ?_))
        refine At.retA (by rw [Tryd.results39]) (he := ?_)
        rw [hv]
  · rw [decide_eq_false hs] at c1
    have hv := rPut_no (x := ((r, c, lh, lg), i, piece, p)) hs
    have hem : (⟨#[]⟩ : ByteArray) = ByteArray.empty := rfl
    clear hs
    simp only [initS, argPV, List.map_cons, List.map_nil, toPL, Nat.zero_add]
    repeat (first | with_reducible apply W.seq | with_reducible apply W.block | with_reducible apply W.skip | with_reducible apply W.exit | with_reducible apply W.ret | with_reducible apply At.seqN | with_reducible apply At.blkN | with_reducible apply At.blkE | with_reducible apply At.blkR | with_reducible apply At.thenX | with_reducible apply At.thenR | with_reducible apply At.blkX rfl | ((with_reducible apply W.ops); (repeat (first | refine WL.opA hΓ (h := ?_) | refine WL.opX hΓ (h := ?_) | refine WL.opY (h := ?_) | refine WL.opZ (h := ?_))); with_reducible apply WL.nil) | refine W.condT (h := ?_) | refine W.condF (h := ?_))
    refine At.retA (by rw [Tryd.results39]) (he := ?_)
    rw [hv]
theorem putI_s : Sound Tryd.prog 41 (mdl okSP encS rPut) := by
  refine Sound.mdl Tryd.func41 rfl Tryd.ntmps41 ?_
  rintro ⟨⟨r, c, lh, lg⟩, i, piece, p⟩ w ⟨⟨h1, h2, h3⟩, h4, h5⟩
  refine ⟨by simp, ?_⟩
  dsimp only at h1 h2 h3 h4 h5
  have hΓ : GSound Tryd.prog (look [(83, mSnapOk), (84, mCopyS), (85, mIncl), (57, mWithin)]) := env_cons (has_of Tryd.func83 rfl rfl) snapOkI_s (env_cons (has_of Tryd.func84 rfl rfl) copyI_s (env_cons (has_of Tryd.func85 rfl rfl) inclI_s (env_cons (has_of Tryd.func57 rfl rfl) within_s env_nil)))
  have c1 := mSnapOk_eq (r, c, lh, lg) ⟨h1, h2, h3⟩
  have c2 := mCopyS_eq (r, c, lh, lg) ⟨h1, h2, h3⟩
  have c3 := mIncl_eq r piece i c p h4 h5
  dsimp only [aSnap, rSnap, rowsSnap] at c1 c2
  have hl1 := rowsF_len cStr lh
  have hl2 := rowsF_len cBool lg
  clear h5
  by_cases hs : sOk (r, c, lh, lg)
  · rw [decide_eq_true hs] at c1
    have hc1 : (lh.length : Int) = c := hs.2.2.1
    have hc2 : (lg.length : Int) = c := hs.2.2.2.1
    by_cases hi : 0 ≤ i ∧ i < c
    · obtain ⟨k, rfl⟩ := Int.eq_ofNat_of_zero_le hi.1
      have hk1 : k < lh.length := by omega
      have hk2 : k < lg.length := by omega
      have hrow := row_bo hk2
      have c5 := mWithin_eq (k : Int) 0 (c - 1)
      cases hg : lg.getD k true with
      | true =>
        have hno : ¬ putOk (r, c, lh, lg) (k : Int) piece p := fun h => by
          have := h.2.2.1
          dsimp only at this
          rw [Int.toNat_natCast, hg] at this
          cases this
        have hv := rPut_same (x := ((r, c, lh, lg), (k : Int), piece, p)) hs hno
        rw [hg] at hrow
        clear hs hno
        simp only [initS, argPV, List.map_cons, List.map_nil, toPL, Nat.zero_add]
        repeat (first | with_reducible apply W.seq | with_reducible apply W.block | with_reducible apply W.skip | with_reducible apply W.exit | with_reducible apply W.ret | with_reducible apply At.seqN | with_reducible apply At.blkN | with_reducible apply At.blkE | with_reducible apply At.blkR | with_reducible apply At.thenX | with_reducible apply At.thenR | with_reducible apply At.blkX rfl | ((with_reducible apply W.ops); (repeat (first | refine WL.opA hΓ (h := ?_) | refine WL.opX hΓ (h := ?_) | refine WL.opY (h := ?_) | refine WL.opZ (h := ?_))); with_reducible apply WL.nil) | refine W.condT (h := ?_) | refine W.condF (h := ?_))
        refine At.retA (by rw [Tryd.results41]) (he := ?_)
        rw [hv]
      | false =>
        rw [hg] at hrow
        cases hb : inclB r piece (k : Int) c p with
        | false =>
          rw [hb] at c3
          have hno : ¬ putOk (r, c, lh, lg) (k : Int) piece p := fun h => by
            have := h.2.2.2
            dsimp only at this
            rw [hb] at this
            cases this
          have hv := rPut_same (x := ((r, c, lh, lg), (k : Int), piece, p)) hs hno
          clear hs hno
          simp only [initS, argPV, List.map_cons, List.map_nil, toPL, Nat.zero_add]
          repeat (first | with_reducible apply W.seq | with_reducible apply W.block | with_reducible apply W.skip | with_reducible apply W.exit | with_reducible apply W.ret | with_reducible apply At.seqN | with_reducible apply At.blkN | with_reducible apply At.blkE | with_reducible apply At.blkR | with_reducible apply At.thenX | with_reducible apply At.thenR | with_reducible apply At.blkX rfl | ((with_reducible apply W.ops); (repeat (first | refine WL.opA hΓ (h := ?_) | refine WL.opX hΓ (h := ?_) | refine WL.opY (h := ?_) | refine WL.opZ (h := ?_))); with_reducible apply WL.nil) | refine W.condT (h := ?_) | refine W.condF (h := ?_))
          refine At.retA (by rw [Tryd.results41]) (he := ?_)
          rw [hv]
        | true =>
          rw [hb] at c3
          have hp : putOk (r, c, lh, lg) (k : Int) piece p := ⟨hs, hi, by dsimp only; rw [Int.toNat_natCast]; exact hg, hb⟩
          have hv := rPut_yes (x := ((r, c, lh, lg), (k : Int), piece, p)) hp
          have s1 : (rowsF cStr lh).set k [.sc (.string piece)] = rowsF cStr (lh.set k piece) := rowsF_set cStr lh k piece
          have s2 : (rowsF cBool lg).set k [.sc (.bool true)] = rowsF cBool (lg.set k true) := rowsF_set cBool lg k true
          have ho := row_s hk1
          clear hs hp
          simp only [initS, argPV, List.map_cons, List.map_nil, toPL, Nat.zero_add]
          repeat (first | with_reducible apply W.seq | with_reducible apply W.block | with_reducible apply W.skip | with_reducible apply W.exit | with_reducible apply W.ret | with_reducible apply At.seqN | with_reducible apply At.blkN | with_reducible apply At.blkE | with_reducible apply At.blkR | with_reducible apply At.thenX | with_reducible apply At.thenR | with_reducible apply At.blkX rfl | ((with_reducible apply W.ops); (repeat (first | refine WL.opA hΓ (h := ?_) | refine WL.opX hΓ (h := ?_) | refine WL.opY (h := ?_) | refine WL.opZ (h := ?_))); with_reducible apply WL.nil) | refine W.condT (h := ?_) | refine W.condF (h := ?_))
          refine At.retA (by rw [Tryd.results41]) (he := ?_)
          rw [hv]
          simp only [Int.toNat_natCast]
    · have hno : ¬ putOk (r, c, lh, lg) i piece p := fun h => hi h.2.1
      have hv := rPut_same (x := ((r, c, lh, lg), i, piece, p)) hs hno
      clear hs hno
      have c5 := mWithin_eq i 0 (c - 1)
      have hi2 : ¬ (0 ≤ i ∧ i ≤ c - 1) := fun h => hi ⟨h.1, by omega⟩
      simp only [initS, argPV, List.map_cons, List.map_nil, toPL, Nat.zero_add]
      repeat (first | with_reducible apply W.seq | with_reducible apply W.block | with_reducible apply W.skip | with_reducible apply W.exit | with_reducible apply W.ret | with_reducible apply At.seqN | with_reducible apply At.blkN | with_reducible apply At.blkE | with_reducible apply At.blkR | with_reducible apply At.thenX | with_reducible apply At.thenR | with_reducible apply At.blkX rfl | ((with_reducible apply W.ops); (repeat (first | refine WL.opA hΓ (h := ?_) | refine WL.opX hΓ (h := ?_) | refine WL.opY (h := ?_) | refine WL.opZ (h := ?_))); with_reducible apply WL.nil) | refine W.condT (h := ?_) | refine W.condF (h := ?_))
      refine At.retA (by rw [Tryd.results41]) (he := ?_)
      rw [hv]
  · rw [decide_eq_false hs] at c1
    have hv := rPut_no (x := ((r, c, lh, lg), i, piece, p)) hs
    have hem : (⟨#[]⟩ : ByteArray) = ByteArray.empty := rfl
    clear hs
    simp only [initS, argPV, List.map_cons, List.map_nil, toPL, Nat.zero_add]
    repeat (first | with_reducible apply W.seq | with_reducible apply W.block | with_reducible apply W.skip | with_reducible apply W.exit | with_reducible apply W.ret | with_reducible apply At.seqN | with_reducible apply At.blkN | with_reducible apply At.blkE | with_reducible apply At.blkR | with_reducible apply At.thenX | with_reducible apply At.thenR | with_reducible apply At.blkX rfl | ((with_reducible apply W.ops); (repeat (first | refine WL.opA hΓ (h := ?_) | refine WL.opX hΓ (h := ?_) | refine WL.opY (h := ?_) | refine WL.opZ (h := ?_))); with_reducible apply WL.nil) | refine W.condT (h := ?_) | refine W.condF (h := ?_))
    refine At.retA (by rw [Tryd.results41]) (he := ?_)
    rw [hv]
section
variable {w w' : World} {γ : Nat → Option Nat} {hdr : Nat → Value} {B : Nat} {v : Value}
theorem own_int {α : Type} {f : α → List Value} {s i e : Nat} {l : List α} (hf : ∀ x, (f x).length = s) (hB : B ≤ w.heap.size) (h : RepRL B w γ hdr i (.own true e s (rowsF f l)) v) :
    ∃ lo hi, OwnI w lo hi s f v l ∧ B ≤ lo ∧ hi ≤ w.heap.size ∧ (lo = B ∧ hi = B ∨ hi = lo + 1 ∧ γ lo = some i) := by
  have ho := own_OwnS hf h
  by_cases hne : l = []
  · subst hne
    exact ⟨B, B, ⟨ho, fun g hg => absurd rfl hg⟩, Nat.le_refl _, hB, .inl ⟨rfl, rfl⟩⟩
  · obtain ⟨b, off, c, rfl, h1, h2, hat⟩ := ho.at_ hne
    obtain ⟨_, xs, _, _, _, hb, _⟩ := h
    obtain ⟨hb1, hb2⟩ := hb b rfl
    have hat' : OwnAt w b s f b off l := ⟨Nat.le_refl _, hat.2.1, hat.2.2.1, hat.2.2.2⟩
    exact ⟨b, b + 1, ⟨hat'.slice h1 h2, fun g _ hg => by simp only [Value.ownBlock, Option.some.injEq] at hg; omega⟩, hb1, hat.2.1, .inr ⟨rfl, hb2⟩⟩
theorem emp_int {α : Type} {f : α → List Value} {s : Nat} (hB : B ≤ w.heap.size) (h : RepL w γ (.sl []) v) : OwnI w B B s f v [] := ⟨rep_empty h B, fun g hg => absurd rfl hg⟩
end
section
variable {s : TSnap} {vh vg vp : Value} {w : World} {i : Int} {piece : ByteArray} {p : List ByteArray}
theorem put_args (h1 : RdS w w.heap.size 1 cStr vh s.2.2.1) (h2 : RdS w w.heap.size 1 cBool vg s.2.2.2) (h3 : RdS w w.heap.size 1 cStr vp p) : RepAs w (encS (s, i, piece, p)) [.agg #[.string s.1, .int .i64 s.2.1, vh, vg], .int .i64 i, .string piece, vp] :=
  RepAs.cons (snap_arg h1 h2) (RepAs.cons (aI_rep i) (RepAs.cons (aS_rep piece) (RepAs.cons (aL_rep (fun _ => rfl) cStr_one h3) RepAs.nil)))
theorem calls_put {F : FuncId} (hs : Sound Tryd.prog F (mdl okSP encS rPut)) (gl : GlobOk none0 w) (h1 : RdS w w.heap.size 1 cStr vh s.2.2.1) (h2 : RdS w w.heap.size 1 cBool vg s.2.2.2) (h3 : RdS w w.heap.size 1 cStr vp p)
    (n1 : s.1.size ≤ 1048576) (n2 : s.2.2.1.length ≤ 1048576) (n3 : s.2.2.2.length ≤ 1048576) (n4 : piece.size ≤ 1048576) (ht : strsTot p ≤ 1048576) :
    Calls Tryd.prog F #[.agg #[.string s.1, .int .i64 s.2.1, vh, vg], .int .i64 i, .string piece, vp] w (NewSnapB w (putS s i piece p).1 (putS s i piece p).2.1 (putS s i piece p).2.2.1 (putS s i piece p).2.2.2 (decide (putOk s i piece p))) := by
  have he := mdl_eq (ok := okSP) (g := rPut) encS_inj (s, i, piece, p) ⟨⟨n1, n2, n3⟩, n4, okT_tot ht⟩
  refine (hs _ _ _ w gl he (put_args h1 h2 h3)).mono fun e w' ⟨u, γ, hdr, e1, hb, _, _, h5⟩ => ?_
  by_cases ho : sOk s
  · simp only [rPut, if_pos ho] at h5
    obtain ⟨us, rfl, hl, h6⟩ := h5
    obtain ⟨v0, g0, a0⟩ := h6 0 _ _ rfl
    obtain ⟨v1, g1, a1⟩ := h6 1 _ _ rfl
    obtain ⟨cs, rfl, hcl, hcg⟩ := a0
    obtain ⟨x1, e2, b1⟩ := a1
    cases e2
    cases b1
    match us, hl, g0, g1 with
    | [u0, u1], _, g0, g1 =>
      cases g0; cases g1
      match cs, hcl with
      | [c0, c1, c2, c3], _ =>
        obtain ⟨y0, f0, r0⟩ := hcg 0 _ rfl
        obtain ⟨y1, f1, r1⟩ := hcg 1 _ rfl
        obtain ⟨y2, f2, r2⟩ := hcg 2 _ rfl
        obtain ⟨y3, f3, r3⟩ := hcg 3 _ rfl
        cases f0; cases f1; cases f2; cases f3
        cases r0; cases r1
        obtain ⟨l1, t1, o1, p1, q1, d1⟩ := own_int (f := cStr) (fun _ => rfl) hb.size r2
        obtain ⟨l2, t2, o2, p2, q2, d2⟩ := own_int (f := cBool) (fun _ => rfl) hb.size r3
        refine ⟨c2, c3, e1, ⟨l1, t1, l2, t2, o1, o2, p1, q1, p2, q2, ?_⟩, hb⟩
        rcases d1 with d1 | ⟨d1, k1⟩
        · exact .inl (by omega)
        · rcases d2 with d2 | ⟨d2, k2⟩
          · exact .inr (by omega)
          · have hne : l1 ≠ l2 := fun e => by
              rw [e, k2] at k1
              simp at k1
            omega
  · simp only [rPut, if_neg ho] at h5
    have hno : ¬ putOk s i piece p := fun h => ho h.1
    rw [putS_bad ho, decide_eq_false hno]
    obtain ⟨us, rfl, hl, h6⟩ := h5
    obtain ⟨v0, g0, a0⟩ := h6 0 _ _ rfl
    obtain ⟨v1, g1, a1⟩ := h6 1 _ _ rfl
    obtain ⟨cs, rfl, hcl, hcg⟩ := a0
    obtain ⟨x1, e2, b1⟩ := a1
    cases e2
    cases b1
    match us, hl, g0, g1 with
    | [u0, u1], _, g0, g1 =>
      cases g0; cases g1
      match cs, hcl with
      | [c0, c1, c2, c3], _ =>
        obtain ⟨y0, f0, r0⟩ := hcg 0 _ rfl
        obtain ⟨y1, f1, r1⟩ := hcg 1 _ rfl
        obtain ⟨y2, f2, r2⟩ := hcg 2 _ rfl
        obtain ⟨y3, f3, r3⟩ := hcg 3 _ rfl
        cases f0; cases f1; cases f2; cases f3
        cases r0; cases r1
        exact ⟨c2, c3, e1, ⟨w.heap.size, w.heap.size, w.heap.size, w.heap.size, emp_int hb.size r2, emp_int hb.size r3, Nat.le_refl _, hb.size, Nat.le_refl _, hb.size, .inl (Nat.le_refl _)⟩, hb⟩
end
theorem snapPut_spec {s : TSnap} {vh vg vp : Value} {w : World} {i : Int} {piece : ByteArray} {p : List ByteArray} (gl : GlobOk none0 w) (h1 : RdS w w.heap.size 1 cStr vh s.2.2.1) (h2 : RdS w w.heap.size 1 cBool vg s.2.2.2) (h3 : RdS w w.heap.size 1 cStr vp p)
    (n1 : s.1.size ≤ 1048576) (n2 : s.2.2.1.length ≤ 1048576) (n3 : s.2.2.2.length ≤ 1048576) (n4 : piece.size ≤ 1048576) (ht : strsTot p ≤ 1048576) :
    Calls Tryd.prog 39 #[.agg #[.string s.1, .int .i64 s.2.1, vh, vg], .int .i64 i, .string piece, vp] w (NewSnapB w (putS s i piece p).1 (putS s i piece p).2.1 (putS s i piece p).2.2.1 (putS s i piece p).2.2.2 (decide (putOk s i piece p))) :=
  calls_put putS_s gl h1 h2 h3 n1 n2 n3 n4 ht
theorem snapPut_impl {s : TSnap} {vh vg vp : Value} {w : World} {i : Int} {piece : ByteArray} {p : List ByteArray} (gl : GlobOk none0 w) (h1 : RdS w w.heap.size 1 cStr vh s.2.2.1) (h2 : RdS w w.heap.size 1 cBool vg s.2.2.2) (h3 : RdS w w.heap.size 1 cStr vp p)
    (n1 : s.1.size ≤ 1048576) (n2 : s.2.2.1.length ≤ 1048576) (n3 : s.2.2.2.length ≤ 1048576) (n4 : piece.size ≤ 1048576) (ht : strsTot p ≤ 1048576) :
    Calls Tryd.prog 41 #[.agg #[.string s.1, .int .i64 s.2.1, vh, vg], .int .i64 i, .string piece, vp] w (NewSnapB w (putS s i piece p).1 (putS s i piece p).2.1 (putS s i piece p).2.2.1 (putS s i piece p).2.2.2 (decide (putOk s i piece p))) :=
  calls_put putI_s gl h1 h2 h3 n1 n2 n3 n4 ht

end Go.Proofs.YtilgmdgipeimaaaDoor
