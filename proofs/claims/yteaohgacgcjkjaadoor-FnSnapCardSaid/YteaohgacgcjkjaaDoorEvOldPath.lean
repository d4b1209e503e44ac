/-
  OldPath of both programs.
-/
import Derived.Test.YteaohgacgcjkjaaDoorEvTree
import Derived.Test.YteaohgacgcjkjaaDoorStr
namespace Go.Proofs.YteaohgacgcjkjaaDoor
set_option maxRecDepth 100000
set_option linter.unusedVariables false
set_option linter.unusedSimpArgs false
open Go Go.RowKit
set_option maxHeartbeats 4000000

/-- the parts that prove a prefix -/
def parts (m : Nat) (l : List ByteArray) : List ByteArray :=
  if m = l.length then [root l]
  else if h : l.length < 2 ∨ 64 < l.length then []
  else if m ≤ spl l.length then parts m (l.take (spl l.length)) ++ [root (l.drop (spl l.length))]
  else [root (l.take (spl l.length))] ++ parts (m - spl l.length) (l.drop (spl l.length))
termination_by l.length
decreasing_by
  · have := spl_lt (n := l.length) (by omega) (by omega)
    rw [List.length_take]
    omega
  · have := spl_lt (n := l.length) (by omega) (by omega)
    rw [List.length_drop]
    omega
theorem parts_eq {m : Nat} {l : List ByteArray} (h : m = l.length) : parts m l = [root l] := by rw [parts, if_pos h]
theorem parts_lo {m : Nat} {l : List ByteArray} (hm : ¬ m = l.length) (h2 : 2 ≤ l.length) (h64 : l.length ≤ 64) (hk : m ≤ spl l.length) : parts m l = parts m (l.take (spl l.length)) ++ [root (l.drop (spl l.length))] := by
  rw [parts, if_neg hm, dif_neg (by omega), if_pos hk]
theorem parts_hi {m : Nat} {l : List ByteArray} (hm : ¬ m = l.length) (h2 : 2 ≤ l.length) (h64 : l.length ≤ 64) (hk : ¬ m ≤ spl l.length) : parts m l = [root (l.take (spl l.length))] ++ parts (m - spl l.length) (l.drop (spl l.length)) := by
  rw [parts, if_neg hm, dif_neg (by omega), if_neg hk]
theorem parts_len (n : Nat) : ∀ (m : Nat) (l : List ByteArray), l.length = n → (parts m l).length ≤ n + 1 := by
  induction n using Nat.strongRecOn with
  | _ n ih =>
    intro m l hl
    by_cases hm : m = l.length
    · rw [parts_eq hm]; simp
    · by_cases hn : l.length < 2 ∨ 64 < l.length
      · rw [parts, if_neg hm, dif_pos hn]; simp
      · have hs := spl_lt (n := l.length) (by omega) (by omega)
        by_cases hk : m ≤ spl l.length
        · rw [parts_lo hm (by omega) (by omega) hk]
          have := ih (spl l.length) (by omega) m (l.take (spl l.length)) (by rw [List.length_take]; omega)
          rw [List.length_append]
          simp only [List.length_cons, List.length_nil]
          omega
        · rw [parts_hi hm (by omega) (by omega) hk]
          have := ih (l.length - spl l.length) (by omega) (m - spl l.length) (l.drop (spl l.length)) (by rw [List.length_drop])
          rw [List.length_append]
          simp only [List.length_cons, List.length_nil]
          omega
theorem cStr_app1 (l : List ByteArray) (x : ByteArray) : rowsF cStr l ++ [[.sc (.string x)]] = rowsF cStr (l ++ [x]) := by rw [← rowsF_app]; rfl
theorem cStr_app2 (l : List ByteArray) (x : ByteArray) : [Leaf.sc (.string x)] :: rowsF cStr l = rowsF cStr ([x] ++ l) := rfl
abbrev encP (x : List ByteArray × Int) : List Arg := [aL cStr x.1, aI x.2]
theorem encP_inj : ∀ x y, encP x = encP y → x = y := by
  rintro ⟨a, b⟩ ⟨d, e⟩ h
  simpa [encP] using h
abbrev okQ (x : List ByteArray × Int) : Prop := okL x.1 ∧ 1 ≤ x.2 ∧ x.2 ≤ x.1.length
abbrev rPt (x : List ByteArray × Int) : Res := rL 9 1 cStr (parts x.2.toNat x.1)
noncomputable def mPt := mdl okQ encP rPt
noncomputable def mPtN (N : Nat) := mdl (fun x => okQ x ∧ x.1.length < N) encP rPt
theorem mPt_eq (l : List ByteArray) (m : Nat) (h : okL l) (h1 : 1 ≤ m) (h2 : m ≤ l.length) : mPt [aL cStr l, aI (m : Int)] = some (rL 9 1 cStr (parts m l)) := mdl_eq encP_inj (l, (m : Int)) ⟨h, by dsimp only; omega, by dsimp only; omega⟩
theorem mPtN_eq (N : Nat) (l : List ByteArray) (m : Nat) (h : okL l) (h1 : 1 ≤ m) (h2 : m ≤ l.length) (hN : l.length < N) : mPtN N [aL cStr l, aI (m : Int)] = some (rL 9 1 cStr (parts m l)) := mdl_eq encP_inj (l, (m : Int)) ⟨⟨h, by dsimp only; omega, by dsimp only; omega⟩, hN⟩
theorem parts_s : Sound Tryd.prog 36 mPt := by
  refine Sound.again (fun x => x.1.length) encP_inj fun N ih => ?_
  refine Sound.mdl Tryd.func36 rfl Tryd.ntmps36 ?_
  rintro ⟨l, m⟩ w ⟨⟨h, m1, m2⟩, hN⟩
  refine ⟨by simp, ?_⟩
  dsimp only at h m1 m2 hN
  have hΓ : GSound Tryd.prog (look [(30, mRoot1), (55, mSpl), (36, mPtN N)]) := env_cons (has_of Tryd.func30 rfl rfl) root1S_s (env_cons (has_of Tryd.func55 rfl rfl) splS_s (env_cons (has_of Tryd.func36 rfl rfl) ih env_nil))
  have hlen := rowsF_len cStr l
  obtain ⟨⟨h1, h40⟩, hsz⟩ := id h
  obtain ⟨m', rfl⟩ := Int.eq_ofNat_of_zero_le (show 0 ≤ m by omega)
  by_cases hm : m' = l.length
  · have hv := parts_eq hm
    subst hm
    have c1 := mRoot1_eq l h
    clear hsz h
    simp only [initS, argPV, List.map_cons, List.map_nil, toPL, Nat.zero_add]
    repeat (first | with_reducible apply W.seq | with_reducible apply W.block | with_reducible apply W.skip | with_reducible apply W.exit | with_reducible apply W.ret | with_reducible apply At.seqN | with_reducible apply At.blkN | with_reducible apply At.blkE | with_reducible apply At.blkR | with_reducible apply At.thenX | with_reducible apply At.thenR | with_reducible apply At.blkX rfl | ((with_reducible apply W.ops); (repeat (first | refine WL.opA hΓ (h := ?_) | refine WL.opX hΓ (h := ?_) | refine WL.opY (h := ?_) | refine WL.opZ (h := ?_))); with_reducible apply WL.nil) | refine W.condT (h := ?_) | refine W.condF (h := ?_))
    refine At.retA (by rw [Tryd.results36]) (he := ?_)
    simp only [rPt, Int.toNat_natCast, hv]
    rfl
  · have hs := spl_lt (n := l.length) (by omega) (by omega)
    have c2 := mSpl_eq l.length (by omega)
    have e1 := rowsF_take cStr l (spl l.length)
    have e2 := sub_lo l (spl l.length)
    have x0 := row_ex (l := l) (k := 0) (by omega)
    have x1 := row_ex (l := l) (k := spl l.length) (by omega)
    by_cases hk : m' ≤ spl l.length
    · have hv := parts_lo hm (by omega) (by omega) hk
      have c3 := mPtN_eq N (l.take (spl l.length)) m' (h.take hs.1 (by omega)) (by omega) (by rw [List.length_take]; omega) (by rw [List.length_take]; omega)
      have c4 := mRoot1_eq (l.drop (spl l.length)) (h.drop (by omega))
      have hl2 := parts_len _ m' (l.take (spl l.length)) rfl
      rw [List.length_take] at hl2
      have ha := cStr_app1 (parts m' (l.take (spl l.length))) (root (l.drop (spl l.length)))
      clear hsz h
      generalize parts m' (l.take (spl l.length)) = L at *
      simp only [initS, argPV, List.map_cons, List.map_nil, toPL, Nat.zero_add]
      repeat (first | with_reducible apply W.seq | with_reducible apply W.block | with_reducible apply W.skip | with_reducible apply W.exit | with_reducible apply W.ret | with_reducible apply At.seqN | with_reducible apply At.blkN | with_reducible apply At.blkE | with_reducible apply At.blkR | with_reducible apply At.thenX | with_reducible apply At.thenR | with_reducible apply At.blkX rfl | ((with_reducible apply W.ops); (repeat (first | refine WL.opA hΓ (h := ?_) | refine WL.opX hΓ (h := ?_) | refine WL.opY (h := ?_) | refine WL.opZ (h := ?_))); with_reducible apply WL.nil) | refine W.condT (h := ?_) | refine W.condF (h := ?_))
      refine W.drawsA hΓ 10 [[], [], [0, 1], [], [0, 1, 2, 3], [], [], [5, 6], [0, 1, 2, 3, 4, 5, 6, 7], [0, 1, 2, 3, 4, 5, 6, 7, 8], [0, 1, 2, 3, 4, 5, 6, 7, 8, 9], [0, 1, 2, 3, 4, 5, 6, 7, 8, 9, 10]] (rest := ?rest7) (Es := ?Es7) (st1 := ?st17) (h := ?h7) (hf := ?hf7) (hp := ?hp7) (hd := ?hd7) (hfr := ?hfr7) (hst := ?hst7) (hT := ?hT7)
      case h7 => kernel_rfl
      case hf7 =>
        repeat (first | refine FlowT.opA (h := ?_) | refine FlowT.opX (h := ?_) | refine FlowT.opY (h := ?_) | refine FlowT.opZ (h := ?_))
        exact FlowT.done
      case hp7 => rfl
      case hd7 => rfl
      case hfr7 => rfl
      case hst7 =>
        simp only [pick_nil, pick_all, List.cons_append, List.nil_append]
        rfl
      (repeat (first | refine WL.opA hΓ (h := ?_) | refine WL.opX hΓ (h := ?_) | refine WL.opY (h := ?_) | refine WL.opZ (h := ?_)))
      with_reducible apply WL.nil
      repeat (first | with_reducible apply W.seq | with_reducible apply W.block | with_reducible apply W.skip | with_reducible apply W.exit | with_reducible apply W.ret | with_reducible apply At.seqN | with_reducible apply At.blkN | with_reducible apply At.blkE | with_reducible apply At.blkR | with_reducible apply At.thenX | with_reducible apply At.thenR | with_reducible apply At.blkX rfl | ((with_reducible apply W.ops); (repeat (first | refine WL.opA hΓ (h := ?_) | refine WL.opX hΓ (h := ?_) | refine WL.opY (h := ?_) | refine WL.opZ (h := ?_))); with_reducible apply WL.nil) | refine W.condT (h := ?_) | refine W.condF (h := ?_))
      refine At.retA (by rw [Tryd.results36]) (he := ?_)
      simp only [rPt, Int.toNat_natCast, hv]
    · have hv := parts_hi hm (by omega) (by omega) hk
      have e3 : (m' : Int) - (spl l.length : Int) = ((m' - spl l.length : Nat) : Int) := by omega
      have c3 := mPtN_eq N (l.drop (spl l.length)) (m' - spl l.length) (h.drop (by omega)) (by omega) (by rw [List.length_drop]; omega) (by rw [List.length_drop]; omega)
      have c4 := mRoot1_eq (l.take (spl l.length)) (h.take hs.1 (by omega))
      have hl2 := parts_len _ (m' - spl l.length) (l.drop (spl l.length)) rfl
      rw [List.length_drop] at hl2
      have ha := cStr_app2 (parts (m' - spl l.length) (l.drop (spl l.length))) (root (l.take (spl l.length)))
      clear hsz h
      generalize parts (m' - spl l.length) (l.drop (spl l.length)) = L at *
      have hwd : wid 1 (rowsF cStr L) := rowsF_wid (f := cStr) (s := 1) (fun _ => rfl) L
      simp only [initS, argPV, List.map_cons, List.map_nil, toPL, Nat.zero_add]
      repeat (first | with_reducible apply W.seq | with_reducible apply W.block | with_reducible apply W.skip | with_reducible apply W.exit | with_reducible apply W.ret | with_reducible apply At.seqN | with_reducible apply At.blkN | with_reducible apply At.blkE | with_reducible apply At.blkR | with_reducible apply At.thenX | with_reducible apply At.thenR | with_reducible apply At.blkX rfl | ((with_reducible apply W.ops); (repeat (first | refine WL.opA hΓ (h := ?_) | refine WL.opX hΓ (h := ?_) | refine WL.opY (h := ?_) | refine WL.opZ (h := ?_))); with_reducible apply WL.nil) | refine W.condT (h := ?_) | refine W.condF (h := ?_))
      refine W.drawsA hΓ 12 [[], [], [0, 1], [0, 1, 2], [0, 1, 2, 3], [], [], [5, 6], [], [], [8, 9], [0, 1, 2, 3, 5, 6, 7, 8, 9, 10], [0, 1, 2, 3, 4, 5, 6, 7, 8, 9, 10, 11], [0, 1, 2, 3, 4, 5, 6, 7, 8, 9, 10, 11, 12]] (rest := ?rest12) (Es := ?Es12) (st1 := ?st112) (h := ?h12) (hf := ?hf12) (hp := ?hp12) (hd := ?hd12) (hfr := ?hfr12) (hst := ?hst12) (hT := ?hT12)
      case h12 => kernel_rfl
      case hf12 =>
        repeat (first | refine FlowT.opA (h := ?_) | refine FlowT.opX (h := ?_) | refine FlowT.opY (h := ?_) | refine FlowT.opZ (h := ?_))
        exact FlowT.done
      case hp12 => rfl
      case hd12 => rfl
      case hfr12 => rfl
      case hst12 =>
        simp only [pick_nil, pick_all, List.cons_append, List.nil_append]
        rfl
      (repeat (first | refine WL.opA hΓ (h := ?_) | refine WL.opX hΓ (h := ?_) | refine WL.opY (h := ?_) | refine WL.opZ (h := ?_)))
      with_reducible apply WL.nil
      repeat (first | with_reducible apply W.seq | with_reducible apply W.block | with_reducible apply W.skip | with_reducible apply W.exit | with_reducible apply W.ret | with_reducible apply At.seqN | with_reducible apply At.blkN | with_reducible apply At.blkE | with_reducible apply At.blkR | with_reducible apply At.thenX | with_reducible apply At.thenR | with_reducible apply At.blkX rfl | ((with_reducible apply W.ops); (repeat (first | refine WL.opA hΓ (h := ?_) | refine WL.opX hΓ (h := ?_) | refine WL.opY (h := ?_) | refine WL.opZ (h := ?_))); with_reducible apply WL.nil) | refine W.condT (h := ?_) | refine W.condF (h := ?_))
      refine At.retA (by rw [Tryd.results36]) (he := ?_)
      simp only [rPt, Int.toNat_natCast, hv, List.cons_append, List.nil_append]
def pathOk (l : List ByteArray) (m : Int) : Prop := l.length ≤ 40 ∧ 1 ≤ m ∧ m ≤ l.length
instance (l : List ByteArray) (m : Int) : Decidable (pathOk l m) := by unfold pathOk; infer_instance
def oldL (l : List ByteArray) (m : Int) : List ByteArray := if pathOk l m then parts m.toNat l else []
theorem oldL_yes {l : List ByteArray} {m : Nat} (h : pathOk l m) : oldL l m = parts m l := by unfold oldL; rw [if_pos h, Int.toNat_natCast]
theorem oldL_no {l : List ByteArray} {m : Int} (h : ¬ pathOk l m) : oldL l m = [] := if_neg h
theorem oldL_le (l : List ByteArray) (m : Int) : (oldL l m).length ≤ 41 := by
  by_cases h : pathOk l m
  · unfold oldL; rw [if_pos h]
    have := parts_len _ m.toNat l rfl
    have := h.1
    omega
  · rw [oldL_no h]; simp
abbrev rOl (x : List ByteArray × Int) : Res := rL 9 1 cStr (oldL x.1 x.2)
abbrev rOi (x : List ByteArray × Int) : Res := if pathOk x.1 x.2 then rL 9 1 cStr (oldL x.1 x.2) else rN
theorem oldPathS_s : Sound Tryd.prog 11 (mdl (fun x => okT x.1) encP rOl) := by
  refine Sound.mdl Tryd.func11 rfl Tryd.ntmps11 ?_
  rintro ⟨l, m⟩ w h
  refine ⟨by simp, ?_⟩
  replace h : okT l := h
  have hΓ : GSound Tryd.prog (look [(35, mIn), (36, mPt)]) := env_cons (has_of Tryd.func35 rfl rfl) l1In_s (env_cons (has_of Tryd.func36 rfl rfl) parts_s env_nil)
  have hlen := rowsF_len cStr l
  obtain ⟨hl, hsz⟩ := h
  have c1 := mIn_eq m 1 l.length
  have hn0 : ([] : List (List Leaf)) = rowsF cStr [] := rfl
  by_cases h40 : l.length ≤ 40
  · by_cases hm : 1 ≤ m ∧ m ≤ (l.length : Int)
    · obtain ⟨m', rfl⟩ := Int.eq_ofNat_of_zero_le (show 0 ≤ m by omega)
      have hv := oldL_yes (l := l) (m := m') ⟨h40, hm.1, hm.2⟩
      have c2 := mPt_eq l m' ⟨⟨by omega, h40⟩, hsz⟩ (by omega) (by omega)
      clear hsz hn0
      simp only [initS, argPV, List.map_cons, List.map_nil, toPL, Nat.zero_add]
      repeat (first | with_reducible apply W.seq | with_reducible apply W.block | with_reducible apply W.skip | with_reducible apply W.exit | with_reducible apply W.ret | with_reducible apply At.seqN | with_reducible apply At.blkN | with_reducible apply At.blkE | with_reducible apply At.blkR | with_reducible apply At.thenX | with_reducible apply At.thenR | with_reducible apply At.blkX rfl | ((with_reducible apply W.ops); (repeat (first | refine WL.opA hΓ (h := ?_) | refine WL.opX hΓ (h := ?_) | refine WL.opY (h := ?_) | refine WL.opZ (h := ?_))); with_reducible apply WL.nil) | refine W.condT (h := ?_) | refine W.condF (h := ?_))
      refine At.retA (by rw [Tryd.results11]) (he := ?_)
      simp only [rOl, hv]
    · have hv := oldL_no (l := l) (m := m) (fun h => hm h.2)
      clear hsz
      simp only [initS, argPV, List.map_cons, List.map_nil, toPL, Nat.zero_add]
      repeat (first | with_reducible apply W.seq | with_reducible apply W.block | with_reducible apply W.skip | with_reducible apply W.exit | with_reducible apply W.ret | with_reducible apply At.seqN | with_reducible apply At.blkN | with_reducible apply At.blkE | with_reducible apply At.blkR | with_reducible apply At.thenX | with_reducible apply At.thenR | with_reducible apply At.blkX rfl | ((with_reducible apply W.ops); (repeat (first | refine WL.opA hΓ (h := ?_) | refine WL.opX hΓ (h := ?_) | refine WL.opY (h := ?_) | refine WL.opZ (h := ?_))); with_reducible apply WL.nil) | refine W.condT (h := ?_) | refine W.condF (h := ?_))
      refine At.retA (by rw [Tryd.results11]) (he := ?_)
      simp only [rOl, hv]
  · have hv := oldL_no (l := l) (m := m) (fun h => h40 h.1)
    clear hsz
    simp only [initS, argPV, List.map_cons, List.map_nil, toPL, Nat.zero_add]
    repeat (first | with_reducible apply W.seq | with_reducible apply W.block | with_reducible apply W.skip | with_reducible apply W.exit | with_reducible apply W.ret | with_reducible apply At.seqN | with_reducible apply At.blkN | with_reducible apply At.blkE | with_reducible apply At.blkR | with_reducible apply At.thenX | with_reducible apply At.thenR | with_reducible apply At.blkX rfl | ((with_reducible apply W.ops); (repeat (first | refine WL.opA hΓ (h := ?_) | refine WL.opX hΓ (h := ?_) | refine WL.opY (h := ?_) | refine WL.opZ (h := ?_))); with_reducible apply WL.nil) | refine W.condT (h := ?_) | refine W.condF (h := ?_))
    refine At.retA (by rw [Tryd.results11]) (he := ?_)
    simp only [rOl, hv]
theorem oldPathI_s : Sound Tryd.prog 8 (mdl (fun x => okT x.1) encP rOi) := by
  refine Sound.again (fun x => x.1.length) encP_inj fun N ih => ?_
  have ih' : Sound Tryd.prog 8 (mPtN N) := by
    intro args r vs w hgl hm hargs
    unfold mPtN mdl at hm
    split at hm
    · rename_i he
      cases hm
      obtain ⟨⟨⟨⟨⟨h1, h40⟩, hsz⟩, h3, h4⟩, h5⟩, h6⟩ := he.choose_spec
      have := mdl_eq (ok := fun x => okT x.1 ∧ x.1.length < N) (g := rOi) encP_inj he.choose ⟨⟨by omega, hsz⟩, h5⟩
      have hp : pathOk he.choose.1 he.choose.2 := ⟨h40, h3, h4⟩
      simp only [rOi, if_pos hp, oldL] at this
      rw [h6] at this
      exact ih args _ vs w hgl this hargs
    · cases hm
  refine Sound.mdl Tryd.func8 rfl Tryd.ntmps8 ?_
  rintro ⟨l, m⟩ w ⟨h, hN⟩
  refine ⟨by simp, ?_⟩
  replace h : okT l := h
  dsimp only at hN
  have hΓ : GSound Tryd.prog (look [(31, mWithin), (32, mTree), (33, mSpl), (8, mPtN N)]) := env_cons (has_of Tryd.func31 rfl rfl) within_s (env_cons (has_of Tryd.func32 rfl rfl) treeI_s (env_cons (has_of Tryd.func33 rfl rfl) splI_s (env_cons (has_of Tryd.func8 rfl rfl) ih' env_nil)))
  clear ih ih'
  have hlen := rowsF_len cStr l
  obtain ⟨hl, hsz⟩ := id h
  have c1 := mWithin_eq m 1 l.length
  by_cases h40 : l.length ≤ 40
  · by_cases hmr : 1 ≤ m ∧ m ≤ (l.length : Int)
    · obtain ⟨m', rfl⟩ := Int.eq_ofNat_of_zero_le (show 0 ≤ m by omega)
      have hpo : pathOk l (m' : Int) := ⟨h40, hmr.1, hmr.2⟩
      have hv := oldL_yes (l := l) (m := m') hpo
      have ho : okL l := ⟨⟨by omega, h40⟩, hsz⟩
      by_cases hm : m' = l.length
      · rw [parts_eq hm] at hv
        subst hm
        have c2 := mTree_eq l h
        rw [tree_root (by omega) h40] at c2
        clear hsz h ho
        simp only [initS, argPV, List.map_cons, List.map_nil, toPL, Nat.zero_add]
        repeat (first | with_reducible apply W.seq | with_reducible apply W.block | with_reducible apply W.skip | with_reducible apply W.exit | with_reducible apply W.ret | with_reducible apply At.seqN | with_reducible apply At.blkN | with_reducible apply At.blkE | with_reducible apply At.blkR | with_reducible apply At.thenX | with_reducible apply At.thenR | with_reducible apply At.blkX rfl | ((with_reducible apply W.ops); (repeat (first | refine WL.opA hΓ (h := ?_) | refine WL.opX hΓ (h := ?_) | refine WL.opY (h := ?_) | refine WL.opZ (h := ?_))); with_reducible apply WL.nil) | refine W.condT (h := ?_) | refine W.condF (h := ?_))
        refine At.retA (by rw [Tryd.results8]) (he := ?_)
        simp only [rOi, if_pos hpo, hv]
        rfl
      · have hs := spl_lt (n := l.length) (by omega) (by omega)
        have c2 := mSpl_eq l.length (by omega)
        have e1 := rowsF_take cStr l (spl l.length)
        have e2 := sub_lo l (spl l.length)
        have x0 := row_ex (l := l) (k := 0) (by omega)
        have x1 := row_ex (l := l) (k := spl l.length) (by omega)
        by_cases hk : m' ≤ spl l.length
        · rw [parts_lo hm (by omega) (by omega) hk] at hv
          have c3 := mPtN_eq N (l.take (spl l.length)) m' (ho.take hs.1 (by omega)) (by omega) (by rw [List.length_take]; omega) (by rw [List.length_take]; omega)
          have c4 := mTree_eq (l.drop (spl l.length)) (h.drop _)
          rw [tree_root (by rw [List.length_drop]; omega) (by rw [List.length_drop]; omega)] at c4
          have hl2 := parts_len _ m' (l.take (spl l.length)) rfl
          rw [List.length_take] at hl2
          have ha := cStr_app1 (parts m' (l.take (spl l.length))) (root (l.drop (spl l.length)))
          clear hsz h ho
          generalize parts m' (l.take (spl l.length)) = L at *
          simp only [initS, argPV, List.map_cons, List.map_nil, toPL, Nat.zero_add]
          repeat (first | with_reducible apply W.seq | with_reducible apply W.block | with_reducible apply W.skip | with_reducible apply W.exit | with_reducible apply W.ret | with_reducible apply At.seqN | with_reducible apply At.blkN | with_reducible apply At.blkE | with_reducible apply At.blkR | with_reducible apply At.thenX | with_reducible apply At.thenR | with_reducible apply At.blkX rfl | ((with_reducible apply W.ops); (repeat (first | refine WL.opA hΓ (h := ?_) | refine WL.opX hΓ (h := ?_) | refine WL.opY (h := ?_) | refine WL.opZ (h := ?_))); with_reducible apply WL.nil) | refine W.condT (h := ?_) | refine W.condF (h := ?_))
          refine W.drawsA hΓ 10 [[], [], [0, 1], [], [0, 1, 2, 3], [], [], [5, 6], [0, 1, 2, 3, 4, 5, 6, 7], [0, 1, 2, 3, 4, 5, 6, 7, 8], [0, 1, 2, 3, 4, 5, 6, 7, 8, 9], [0, 1, 2, 3, 4, 5, 6, 7, 8, 9, 10]] (rest := ?rest31) (Es := ?Es31) (st1 := ?st131) (h := ?h31) (hf := ?hf31) (hp := ?hp31) (hd := ?hd31) (hfr := ?hfr31) (hst := ?hst31) (hT := ?hT31)
          case h31 => kernel_rfl
          case hf31 =>
            repeat (first | refine FlowT.opA (h := ?_) | refine FlowT.opX (h := ?_) | refine FlowT.opY (h := ?_) | refine FlowT.opZ (h := ?_))
            exact FlowT.done
          case hp31 => rfl
          case hd31 => rfl
          case hfr31 => rfl
          case hst31 =>
            simp only [pick_nil, pick_all, List.cons_append, List.nil_append]
            rfl
          (repeat (first | refine WL.opA hΓ (h := ?_) | refine WL.opX hΓ (h := ?_) | refine WL.opY (h := ?_) | refine WL.opZ (h := ?_)))
          with_reducible apply WL.nil
          repeat (first | with_reducible apply W.seq | with_reducible apply W.block | with_reducible apply W.skip | with_reducible apply W.exit | with_reducible apply W.ret | with_reducible apply At.seqN | with_reducible apply At.blkN | with_reducible apply At.blkE | with_reducible apply At.blkR | with_reducible apply At.thenX | with_reducible apply At.thenR | with_reducible apply At.blkX rfl | ((with_reducible apply W.ops); (repeat (first | refine WL.opA hΓ (h := ?_) | refine WL.opX hΓ (h := ?_) | refine WL.opY (h := ?_) | refine WL.opZ (h := ?_))); with_reducible apply WL.nil) | refine W.condT (h := ?_) | refine W.condF (h := ?_))
          refine At.retA (by rw [Tryd.results8]) (he := ?_)
          simp only [rOi, if_pos hpo, hv]
        · rw [parts_hi hm (by omega) (by omega) hk] at hv
          have e3 : (m' : Int) - (spl l.length : Int) = ((m' - spl l.length : Nat) : Int) := by omega
          have c3 := mPtN_eq N (l.drop (spl l.length)) (m' - spl l.length) (ho.drop (by omega)) (by omega) (by rw [List.length_drop]; omega) (by rw [List.length_drop]; omega)
          have c4 := mTree_eq (l.take (spl l.length)) (h.take _)
          rw [tree_root (by rw [List.length_take]; omega) (by rw [List.length_take]; omega)] at c4
          have hl2 := parts_len _ (m' - spl l.length) (l.drop (spl l.length)) rfl
          rw [List.length_drop] at hl2
          have ha := cStr_app2 (parts (m' - spl l.length) (l.drop (spl l.length))) (root (l.take (spl l.length)))
          clear hsz h ho
          generalize parts (m' - spl l.length) (l.drop (spl l.length)) = L at *
          have hwd : wid 1 (rowsF cStr L) := rowsF_wid (f := cStr) (s := 1) (fun _ => rfl) L
          simp only [initS, argPV, List.map_cons, List.map_nil, toPL, Nat.zero_add]
          repeat (first | with_reducible apply W.seq | with_reducible apply W.block | with_reducible apply W.skip | with_reducible apply W.exit | with_reducible apply W.ret | with_reducible apply At.seqN | with_reducible apply At.blkN | with_reducible apply At.blkE | with_reducible apply At.blkR | with_reducible apply At.thenX | with_reducible apply At.thenR | with_reducible apply At.blkX rfl | ((with_reducible apply W.ops); (repeat (first | refine WL.opA hΓ (h := ?_) | refine WL.opX hΓ (h := ?_) | refine WL.opY (h := ?_) | refine WL.opZ (h := ?_))); with_reducible apply WL.nil) | refine W.condT (h := ?_) | refine W.condF (h := ?_))
          refine W.drawsA hΓ 12 [[], [], [0, 1], [0, 1, 2], [0, 1, 2, 3], [], [], [5, 6], [], [], [8, 9], [0, 1, 2, 3, 5, 6, 7, 8, 9, 10], [0, 1, 2, 3, 4, 5, 6, 7, 8, 9, 10, 11], [0, 1, 2, 3, 4, 5, 6, 7, 8, 9, 10, 11, 12]] (rest := ?rest36) (Es := ?Es36) (st1 := ?st136) (h := ?h36) (hf := ?hf36) (hp := ?hp36) (hd := ?hd36) (hfr := ?hfr36) (hst := ?hst36) (hT := ?hT36)
          case h36 => kernel_rfl
          case hf36 =>
            repeat (first | refine FlowT.opA (h := ?_) | refine FlowT.opX (h := ?_) | refine FlowT.opY (h := ?_) | refine FlowT.opZ (h := ?_))
            exact FlowT.done
          case hp36 => rfl
          case hd36 => rfl
          case hfr36 => rfl
          case hst36 =>
            simp only [pick_nil, pick_all, List.cons_append, List.nil_append]
            rfl
          (repeat (first | refine WL.opA hΓ (h := ?_) | refine WL.opX hΓ (h := ?_) | refine WL.opY (h := ?_) | refine WL.opZ (h := ?_)))
          with_reducible apply WL.nil
          repeat (first | with_reducible apply W.seq | with_reducible apply W.block | with_reducible apply W.skip | with_reducible apply W.exit | with_reducible apply W.ret | with_reducible apply At.seqN | with_reducible apply At.blkN | with_reducible apply At.blkE | with_reducible apply At.blkR | with_reducible apply At.thenX | with_reducible apply At.thenR | with_reducible apply At.blkX rfl | ((with_reducible apply W.ops); (repeat (first | refine WL.opA hΓ (h := ?_) | refine WL.opX hΓ (h := ?_) | refine WL.opY (h := ?_) | refine WL.opZ (h := ?_))); with_reducible apply WL.nil) | refine W.condT (h := ?_) | refine W.condF (h := ?_))
          refine At.retA (by rw [Tryd.results8]) (he := ?_)
          simp only [rOi, if_pos hpo, hv, List.cons_append, List.nil_append]
    · have hpo : ¬ pathOk l m := fun h => hmr h.2
      clear hsz h
      simp only [initS, argPV, List.map_cons, List.map_nil, toPL, Nat.zero_add]
      repeat (first | with_reducible apply W.seq | with_reducible apply W.block | with_reducible apply W.skip | with_reducible apply W.exit | with_reducible apply W.ret | with_reducible apply At.seqN | with_reducible apply At.blkN | with_reducible apply At.blkE | with_reducible apply At.blkR | with_reducible apply At.thenX | with_reducible apply At.thenR | with_reducible apply At.blkX rfl | ((with_reducible apply W.ops); (repeat (first | refine WL.opA hΓ (h := ?_) | refine WL.opX hΓ (h := ?_) | refine WL.opY (h := ?_) | refine WL.opZ (h := ?_))); with_reducible apply WL.nil) | refine W.condT (h := ?_) | refine W.condF (h := ?_))
      refine At.retA (by rw [Tryd.results8]) (he := ?_)
      simp only [rOi, if_neg hpo]
  · have hpo : ¬ pathOk l m := fun h => h40 h.1
    clear hsz h
    simp only [initS, argPV, List.map_cons, List.map_nil, toPL, Nat.zero_add]
    repeat (first | with_reducible apply W.seq | with_reducible apply W.block | with_reducible apply W.skip | with_reducible apply W.exit | with_reducible apply W.ret | with_reducible apply At.seqN | with_reducible apply At.blkN | with_reducible apply At.blkE | with_reducible apply At.blkR | with_reducible apply At.thenX | with_reducible apply At.thenR | with_reducible apply At.blkX rfl | ((with_reducible apply W.ops); (repeat (first | refine WL.opA hΓ (h := ?_) | refine WL.opX hΓ (h := ?_) | refine WL.opY (h := ?_) | refine WL.opZ (h := ?_))); with_reducible apply WL.nil) | refine W.condT (h := ?_) | refine W.condF (h := ?_))
    refine At.retA (by rw [Tryd.results8]) (he := ?_)
    simp only [rOi, if_neg hpo]
section
variable {w : World} {v : Value} {l : List ByteArray} {m : Int}
theorem path_args (h : RdS w w.heap.size 1 cStr v l) : RepAs w [aL cStr l, aI m] [v, .int .i64 m] :=
  RepAs.cons (aL_rep (fun _ => rfl) cStr_one h) (RepAs.cons (aI_rep m) RepAs.nil)
theorem GlobOk.below {γ0 : Nat → Option Nat} {w w' : World} (h : GlobOk γ0 w) (hb : Below w.heap.size w w') : GlobOk γ0 w' := fun g cs hg => by
  obtain ⟨h1, h2, h3⟩ := h g cs hg
  exact ⟨h1, Nat.lt_of_lt_of_le h2 hb.size, fun j v hj => ⟨(h3 j v hj).1, (hb.cell (p := ⟨g, j, none⟩) h2).trans (h3 j v hj).2⟩⟩
theorem okT_tot (ht : strsTot l ≤ 1048576) : okT l := by
  have h0 := strsTot_ge l
  refine ⟨by omega, fun x hx => ?_⟩
  have h1 : x.size ≤ (l.map ByteArray.size).sum := by
    clear ht h0
    induction l with
    | nil => cases hx
    | cons y r ih =>
      simp only [List.map_cons, List.sum_cons]
      rcases List.mem_cons.1 hx with rfl | hx
      · omega
      · have := ih hx; omega
  unfold strsTot at ht
  omega
theorem oldPath_spec (gl : GlobOk none0 w) (h : RdS w w.heap.size 1 cStr v l) (ht : strsTot l ≤ 1048576) : Calls Tryd.prog 11 #[v, .int .i64 m] w (NewS w 1 cStr (oldL l m)) :=
  calls_new (fun _ => rfl) oldPathS_s (mdl_eq encP_inj (l, m) (okT_tot ht)) (path_args h) gl
theorem oldPath_impl (gl : GlobOk none0 w) (h : RdS w w.heap.size 1 cStr v l) (ht : strsTot l ≤ 1048576) : Calls Tryd.prog 8 #[v, .int .i64 m] w (NewS w 1 cStr (oldL l m)) := by
  have he := mdl_eq (ok := fun x : List ByteArray × Int => okT x.1) (g := rOi) encP_inj (l, m) (okT_tot ht)
  by_cases hp : pathOk l m
  · simp only [rOi, if_pos hp] at he
    exact calls_new (fun _ => rfl) oldPathI_s he (path_args h) gl
  · simp only [rOi, if_neg hp] at he
    rw [oldL_no hp]
    exact calls_newN oldPathI_s he (path_args h) gl
end

end Go.Proofs.YteaohgacgcjkjaaDoor
