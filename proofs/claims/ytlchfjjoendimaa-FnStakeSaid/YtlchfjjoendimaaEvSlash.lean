/-
  Slash of spec and impl.
-/
import Derived.Test.YtlchfjjoendimaaEvList
import Derived.Test.YtlchfjjoendimaaAcctsOk
namespace Go.Proofs.Ytlchfjjoendimaa
set_option maxRecDepth 100000
set_option linter.unusedVariables false
set_option linter.unusedSimpArgs false
open Go Go.RowKit
set_option maxHeartbeats 4000000

noncomputable def mAccts := mdl (fun l : List TAcct => l.length ≤ 8796093022207) (fun l => [aL cAcct l]) (fun l => rB (decide (acctsOk l)))
theorem mAccts_eq (l : List TAcct) (h : l.length ≤ 8796093022207) : mAccts [aL cAcct l] = some (rB (decide (acctsOk l))) := mdl_eq (by intro a b h; simpa using h) l h
theorem acctsS_s : Sound Try.prog 44 mAccts := Sound.listB (s := 2) (fun _ => rfl) fun v l w hl h => (acctsOk_spec v l _ w h hl).mono fun e w' h => h.says
theorem acctsI_s : Sound Try.prog 104 mAccts := Sound.listB (s := 2) (fun _ => rfl) fun v l w hl h => acctsOk_impl v l w h hl
noncomputable def mCopyA := mdl (fun l : List TAcct => l.length ≤ 8796093022207) (fun l => [aL cAcct l]) (fun l => rL 122 2 cAcct l)
theorem mCopyA_eq (l : List TAcct) (h : l.length ≤ 8796093022207) : mCopyA [aL cAcct l] = some (rL 122 2 cAcct l) := mdl_eq (by intro a b h; simpa using h) l h

def upA (ids : List Int) (part : Int) (a : TAcct) : TAcct := if a.1 ∈ ids then (a.1, a.2 - a.2.tdiv part) else a
def cutA (ids : List Int) (part : Int) (a : TAcct) : Int := if a.1 ∈ ids then a.2.tdiv part else 0
def slU (ids : List Int) (part : Int) (l : List TAcct) (k : Nat) : List TAcct := (l.take k).map (upA ids part) ++ l.drop k
def slC (ids : List Int) (part : Int) (l : List TAcct) (k : Nat) : Int := ((l.take k).map (cutA ids part)).sum
theorem slU_zero {ids part l} : slU ids part l 0 = l := by simp [slU]
theorem slC_zero {ids part l} : slC ids part l 0 = 0 := rfl
theorem slU_all {ids part} {l : List TAcct} {k : Nat} (h : l.length ≤ k) : slU ids part l k = l.map (upA ids part) := by simp [slU, List.take_of_length_le h, List.drop_of_length_le h]
theorem slC_all {ids part} {l : List TAcct} {k : Nat} (h : l.length ≤ k) : slC ids part l k = (l.map (cutA ids part)).sum := by simp [slC, List.take_of_length_le h]
theorem slU_len {ids part} {l : List TAcct} {k : Nat} (h : k ≤ l.length) : (slU ids part l k).length = l.length := by simp [slU]; omega
theorem slU_get {ids part} {l : List TAcct} {k : Nat} (h : k < l.length) : (slU ids part l k)[k]? = some l[k] := by
  unfold slU
  rw [List.getElem?_append_right (by simp; omega)]
  simp [Nat.min_eq_left (Nat.le_of_lt h), h]
theorem slU_succ {ids part} {l : List TAcct} {k : Nat} (h : k < l.length) : slU ids part l (k + 1) = (slU ids part l k).set k (upA ids part l[k]) := by
  unfold slU
  have hl : ((l.take k).map (upA ids part)).length = k := by simp; omega
  rw [List.take_succ_eq_append_getElem h, List.drop_eq_getElem_cons h, List.set_append_right _ _ (by omega), hl, Nat.sub_self, List.set_cons_zero, List.map_append, List.append_assoc]
  rfl
theorem slC_succ {ids part} {l : List TAcct} {k : Nat} (h : k < l.length) : slC ids part l (k + 1) = slC ids part l k + cutA ids part l[k] := by
  unfold slC
  rw [List.take_succ_eq_append_getElem h, List.map_append, List.sum_append]
  simp only [List.map_cons, List.map_nil, List.sum_cons, List.sum_nil, Int.add_zero]
theorem sl_yes {ids part} {l : List TAcct} {k : Nat} (h : k < l.length) (hm : l[k].1 ∈ ids) : slC ids part l (k + 1) = slC ids part l k + l[k].2.tdiv part ∧
    (rowsF cAcct (slU ids part l k)).set k [.sc (.int .i64 l[k].1), .sc (.int .i64 (l[k].2 - l[k].2.tdiv part))] = rowsF cAcct (slU ids part l (k + 1)) := by
  refine ⟨by rw [slC_succ h]; simp [cutA, hm], ?_⟩
  rw [slU_succ h, ← rowsF_set]
  simp [upA, hm, cAcct]
theorem sl_no {ids part} {l : List TAcct} {k : Nat} (h : k < l.length) (hm : l[k].1 ∉ ids) : slC ids part l (k + 1) = slC ids part l k ∧ slU ids part l (k + 1) = slU ids part l k := by
  refine ⟨by rw [slC_succ h]; simp [cutA, hm], ?_⟩
  rw [slU_succ h]
  simp only [upA, if_neg hm]
  refine List.ext_getElem? fun i => ?_
  rw [List.getElem?_set]
  split
  · rename_i e
    subst e
    rw [if_pos (by rw [slU_len (by omega)]; exact h), slU_get h]
  · rfl
theorem accts_at {l : List TAcct} (h : acctsOk l) {k : Nat} (hk : k < l.length) : 1 ≤ l[k].1 ∧ l[k].1 ≤ 99 ∧ 0 ≤ l[k].2 ∧ l[k].2 ≤ 1000000 := by
  have := h.2 k hk
  unfold acctAt at this
  simp only [List.getD_eq_getElem?_getD, List.getElem?_eq_getElem hk, Option.getD_some] at this
  exact ⟨this.1, this.2.1, this.2.2.1, this.2.2.2.1⟩
theorem tdiv_in {a b : Int} (h : 0 ≤ a) (hb : 1 ≤ b) : 0 ≤ a.tdiv b ∧ a.tdiv b ≤ a := by
  rw [Int.tdiv_eq_ediv_of_nonneg h]
  exact ⟨Int.ediv_nonneg h (by omega), Int.ediv_le_self b h⟩

def slashR (e : Nat) (x : List TAcct × List Int × Int) : Res :=
  if acctsOk x.1 then (if 1 ≤ x.2.2 ∧ x.2.2 ≤ 100 then rTL e 2 cAcct (x.1.map (upA x.2.1 x.2.2)) ([.int .i64 (x.1.map (cutA x.2.1 x.2.2)).sum, .bool true].map rSc)
    else rTL e 2 cAcct x.1 ([.int .i64 0, .bool false].map rSc)) else rTL e 2 cAcct [] ([.int .i64 0, .bool false].map rSc)
abbrev eSlash (x : List TAcct × List Int × Int) : List Arg := [aL cAcct x.1, aL cInt x.2.1, aI x.2.2]
abbrev okSlash (x : List TAcct × List Int × Int) : Prop := x.1.length ≤ 8796093022207 ∧ x.2.1.length ≤ 8796093022207

theorem slashS_s : Sound Try.prog 47 (mdl okSlash eSlash (slashR 122)) := by
  refine Sound.mdl Try.func47 rfl Try.ntmps47 ?_
  rintro ⟨l, ids, part⟩ w ⟨hl, hi⟩
  refine ⟨by simp, ?_⟩
  replace hl : l.length ≤ 8796093022207 := hl
  replace hi : ids.length ≤ 8796093022207 := hi
  have hΓ : GSound Try.prog (look [(44, mAccts), (89, mIn), (74, mHas)]) := env_cons (has_of Try.func44 rfl rfl) acctsS_s (env_cons (has_of Try.func89 rfl rfl) l1In_s (env_cons (has_of Try.func74 rfl rfl) has_s env_nil))
  have c1 := mAccts_eq l hl
  have c2 := mIn_eq
  have c3 := fun x => mHas_eq ids x hi
  have hwd : wid 2 (rowsF cAcct l) := rowsF_wid (f := cAcct) (s := 2) (fun _ => rfl) l
  simp only [initS, argPV, List.map_cons, List.map_nil, toPL, Nat.zero_add]
  by_cases ha : acctsOk l
  · by_cases hp : 1 ≤ part ∧ part ≤ 100
    · have hl7 : l.length ≤ 7 := ha.1
      have hz : slU ids part l 0 = l := slU_zero
      have hz2 : slC ids part l 0 = 0 := rfl
      repeat (first | with_reducible apply W.seq | with_reducible apply W.block | with_reducible apply W.skip | with_reducible apply W.exit | with_reducible apply W.ret | with_reducible apply At.seqN | with_reducible apply At.blkN | with_reducible apply At.blkE | with_reducible apply At.blkR | with_reducible apply At.thenX | with_reducible apply At.thenR | with_reducible apply At.blkX rfl | ((with_reducible apply W.ops); (repeat (first | refine WL.opA hΓ (h := ?_) | refine WL.opX hΓ (h := ?_) | refine WL.opY (h := ?_) | refine WL.opZ (h := ?_))); with_reducible apply WL.nil) | refine W.condT (h := ?_) | refine W.condF (h := ?_))
      refine W.loopA (fun k => k ≤ l.length ∧ 0 ≤ slC ids part l k ∧ slC ids part l k ≤ 1000000 * k) (fun k : Nat => [.slot 11 (vI k), .slot 9 (one (.all 17)), .slot 10 (vI (slC ids part l k)), .slot 1 (vL cInt ids), .slot 2 (vI part), .blk 17 (.arr true 122 2 (rowsF cAcct (slU ids part l k)))]) (fun k => l.length - k) 0 ⟨Nat.zero_le _, by simp [hz2]⟩ (h := ?_)
      rintro k ⟨hk, hs0, hs1⟩
      have hU := slU_len (ids := ids) (part := part) hk
      by_cases hlt : k < l.length
      · have hrow : (rowsF cAcct (slU ids part l k))[k]? = some [.sc (.int .i64 l[k].1), .sc (.int .i64 l[k].2)] := by
          unfold rowsF
          rw [List.getElem?_map, slU_get hlt]
          rfl
        obtain ⟨b1, b2, b3, b4⟩ := accts_at ha hlt
        obtain ⟨q1, q2⟩ := tdiv_in b3 hp.1
        by_cases hm : l[k].1 ∈ ids
        · obtain ⟨e1, e2⟩ := sl_yes (part := part) hlt hm
          repeat (first | with_reducible apply W.seq | with_reducible apply W.block | with_reducible apply W.skip | with_reducible apply W.exit | with_reducible apply W.ret | with_reducible apply At.seqN | with_reducible apply At.blkN | with_reducible apply At.blkE | with_reducible apply At.blkR | with_reducible apply At.thenX | with_reducible apply At.thenR | with_reducible apply At.blkX rfl | ((with_reducible apply W.ops); (repeat (first | refine WL.opA hΓ (h := ?_) | refine WL.opX hΓ (h := ?_) | refine WL.opY (h := ?_) | refine WL.opZ (h := ?_))); with_reducible apply WL.nil) | refine W.condT (h := ?_) | refine W.condF (h := ?_))
          exact At.roundA (k + 1) ⟨by omega, by omega, by omega⟩ (by omega)
        · obtain ⟨e1, e2⟩ := sl_no (part := part) hlt hm
          repeat (first | with_reducible apply W.seq | with_reducible apply W.block | with_reducible apply W.skip | with_reducible apply W.exit | with_reducible apply W.ret | with_reducible apply At.seqN | with_reducible apply At.blkN | with_reducible apply At.blkE | with_reducible apply At.blkR | with_reducible apply At.thenX | with_reducible apply At.thenR | with_reducible apply At.blkX rfl | ((with_reducible apply W.ops); (repeat (first | refine WL.opA hΓ (h := ?_) | refine WL.opX hΓ (h := ?_) | refine WL.opY (h := ?_) | refine WL.opZ (h := ?_))); with_reducible apply WL.nil) | refine W.condT (h := ?_) | refine W.condF (h := ?_))
          exact At.roundA (k + 1) ⟨by omega, by omega, by omega⟩ (by omega)
      · repeat (first | with_reducible apply W.seq | with_reducible apply W.block | with_reducible apply W.skip | with_reducible apply W.exit | with_reducible apply W.ret | with_reducible apply At.seqN | with_reducible apply At.blkN | with_reducible apply At.blkE | with_reducible apply At.blkR | with_reducible apply At.thenX | with_reducible apply At.thenR | with_reducible apply At.blkX rfl | ((with_reducible apply W.ops); (repeat (first | refine WL.opA hΓ (h := ?_) | refine WL.opX hΓ (h := ?_) | refine WL.opY (h := ?_) | refine WL.opZ (h := ?_))); with_reducible apply WL.nil) | refine W.condT (h := ?_) | refine W.condF (h := ?_))
        refine At.retA (by rw [Try.results47]) (he := ?_)
        simp only [slashR, if_pos ha, if_pos hp, slU_all (Nat.le_of_not_lt hlt), slC_all (Nat.le_of_not_lt hlt)]
        rfl
    · repeat (first | with_reducible apply W.seq | with_reducible apply W.block | with_reducible apply W.skip | with_reducible apply W.exit | with_reducible apply W.ret | with_reducible apply At.seqN | with_reducible apply At.blkN | with_reducible apply At.blkE | with_reducible apply At.blkR | with_reducible apply At.thenX | with_reducible apply At.thenR | with_reducible apply At.blkX rfl | ((with_reducible apply W.ops); (repeat (first | refine WL.opA hΓ (h := ?_) | refine WL.opX hΓ (h := ?_) | refine WL.opY (h := ?_) | refine WL.opZ (h := ?_))); with_reducible apply WL.nil) | refine W.condT (h := ?_) | refine W.condF (h := ?_))
      refine At.retA (by rw [Try.results47]) (he := ?_)
      simp only [slashR, if_pos ha, if_neg hp]
      rfl
  · repeat (first | with_reducible apply W.seq | with_reducible apply W.block | with_reducible apply W.skip | with_reducible apply W.exit | with_reducible apply W.ret | with_reducible apply At.seqN | with_reducible apply At.blkN | with_reducible apply At.blkE | with_reducible apply At.blkR | with_reducible apply At.thenX | with_reducible apply At.thenR | with_reducible apply At.blkX rfl | ((with_reducible apply W.ops); (repeat (first | refine WL.opA hΓ (h := ?_) | refine WL.opX hΓ (h := ?_) | refine WL.opY (h := ?_) | refine WL.opZ (h := ?_))); with_reducible apply WL.nil) | refine W.condT (h := ?_) | refine W.condF (h := ?_))
    refine At.retA (by rw [Try.results47]) (he := ?_)
    simp only [slashR, if_neg ha]
    rfl

theorem copyA_s : Sound Try.prog 105 mCopyA := by
  refine Sound.mdl Try.func105 rfl Try.ntmps105 ?_
  rintro l w hl
  refine ⟨by simp, ?_⟩
  replace hl : l.length ≤ 8796093022207 := hl
  have hΓ : GSound Try.prog (look []) := env_nil
  have hwd : wid 2 (rowsF cAcct l) := rowsF_wid (f := cAcct) (s := 2) (fun _ => rfl) l
  simp only [initS, argPV, List.map_cons, List.map_nil, toPL, Nat.zero_add]
  repeat (first | with_reducible apply W.seq | with_reducible apply W.block | with_reducible apply W.skip | with_reducible apply W.exit | with_reducible apply W.ret | with_reducible apply At.seqN | with_reducible apply At.blkN | with_reducible apply At.blkE | with_reducible apply At.blkR | with_reducible apply At.thenX | with_reducible apply At.thenR | with_reducible apply At.blkX rfl | ((with_reducible apply W.ops); (repeat (first | refine WL.opA hΓ (h := ?_) | refine WL.opX hΓ (h := ?_) | refine WL.opY (h := ?_) | refine WL.opZ (h := ?_))); with_reducible apply WL.nil) | refine W.condT (h := ?_) | refine W.condF (h := ?_))
  refine At.retA (by rw [Try.results105]) (he := rfl)

theorem slashI_s : Sound Try.prog 46 (mdl okSlash eSlash fun x => if acctsOk x.1 then slashR 122 x else rTN ([.int .i64 0, .bool false].map rSc)) := by
  refine Sound.mdl Try.func46 rfl Try.ntmps46 ?_
  rintro ⟨l, ids, part⟩ w ⟨hl, hi⟩
  refine ⟨by simp, ?_⟩
  replace hl : l.length ≤ 8796093022207 := hl
  replace hi : ids.length ≤ 8796093022207 := hi
  have hΓ : GSound Try.prog (look [(104, mAccts), (100, mWithin), (72, mCont), (105, mCopyA)]) := env_cons (has_of Try.func104 rfl rfl) acctsI_s (env_cons (has_of Try.func100 rfl rfl) within_s (env_cons (has_of Try.func72 rfl rfl) cont_s (env_cons (has_of Try.func105 rfl rfl) copyA_s env_nil)))
  have c1 := mAccts_eq l hl
  have c2 := mWithin_eq
  have c3 := fun x => mCont_eq ids x hi
  have c4 := mCopyA_eq l hl
  simp only [initS, argPV, List.map_cons, List.map_nil, toPL, Nat.zero_add]
  by_cases ha : acctsOk l
  · by_cases hp : 1 ≤ part ∧ part ≤ 100
    · have hl7 : l.length ≤ 7 := ha.1
      have hz : slU ids part l 0 = l := slU_zero
      have hz2 : slC ids part l 0 = 0 := rfl
      repeat (first | with_reducible apply W.seq | with_reducible apply W.block | with_reducible apply W.skip | with_reducible apply W.exit | with_reducible apply W.ret | with_reducible apply At.seqN | with_reducible apply At.blkN | with_reducible apply At.blkE | with_reducible apply At.blkR | with_reducible apply At.thenX | with_reducible apply At.thenR | with_reducible apply At.blkX rfl | ((with_reducible apply W.ops); (repeat (first | refine WL.opA hΓ (h := ?_) | refine WL.opX hΓ (h := ?_) | refine WL.opY (h := ?_) | refine WL.opZ (h := ?_))); with_reducible apply WL.nil) | refine W.condT (h := ?_) | refine W.condF (h := ?_))
      refine W.loopA (fun k => k ≤ l.length ∧ 0 ≤ slC ids part l k ∧ slC ids part l k ≤ 1000000 * k) (fun k : Nat => [.slot 25 (vI k), .slot 24 (vI l.length), .slot 23 (one (.all 18)), .slot 9 (one (.all 18)), .slot 10 (vI (slC ids part l k)), .slot 1 (vL cInt ids), .slot 2 (vI part), .blk 18 (.arr true 122 2 (rowsF cAcct (slU ids part l k)))]) (fun k => l.length - k) 0 ⟨Nat.zero_le _, by simp [hz2]⟩ (h := ?_)
      rintro k ⟨hk, hs0, hs1⟩
      have hU := slU_len (ids := ids) (part := part) hk
      by_cases hlt : k < l.length
      · have hrow : (rowsF cAcct (slU ids part l k))[k]? = some [.sc (.int .i64 l[k].1), .sc (.int .i64 l[k].2)] := by
          unfold rowsF
          rw [List.getElem?_map, slU_get hlt]
          rfl
        obtain ⟨b1, b2, b3, b4⟩ := accts_at ha hlt
        obtain ⟨q1, q2⟩ := tdiv_in b3 hp.1
        by_cases hm : l[k].1 ∈ ids
        · obtain ⟨e1, e2⟩ := sl_yes (part := part) hlt hm
          repeat (first | with_reducible apply W.seq | with_reducible apply W.block | with_reducible apply W.skip | with_reducible apply W.exit | with_reducible apply W.ret | with_reducible apply At.seqN | with_reducible apply At.blkN | with_reducible apply At.blkE | with_reducible apply At.blkR | with_reducible apply At.thenX | with_reducible apply At.thenR | with_reducible apply At.blkX rfl | ((with_reducible apply W.ops); (repeat (first | refine WL.opA hΓ (h := ?_) | refine WL.opX hΓ (h := ?_) | refine WL.opY (h := ?_) | refine WL.opZ (h := ?_))); with_reducible apply WL.nil) | refine W.condT (h := ?_) | refine W.condF (h := ?_))
          exact At.roundA (k + 1) ⟨by omega, by omega, by omega⟩ (by omega)
        · obtain ⟨e1, e2⟩ := sl_no (part := part) hlt hm
          repeat (first | with_reducible apply W.seq | with_reducible apply W.block | with_reducible apply W.skip | with_reducible apply W.exit | with_reducible apply W.ret | with_reducible apply At.seqN | with_reducible apply At.blkN | with_reducible apply At.blkE | with_reducible apply At.blkR | with_reducible apply At.thenX | with_reducible apply At.thenR | with_reducible apply At.blkX rfl | ((with_reducible apply W.ops); (repeat (first | refine WL.opA hΓ (h := ?_) | refine WL.opX hΓ (h := ?_) | refine WL.opY (h := ?_) | refine WL.opZ (h := ?_))); with_reducible apply WL.nil) | refine W.condT (h := ?_) | refine W.condF (h := ?_))
          exact At.roundA (k + 1) ⟨by omega, by omega, by omega⟩ (by omega)
      · repeat (first | with_reducible apply W.seq | with_reducible apply W.block | with_reducible apply W.skip | with_reducible apply W.exit | with_reducible apply W.ret | with_reducible apply At.seqN | with_reducible apply At.blkN | with_reducible apply At.blkE | with_reducible apply At.blkR | with_reducible apply At.thenX | with_reducible apply At.thenR | with_reducible apply At.blkX rfl | ((with_reducible apply W.ops); (repeat (first | refine WL.opA hΓ (h := ?_) | refine WL.opX hΓ (h := ?_) | refine WL.opY (h := ?_) | refine WL.opZ (h := ?_))); with_reducible apply WL.nil) | refine W.condT (h := ?_) | refine W.condF (h := ?_))
        refine At.retA (by rw [Try.results46]) (he := ?_)
        simp only [slashR, if_pos ha, if_pos hp, slU_all (Nat.le_of_not_lt hlt), slC_all (Nat.le_of_not_lt hlt)]
        rfl
    · repeat (first | with_reducible apply W.seq | with_reducible apply W.block | with_reducible apply W.skip | with_reducible apply W.exit | with_reducible apply W.ret | with_reducible apply At.seqN | with_reducible apply At.blkN | with_reducible apply At.blkE | with_reducible apply At.blkR | with_reducible apply At.thenX | with_reducible apply At.thenR | with_reducible apply At.blkX rfl | ((with_reducible apply W.ops); (repeat (first | refine WL.opA hΓ (h := ?_) | refine WL.opX hΓ (h := ?_) | refine WL.opY (h := ?_) | refine WL.opZ (h := ?_))); with_reducible apply WL.nil) | refine W.condT (h := ?_) | refine W.condF (h := ?_))
      refine At.retA (by rw [Try.results46]) (he := ?_)
      simp only [slashR, if_pos ha, if_neg hp]
      rfl
  · repeat (first | with_reducible apply W.seq | with_reducible apply W.block | with_reducible apply W.skip | with_reducible apply W.exit | with_reducible apply W.ret | with_reducible apply At.seqN | with_reducible apply At.blkN | with_reducible apply At.blkE | with_reducible apply At.blkR | with_reducible apply At.thenX | with_reducible apply At.thenR | with_reducible apply At.blkX rfl | ((with_reducible apply W.ops); (repeat (first | refine WL.opA hΓ (h := ?_) | refine WL.opX hΓ (h := ?_) | refine WL.opY (h := ?_) | refine WL.opZ (h := ?_))); with_reducible apply WL.nil) | refine W.condT (h := ?_) | refine W.condF (h := ?_))
    refine At.retA (by rw [Try.results46]) (he := ?_)
    simp only [if_neg ha]

/-! the contracts in the law's words -/
def slashL (l : List TAcct) (ids : List Int) (part : Int) : List TAcct := if acctsOk l then (if 1 ≤ part ∧ part ≤ 100 then l.map (upA ids part) else l) else []
def slashN (l : List TAcct) (ids : List Int) (part : Int) : Int := if acctsOk l ∧ 1 ≤ part ∧ part ≤ 100 then (l.map (cutA ids part)).sum else 0
def slashB (l : List TAcct) (_ : List Int) (part : Int) : Bool := decide (acctsOk l ∧ 1 ≤ part ∧ part ≤ 100)
theorem slashL_le (l : List TAcct) (ids : List Int) (part : Int) : (slashL l ids part).length ≤ l.length := by
  unfold slashL
  split
  · split
    · simp
    · exact Nat.le_refl _
  · simp
theorem slashR_eq (e : Nat) (l : List TAcct) (ids : List Int) (part : Int) : slashR e (l, ids, part) = rTL e 2 cAcct (slashL l ids part) ([.int .i64 (slashN l ids part), .bool (slashB l ids part)].map rSc) := by
  unfold slashR slashL slashN slashB
  by_cases ha : acctsOk l
  · by_cases hp : 1 ≤ part ∧ part ≤ 100
    · simp [ha, hp]
    · have : ¬ (acctsOk l ∧ 1 ≤ part ∧ part ≤ 100) := fun h => hp h.2
      simp only [if_pos ha, if_neg hp, if_neg this, decide_eq_false this]
  · have : ¬ (acctsOk l ∧ 1 ≤ part ∧ part ≤ 100) := fun h => ha h.1
    simp only [if_neg ha, if_neg this, decide_eq_false this]
theorem eSlash_inj : ∀ x y, eSlash x = eSlash y → x = y := by
  rintro ⟨a, b, c⟩ ⟨d, e, f⟩ h
  simpa [eSlash] using h
section
variable {l : List TAcct} {ids : List Int} {part : Int} {v1 v2 : Value} {w : World}
theorem slash_args (h1 : RdS w w.heap.size 2 cAcct v1 l) (h2 : RdS w w.heap.size 1 cInt v2 ids) : RepAs w (eSlash (l, ids, part)) [v1, v2, .int .i64 part] :=
  RepAs.cons (aL_rep (fun _ => rfl) (fun x u hu => by simp [cAcct] at hu; rcases hu with rfl | rfl <;> rfl) h1) (RepAs.cons (aL_rep (fun _ => rfl) (fun x u hu => by simp [cInt] at hu; subst hu; rfl) h2) (RepAs.cons (aI_rep part) RepAs.nil))
theorem slash_spec (h1 : RdS w w.heap.size 2 cAcct v1 l) (h2 : RdS w w.heap.size 1 cInt v2 ids) (n1 : l.length ≤ 8796093022207) (n2 : ids.length ≤ 8796093022207) :
    Calls Try.prog 47 #[v1, v2, .int .i64 part] w (NewT w 2 cAcct (slashL l ids part) [.int .i64 (slashN l ids part), .bool (slashB l ids part)]) :=
  calls_newT (fun _ => rfl) slashS_s ((mdl_eq eSlash_inj (l, ids, part) ⟨n1, n2⟩).trans (congrArg some (slashR_eq _ l ids part))) (slash_args h1 h2)
theorem slash_impl (h1 : RdS w w.heap.size 2 cAcct v1 l) (h2 : RdS w w.heap.size 1 cInt v2 ids) (n1 : l.length ≤ 8796093022207) (n2 : ids.length ≤ 8796093022207) :
    Calls Try.prog 46 #[v1, v2, .int .i64 part] w (NewT w 2 cAcct (slashL l ids part) [.int .i64 (slashN l ids part), .bool (slashB l ids part)]) := by
  have h := mdl_eq (g := fun x : List TAcct × List Int × Int => if acctsOk x.1 then slashR 122 x else rTN ([.int .i64 0, .bool false].map rSc)) eSlash_inj (l, ids, part) (ok := okSlash) ⟨n1, n2⟩
  by_cases ha : acctsOk l
  · rw [if_pos ha, slashR_eq] at h
    exact calls_newT (fun _ => rfl) slashI_s h (slash_args h1 h2)
  · rw [if_neg ha] at h
    have := calls_newTN (f := cAcct) (s := 2) slashI_s h (slash_args h1 h2)
    unfold slashL slashN slashB
    rw [if_neg ha, if_neg (fun h => ha h.1), decide_eq_false (fun h => ha h.1)]
    exact this
end

end Go.Proofs.Ytlchfjjoendimaa
