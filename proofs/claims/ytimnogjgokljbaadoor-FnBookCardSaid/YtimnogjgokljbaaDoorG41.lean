/-
  Put together: EvBookProof BookSum.
-/
import Derived.Test.YtimnogjgokljbaaDoorG38
import Derived.Test.YtimnogjgokljbaaDoorHEvBookHash
import Derived.Test.YtimnogjgokljbaaDoorG13
section
/-!
  BookProof of both programs.
-/
namespace Go.Proofs.YtimnogjgokljbaaDoor
set_option maxRecDepth 100000
set_option linter.unusedVariables false
set_option linter.unusedSimpArgs false
open Go Go.RowKit
set_option maxHeartbeats 4000000

/-- where a key stands first -/
def idxN (l : List TItem) (key : ByteArray) : Nat := l.findIdx fun x => decide (x.1 = key)
def keyIdx (l : List TItem) (key : ByteArray) : Int := if idxN l key < l.length then (idxN l key : Int) else -1
theorem idxN_at {l : List TItem} {key : ByteArray} {k : Nat} (hk : k < l.length) (hn : ∀ j, j < k → ¬ (l.getD j (ByteArray.empty, 0)).1 = key) (hx : (l.getD k (ByteArray.empty, 0)).1 = key) : idxN l key = k := by
  unfold idxN
  refine (List.findIdx_eq hk).2 ⟨?_, fun j hj => ?_⟩
  · rw [List.getD_eq_getElem?_getD, List.getElem?_eq_getElem hk] at hx
    exact decide_eq_true hx
  · have := hn j hj
    rw [List.getD_eq_getElem?_getD, List.getElem?_eq_getElem (by omega)] at this
    exact decide_eq_false this
theorem idxN_no {l : List TItem} {key : ByteArray} (hn : ∀ j, j < l.length → ¬ (l.getD j (ByteArray.empty, 0)).1 = key) : ¬ idxN l key < l.length := by
  intro h
  have h1 : decide ((l[idxN l key]).1 = key) = true := List.findIdx_getElem (p := fun x : TItem => decide (x.1 = key)) (w := h)
  have h2 := hn _ h
  rw [List.getD_eq_getElem?_getD, List.getElem?_eq_getElem h] at h2
  exact h2 (of_decide_eq_true h1)
noncomputable def mKey := mdl (fun _ : TItem × ByteArray => True) (fun x => [.val true [.sc (.string x.1.1), .sc (.int .i64 x.1.2)], .row [.sc (.string x.2)] 0]) (fun x => rB (decide (x.1.1 = x.2)))
theorem mKey_eq (k : ByteArray) (n : Int) (key : ByteArray) : mKey [.val true [.sc (.string k), .sc (.int .i64 n)], .row [.sc (.string key)] 0] = some (rB (decide (k = key))) := mdl_eq (by
  rintro ⟨⟨a, b⟩, c⟩ ⟨⟨d, e⟩, f⟩ h
  simp at h
  simp [h]) ((k, n), key) trivial
theorem key_s : Sound Tryd.prog 59 mKey := by
  refine Sound.mdl Tryd.func59 rfl Tryd.ntmps59 ?_
  rintro ⟨⟨k, n⟩, key⟩ w -
  refine ⟨by simp, ?_⟩
  have hΓ : GSound Tryd.prog (look []) := env_nil
  simp only [initS, argPV, List.map_cons, List.map_nil, toPL, Nat.zero_add]
  repeat (first | with_reducible apply W.seq | with_reducible apply W.block | with_reducible apply W.skip | with_reducible apply W.exit | with_reducible apply W.ret | with_reducible apply At.seqN | with_reducible apply At.blkN | with_reducible apply At.blkE | with_reducible apply At.blkR | with_reducible apply At.thenX | with_reducible apply At.thenR | with_reducible apply At.blkX rfl | ((with_reducible apply W.ops); (repeat (first | refine WL.opA hΓ (h := ?_) | refine WL.opX hΓ (h := ?_) | refine WL.opY (h := ?_) | refine WL.opZ (h := ?_))); with_reducible apply WL.nil) | refine W.condT (h := ?_) | refine W.condF (h := ?_))
  refine At.retA (by rw [Tryd.results59]) (he := rfl)
noncomputable def mIdxF := mdl (fun x : List TItem × ByteArray => x.1.length ≤ 8796093022207) (fun x => [aL cItem x.1, .clo 59 [[.sc (.string x.2)]]]) (fun x => rI (keyIdx x.1 x.2))
theorem mIdxF_eq (l : List TItem) (key : ByteArray) (h : l.length ≤ 8796093022207) : mIdxF [aL cItem l, .clo 59 [[.sc (.string key)]]] = some (rI (keyIdx l key)) := mdl_eq (by rintro ⟨a, b⟩ ⟨d, e⟩ h; simpa using h) (l, key) h
theorem idxF_s : Sound Tryd.prog 58 mIdxF := by
  refine Sound.mdl Tryd.func58 rfl Tryd.ntmps58 ?_
  rintro ⟨l, key⟩ w hl
  refine ⟨by simp, ?_⟩
  replace hl : l.length ≤ 8796093022207 := hl
  have hΓ : GSound Tryd.prog (look [(59, mKey)]) := env_cons (has_of Tryd.func59 rfl rfl) key_s env_nil
  have hlen := rowsF_len cItem l
  simp only [initS, argPV, List.map_cons, List.map_nil, toPL, Nat.zero_add]
  repeat (first | with_reducible apply W.seq | with_reducible apply W.block | with_reducible apply W.skip | with_reducible apply W.exit | with_reducible apply W.ret | with_reducible apply At.seqN | with_reducible apply At.blkN | with_reducible apply At.blkE | with_reducible apply At.blkR | with_reducible apply At.thenX | with_reducible apply At.thenR | with_reducible apply At.blkX rfl | ((with_reducible apply W.ops); (repeat (first | refine WL.opA hΓ (h := ?_) | refine WL.opX hΓ (h := ?_) | refine WL.opY (h := ?_) | refine WL.opZ (h := ?_))); with_reducible apply WL.nil) | refine W.condT (h := ?_) | refine W.condF (h := ?_))
  refine W.loopA (fun k => k ≤ l.length ∧ ∀ j, j < k → ¬ (l.getD j (ByteArray.empty, 0)).1 = key) (fun k : Nat => [.slot 8 (vI k), .slot 7 (vI l.length), .slot 0 (vL cItem l), .slot 1 (one (.clo 59 [[.sc (.string key)]]))]) (fun k => l.length - k) 0 ⟨Nat.zero_le _, fun j hj => by omega⟩ (h := ?_)
  rintro k ⟨hk, hn⟩
  by_cases hlt : k < l.length
  · have hrow := row_item hlt
    have hat := idxN_at hlt hn
    have hnx : ¬ (l.getD k (ByteArray.empty, 0)).1 = key → ∀ j, j < k + 1 → ¬ (l.getD j (ByteArray.empty, 0)).1 = key := fun h j hj => by
      rcases Nat.lt_succ_iff_lt_or_eq.1 hj with h1 | rfl
      · exact hn j h1
      · exact h
    clear hn
    generalize l.getD k (ByteArray.empty, 0) = x at hrow hat hnx
    obtain ⟨xk, xn⟩ := x
    dsimp only at hrow hat hnx
    have c1 := mKey_eq xk xn key
    by_cases he : xk = key
    · have hv : keyIdx l key = k := by unfold keyIdx; rw [hat he, if_pos hlt]
      rw [decide_eq_true he] at c1
      clear hat hnx he
      repeat (first | with_reducible apply W.seq | with_reducible apply W.block | with_reducible apply W.skip | with_reducible apply W.exit | with_reducible apply W.ret | with_reducible apply At.seqN | with_reducible apply At.blkN | with_reducible apply At.blkE | with_reducible apply At.blkR | with_reducible apply At.thenX | with_reducible apply At.thenR | with_reducible apply At.blkX rfl | ((with_reducible apply W.ops); (repeat (first | refine WL.opA hΓ (h := ?_) | refine WL.opX hΓ (h := ?_) | refine WL.opY (h := ?_) | refine WL.opZ (h := ?_))); with_reducible apply WL.nil) | refine W.condT (h := ?_) | refine W.condF (h := ?_))
      refine At.retA (by rw [Tryd.results58]) (he := ?_)
      rw [hv]
    · replace hnx := hnx he
      rw [decide_eq_false he] at c1
      clear hat he
      repeat (first | with_reducible apply W.seq | with_reducible apply W.block | with_reducible apply W.skip | with_reducible apply W.exit | with_reducible apply W.ret | with_reducible apply At.seqN | with_reducible apply At.blkN | with_reducible apply At.blkE | with_reducible apply At.blkR | with_reducible apply At.thenX | with_reducible apply At.thenR | with_reducible apply At.blkX rfl | ((with_reducible apply W.ops); (repeat (first | refine WL.opA hΓ (h := ?_) | refine WL.opX hΓ (h := ?_) | refine WL.opY (h := ?_) | refine WL.opZ (h := ?_))); with_reducible apply WL.nil) | refine W.condT (h := ?_) | refine W.condF (h := ?_))
      exact At.roundA (k + 1) ⟨by omega, hnx⟩ (by omega)
  · have hno := idxN_no (l := l) (key := key) (fun j hj => hn j (by omega))
    have hv : keyIdx l key = -1 := if_neg hno
    clear hn hno
    repeat (first | with_reducible apply W.seq | with_reducible apply W.block | with_reducible apply W.skip | with_reducible apply W.exit | with_reducible apply W.ret | with_reducible apply At.seqN | with_reducible apply At.blkN | with_reducible apply At.blkE | with_reducible apply At.blkR | with_reducible apply At.thenX | with_reducible apply At.thenR | with_reducible apply At.blkX rfl | ((with_reducible apply W.ops); (repeat (first | refine WL.opA hΓ (h := ?_) | refine WL.opX hΓ (h := ?_) | refine WL.opY (h := ?_) | refine WL.opZ (h := ?_))); with_reducible apply WL.nil) | refine W.condT (h := ?_) | refine W.condF (h := ?_))
    refine At.retA (by rw [Tryd.results58]) (he := ?_)
    rw [hv]
noncomputable def mItem := mdl (fun x : List TItem × ByteArray => x.1.length ≤ 8796093022207) (fun x => [aL cItem x.1, aS x.2]) (fun x => rI (keyIdx x.1 x.2))
theorem mItem_eq (l : List TItem) (key : ByteArray) (h : l.length ≤ 8796093022207) : mItem [aL cItem l, aS key] = some (rI (keyIdx l key)) := mdl_eq (by rintro ⟨a, b⟩ ⟨d, e⟩ h; simpa using h) (l, key) h
theorem item_s : Sound Tryd.prog 36 mItem := by
  refine Sound.mdl Tryd.func36 rfl Tryd.ntmps36 ?_
  rintro ⟨l, key⟩ w hl
  refine ⟨by simp, ?_⟩
  replace hl : l.length ≤ 8796093022207 := hl
  have hΓ : GSound Tryd.prog (look [(58, mIdxF)]) := env_cons (has_of Tryd.func58 rfl rfl) idxF_s env_nil
  have c1 := mIdxF_eq l key hl
  simp only [initS, argPV, List.map_cons, List.map_nil, toPL, Nat.zero_add]
  repeat (first | with_reducible apply W.seq | with_reducible apply W.block | with_reducible apply W.skip | with_reducible apply W.exit | with_reducible apply W.ret | with_reducible apply At.seqN | with_reducible apply At.blkN | with_reducible apply At.blkE | with_reducible apply At.blkR | with_reducible apply At.thenX | with_reducible apply At.thenR | with_reducible apply At.blkX rfl | ((with_reducible apply W.ops); (repeat (first | refine WL.opA hΓ (h := ?_) | refine WL.opX hΓ (h := ?_) | refine WL.opY (h := ?_) | refine WL.opZ (h := ?_))); with_reducible apply WL.nil) | refine W.condT (h := ?_) | refine W.condF (h := ?_))
  refine At.retA (by rw [Tryd.results36]) (he := rfl)
def proofOk (l : List TItem) (key : ByteArray) : Prop := bookOk l ∧ idxN l key < l.length
instance (l : List TItem) (key : ByteArray) : Decidable (proofOk l key) := by unfold proofOk; infer_instance
def bpL (l : List TItem) (key : ByteArray) : List ByteArray := if proofOk l key then pathL (idxN l key) (l.map textS) else []
def bpN (l : List TItem) (key : ByteArray) : Int := if proofOk l key then (idxN l key : Int) else 0
def bpB (l : List TItem) (key : ByteArray) : Bool := decide (proofOk l key)
theorem bpL_le (l : List TItem) (key : ByteArray) : (bpL l key).length ≤ 41 := by
  unfold bpL
  split
  · rename_i h
    have h1 := pathL_len _ (idxN l key) (l.map textS) rfl
    have h2 := h.1.1
    rw [List.length_map] at h1
    omega
  · simp
abbrev encB (x : List TItem × ByteArray) : List Arg := [aL cItem x.1, aS x.2]
theorem encB_inj : ∀ x y, encB x = encB y → x = y := by
  rintro ⟨a, b⟩ ⟨d, e⟩ h
  simpa [encB] using h
abbrev rBp (x : List TItem × ByteArray) : Res := rTL 9 1 cStr (bpL x.1 x.2) [rSc (.int .i64 (bpN x.1 x.2)), rSc (.bool (bpB x.1 x.2))]
abbrev rBi (x : List TItem × ByteArray) : Res := if proofOk x.1 x.2 then rTL 9 1 cStr (bpL x.1 x.2) [rSc (.int .i64 (bpN x.1 x.2)), rSc (.bool (bpB x.1 x.2))] else rTN [rSc (.int .i64 0), rSc (.bool false)]
theorem bp_yes {l : List TItem} {key : ByteArray} (h : proofOk l key) : bpL l key = pathL (idxN l key) (l.map textS) ∧ bpN l key = (idxN l key : Int) ∧ bpB l key = true := ⟨if_pos h, if_pos h, decide_eq_true h⟩
theorem bp_no {l : List TItem} {key : ByteArray} (h : ¬ proofOk l key) : bpL l key = [] ∧ bpN l key = 0 ∧ bpB l key = false := ⟨if_neg h, if_neg h, decide_eq_false h⟩
theorem okL_texts {l : List TItem} (h : okTx l) (h1 : 1 ≤ l.length) : okL (l.map textS) := ⟨⟨by rw [List.length_map]; omega, by have := h.1; rw [List.length_map]; omega⟩, (okT_texts h).2⟩
theorem bpI_s : Sound Tryd.prog 13 (mdl (fun x => okI x.1) encB rBi) := by
  refine Sound.mdl Tryd.func13 rfl Tryd.ntmps13 ?_
  rintro ⟨l, key⟩ w h
  refine ⟨by simp, ?_⟩
  replace h : okI l := h
  have hΓ : GSound Tryd.prog (look [(22, mBook), (32, mTexts), (37, mPa), (36, mItem)]) := env_cons (has_of Tryd.func22 rfl rfl) bookI_s (env_cons (has_of Tryd.func32 rfl rfl) textsI_s (env_cons (has_of Tryd.func37 rfl rfl) tpathI_s (env_cons (has_of Tryd.func36 rfl rfl) item_s env_nil)))
  have c1 := mBook_eq l h
  have c4 := mItem_eq l key h.2
  have hlen := rowsF_len cItem l
  have hl := h.2
  clear h
  by_cases ho : bookOk l
  · rw [decide_eq_true ho] at c1
    have ht := okTx_of ho
    by_cases hi : idxN l key < l.length
    · have hp : proofOk l key := ⟨ho, hi⟩
      have hv : keyIdx l key = (idxN l key : Int) := if_pos hi
      rw [hv] at c4
      obtain ⟨e1, e2, e3⟩ := bp_yes hp
      have c2 := mTexts_eq l ht
      have c3 := mPa_eq (l.map textS) (idxN l key) (okL_texts ht (by omega)) (by rw [List.length_map]; exact hi)
      clear ht ho hv
      generalize idxN l key = k at *
      generalize l.map textS = L at *
      simp only [initS, argPV, List.map_cons, List.map_nil, toPL, Nat.zero_add]
      repeat (first | with_reducible apply W.seq | with_reducible apply W.block | with_reducible apply W.skip | with_reducible apply W.exit | with_reducible apply W.ret | with_reducible apply At.seqN | with_reducible apply At.blkN | with_reducible apply At.blkE | with_reducible apply At.blkR | with_reducible apply At.thenX | with_reducible apply At.thenR | with_reducible apply At.blkX rfl | ((with_reducible apply W.ops); (repeat (first | refine WL.opA hΓ (h := ?_) | refine WL.opX hΓ (h := ?_) | refine WL.opY (h := ?_) | refine WL.opZ (h := ?_))); with_reducible apply WL.nil) | refine W.condT (h := ?_) | refine W.condF (h := ?_))
      refine At.retA (by rw [Tryd.results13]) (he := ?_)
      simp only [rBi, if_pos hp, e1, e2, e3]
      try rfl
    · have hp : ¬ proofOk l key := fun h => hi h.2
      have hv : keyIdx l key = -1 := if_neg hi
      rw [hv] at c4
      clear ht ho hv
      simp only [initS, argPV, List.map_cons, List.map_nil, toPL, Nat.zero_add]
      repeat (first | with_reducible apply W.seq | with_reducible apply W.block | with_reducible apply W.skip | with_reducible apply W.exit | with_reducible apply W.ret | with_reducible apply At.seqN | with_reducible apply At.blkN | with_reducible apply At.blkE | with_reducible apply At.blkR | with_reducible apply At.thenX | with_reducible apply At.thenR | with_reducible apply At.blkX rfl | ((with_reducible apply W.ops); (repeat (first | refine WL.opA hΓ (h := ?_) | refine WL.opX hΓ (h := ?_) | refine WL.opY (h := ?_) | refine WL.opZ (h := ?_))); with_reducible apply WL.nil) | refine W.condT (h := ?_) | refine W.condF (h := ?_))
      refine At.retA (by rw [Tryd.results13]) (he := ?_)
      simp only [rBi, if_neg hp]
      try rfl
  · rw [decide_eq_false ho] at c1
    have hp : ¬ proofOk l key := fun h => ho h.1
    clear ho
    simp only [initS, argPV, List.map_cons, List.map_nil, toPL, Nat.zero_add]
    repeat (first | with_reducible apply W.seq | with_reducible apply W.block | with_reducible apply W.skip | with_reducible apply W.exit | with_reducible apply W.ret | with_reducible apply At.seqN | with_reducible apply At.blkN | with_reducible apply At.blkE | with_reducible apply At.blkR | with_reducible apply At.thenX | with_reducible apply At.thenR | with_reducible apply At.blkX rfl | ((with_reducible apply W.ops); (repeat (first | refine WL.opA hΓ (h := ?_) | refine WL.opX hΓ (h := ?_) | refine WL.opY (h := ?_) | refine WL.opZ (h := ?_))); with_reducible apply WL.nil) | refine W.condT (h := ?_) | refine W.condF (h := ?_))
    refine At.retA (by rw [Tryd.results13]) (he := ?_)
    simp only [rBi, if_neg hp]
    try rfl
section
variable {w : World} {v : Value} {l : List TItem} {key : ByteArray}
theorem bp_args (h : RdS w w.heap.size 2 cItem v l) : RepAs w [aL cItem l, aS key] [v, .string key] :=
  RepAs.cons (aL_rep (fun _ => rfl) cItem_one h) (RepAs.cons (aS_rep key) RepAs.nil)
theorem bookProof_impl (gl : GlobOk none0 w) (h : RdS w w.heap.size 2 cItem v l) (hk : ∀ x ∈ l, okItem x) (hn : l.length ≤ 8796093022207) : Calls Tryd.prog 13 #[v, .string key] w (NewT w 1 cStr (bpL l key) [.int .i64 (bpN l key), .bool (bpB l key)]) := by
  have he := mdl_eq (ok := fun x : List TItem × ByteArray => okI x.1) (g := rBi) encB_inj (l, key) ⟨hk, hn⟩
  by_cases hp : proofOk l key
  · simp only [rBi, if_pos hp] at he
    exact calls_newT (fun _ => rfl) bpI_s he (bp_args h) gl
  · simp only [rBi, if_neg hp] at he
    obtain ⟨e1, e2, e3⟩ := bp_no hp
    rw [e1, e2, e3]
    exact calls_newTN (rest := [.int .i64 0, .bool false]) bpI_s he (bp_args h) gl
end

end Go.Proofs.YtimnogjgokljbaaDoor

end
section
/-!
  BookSum of spec and impl, by one contract.
-/
namespace Go.Proofs.YtimnogjgokljbaaDoor
set_option maxRecDepth 100000
set_option linter.unusedVariables false
set_option linter.unusedSimpArgs false
open Go.RowKit

def sumBookSum (l : List TItem) : Int := (l.map (·.2)).sum
def bookSum (l : List TItem) : Int := if bookOk l then sumBookSum l else 0

theorem sumBookSum_next (l : List TItem) (k : Nat) (h : k < l.length) : sumBookSum (l.take (k + 1)) = sumBookSum (l.take k) + l[k].2 := by
  unfold sumBookSum
  rw [List.take_succ_eq_append_getElem h, List.map_append, List.sum_append]
  simp only [List.map_cons, List.map_nil, List.sum_cons, List.sum_nil, Int.add_zero]

theorem bdBookSum {l : List TItem} (h : bookOk l) (k : Nat) (hk : k < l.length) : 0 ≤ l[k].2 ∧ l[k].2 ≤ 1000000 := by
  have := h.2 k hk
  unfold itemAt at this
  rw [show l.getD k (ByteArray.empty, 0) = l[k] by simp [List.getD, hk]] at this
  exact ⟨by have := this.2.1; omega, this.2.2.1⟩

theorem sumBookSum_bd {l : List TItem} (h : bookOk l) : ∀ k : Nat, k ≤ l.length → 0 ≤ sumBookSum (l.take k) ∧ sumBookSum (l.take k) ≤ k * 1000000
  | 0, _ => by simp [sumBookSum]
  | k + 1, hk => by
    have ih := sumBookSum_bd h k (by omega)
    have b := bdBookSum h k (by omega)
    rw [sumBookSum_next l k (by omega)]
    omega

set_option maxHeartbeats 1000000 in
theorem bookSum_spec (v : Value) (l : List TItem) (w : World) (h : RdS w w.heap.size 2 cItem v l) (hok0 : ∀ x ∈ l, okItem x) (hn : l.length ≤ 8796093022207) :
    Calls Tryd.prog 11 #[v] w (SaysI (bookSum l) w) := by
  have HK := Lib.hid hok0
  clear hok0
  have hr := Lib.hid h
  obtain ⟨A, c, rfl, hlc, hcm, hcell⟩ := h
  by_cases hok : bookOk l
  · have hd : decide (bookOk l) = true := decide_eq_true hok
    have hv : bookSum l = sumBookSum l := if_pos hok
    rw [hv]
    have H7 : l.length ≤ 12 := hok.1
    have HO := Lib.hid hok
    clear hv hok
    go_enter Tryd.func11, Tryd.ntmps11
    go_wp2
    go_loopw [3, 4] (fun n i wr => ∃ k : Nat, k ≤ l.length ∧ i = .int .i64 k ∧ n = .int .i64 (sumBookSum (l.take k)) ∧ Keeps w wr) (fun _ i _ => l.length - (intOf i).toNat)
    case atStart => exact ⟨0, Nat.zero_le _, rfl, rfl, Keeps.refl _⟩
    case round =>
      obtain ⟨k, hk, rfl, rfl, hb⟩ := hrel
      have bd := sumBookSum_bd HO.out k hk
      by_cases hlt : k < l.length
      · go_wp2_with fail
        refine (bookOk_spec _ l _ (hr.out.keeps hb) HK.out hn).mono ?_
        rintro e w1 ⟨rfl, q1⟩
        have q1 : Keeps wr w1 := QW.keeps q1
        obtain ⟨b, off, rfl, hbb, hc⟩ := hcell (by intro e; simp [e] at hlt)
        have hx1 := ((hb.tr q1).cell (p := ⟨b, off + k * 2 + 1, none⟩) hbb).trans <| hc k _ (List.getElem?_eq_getElem hlt) 1 _ rfl
        have ab := bdBookSum HO.out k hlt
        have HS := Lib.hid (sumBookSum_next l k hlt)
        clear hc hcell
        have hb2 : Keeps w w1 := hb.tr q1
        go_wp2_with fail
        go_roundw
        case rel => exact ⟨k + 1, by omega, by go_num, by rw [HS.out], hb2⟩
        case measure => simp [intOf]; omega
      · have hd1 : decide ((k : Int) < l.length) = false := decide_eq_false (by omega)
        go_wp2_with fail
        go_ret
        have e : k = l.length := by omega
        subst e
        exact ⟨ret_int (by rw [List.take_length]), hb⟩
  · have hd : decide (bookOk l) = false := decide_eq_false hok
    have hv : bookSum l = 0 := if_neg hok
    rw [hv]
    clear hv hok
    go_enter Tryd.func11, Tryd.ntmps11
    go_wp2
    by_cases hpos : 0 < l.length
    · refine wp_loop_rounds 1 ?_
      rw [rounds_succ]
      go_wp2_with fail
      refine (bookOk_spec _ l _ hr.out HK.out hn).mono ?_
      rintro e w1 ⟨rfl, q1⟩
      have q1 : Keeps w w1 := QW.keeps q1
      go_wp2_with fail
      go_ret
      exact ⟨rfl, q1⟩
    · have hd1 : decide ((0 : Int) < l.length) = false := decide_eq_false (by omega)
      refine wp_loop_rounds 1 ?_
      rw [rounds_succ]
      go_wp2_with fail
      go_ret
      exact ⟨rfl, Keeps.refl _⟩

set_option maxHeartbeats 1000000 in
theorem bookSum_impl (v : Value) (l : List TItem) (w : World) (h : RdS w w.heap.size 2 cItem v l) (hok0 : ∀ x ∈ l, okItem x) (hn : l.length ≤ 8796093022207) :
    Calls Tryd.prog 10 #[v] w (SaysI (bookSum l) w) := by
  have HK := Lib.hid hok0
  clear hok0
  have hr := Lib.hid h
  obtain ⟨A, c, rfl, hlc, hcm, hcell⟩ := h
  by_cases hok : bookOk l
  · have hd : decide (bookOk l) = true := decide_eq_true hok
    have hv : bookSum l = sumBookSum l := if_pos hok
    rw [hv]
    have H7 : l.length ≤ 12 := hok.1
    have HO := Lib.hid hok
    clear hv hok
    go_enter Tryd.func10, Tryd.ntmps10
    go_wp2_with fail
    refine (bookOk_impl _ l _ hr.out HK.out hn).mono ?_
    rintro e w1 ⟨rfl, k1⟩
    have k1 : Keeps w w1 := k1
    go_wp2_with fail
    go_loopw [3, 11] (fun n i wr => ∃ k : Nat, k ≤ l.length ∧ i = .int .i64 k ∧ n = .int .i64 (sumBookSum (l.take k)) ∧ Keeps w wr) (fun _ i _ => l.length - (intOf i).toNat)
    case atStart => exact ⟨0, Nat.zero_le _, rfl, rfl, k1⟩
    case round =>
      obtain ⟨k, hk, rfl, rfl, hb⟩ := hrel
      have bd := sumBookSum_bd HO.out k hk
      by_cases hlt : k < l.length
      · obtain ⟨b, off, rfl, hbb, hc⟩ := hcell (by intro e; simp [e] at hlt)
        have hx0 := (Below.cell hb (p := ⟨b, off + k * 2 + 0, none⟩) hbb).trans <| hc k _ (List.getElem?_eq_getElem hlt) 0 _ rfl
        have hx1 := (Below.cell hb (p := ⟨b, off + k * 2 + 1, none⟩) hbb).trans <| hc k _ (List.getElem?_eq_getElem hlt) 1 _ rfl
        simp only [Nat.add_zero] at hx0
        have hbw : b < wr.heap.size := Nat.lt_of_lt_of_le hbb (Below.size hb)
        have ab := bdBookSum HO.out k hlt
        have HS := Lib.hid (sumBookSum_next l k hlt)
        clear hc hcell
        go_wp2_with fail
        go_roundw
        case rel => exact ⟨k + 1, by omega, by go_num, by rw [HS.out], hb.tr (Below.alloc (Below.refl _ _) (Nat.le_refl _) _)⟩
        case measure => simp [intOf]; omega
      · go_wp2_with fail
        go_ret
        have e : k = l.length := by omega
        subst e
        exact ⟨ret_int (by rw [List.take_length]), hb⟩
  · have hd : decide (bookOk l) = false := decide_eq_false hok
    have hv : bookSum l = 0 := if_neg hok
    rw [hv]
    clear hv hok
    go_enter Tryd.func10, Tryd.ntmps10
    go_wp2_with fail
    refine (bookOk_impl _ l _ hr.out HK.out hn).mono ?_
    rintro e w1 ⟨rfl, k1⟩
    go_wp2_with fail
    go_ret
    exact ⟨rfl, k1⟩

end Go.Proofs.YtimnogjgokljbaaDoor

end
