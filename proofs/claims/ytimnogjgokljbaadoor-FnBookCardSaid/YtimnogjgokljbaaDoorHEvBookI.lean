/-
  BookDo of impl: its smaller callees.
-/
import Derived.Test.YtimnogjgokljbaaDoorHEvBookE
import Derived.Test.YtimnogjgokljbaaDoorHEvCut
namespace Go.Proofs.YtimnogjgokljbaaDoor
set_option maxRecDepth 100000
set_option linter.unusedVariables false
set_option linter.unusedSimpArgs false
open Go Go.RowKit
set_option maxHeartbeats 4000000
set_option linter.unusedVariables false

noncomputable def mCpI := mdl (fun l : List TItem => l.length ≤ 1048576) (fun l => [aL cItem l]) (fun l => rL 36 2 cItem l)
theorem mCpI_eq (l : List TItem) (h : l.length ≤ 1048576) : mCpI [aL cItem l] = some (rL 36 2 cItem l) := mdl_eq (by intro a b h; simpa using h) l h
theorem cpI_s : Sound Tryd.prog 24 mCpI := by
  refine Sound.mdl Tryd.func24 rfl Tryd.ntmps24 ?_
  rintro l w hl
  refine ⟨by simp, ?_⟩
  replace hl : l.length ≤ 1048576 := hl
  have hΓ : GSound Tryd.prog (look []) := env_nil
  have hw : wid 2 (rowsF cItem l) := rowsF_wid (f := cItem) (fun _ => rfl) l
  have hnil : ([] : List (List Leaf)) ++ rowsF cItem l = rowsF cItem l := rfl
  simp only [initS, argPV, List.map_cons, List.map_nil, toPL, Nat.zero_add]
  repeat (first | with_reducible (first | apply W.seq | apply W.block | apply W.skip | apply W.exit | apply W.ret | apply At.seqN | apply At.blkN | apply At.blkE | apply At.blkR | apply At.thenX | apply At.thenR | apply At.blkX rfl) | ((with_reducible apply W.ops); (repeat (first | refine WL.opA hΓ (h := ?_) | refine WL.opX hΓ (h := ?_) | refine WL.opY (h := ?_) | refine WL.opZ (h := ?_))); with_reducible apply WL.nil) | refine W.condT (h := ?_) | refine W.condF (h := ?_))
  refine At.retA (by rw [Tryd.results24]) (he := rfl)
abbrev aItem (t : TItem) : Arg := .val true [.sc (.string t.1), .sc (.int .i64 t.2)]
noncomputable def mKeyI := mdl (fun _ : TItem × ByteArray => True) (fun x => [aItem x.1, .row [.sc (.string x.2)] 0]) (fun x => rB (decide (x.1.1 = x.2)))
theorem mKeyI_eq (x : TItem) (key : ByteArray) : mKeyI [aItem x, .row [.sc (.string key)] 0] = some (rB (decide (x.1 = key))) := mdl_eq (by
  rintro ⟨⟨a, b⟩, c⟩ ⟨⟨d, e⟩, f⟩ h
  simp at h
  simp [h]) (x, key) trivial
theorem keyI_s : Sound Tryd.prog 59 mKeyI := by
  refine Sound.mdl Tryd.func59 rfl Tryd.ntmps59 ?_
  rintro ⟨⟨a, b⟩, c⟩ w -
  refine ⟨by simp, ?_⟩
  have hΓ : GSound Tryd.prog (look []) := env_nil
  simp only [initS, argPV, List.map_cons, List.map_nil, toPL, Nat.zero_add]
  repeat (first | with_reducible (first | apply W.seq | apply W.block | apply W.skip | apply W.exit | apply W.ret | apply At.seqN | apply At.blkN | apply At.blkE | apply At.blkR | apply At.thenX | apply At.thenR | apply At.blkX rfl) | ((with_reducible apply W.ops); (repeat (first | refine WL.opA hΓ (h := ?_) | refine WL.opX hΓ (h := ?_) | refine WL.opY (h := ?_) | refine WL.opZ (h := ?_))); with_reducible apply WL.nil) | refine W.condT (h := ?_) | refine W.condF (h := ?_))
  refine At.retA (by rw [Tryd.results59]) (he := rfl)
theorem keyD_s : Sound Tryd.prog 65 mKeyI := by
  refine Sound.mdl Tryd.func65 rfl Tryd.ntmps65 ?_
  rintro ⟨⟨a, b⟩, c⟩ w -
  refine ⟨by simp, ?_⟩
  have hΓ : GSound Tryd.prog (look []) := env_nil
  simp only [initS, argPV, List.map_cons, List.map_nil, toPL, Nat.zero_add]
  repeat (first | with_reducible (first | apply W.seq | apply W.block | apply W.skip | apply W.exit | apply W.ret | apply At.seqN | apply At.blkN | apply At.blkE | apply At.blkR | apply At.thenX | apply At.thenR | apply At.blkX rfl) | ((with_reducible apply W.ops); (repeat (first | refine WL.opA hΓ (h := ?_) | refine WL.opX hΓ (h := ?_) | refine WL.opY (h := ?_) | refine WL.opZ (h := ?_))); with_reducible apply WL.nil) | refine W.condT (h := ?_) | refine W.condF (h := ?_))
  refine At.retA (by rw [Tryd.results65]) (he := rfl)
noncomputable def mIdxIt (f : FuncId) (boxes : List (List Leaf)) (p : TItem → Bool) := mdl (fun l : List TItem => l.length ≤ 8796093022207) (fun l => [aL cItem l, .clo f boxes]) (fun l => rI (idxP p l))
theorem mIdxIt_eq (f : FuncId) (boxes : List (List Leaf)) (p : TItem → Bool) (l : List TItem) (h : l.length ≤ 8796093022207) : mIdxIt f boxes p [aL cItem l, .clo f boxes] = some (rI (idxP p l)) := mdl_eq (by intro a b h; simpa using h) l h
theorem idxIt_s {f : FuncId} {boxes : List (List Leaf)} {p : TItem → Bool} {mf : List Arg → Option Res} (hf : Has Tryd.prog f) (hs : Sound Tryd.prog f mf) (hm : ∀ x, mf ([aItem x] ++ boxes.map fun c => .row c 0) = some (rB (p x))) : Sound Tryd.prog 58 (mIdxIt f boxes p) := by
  refine Sound.mdl Tryd.func58 rfl Tryd.ntmps58 ?_
  rintro l w hl
  refine ⟨by simp, ?_⟩
  replace hl : l.length ≤ 8796093022207 := hl
  have hΓ : GSound Tryd.prog (look [(f, mf)]) := env_cons hf hs env_nil
  clear hs hf
  simp only [initS, argPV, List.map_cons, List.map_nil, toPL, Nat.zero_add]
  repeat (first | with_reducible (first | apply W.seq | apply W.block | apply W.skip | apply W.exit | apply W.ret | apply At.seqN | apply At.blkN | apply At.blkE | apply At.blkR | apply At.thenX | apply At.thenR | apply At.blkX rfl) | ((with_reducible apply W.ops); (repeat (first | refine WL.opA hΓ (h := ?_) | refine WL.opX hΓ (h := ?_) | refine WL.opY (h := ?_) | refine WL.opZ (h := ?_))); with_reducible apply WL.nil) | refine W.condT (h := ?_) | refine W.condF (h := ?_))
  refine W.loopA (fun k => k ≤ l.length ∧ ∀ j, (h : j < k) → ∀ hj : j < l.length, p l[j] = false) (fun k : Nat => [.slot 8 (vI k), .slot 7 (vI l.length), .slot 0 (vL cItem l), .slot 1 (one (.clo f boxes))]) (fun k => l.length - k) 0 ⟨Nat.zero_le _, fun j hj => by omega⟩ (h := ?_)
  rintro k ⟨hk, hn⟩
  by_cases hlt : k < l.length
  · have hrow := item_row hlt
    have hm := hm l[k]
    simp only [List.cons_append, List.nil_append] at hm
    cases hp : p l[k] with
    | true =>
      have hv := idxP_at (p := p) hlt (fun j hj => hn j hj _) hp
      rw [hp] at hm
      clear hn hp
      generalize l[k] = x at hrow hm
      obtain ⟨a, b⟩ := x
      dsimp only [aItem, bItem] at hm hrow
      repeat (first | with_reducible (first | apply W.seq | apply W.block | apply W.skip | apply W.exit | apply W.ret | apply At.seqN | apply At.blkN | apply At.blkE | apply At.blkR | apply At.thenX | apply At.thenR | apply At.blkX rfl) | ((with_reducible apply W.ops); (repeat (first | refine WL.opA hΓ (h := ?_) | refine WL.opX hΓ (h := ?_) | refine WL.opY (h := ?_) | refine WL.opZ (h := ?_))); with_reducible apply WL.nil) | refine W.condT (h := ?_) | refine W.condF (h := ?_))
      refine At.retA (by rw [Tryd.results58]) (he := ?_)
      rw [hv]
    | false =>
      have hnx : ∀ j, (h : j < k + 1) → ∀ hj : j < l.length, p l[j] = false := fun j h hj => by
        rcases Nat.lt_or_ge j k with h1 | h1
        · exact hn j h1 hj
        · have : j = k := by omega
          subst this
          exact hp
      rw [hp] at hm
      clear hn hp
      generalize l[k] = x at hrow hm
      obtain ⟨a, b⟩ := x
      dsimp only [aItem, bItem] at hm hrow
      repeat (first | with_reducible (first | apply W.seq | apply W.block | apply W.skip | apply W.exit | apply W.ret | apply At.seqN | apply At.blkN | apply At.blkE | apply At.blkR | apply At.thenX | apply At.thenR | apply At.blkX rfl) | ((with_reducible apply W.ops); (repeat (first | refine WL.opA hΓ (h := ?_) | refine WL.opX hΓ (h := ?_) | refine WL.opY (h := ?_) | refine WL.opZ (h := ?_))); with_reducible apply WL.nil) | refine W.condT (h := ?_) | refine W.condF (h := ?_))
      exact At.roundA (k + 1) ⟨by omega, hnx⟩ (by omega)
  · have hv := idxP_no (p := p) (l := l) (fun j hj => hn j (by omega) hj)
    clear hn
    repeat (first | with_reducible (first | apply W.seq | apply W.block | apply W.skip | apply W.exit | apply W.ret | apply At.seqN | apply At.blkN | apply At.blkE | apply At.blkR | apply At.thenX | apply At.thenR | apply At.blkX rfl) | ((with_reducible apply W.ops); (repeat (first | refine WL.opA hΓ (h := ?_) | refine WL.opX hΓ (h := ?_) | refine WL.opY (h := ?_) | refine WL.opZ (h := ?_))); with_reducible apply WL.nil) | refine W.condT (h := ?_) | refine W.condF (h := ?_))
    refine At.retA (by rw [Tryd.results58]) (he := ?_)
    rw [hv]
def kIdx (l : List TItem) (key : ByteArray) : Int := idxP (fun x => decide (x.1 = key)) l
noncomputable def mItemI := mdl (fun x : List TItem × ByteArray => x.1.length ≤ 8796093022207) (fun x => [aL cItem x.1, aS x.2]) (fun x => rI (kIdx x.1 x.2))
theorem mItemI_eq (l : List TItem) (key : ByteArray) (h : l.length ≤ 8796093022207) : mItemI [aL cItem l, aS key] = some (rI (kIdx l key)) := mdl_eq (by rintro ⟨a, b⟩ ⟨d, e⟩ h; simpa using h) (l, key) h
theorem itemI_s : Sound Tryd.prog 36 mItemI := by
  refine Sound.mdl Tryd.func36 rfl Tryd.ntmps36 ?_
  rintro ⟨l, key⟩ w hl
  refine ⟨by simp, ?_⟩
  replace hl : l.length ≤ 8796093022207 := hl
  have hΓ : GSound Tryd.prog (look [(58, mIdxIt 59 [[.sc (.string key)]] (fun x => decide (x.1 = key)))]) := env_cons (has_of Tryd.func58 rfl rfl) (idxIt_s (has_of Tryd.func59 rfl rfl) keyI_s (fun x => mKeyI_eq x key)) env_nil
  have c := mIdxIt_eq 59 [[.sc (.string key)]] (fun x => decide (x.1 = key)) l hl
  simp only [initS, argPV, List.map_cons, List.map_nil, toPL, Nat.zero_add]
  repeat (first | with_reducible (first | apply W.seq | apply W.block | apply W.skip | apply W.exit | apply W.ret | apply At.seqN | apply At.blkN | apply At.blkE | apply At.blkR | apply At.thenX | apply At.thenR | apply At.blkX rfl) | ((with_reducible apply W.ops); (repeat (first | refine WL.opA hΓ (h := ?_) | refine WL.opX hΓ (h := ?_) | refine WL.opY (h := ?_) | refine WL.opZ (h := ?_))); with_reducible apply WL.nil) | refine W.condT (h := ?_) | refine W.condF (h := ?_))
  refine At.retA (by rw [Tryd.results36]) (he := rfl)
theorem kIdx_cases (l : List TItem) (key : ByteArray) : (∃ k, ∃ hk : k < l.length, kIdx l key = (k : Int) ∧ balI key l = l[k].2) ∨ (kIdx l key = -1 ∧ balI key l = 0) := by
  unfold kIdx idxP
  by_cases h : l.findIdx (fun x => decide (x.1 = key)) < l.length
  · left
    rw [if_pos h]
    refine ⟨_, h, rfl, bal_at h (fun j hj => ?_) ?_⟩
    · have := List.not_of_lt_findIdx hj
      simpa using this
    · have := List.findIdx_getElem (w := h)
      simpa using this
  · right
    rw [if_neg h]
    refine ⟨rfl, bal_no fun x hx he => h (List.findIdx_lt_length_of_exists ⟨x, hx, by simpa using he⟩)⟩
theorem balI_s : Sound Tryd.prog 50 mBal := by
  refine Sound.mdl Tryd.func50 rfl Tryd.ntmps50 ?_
  rintro ⟨l, key⟩ w hl
  refine ⟨by simp, ?_⟩
  replace hl : l.length ≤ 8796093022207 := hl
  have hΓ : GSound Tryd.prog (look [(36, mItemI)]) := env_cons (has_of Tryd.func36 rfl rfl) itemI_s env_nil
  have c := mItemI_eq l key hl
  simp only [initS, argPV, List.map_cons, List.map_nil, toPL, Nat.zero_add]
  rcases kIdx_cases l key with ⟨k, hk, h1, h2⟩ | ⟨h1, h2⟩
  · have hrow := item_row hk
    dsimp only [bItem] at hrow
    rw [h1] at c
    clear h1
    repeat (first | with_reducible (first | apply W.seq | apply W.block | apply W.skip | apply W.exit | apply W.ret | apply At.seqN | apply At.blkN | apply At.blkE | apply At.blkR | apply At.thenX | apply At.thenR | apply At.blkX rfl) | ((with_reducible apply W.ops); (repeat (first | refine WL.opA hΓ (h := ?_) | refine WL.opX hΓ (h := ?_) | refine WL.opY (h := ?_) | refine WL.opZ (h := ?_))); with_reducible apply WL.nil) | refine W.condT (h := ?_) | refine W.condF (h := ?_))
    refine At.retA (by rw [Tryd.results50]) (he := ?_)
    rw [h2]
  · rw [h1] at c
    clear h1
    repeat (first | with_reducible (first | apply W.seq | apply W.block | apply W.skip | apply W.exit | apply W.ret | apply At.seqN | apply At.blkN | apply At.blkE | apply At.blkR | apply At.thenX | apply At.thenR | apply At.blkX rfl) | ((with_reducible apply W.ops); (repeat (first | refine WL.opA hΓ (h := ?_) | refine WL.opX hΓ (h := ?_) | refine WL.opY (h := ?_) | refine WL.opZ (h := ?_))); with_reducible apply WL.nil) | refine W.condT (h := ?_) | refine W.condF (h := ?_))
    refine At.retA (by rw [Tryd.results50]) (he := ?_)
    rw [h2]
end Go.Proofs.YtimnogjgokljbaaDoor
