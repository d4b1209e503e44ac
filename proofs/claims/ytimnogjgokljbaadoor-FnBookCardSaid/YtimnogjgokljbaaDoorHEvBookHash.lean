/-
  The texts of a book, BookHash, of both programs.
-/
import Derived.Test.YtimnogjgokljbaaDoorHEvDec
namespace Go.Proofs.YtimnogjgokljbaaDoor
set_option maxRecDepth 100000
set_option linter.unusedVariables false
set_option linter.unusedSimpArgs false
open Go Go.RowKit
set_option maxHeartbeats 4000000

abbrev okI (l : List TItem) : Prop := (∀ x ∈ l, okItem x) ∧ l.length ≤ 8796093022207
@[simp] theorem rowsF_Item {a b : List TItem} : rowsF cItem a = rowsF cItem b ↔ a = b := rowsF_iff fun x y h => by simpa [cItem, Prod.ext_iff] using h
theorem aItem_inj : ∀ x y : List TItem, [aL cItem x] = [aL cItem y] → x = y := by intro a b h; simpa using h
noncomputable def mBook := mdl okI (fun l => [aL cItem l]) (fun l => rB (decide (bookOk l)))
theorem mBook_eq (l : List TItem) (h : okI l) : mBook [aL cItem l] = some (rB (decide (bookOk l))) := mdl_eq aItem_inj l h
theorem bookS_s : Sound Tryd.prog 12 mBook := Sound.listB (s := 2) (fun _ => rfl) fun v l w hl h => (bookOk_spec v l w h hl.1 hl.2).mono fun e w' h => h.says
theorem bookI_s : Sound Tryd.prog 22 mBook := Sound.listB (s := 2) (fun _ => rfl) fun v l w hl h => bookOk_impl v l w h hl.1 hl.2
def textS (x : TItem) : ByteArray := x.1 ++ (⟨#[61]⟩ : ByteArray) ++ decS x.2.toNat
abbrev okTx (l : List TItem) : Prop := l.length ≤ 12 ∧ ∀ x ∈ l, x.1.size ≤ 8 ∧ 1 ≤ x.2 ∧ x.2 ≤ 1000000
theorem okTx_of {l : List TItem} (h : bookOk l) : okTx l := by
  refine ⟨h.1, fun x hx => ?_⟩
  obtain ⟨k, hk, rfl⟩ := List.getElem_of_mem hx
  have h1 := h.2 k hk
  unfold itemAt at h1
  rw [List.getD_eq_getElem?_getD, List.getElem?_eq_getElem hk] at h1
  exact ⟨h1.1.2.1, h1.2.1, h1.2.2.1⟩
theorem textS_size {x : TItem} (h : x.1.size ≤ 8) : (textS x).size ≤ 20 := by
  unfold textS
  have h1 := decS_size x.2.toNat
  have h2 : (⟨#[61]⟩ : ByteArray).size = 1 := rfl
  rw [ByteArray.size_append, ByteArray.size_append]
  omega
theorem okT_texts {l : List TItem} (h : okTx l) : okT (l.map textS) := by
  refine ⟨by have := h.1; rw [List.length_map]; omega, fun y hy => ?_⟩
  obtain ⟨x, hx, rfl⟩ := List.mem_map.1 hy
  have := textS_size (h.2 x hx).1
  omega
theorem row_item {l : List TItem} {k : Nat} (h : k < l.length) : (rowsF cItem l)[k]? = some [.sc (.string (l.getD k (ByteArray.empty, 0)).1), .sc (.int .i64 (l.getD k (ByteArray.empty, 0)).2)] := by
  rw [row_at cItem l h, List.getD_eq_getElem?_getD, List.getElem?_eq_getElem h]
  rfl
theorem cStr_app (l : List ByteArray) (x : ByteArray) : rowsF cStr l ++ [[.sc (.string x)]] = rowsF cStr (l ++ [x]) := by rw [← rowsF_app]; rfl
noncomputable def mTexts := mdl okTx (fun l => [aL cItem l]) (fun l => rL 9 1 cStr (l.map textS))
theorem mTexts_eq (l : List TItem) (h : okTx l) : mTexts [aL cItem l] = some (rL 9 1 cStr (l.map textS)) := mdl_eq aItem_inj l h
theorem textsS_s : Sound Tryd.prog 34 mTexts := by
  refine Sound.mdl Tryd.func34 rfl Tryd.ntmps34 ?_
  rintro l w ⟨h12, hx⟩
  refine ⟨by simp, ?_⟩
  have hΓ : GSound Tryd.prog (look [(15, mDec)]) := env_cons (has_of Tryd.func15 rfl rfl) decS_s env_nil
  have hlen := rowsF_len cItem l
  have hn0 : ([] : List (List Leaf)) = rowsF cStr ((l.map textS).take 0) := rfl
  simp only [initS, argPV, List.map_cons, List.map_nil, toPL, Nat.zero_add]
  repeat (first | with_reducible apply W.seq | with_reducible apply W.block | with_reducible apply W.skip | with_reducible apply W.exit | with_reducible apply W.ret | with_reducible apply At.seqN | with_reducible apply At.blkN | with_reducible apply At.blkE | with_reducible apply At.blkR | with_reducible apply At.thenX | with_reducible apply At.thenR | with_reducible apply At.blkX rfl | ((with_reducible apply W.ops); (repeat (first | refine WL.opA hΓ (h := ?_) | refine WL.opX hΓ (h := ?_) | refine WL.opY (h := ?_) | refine WL.opZ (h := ?_))); with_reducible apply WL.nil) | refine W.condT (h := ?_) | refine W.condF (h := ?_))
  refine W.loopA (fun k => k ≤ l.length) (fun k : Nat => [.slot 4 (vI k), .slot 0 (vL cItem l), .slot 3 (one (.all 5)), .blk 5 (.arr true 9 1 (rowsF cStr ((l.map textS).take k)))]) (fun k => l.length - k) 0 (Nat.zero_le _) (h := ?_)
  clear hn0
  rintro k hk
  have htl : ((l.map textS).take k).length = k := by rw [List.length_take, List.length_map]; omega
  by_cases hlt : k < l.length
  · have hrow := row_item hlt
    have hg : l.getD k (ByteArray.empty, 0) = l[k] := by rw [List.getD_eq_getElem?_getD, List.getElem?_eq_getElem hlt]; rfl
    have hm := hx _ (List.getElem_mem hlt)
    have hnx : (l.map textS).take (k + 1) = (l.map textS).take k ++ [textS l[k]] := by
      rw [List.take_succ_eq_append_getElem (by rw [List.length_map]; exact hlt), List.getElem_map]
    rw [hg] at hrow
    generalize l[k] = x at *
    obtain ⟨key, num⟩ := x
    dsimp only at hrow hm
    obtain ⟨m', rfl⟩ := Int.eq_ofNat_of_zero_le (show 0 ≤ num by omega)
    have c1 := mDec_eq m' (by omega) (by omega)
    have hap : rowsF cStr ((l.map textS).take k) ++ [[.sc (.string (key ++ (⟨#[61]⟩ : ByteArray) ++ decS m'))]] = rowsF cStr ((l.map textS).take (k + 1)) := by
      rw [cStr_app, hnx]
      rfl
    have z0 : (⟨#[61]⟩ : ByteArray).size = 1 := rfl
    have z1 := ByteArray.size_append (a := key) (b := (⟨#[61]⟩ : ByteArray))
    have z2 := decS_size m'
    clear hx hg hnx
    obtain ⟨L2, hL2⟩ : ∃ L2, L2 = (l.map textS).take (k + 1) := ⟨_, rfl⟩
    rw [← hL2] at hap
    generalize (l.map textS).take k = L1 at *
    repeat (first | with_reducible apply W.seq | with_reducible apply W.block | with_reducible apply W.skip | with_reducible apply W.exit | with_reducible apply W.ret | with_reducible apply At.seqN | with_reducible apply At.blkN | with_reducible apply At.blkE | with_reducible apply At.blkR | with_reducible apply At.thenX | with_reducible apply At.thenR | with_reducible apply At.blkX rfl | ((with_reducible apply W.ops); (repeat (first | refine WL.opA hΓ (h := ?_) | refine WL.opX hΓ (h := ?_) | refine WL.opY (h := ?_) | refine WL.opZ (h := ?_))); with_reducible apply WL.nil) | refine W.condT (h := ?_) | refine W.condF (h := ?_))
    refine W.drawsA hΓ 15 [[], [], [], [1, 2], [1, 2, 3], [1, 2, 3, 4], [1, 2, 3, 4, 5], [], [], [7, 8], [7, 8, 9], [7, 8, 9, 10], [7, 8, 9, 10, 11], [1, 2, 3, 4, 5, 6, 7, 8, 9, 10, 11, 12], [1, 2, 3, 4, 5, 6, 7, 8, 9, 10, 11, 12, 13], [0, 1, 2, 3, 4, 5, 6, 7, 8, 9, 10, 11, 12, 13, 14], [0, 1, 2, 3, 4, 5, 6, 7, 8, 9, 10, 11, 12, 13, 14, 15]] (rest := ?rest5) (Es := ?Es5) (st1 := ?st15) (h := ?h5) (hf := ?hf5) (hp := ?hp5) (hd := ?hd5) (hfr := ?hfr5) (hst := ?hst5) (hT := ?hT5)
    case h5 => kernel_rfl
    case hf5 =>
      repeat (first | refine FlowT.opA (h := ?_) | refine FlowT.opX (h := ?_) | refine FlowT.opY (h := ?_) | refine FlowT.opZ (h := ?_))
      exact FlowT.done
    case hp5 => rfl
    case hd5 => rfl
    case hfr5 => rfl
    case hst5 =>
      simp only [pick_nil, pick_all, List.cons_append, List.nil_append]
      rfl
    (repeat (first | refine WL.opA hΓ (h := ?_) | refine WL.opX hΓ (h := ?_) | refine WL.opY (h := ?_) | refine WL.opZ (h := ?_)))
    with_reducible apply WL.nil
    repeat (first | with_reducible apply W.seq | with_reducible apply W.block | with_reducible apply W.skip | with_reducible apply W.exit | with_reducible apply W.ret | with_reducible apply At.seqN | with_reducible apply At.blkN | with_reducible apply At.blkE | with_reducible apply At.blkR | with_reducible apply At.thenX | with_reducible apply At.thenR | with_reducible apply At.blkX rfl | ((with_reducible apply W.ops); (repeat (first | refine WL.opA hΓ (h := ?_) | refine WL.opX hΓ (h := ?_) | refine WL.opY (h := ?_) | refine WL.opZ (h := ?_))); with_reducible apply WL.nil) | refine W.condT (h := ?_) | refine W.condF (h := ?_))
    subst hL2
    exact At.roundA (k + 1) (by omega) (by omega)
  · have hke : k = l.length := by omega
    subst hke
    have hall : (l.map textS).take l.length = l.map textS := List.take_of_length_le (by rw [List.length_map]; exact Nat.le_refl _)
    clear hx
    repeat (first | with_reducible apply W.seq | with_reducible apply W.block | with_reducible apply W.skip | with_reducible apply W.exit | with_reducible apply W.ret | with_reducible apply At.seqN | with_reducible apply At.blkN | with_reducible apply At.blkE | with_reducible apply At.blkR | with_reducible apply At.thenX | with_reducible apply At.thenR | with_reducible apply At.blkX rfl | ((with_reducible apply W.ops); (repeat (first | refine WL.opA hΓ (h := ?_) | refine WL.opX hΓ (h := ?_) | refine WL.opY (h := ?_) | refine WL.opZ (h := ?_))); with_reducible apply WL.nil) | refine W.condT (h := ?_) | refine W.condF (h := ?_))
    refine At.retA (by rw [Tryd.results34]) (he := rfl)
theorem textsI_s : Sound Tryd.prog 32 mTexts := by
  refine Sound.mdl Tryd.func32 rfl Tryd.ntmps32 ?_
  rintro l w ⟨h12, hx⟩
  refine ⟨by simp, ?_⟩
  have hΓ : GSound Tryd.prog (look [(55, mDec)]) := env_cons (has_of Tryd.func55 rfl rfl) decI_s env_nil
  have hlen := rowsF_len cItem l
  have hn0 : ([] : List (List Leaf)) = rowsF cStr ((l.map textS).take 0) := rfl
  simp only [initS, argPV, List.map_cons, List.map_nil, toPL, Nat.zero_add]
  repeat (first | with_reducible apply W.seq | with_reducible apply W.block | with_reducible apply W.skip | with_reducible apply W.exit | with_reducible apply W.ret | with_reducible apply At.seqN | with_reducible apply At.blkN | with_reducible apply At.blkE | with_reducible apply At.blkR | with_reducible apply At.thenX | with_reducible apply At.thenR | with_reducible apply At.blkX rfl | ((with_reducible apply W.ops); (repeat (first | refine WL.opA hΓ (h := ?_) | refine WL.opX hΓ (h := ?_) | refine WL.opY (h := ?_) | refine WL.opZ (h := ?_))); with_reducible apply WL.nil) | refine W.condT (h := ?_) | refine W.condF (h := ?_))
  refine W.loopA (fun k => k ≤ l.length) (fun k : Nat => [.slot 9 (vI k), .slot 8 (vI l.length), .slot 7 (vL cItem l), .slot 3 (one (.all 6)), .blk 6 (.arr true 9 1 (rowsF cStr ((l.map textS).take k)))]) (fun k => l.length - k) 0 (Nat.zero_le _) (h := ?_)
  clear hn0
  rintro k hk
  have htl : ((l.map textS).take k).length = k := by rw [List.length_take, List.length_map]; omega
  by_cases hlt : k < l.length
  · have hrow := row_item hlt
    have hg : l.getD k (ByteArray.empty, 0) = l[k] := by rw [List.getD_eq_getElem?_getD, List.getElem?_eq_getElem hlt]; rfl
    have hm := hx _ (List.getElem_mem hlt)
    have hnx : (l.map textS).take (k + 1) = (l.map textS).take k ++ [textS l[k]] := by
      rw [List.take_succ_eq_append_getElem (by rw [List.length_map]; exact hlt), List.getElem_map]
    rw [hg] at hrow
    generalize l[k] = x at *
    obtain ⟨key, num⟩ := x
    dsimp only at hrow hm
    obtain ⟨m', rfl⟩ := Int.eq_ofNat_of_zero_le (show 0 ≤ num by omega)
    have c1 := mDec_eq m' (by omega) (by omega)
    have hap : rowsF cStr ((l.map textS).take k) ++ [[.sc (.string (key ++ (⟨#[61]⟩ : ByteArray) ++ decS m'))]] = rowsF cStr ((l.map textS).take (k + 1)) := by
      rw [cStr_app, hnx]
      rfl
    have z0 : (⟨#[61]⟩ : ByteArray).size = 1 := rfl
    have z1 := ByteArray.size_append (a := key) (b := (⟨#[61]⟩ : ByteArray))
    have z2 := decS_size m'
    clear hx hg hnx
    obtain ⟨L2, hL2⟩ : ∃ L2, L2 = (l.map textS).take (k + 1) := ⟨_, rfl⟩
    rw [← hL2] at hap
    generalize (l.map textS).take k = L1 at *
    repeat (first | with_reducible apply W.seq | with_reducible apply W.block | with_reducible apply W.skip | with_reducible apply W.exit | with_reducible apply W.ret | with_reducible apply At.seqN | with_reducible apply At.blkN | with_reducible apply At.blkE | with_reducible apply At.blkR | with_reducible apply At.thenX | with_reducible apply At.thenR | with_reducible apply At.blkX rfl | ((with_reducible apply W.ops); (repeat (first | refine WL.opA hΓ (h := ?_) | refine WL.opX hΓ (h := ?_) | refine WL.opY (h := ?_) | refine WL.opZ (h := ?_))); with_reducible apply WL.nil) | refine W.condT (h := ?_) | refine W.condF (h := ?_))
    refine W.drawsA hΓ 9 [[], [], [1], [1, 2], [], [4], [4, 5], [1, 2, 3, 4, 5, 6], [1, 2, 3, 4, 5, 6, 7], [0, 1, 2, 3, 4, 5, 6, 7, 8], [0, 1, 2, 3, 4, 5, 6, 7, 8, 9]] (rest := ?rest13) (Es := ?Es13) (st1 := ?st113) (h := ?h13) (hf := ?hf13) (hp := ?hp13) (hd := ?hd13) (hfr := ?hfr13) (hst := ?hst13) (hT := ?hT13)
    case h13 => kernel_rfl
    case hf13 =>
      repeat (first | refine FlowT.opA (h := ?_) | refine FlowT.opX (h := ?_) | refine FlowT.opY (h := ?_) | refine FlowT.opZ (h := ?_))
      exact FlowT.done
    case hp13 => rfl
    case hd13 => rfl
    case hfr13 => rfl
    case hst13 =>
      simp only [pick_nil, pick_all, List.cons_append, List.nil_append]
      rfl
    (repeat (first | refine WL.opA hΓ (h := ?_) | refine WL.opX hΓ (h := ?_) | refine WL.opY (h := ?_) | refine WL.opZ (h := ?_)))
    with_reducible apply WL.nil
    repeat (first | with_reducible apply W.seq | with_reducible apply W.block | with_reducible apply W.skip | with_reducible apply W.exit | with_reducible apply W.ret | with_reducible apply At.seqN | with_reducible apply At.blkN | with_reducible apply At.blkE | with_reducible apply At.blkR | with_reducible apply At.thenX | with_reducible apply At.thenR | with_reducible apply At.blkX rfl | ((with_reducible apply W.ops); (repeat (first | refine WL.opA hΓ (h := ?_) | refine WL.opX hΓ (h := ?_) | refine WL.opY (h := ?_) | refine WL.opZ (h := ?_))); with_reducible apply WL.nil) | refine W.condT (h := ?_) | refine W.condF (h := ?_))
    subst hL2
    exact At.roundA (k + 1) (by omega) (by omega)
  · have hke : k = l.length := by omega
    subst hke
    have hall : (l.map textS).take l.length = l.map textS := List.take_of_length_le (by rw [List.length_map]; exact Nat.le_refl _)
    clear hx
    repeat (first | with_reducible apply W.seq | with_reducible apply W.block | with_reducible apply W.skip | with_reducible apply W.exit | with_reducible apply W.ret | with_reducible apply At.seqN | with_reducible apply At.blkN | with_reducible apply At.blkE | with_reducible apply At.blkR | with_reducible apply At.thenX | with_reducible apply At.thenR | with_reducible apply At.blkX rfl | ((with_reducible apply W.ops); (repeat (first | refine WL.opA hΓ (h := ?_) | refine WL.opX hΓ (h := ?_) | refine WL.opY (h := ?_) | refine WL.opZ (h := ?_))); with_reducible apply WL.nil) | refine W.condT (h := ?_) | refine W.condF (h := ?_))
    refine At.retA (by rw [Tryd.results32]) (he := rfl)
def bookHash (l : List TItem) : ByteArray := if bookOk l then tree (l.map textS) else ByteArray.empty
noncomputable def mBookHash := mdl okI (fun l => [aL cItem l]) (fun l => rS (bookHash l))
theorem mBookHash_eq (l : List TItem) (h : okI l) : mBookHash [aL cItem l] = some (rS (bookHash l)) := mdl_eq aItem_inj l h
theorem bookHashS_s : Sound Tryd.prog 9 mBookHash := by
  refine Sound.mdl Tryd.func9 rfl Tryd.ntmps9 ?_
  rintro l w h
  refine ⟨by simp, ?_⟩
  replace h : okI l := h
  have hΓ : GSound Tryd.prog (look [(12, mBook), (34, mTexts), (33, mTree)]) := env_cons (has_of Tryd.func12 rfl rfl) bookS_s (env_cons (has_of Tryd.func34 rfl rfl) textsS_s (env_cons (has_of Tryd.func33 rfl rfl) treeS_s env_nil))
  have c1 := mBook_eq l h
  clear h
  by_cases ho : bookOk l
  · have hv : bookHash l = tree (l.map textS) := if_pos ho
    rw [decide_eq_true ho] at c1
    have c2 := mTexts_eq l (okTx_of ho)
    have c3 := mTree_eq (l.map textS) (okT_texts (okTx_of ho))
    clear ho
    generalize l.map textS = L at *
    simp only [initS, argPV, List.map_cons, List.map_nil, toPL, Nat.zero_add]
    repeat (first | with_reducible apply W.seq | with_reducible apply W.block | with_reducible apply W.skip | with_reducible apply W.exit | with_reducible apply W.ret | with_reducible apply At.seqN | with_reducible apply At.blkN | with_reducible apply At.blkE | with_reducible apply At.blkR | with_reducible apply At.thenX | with_reducible apply At.thenR | with_reducible apply At.blkX rfl | ((with_reducible apply W.ops); (repeat (first | refine WL.opA hΓ (h := ?_) | refine WL.opX hΓ (h := ?_) | refine WL.opY (h := ?_) | refine WL.opZ (h := ?_))); with_reducible apply WL.nil) | refine W.condT (h := ?_) | refine W.condF (h := ?_))
    refine At.retA (by rw [Tryd.results9]) (he := ?_)
    rw [hv]
  · have hv : bookHash l = ByteArray.empty := if_neg ho
    rw [decide_eq_false ho] at c1
    clear ho
    simp only [initS, argPV, List.map_cons, List.map_nil, toPL, Nat.zero_add]
    repeat (first | with_reducible apply W.seq | with_reducible apply W.block | with_reducible apply W.skip | with_reducible apply W.exit | with_reducible apply W.ret | with_reducible apply At.seqN | with_reducible apply At.blkN | with_reducible apply At.blkE | with_reducible apply At.blkR | with_reducible apply At.thenX | with_reducible apply At.thenR | with_reducible apply At.blkX rfl | ((with_reducible apply W.ops); (repeat (first | refine WL.opA hΓ (h := ?_) | refine WL.opX hΓ (h := ?_) | refine WL.opY (h := ?_) | refine WL.opZ (h := ?_))); with_reducible apply WL.nil) | refine W.condT (h := ?_) | refine W.condF (h := ?_))
    refine At.retA (by rw [Tryd.results9]) (he := ?_)
    rw [hv]
    rfl
theorem bookHashI_s : Sound Tryd.prog 8 mBookHash := by
  refine Sound.mdl Tryd.func8 rfl Tryd.ntmps8 ?_
  rintro l w h
  refine ⟨by simp, ?_⟩
  replace h : okI l := h
  have hΓ : GSound Tryd.prog (look [(22, mBook), (32, mTexts), (31, mTree)]) := env_cons (has_of Tryd.func22 rfl rfl) bookI_s (env_cons (has_of Tryd.func32 rfl rfl) textsI_s (env_cons (has_of Tryd.func31 rfl rfl) treeI_s env_nil))
  have c1 := mBook_eq l h
  clear h
  by_cases ho : bookOk l
  · have hv : bookHash l = tree (l.map textS) := if_pos ho
    rw [decide_eq_true ho] at c1
    have c2 := mTexts_eq l (okTx_of ho)
    have c3 := mTree_eq (l.map textS) (okT_texts (okTx_of ho))
    clear ho
    generalize l.map textS = L at *
    simp only [initS, argPV, List.map_cons, List.map_nil, toPL, Nat.zero_add]
    repeat (first | with_reducible apply W.seq | with_reducible apply W.block | with_reducible apply W.skip | with_reducible apply W.exit | with_reducible apply W.ret | with_reducible apply At.seqN | with_reducible apply At.blkN | with_reducible apply At.blkE | with_reducible apply At.blkR | with_reducible apply At.thenX | with_reducible apply At.thenR | with_reducible apply At.blkX rfl | ((with_reducible apply W.ops); (repeat (first | refine WL.opA hΓ (h := ?_) | refine WL.opX hΓ (h := ?_) | refine WL.opY (h := ?_) | refine WL.opZ (h := ?_))); with_reducible apply WL.nil) | refine W.condT (h := ?_) | refine W.condF (h := ?_))
    refine At.retA (by rw [Tryd.results8]) (he := ?_)
    rw [hv]
  · have hv : bookHash l = ByteArray.empty := if_neg ho
    rw [decide_eq_false ho] at c1
    clear ho
    simp only [initS, argPV, List.map_cons, List.map_nil, toPL, Nat.zero_add]
    repeat (first | with_reducible apply W.seq | with_reducible apply W.block | with_reducible apply W.skip | with_reducible apply W.exit | with_reducible apply W.ret | with_reducible apply At.seqN | with_reducible apply At.blkN | with_reducible apply At.blkE | with_reducible apply At.blkR | with_reducible apply At.thenX | with_reducible apply At.thenR | with_reducible apply At.blkX rfl | ((with_reducible apply W.ops); (repeat (first | refine WL.opA hΓ (h := ?_) | refine WL.opX hΓ (h := ?_) | refine WL.opY (h := ?_) | refine WL.opZ (h := ?_))); with_reducible apply WL.nil) | refine W.condT (h := ?_) | refine W.condF (h := ?_))
    refine At.retA (by rw [Tryd.results8]) (he := ?_)
    rw [hv]
    rfl
section
variable {w : World} {v : Value} {l : List TItem}
theorem cItem_one : ∀ x, ∀ u ∈ cItem x, u.oneCell' = true := fun x u hu => by simp [cItem] at hu; rcases hu with rfl | rfl <;> rfl
theorem GlobOk.belowB {γ0 : Nat → Option Nat} {w w' : World} (h : GlobOk γ0 w) (hb : Below w.heap.size w w') : GlobOk γ0 w' := fun g cs hg => by
  obtain ⟨h1, h2, h3⟩ := h g cs hg
  exact ⟨h1, Nat.lt_of_lt_of_le h2 hb.size, fun j v hj => ⟨(h3 j v hj).1, (hb.cell (p := ⟨g, j, none⟩) h2).trans (h3 j v hj).2⟩⟩
theorem bookHash_spec (gl : GlobOk none0 w) (h : RdS w w.heap.size 2 cItem v l) (hk : ∀ x ∈ l, okItem x) (hn : l.length ≤ 8796093022207) : Calls Tryd.prog 9 #[v] w fun e w' => e = .returned (.string (bookHash l)) ∧ Below w.heap.size w w' :=
  calls_says bookHashS_s (mBookHash_eq l ⟨hk, hn⟩) (RepAs.mk1 (aL_rep (fun _ => rfl) cItem_one h)) gl
theorem bookHash_impl (gl : GlobOk none0 w) (h : RdS w w.heap.size 2 cItem v l) (hk : ∀ x ∈ l, okItem x) (hn : l.length ≤ 8796093022207) : Calls Tryd.prog 8 #[v] w fun e w' => e = .returned (.string (bookHash l)) ∧ Below w.heap.size w w' :=
  calls_says bookHashI_s (mBookHash_eq l ⟨hk, hn⟩) (RepAs.mk1 (aL_rep (fun _ => rfl) cItem_one h)) gl
end

end Go.Proofs.YtimnogjgokljbaaDoor
