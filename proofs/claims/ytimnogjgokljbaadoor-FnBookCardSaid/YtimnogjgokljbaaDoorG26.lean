/-
  Put together: EvRen EvPlay EvFresh.
-/
import Derived.Test.YtimnogjgokljbaaDoorHEvCu
import Derived.Test.YtimnogjgokljbaaDoorG24
section
/-!
  A row of one's own takes another name.
-/
namespace Go.Proofs.YtimnogjgokljbaaDoor
set_option maxRecDepth 100000
set_option linter.unusedVariables false
set_option linter.unusedSimpArgs false
open Go Go.RowKit
set_option linter.unusedVariables false
set_option linter.unusedSimpArgs false

section
variable {γ0 : Nat → Option Nat} {w0 : World} {N : Nat} {st : St} {a : Act} {w : World} {Q : Exit → Act → World → Prop} {e : Exit}
theorem R.ren (h : R γ0 w0 N st a w) {t n m el s : Nat} {fl : Bool} {rows : List (List Leaf)} (ht : getS st t = one (.all n)) (hb : getB st n = some (.arr fl el s rows)) (hnm : n ≠ m) (hm9 : m ≠ 999) :
    R γ0 w0 N (.slot t (one (.all m)) :: .blk m (.arr fl el s rows) :: .kill n :: .kill m :: st) a w := by
  obtain ⟨η, γ, hI⟩ := h
  have hI1 := hI.drop m
  generalize hγ1 : (fun b => if γ b = some m then none else γ b) = γ1 at hI1
  have hmn : ¬ m = n := fun e => hnm e.symm
  have hb1 : getB (.kill m :: st) n = some (.arr fl el s rows) := by simp only [getB, if_neg hmn, hb, Option.map_some, Blk.kill]
  have hbm : getB (.kill m :: st) m = none := by simp only [getB, if_true]
  have ht1 : getS (.kill m :: st) t = one (.all n) := by
    simp only [getS, ht, one, PV.kill, List.map_cons, List.map_nil, PL.kill, PL.names]
    simp [hmn, hnm]
  generalize Entry.kill m :: st = st1 at *
  refine ⟨fun k => if k = m then η n else η k, fun b => if γ1 b = some n then some m else γ1 b, ?_⟩
  have hk : Kp w w γ1 (fun b => if γ1 b = some n then some m else γ1 b) := ⟨Nat.le_refl _, fun b _ hg => ⟨by simp [hg], rfl⟩⟩
  have hg3 : ∀ k, k ≠ m → k ≠ n → getB (.slot t (one (.all m)) :: .blk m (.arr fl el s rows) :: .kill n :: st1) k = (getB st1 k).map (Blk.kill n) := fun k h1 h2 => by
    have h1' : ¬ m = k := fun e => h1 e.symm
    have h2' : ¬ n = k := fun e => h2 e.symm
    simp only [getB, if_neg h1', if_neg h2']
  have hg3m : getB (.slot t (one (.all m)) :: .blk m (.arr fl el s rows) :: .kill n :: st1) m = some (.arr fl el s rows) := by simp only [getB, if_true]
  have hg3n : getB (.slot t (one (.all m)) :: .blk m (.arr fl el s rows) :: .kill n :: st1) n = none := by simp only [getB, if_neg hmn, if_true]
  have hn : Nm (getB st1) (getB (.slot t (one (.all m)) :: .blk m (.arr fl el s rows) :: .kill n :: st1)) η (fun k => if k = m then η n else η k) (· ≠ n) := by
    intro k b hkn hbk
    have hkm : k ≠ m := fun e => by subst e; rw [hbm] at hbk; cases hbk
    refine ⟨by simp [hkm], ?_⟩
    have := hg3 k hkm hkn
    rw [hbk] at this
    cases b with
    | arr fl e s rows => exact ⟨fl, rows, this, rfl⟩
    | box ls => exact ⟨_, this⟩
  refine { hI1 with slots := fun t' => ?_, blks := fun k b hbk => ?_, live := fun b k hgb => ?_, low := fun b hb0 hg0 => ?_, pin := fun h9 b ls hgb hbx => ?_, pinA := hI1.pinA.to fun h9 fl1 e1 s1 rows1 hbx => ?_ }
  · by_cases e0 : t = t'
    · subst e0
      have h0 := hI1.slots t
      rw [ht1] at h0
      obtain ⟨l, hl, h1⟩ := h0
      cases hl
      show RepV _ _ _ _ (if t = t then _ else _) _
      rw [if_pos rfl]
      exact ⟨_, rfl, h1.1.trans (by simp), fl, el, s, rows, hg3m⟩
    · show RepV _ _ _ _ (if t = t' then _ else _) _
      rw [if_neg e0]
      exact (hI1.slots t').kill hn hk
  · by_cases hkm : k = m
    · subst hkm
      rw [hg3m] at hbk
      cases hbk
      have h1 := hI1.blks n _ hb1
      obtain ⟨xs, h2, h3, h4, h5, h6⟩ := h1
      exact ⟨xs, by simpa using h2, h3.kp hk, h4, fun b hb => by simp [h5 b (by simpa using hb)], h6⟩
    · by_cases hkn : k = n
      · subst hkn
        rw [hg3n] at hbk
        cases hbk
      · rw [hg3 k hkm hkn] at hbk
        obtain ⟨b0, hb0, rfl⟩ := Option.map_eq_some_iff.1 hbk
        have h1 := hI1.blks k b0 hb0
        cases b0 with
        | box ls =>
          obtain ⟨b, us, t2, h2, h3, h4, h5⟩ := h1
          exact ⟨b, us, t2, by simp only [if_neg hkm]; exact h2, by simp [h3, hkn], h4, h5.kill hn hk⟩
        | arr fl e s rows =>
          obtain ⟨xs, h2, h3, h4, h5, h6⟩ := h1
          exact ⟨xs, by simp only [if_neg hkm]; exact h2, h3.kp hk, h4, fun b hb => by simp only [if_neg hkm] at hb; simp [h5 b hb, hkn], h6⟩
  · by_cases hgn : γ1 b = some n
    · simp only [hgn, if_true, Option.some.injEq] at hgb
      subst hgb
      obtain ⟨h1, h2, h3⟩ := hI1.live b n hgn
      exact ⟨h1, by simpa using h2, by rw [hg3m]; rfl⟩
    · simp only [hgn, if_false] at hgb
      obtain ⟨h1, h2, h3⟩ := hI1.live b k hgb
      have hkm : k ≠ m := fun e => by subst e; rw [hbm] at h3; cases h3
      have hkn : k ≠ n := fun e => hgn (e ▸ hgb)
      refine ⟨h1, by simp only [if_neg hkm]; exact h2, ?_⟩
      rw [hg3 k hkm hkn]
      simpa using h3
  · obtain ⟨h1, h2⟩ := hI1.low b hb0 hg0
    exact ⟨by simp [h1], h2⟩
  · by_cases h1 : (999 : Nat) = m
    · subst h1
      rw [hg3m] at hbx
      cases hbx
    · by_cases h2 : (999 : Nat) = n
      · subst h2
        rw [hg3n] at hbx
        cases hbx
      · rw [hg3 999 h1 h2] at hbx
        obtain ⟨b0, hb0, h3⟩ := Option.map_eq_some_iff.1 hbx
        have hgb1 : γ1 b = some 999 := by
          by_cases hgn : γ1 b = some n
          · simp only [hgn, if_true, Option.some.injEq] at hgb
            exact absurd hgb.symm h1
          · simpa [hgn] using hgb
        cases b0 with
        | box ls0 => exact hI1.pin h9 b ls0 hgb1 hb0
        | arr fl e s rows => cases h3
  · by_cases h2 : (999 : Nat) = n
    · subst h2
      rw [hg3n] at hbx
      cases hbx
    · rw [hg3 999 (fun e => hm9 e.symm) h2] at hbx
      obtain ⟨b0, hb0, h3⟩ := Option.map_eq_some_iff.1 hbx
      cases b0 with
      | box ls0 => cases h3
      | arr fl0 e0 s0 rows0 =>
        cases h3
        exact ⟨if_neg fun e => hm9 e.symm, _, _, hb0, rfl⟩
theorem At.ren {el s : Nat} {fl : Bool} {rows : List (List Leaf)} (t : Nat) (n m : Nat) (hnm : n ≠ m := by decide) (hm9 : m ≠ 999 := by decide) (ht : getS st t = one (.all n) := by simp (config := { maxSteps := 1000000 }) (disch := first | assumption | omega) only [TY, ar_u64, binE, eqCells, eqVal, eqOp, step_mk, makeE, List.toList_toArray, Value.oneCell', step_fnv, step_makeFunc, ev_func, callV, cells_agg, cells_int, cells_bool, cells_str, cells_sl, List.size_toArray, flatB_nil, flatB_cons, wid_nil, wid_cons, rowsF_len, rowsF_flat, rowsF_app, step_build, buildE, fillE, indexSlE, indexArrE, shiftE, indexArrV, indexStE, step_move, step_assign, step_pick, step_load, step_nilCheck, step_binOp, step_unOp, step_convert, step_slice, step_fieldAddr, step_field, step_indexAddr, step_index, step_extract, step_len, step_min, step_max, step_alloc, step_box, step_lit, step_app, step_fn, step_store, putV_some, getS_hit, getS_miss, getS_blk, getS_kill, getS_nil, getB_nil, getB_slot, getB_hit, getB_miss, getB_kill0, getB_kill1, ev_tmp, ev_int, ev_bool, ev_str, ev_nil, ev_agg, cl_int, cl_bool, cl_str, cl_nil, loadE, loadV, fieldAddrE, fieldE, partV, indexAddrE, lenE, lenO, strIdx, indexE, boundE, subE, sliceE, convE, minE, scal, nilE, tupE, capsE, optE, pickE, pbin, pint, pstr, pun, ar_in, ar_u32, ar_u8, allocE, boxE, litE, rowsO, leafO, leafsO, frz, clr, rowsOf, destOf, appE, storeE, argO, argsO, boxesO, callG, callE, impE, pvR, pvs, pvRL, pvT, owns, ownsT, ownsR, clrL, withB, PV.kill, PL.kill, PL.names, Blk.kill, PL.live, toPL, resV, resO, compsO, compO, rlsO, rlO, toRes, Leaf.isSc, List.map_cons, List.map_nil, List.all_cons, List.all_nil, List.length_cons, List.length_nil, List.drop_zero, List.drop_succ_cons, List.take_succ_cons, List.take_zero, List.drop_nil, List.take_nil, List.getElem?_cons_zero, List.getElem?_cons_succ, List.getElem?_nil, Option.map_some, Option.map_none, Option.bind_some, Option.isSome_some, Option.isSome_none, List.cons_append, List.nil_append, List.append_nil, if_true, if_false, reduceIte, Nat.reduceLT, Nat.reduceBEq, Nat.reduceLeDiff, Nat.reduceEqDiff, Nat.reduceAdd, Nat.reduceMul, Nat.zero_add, Nat.add_zero, Nat.mul_one, Int.reduceToNat, Bool.and_true, Bool.true_and, Bool.false_and, Bool.and_false, Bool.not_true, Bool.not_false, Bool.false_eq_true, decide_true, decide_false, and_self, and_true, true_and, or_true, true_or, or_false, false_or, if_pos, if_neg, Int.toNat_natCast, decide_eq_true, decide_eq_false, look_hit, look_miss, Int.ofNat_eq_natCast, Bool.or_false, Bool.or_true, Bool.true_or, Bool.false_or, Bool.not_eq_true, beq_self_eq_true, ne_eq, not_false_eq_true, not_true_eq_false, eq_self, *] <;> rfl) (hb : getB st n = some (.arr fl el s rows) := by simp (config := { maxSteps := 1000000 }) (disch := first | assumption | omega) only [TY, ar_u64, binE, eqCells, eqVal, eqOp, step_mk, makeE, List.toList_toArray, Value.oneCell', step_fnv, step_makeFunc, ev_func, callV, cells_agg, cells_int, cells_bool, cells_str, cells_sl, List.size_toArray, flatB_nil, flatB_cons, wid_nil, wid_cons, rowsF_len, rowsF_flat, rowsF_app, step_build, buildE, fillE, indexSlE, indexArrE, shiftE, indexArrV, indexStE, step_move, step_assign, step_pick, step_load, step_nilCheck, step_binOp, step_unOp, step_convert, step_slice, step_fieldAddr, step_field, step_indexAddr, step_index, step_extract, step_len, step_min, step_max, step_alloc, step_box, step_lit, step_app, step_fn, step_store, putV_some, getS_hit, getS_miss, getS_blk, getS_kill, getS_nil, getB_nil, getB_slot, getB_hit, getB_miss, getB_kill0, getB_kill1, ev_tmp, ev_int, ev_bool, ev_str, ev_nil, ev_agg, cl_int, cl_bool, cl_str, cl_nil, loadE, loadV, fieldAddrE, fieldE, partV, indexAddrE, lenE, lenO, strIdx, indexE, boundE, subE, sliceE, convE, minE, scal, nilE, tupE, capsE, optE, pickE, pbin, pint, pstr, pun, ar_in, ar_u32, ar_u8, allocE, boxE, litE, rowsO, leafO, leafsO, frz, clr, rowsOf, destOf, appE, storeE, argO, argsO, boxesO, callG, callE, impE, pvR, pvs, pvRL, pvT, owns, ownsT, ownsR, clrL, withB, PV.kill, PL.kill, PL.names, Blk.kill, PL.live, toPL, resV, resO, compsO, compO, rlsO, rlO, toRes, Leaf.isSc, List.map_cons, List.map_nil, List.all_cons, List.all_nil, List.length_cons, List.length_nil, List.drop_zero, List.drop_succ_cons, List.take_succ_cons, List.take_zero, List.drop_nil, List.take_nil, List.getElem?_cons_zero, List.getElem?_cons_succ, List.getElem?_nil, Option.map_some, Option.map_none, Option.bind_some, Option.isSome_some, Option.isSome_none, List.cons_append, List.nil_append, List.append_nil, if_true, if_false, reduceIte, Nat.reduceLT, Nat.reduceBEq, Nat.reduceLeDiff, Nat.reduceEqDiff, Nat.reduceAdd, Nat.reduceMul, Nat.zero_add, Nat.add_zero, Nat.mul_one, Int.reduceToNat, Bool.and_true, Bool.true_and, Bool.false_and, Bool.and_false, Bool.not_true, Bool.not_false, Bool.false_eq_true, decide_true, decide_false, and_self, and_true, true_and, or_true, true_or, or_false, false_or, if_pos, if_neg, Int.toNat_natCast, decide_eq_true, decide_eq_false, look_hit, look_miss, Int.ofNat_eq_natCast, Bool.or_false, Bool.or_true, Bool.true_or, Bool.false_or, Bool.not_eq_true, beq_self_eq_true, ne_eq, not_false_eq_true, not_true_eq_false, eq_self, *] <;> rfl)
    (h : At γ0 w0 N (.slot t (one (.all m)) :: .blk m (.arr fl el s rows) :: .kill n :: .kill m :: st) e Q) : At γ0 w0 N st e Q := fun a w hR => h a w (hR.ren ht hb hnm hm9)
end
end Go.Proofs.YtimnogjgokljbaaDoor

end
section
/-!
  BookPlay of both.
-/
namespace Go.Proofs.YtimnogjgokljbaaDoor
set_option maxRecDepth 100000
set_option linter.unusedVariables false
set_option linter.unusedSimpArgs false
open Go Go.RowKit
set_option maxHeartbeats 8000000
set_option linter.unusedVariables false

noncomputable def plF (x : List TItem × Int) (line : ByteArray) : List TItem × Int := (bdL x.1 line, if bdB x.1 line = true then x.2 + 1 else x.2)
noncomputable def plK (ls : List ByteArray) (k : Nat) : List TItem × Int := (ls.take k).foldl plF ([], 0)
noncomputable def plL (ls : List ByteArray) : List TItem := (plK ls ls.length).1
noncomputable def plN (ls : List ByteArray) : Int := (plK ls ls.length).2
theorem plK_succ {ls : List ByteArray} {k : Nat} (h : k < ls.length) : plK ls (k + 1) = plF (plK ls k) ls[k] := by
  unfold plK
  rw [List.take_succ_eq_append_getElem h, List.foldl_append]
  rfl
theorem bookOk_nil : bookOk [] := ⟨by simp, fun k hk => by simp at hk⟩
theorem bdL_ok {l : List TItem} {line : ByteArray} (h : bookOk l) : bookOk (bdL l line) := by
  unfold bdL
  split
  · rename_i h1
    simp only [bdB, Bool.and_eq_true, decide_eq_true_eq] at h1
    exact h1.2
  · first | (rw [if_pos h]; exact h) | exact h
theorem plK_ok (ls : List ByteArray) : ∀ k, k ≤ ls.length → bookOk (plK ls k).1 ∧ 0 ≤ (plK ls k).2 ∧ (plK ls k).2 ≤ k
  | 0, _ => ⟨bookOk_nil, Int.le_refl _, Int.le_refl _⟩
  | k + 1, h => by
    obtain ⟨h1, h2, h3⟩ := plK_ok ls k (by omega)
    rw [plK_succ (by omega)]
    refine ⟨bdL_ok h1, ?_, ?_⟩ <;> (unfold plF; dsimp only; split <;> omega)
theorem book_items {l : List TItem} (h : bookOk l) : ∀ x ∈ l, okItem x := fun x hx => by
  obtain ⟨j, hj, rfl⟩ := List.getElem_of_mem hx
  have := (book_at h hj).1
  have h2 := this.2.1
  show (l[j].1).size ≤ maxLen
  unfold maxLen
  omega
theorem plL_le (ls : List ByteArray) : (plL ls).length ≤ 1048576 := Nat.le_trans (plK_ok ls ls.length (Nat.le_refl _)).1.1 (by decide)
def okPl (ls : List ByteArray) : Prop := (∀ x ∈ ls, okString x) ∧ ls.length ≤ 8796093022207
noncomputable def mPlay := mdl okPl (fun ls : List ByteArray => [aL cStr ls]) (fun ls => rTL 36 2 cItem (plL ls) [rSc (.int .i64 (plN ls))])
noncomputable def mBDs := mdl okBD encBD rBDs
theorem mBDs_eq (l : List TItem) (line : ByteArray) (h : okBD (l, line)) : mBDs [aL cItem l, aS line] = some (rTL 36 2 cItem (bdL l line) [rSc (.bool (bdB l line))]) := mdl_eq encBD_inj (l, line) h
noncomputable def mBDi := mdl okBD encBD rBDi
theorem mBDi_eq (l : List TItem) (line : ByteArray) (h : okBD (l, line)) (hb : bookOk l) : mBDi [aL cItem l, aS line] = some (rTL 36 2 cItem (bdL l line) [rSc (.bool (bdB l line))]) := by
  have := mdl_eq (ok := okBD) (g := rBDi) encBD_inj (l, line) h
  simp only [rBDi, if_pos hb] at this
  exact this
theorem play_spec_s : Sound Tryd.prog 18 mPlay := by
  refine Sound.mdl Tryd.func18 rfl Tryd.ntmps18 ?_
  rintro ls w ⟨hst, hn⟩
  refine ⟨by simp, ?_⟩
  have hΓ : GSound Tryd.prog (look [(7, mBDs)]) := env_cons (has_of Tryd.func7 rfl rfl) bdS_s env_nil
  have hnil : rowsF cItem ([] : List TItem) = [] := rfl
  simp only [initS, argPV, List.map_cons, List.map_nil, toPL, Nat.zero_add]
  repeat (first | with_reducible apply W.seq | with_reducible apply W.block | with_reducible apply W.skip | with_reducible apply W.exit | with_reducible apply W.ret | with_reducible apply At.seqN | with_reducible apply At.blkN | with_reducible apply At.blkE | with_reducible apply At.blkR | with_reducible apply At.thenX | with_reducible apply At.thenR | with_reducible apply At.blkX rfl | ((with_reducible apply W.ops); (repeat (first | refine WL.opA hΓ (h := ?_) | refine WL.opX hΓ (h := ?_) | refine WL.opY (h := ?_) | refine WL.opZ (h := ?_))); with_reducible apply WL.nil) | refine W.condT (h := ?_) | refine W.condF (h := ?_))
  refine W.loopA (fun x : Nat × List TItem × Int => x.1 ≤ ls.length ∧ plK ls x.1 = x.2) (fun x : Nat × List TItem × Int => [.slot 6 (vI x.1), .slot 5 (vI x.2.2), .slot 4 (one (.all 9)), .blk 9 (.arr true 36 2 (rowsF cItem x.2.1)), .slot 0 (vL cStr ls)]) (fun x => ls.length - x.1) (0, [], 0) ⟨Nat.zero_le _, rfl⟩ (h := ?_)
  rintro ⟨k, l, n⟩ ⟨hk, he⟩
  dsimp only at hk he ⊢
  obtain ⟨p1, p2, p3⟩ := plK_ok ls k hk
  rw [he] at p1 p2 p3
  dsimp only at p1 p2 p3
  have h12 : l.length ≤ 12 := p1.1
  clear hnil
  by_cases hlt : k < ls.length
  · have hrow : (rowsF cStr ls)[k]? = some [.sc (.string ls[k])] := rowsF_get cStr ls k hlt
    have hsucc := plK_succ hlt
    rw [he] at hsucc
    have c := mBDs_eq l ls[k] ⟨⟨book_items p1, by dsimp only; omega⟩, hst _ (List.getElem_mem hlt)⟩
    clear he
    generalize ls[k] = line at *
    have h2 := bdL_le2 l line
    unfold plF at hsucc
    dsimp only at hsucc
    cases hB : bdB l line with
    | true =>
      rw [hB] at c hsucc
      rw [if_pos rfl] at hsucc
      repeat (first | with_reducible apply W.seq | with_reducible apply W.block | with_reducible apply W.skip | with_reducible apply W.exit | with_reducible apply W.ret | with_reducible apply At.seqN | with_reducible apply At.blkN | with_reducible apply At.blkE | with_reducible apply At.blkR | with_reducible apply At.thenX | with_reducible apply At.thenR | with_reducible apply At.blkX rfl | ((with_reducible apply W.ops); (repeat (first | refine WL.opA hΓ (h := ?_) | refine WL.opX hΓ (h := ?_) | refine WL.opY (h := ?_) | refine WL.opZ (h := ?_))); with_reducible apply WL.nil) | refine W.condT (h := ?_) | refine W.condF (h := ?_))
      refine At.ren 4 22 9 (h := ?_)
      exact At.roundA (k + 1, bdL l line, n + 1) ⟨by dsimp only; omega, hsucc⟩ (by dsimp only; omega)
    | false =>
      rw [hB] at c hsucc
      rw [if_neg (by simp)] at hsucc
      repeat (first | with_reducible apply W.seq | with_reducible apply W.block | with_reducible apply W.skip | with_reducible apply W.exit | with_reducible apply W.ret | with_reducible apply At.seqN | with_reducible apply At.blkN | with_reducible apply At.blkE | with_reducible apply At.blkR | with_reducible apply At.thenX | with_reducible apply At.thenR | with_reducible apply At.blkX rfl | ((with_reducible apply W.ops); (repeat (first | refine WL.opA hΓ (h := ?_) | refine WL.opX hΓ (h := ?_) | refine WL.opY (h := ?_) | refine WL.opZ (h := ?_))); with_reducible apply WL.nil) | refine W.condT (h := ?_) | refine W.condF (h := ?_))
      refine At.ren 4 22 9 (h := ?_)
      exact At.roundA (k + 1, bdL l line, n) ⟨by dsimp only; omega, hsucc⟩ (by dsimp only; omega)
  · have hke : k = ls.length := by omega
    subst hke
    have e1 : plL ls = l := by unfold plL; rw [he]
    have e2 : plN ls = n := by unfold plN; rw [he]
    repeat (first | with_reducible apply W.seq | with_reducible apply W.block | with_reducible apply W.skip | with_reducible apply W.exit | with_reducible apply W.ret | with_reducible apply At.seqN | with_reducible apply At.blkN | with_reducible apply At.blkE | with_reducible apply At.blkR | with_reducible apply At.thenX | with_reducible apply At.thenR | with_reducible apply At.blkX rfl | ((with_reducible apply W.ops); (repeat (first | refine WL.opA hΓ (h := ?_) | refine WL.opX hΓ (h := ?_) | refine WL.opY (h := ?_) | refine WL.opZ (h := ?_))); with_reducible apply WL.nil) | refine W.condT (h := ?_) | refine W.condF (h := ?_))
    refine At.retA (by rw [Tryd.results18]) (he := ?_)
    rw [e1, e2]
theorem play_impl_s : Sound Tryd.prog 17 mPlay := by
  refine Sound.mdl Tryd.func17 rfl Tryd.ntmps17 ?_
  rintro ls w ⟨hst, hn⟩
  refine ⟨by simp, ?_⟩
  have hΓ : GSound Tryd.prog (look [(6, mBDi)]) := env_cons (has_of Tryd.func6 rfl rfl) bdI env_nil
  have hnil : rowsF cItem ([] : List TItem) = [] := rfl
  simp only [initS, argPV, List.map_cons, List.map_nil, toPL, Nat.zero_add]
  repeat (first | with_reducible apply W.seq | with_reducible apply W.block | with_reducible apply W.skip | with_reducible apply W.exit | with_reducible apply W.ret | with_reducible apply At.seqN | with_reducible apply At.blkN | with_reducible apply At.blkE | with_reducible apply At.blkR | with_reducible apply At.thenX | with_reducible apply At.thenR | with_reducible apply At.blkX rfl | ((with_reducible apply W.ops); (repeat (first | refine WL.opA hΓ (h := ?_) | refine WL.opX hΓ (h := ?_) | refine WL.opY (h := ?_) | refine WL.opZ (h := ?_))); with_reducible apply WL.nil) | refine W.condT (h := ?_) | refine W.condF (h := ?_))
  refine W.loopA (fun x : Nat × List TItem × Int => x.1 ≤ ls.length ∧ plK ls x.1 = x.2) (fun x : Nat × List TItem × Int => [.slot 13 (vI x.1), .slot 12 (vI ls.length), .slot 11 (vL cStr ls), .slot 5 (vI x.2.2), .slot 4 (one (.all 10)), .blk 10 (.arr true 36 2 (rowsF cItem x.2.1))]) (fun x => ls.length - x.1) (0, [], 0) ⟨Nat.zero_le _, rfl⟩ (h := ?_)
  rintro ⟨k, l, n⟩ ⟨hk, he⟩
  dsimp only at hk he ⊢
  obtain ⟨p1, p2, p3⟩ := plK_ok ls k hk
  rw [he] at p1 p2 p3
  dsimp only at p1 p2 p3
  have h12 : l.length ≤ 12 := p1.1
  clear hnil
  by_cases hlt : k < ls.length
  · have hrow : (rowsF cStr ls)[k]? = some [.sc (.string ls[k])] := rowsF_get cStr ls k hlt
    have hsucc := plK_succ hlt
    rw [he] at hsucc
    have c := mBDi_eq l ls[k] ⟨⟨book_items p1, by dsimp only; omega⟩, hst _ (List.getElem_mem hlt)⟩ p1
    clear he
    generalize ls[k] = line at *
    have h2 := bdL_le2 l line
    unfold plF at hsucc
    dsimp only at hsucc
    cases hB : bdB l line with
    | true =>
      rw [hB] at c hsucc
      rw [if_pos rfl] at hsucc
      repeat (first | with_reducible apply W.seq | with_reducible apply W.block | with_reducible apply W.skip | with_reducible apply W.exit | with_reducible apply W.ret | with_reducible apply At.seqN | with_reducible apply At.blkN | with_reducible apply At.blkE | with_reducible apply At.blkR | with_reducible apply At.thenX | with_reducible apply At.thenR | with_reducible apply At.blkX rfl | ((with_reducible apply W.ops); (repeat (first | refine WL.opA hΓ (h := ?_) | refine WL.opX hΓ (h := ?_) | refine WL.opY (h := ?_) | refine WL.opZ (h := ?_))); with_reducible apply WL.nil) | refine W.condT (h := ?_) | refine W.condF (h := ?_))
      refine At.ren 4 20 10 (h := ?_)
      exact At.roundA (k + 1, bdL l line, n + 1) ⟨by dsimp only; omega, hsucc⟩ (by dsimp only; omega)
    | false =>
      rw [hB] at c hsucc
      rw [if_neg (by simp)] at hsucc
      repeat (first | with_reducible apply W.seq | with_reducible apply W.block | with_reducible apply W.skip | with_reducible apply W.exit | with_reducible apply W.ret | with_reducible apply At.seqN | with_reducible apply At.blkN | with_reducible apply At.blkE | with_reducible apply At.blkR | with_reducible apply At.thenX | with_reducible apply At.thenR | with_reducible apply At.blkX rfl | ((with_reducible apply W.ops); (repeat (first | refine WL.opA hΓ (h := ?_) | refine WL.opX hΓ (h := ?_) | refine WL.opY (h := ?_) | refine WL.opZ (h := ?_))); with_reducible apply WL.nil) | refine W.condT (h := ?_) | refine W.condF (h := ?_))
      refine At.ren 4 20 10 (h := ?_)
      exact At.roundA (k + 1, bdL l line, n) ⟨by dsimp only; omega, hsucc⟩ (by dsimp only; omega)
  · have hke : k = ls.length := by omega
    subst hke
    have e1 : plL ls = l := by unfold plL; rw [he]
    have e2 : plN ls = n := by unfold plN; rw [he]
    repeat (first | with_reducible apply W.seq | with_reducible apply W.block | with_reducible apply W.skip | with_reducible apply W.exit | with_reducible apply W.ret | with_reducible apply At.seqN | with_reducible apply At.blkN | with_reducible apply At.blkE | with_reducible apply At.blkR | with_reducible apply At.thenX | with_reducible apply At.thenR | with_reducible apply At.blkX rfl | ((with_reducible apply W.ops); (repeat (first | refine WL.opA hΓ (h := ?_) | refine WL.opX hΓ (h := ?_) | refine WL.opY (h := ?_) | refine WL.opZ (h := ?_))); with_reducible apply WL.nil) | refine W.condT (h := ?_) | refine W.condF (h := ?_))
    refine At.retA (by rw [Tryd.results17]) (he := ?_)
    rw [e1, e2]
end Go.Proofs.YtimnogjgokljbaaDoor

end
section
/-!
  A code that follows from another one; small functions of the laws.
-/
namespace Go.Proofs.YtimnogjgokljbaaDoor
set_option maxRecDepth 100000
set_option linter.unusedVariables false
set_option linter.unusedSimpArgs false
open Go Go.RowKit
set_option maxHeartbeats 4000000

theorem wrap_u8_ex : ∃ g : Int → Nat, (∀ n, IntKind.u8.wrap n = ((g n : Nat) : Int)) ∧ ∀ n, g n < 256 := by
  refine ⟨fun n => (n % 256).toNat, fun n => ?_, fun n => ?_⟩
  · have : IntKind.u8.wrap n = n % 256 := by simp [IntKind.wrap, IntKind.bits, IntKind.signed]
    rw [this]
    show n % 256 = (((n % 256).toNat : Nat) : Int)
    omega
  · show (n % 256).toNat < 256
    omega
theorem CodeOk.le {bs : List Nat} (h : bs.length ≤ 1048576) (hb : ∀ n ∈ bs, n < 256) : CodeOk bs := ⟨hb, by omega⟩
noncomputable def mBig := mdl (fun bs : List Nat => bs.length ≤ 9223372036854775807) (fun bs => [aL cU8 bs]) (fun bs => rB (decide (1048576 < bs.length)))
theorem rowsF_U8 {a b : List Nat} : rowsF cU8 a = rowsF cU8 b ↔ a = b := rowsF_iff fun x y h => by
  simp only [cU8, List.cons.injEq, Value.int.injEq, and_true, true_and] at h
  omega
theorem mBig_eq (bs : List Nat) (h : bs.length ≤ 9223372036854775807) : mBig [aL cU8 bs] = some (rB (decide (1048576 < bs.length))) := mdl_eq (by intro a b h; simpa [rowsF_U8] using h) bs h
theorem big_s : Sound Tryd.prog 4 mBig := by
  refine Sound.mdl Tryd.func4 rfl Tryd.ntmps4 ?_
  rintro bs w hl
  refine ⟨by simp, ?_⟩
  replace hl : bs.length ≤ 9223372036854775807 := hl
  have hΓ : GSound Tryd.prog (look []) := env_nil
  simp only [initS, argPV, List.map_cons, List.map_nil, toPL, Nat.zero_add]
  repeat (first | with_reducible apply W.seq | with_reducible apply W.block | with_reducible apply W.skip | with_reducible apply W.exit | with_reducible apply W.ret | with_reducible apply At.seqN | with_reducible apply At.blkN | with_reducible apply At.blkE | with_reducible apply At.blkR | with_reducible apply At.thenX | with_reducible apply At.thenR | with_reducible apply At.blkX rfl | ((with_reducible apply W.ops); (repeat (first | refine WL.opA hΓ (h := ?_) | refine WL.opX hΓ (h := ?_) | refine WL.opY (h := ?_) | refine WL.opZ (h := ?_))); with_reducible apply WL.nil) | refine W.condT (h := ?_) | refine W.condF (h := ?_))
  refine At.retA (by rw [Tryd.results4]) (he := ?_)
  by_cases h : 1048576 < bs.length
  · have h2 : (1048576 : Int) < bs.length := by omega
    simp [h, h2]
  · have h2 : ¬ (1048576 : Int) < bs.length := by omega
    simp [h, h2]
end Go.Proofs.YtimnogjgokljbaaDoor

end
