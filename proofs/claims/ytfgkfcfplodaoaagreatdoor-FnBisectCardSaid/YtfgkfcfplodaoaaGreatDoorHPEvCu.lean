/-
  The cursor of the draws: what the functions that move it may answer.
-/
import Derived.Test.YtfgkfcfplodaoaaGreatDoorHPEvCur
import Derived.Test.YtfgkfcfplodaoaaGreatDoorG9
namespace Go.Proofs.YtfgkfcfplodaoaaGreatDoor
set_option maxRecDepth 100000
set_option linter.unusedVariables false
set_option linter.unusedSimpArgs false
open Go Go.RowKit
set_option maxHeartbeats 4000000

/-- a cursor: the code it stands on (as a value, and its bytes), where it stands, and its number -/
structure Cu where
  v : Value
  bs : List Nat
  i : Int
  h : Int
def cuL (c : Cu) : List PL := [.xl c.v (rowsF cU8 c.bs), .sc (.int .i64 c.i), .sc (.int .i64 c.h)]
def CuOk (c : Cu) : Prop := (∀ n ∈ c.bs, n < 256) ∧ 0 ≤ c.i ∧ c.i ≤ c.bs.length ∧ inI64 c.h ∧ c.bs.length ≤ 140737488355328
def CuTo (c c' : Cu) : Prop := c'.v = c.v ∧ c'.bs = c.bs ∧ CuOk c'
theorem cuL_ex (c : Cu) : (cuL c).all exB = true := rfl
theorem cuL_kept {c c' : Cu} (h : CuTo c c') : Kept (cuL c) (cuL c') := by
  obtain ⟨h1, h2, _⟩ := h
  intro l hl
  unfold cuL at hl ⊢
  rw [h1, h2] at hl
  simp only [List.mem_cons, List.not_mem_nil, or_false] at hl ⊢
  rcases hl with rfl | rfl | rfl
  · exact .inl (.inl rfl)
  · exact .inr ⟨_, rfl, rfl⟩
  · exact .inr ⟨_, rfl, rfl⟩
theorem CuTo.ok {c c' : Cu} (h : CuTo c c') : CuOk c' := h.2.2
theorem CuTo.refl {c : Cu} (h : CuOk c) : CuTo c c := ⟨rfl, rfl, h⟩
theorem CuTo.trans {c c' c'' : Cu} (h : CuTo c c') (h' : CuTo c' c'') : CuTo c c'' := ⟨h'.1.trans h.1, h'.2.1.trans h.2.1, h'.2.2⟩

/-- f moves the cursor at which its first argument points, and answers res a b to enc a, b so that rel a b -/
abbrev SoundCu (P : Program) (f : FuncId) {A B : Type} (ok : A → Prop) (enc : A → List Arg) (rel : A → B → Prop) (res : A → B → Res) : Prop :=
  SoundC P f (α := Cu × A) (β := Cu × B) (fun x => CuOk x.1 ∧ ok x.2) (fun x => cuL x.1) (fun x => enc x.2) (fun x y => CuTo x.1 y.1 ∧ rel x.2 y.2) (fun _ y => cuL y.1) (fun x y => res x.2 y.2)
/-- what such a function leaves -/
def PCu (w : World) (b : Nat) (k : Cu) {A B : Type} (rel : A → B → Prop) (res : A → B → Res) (a : A) : Ending → World → Prop := fun e w' => ∃ (y : Cu × B) (t' : TypeId), (CuTo k y.1 ∧ rel a y.2) ∧ Post (putO w b (.cells ((cuL y.1).map exV).toArray t' (0, 0))) (res a y.2) e w'
theorem SoundCu.of {P : Program} {N : Nat} {f : FuncId} {fn : Func} {c : Code} {A B : Type} {ok : A → Prop} {enc : A → List Arg} {rel : A → B → Prop} {res : A → B → Res}
    (hf : P.funcs[f]? = some fn) (hb : fn.body = some c) (hN : fn.ntmps = N)
    (h : ∀ (k : Cu) (a : A) b w, CuOk k → ok a → b < w.heap.size → (enc a).length + 1 ≤ N ∧
      W P (own1 b) w N (initC (cuL k) (enc a)) c (bodyPost P fn (PCu w b k rel res a))) : SoundCu P f ok enc rel res :=
  SoundC.of hf hb hN (fun x y _ hr => cuL_kept hr.1) fun x b w hok hB => h x.1 x.2 b w hok.1 hok.2 hB

section
variable {γ0 : Nat → Option Nat} {w0 : World} {N : Nat} {st : St} {Q : Exit → Act → World → Prop}
theorem WL.opCu {ops : Array Oper} {r : List Oper} {d f m : Nat} {x0 : Operand} {xs : List Operand} {ts : Array TypeId} {ty : TypeId} {pos : String} {after : Array Edge}
    {A B : Type} {ok : A → Prop} {enc : A → List Arg} {rel : A → B → Prop} {res : A → B → Res} {st1 : Cu → B → St}
    (hf : Has Tryz.prog f) (hs : SoundCu Tryz.prog f ok enc rel res) (c : Cu) (hc : CuOk c) (a : A) (hok : ok a) (hN : d < N := by decide)
    (hp : ev st x0 = one (.ptr m 0) := by exact evcP) (hb : getB st m = some (.box (cuL c)) := by exact evcP) (ha : datasO st m xs = some (enc a) := by exact evcP)
    (hst : ∀ c' b, impE (.blk m (.box (cuL c')) :: st) d (res a b) = st1 c' b := by intro c' b; exact evcP)
    (h : ∀ c' b, CuTo c c' → rel a b → WL Tryz.prog γ0 w0 N ops r (st1 c' b) Q) :
    WL Tryz.prog γ0 w0 N ops (⟨some d, .call ⟨.value (.func f), (x0 :: xs).toArray, ts⟩, ty, pos, after, none⟩ :: r) st Q :=
  WL.opC hf hs (c, a) ⟨hc, hok⟩ hN hp hb (cuL_ex c) ha fun y hy => by
    rw [hst y.1 y.2]
    exact h y.1 y.2 hy.1 hy.2
theorem At.retCu {b : Nat} {fn : Func} {A B : Type} {rel : A → B → Prop} {res : A → B → Res} {k : Cu} {a : A} {l : List ResultVar} {ls : List PL} {r' : Res} (hl : fn.results.toList = l) (hB : b < w0.heap.size) (k' : Cu) (y : B) (hto : CuTo k k') (hrel : rel a y) (hN : N ≤ 999 := by decide)
    (hb : getB st 999 = some (.box ls) := by exact evcP) (hr : resO Tryz.prog (.kill 999 :: st) l = some r' := by simp only [resO, compsO, resV]; exact evsP) (hL : apart (ownC Tryz.prog (.kill 999 :: st) 0 l) = true := by simp only [ownC, resV]; exact evsP)
    (hls : ls = cuL k') (he : r' = res a y) :
    At (own1 b) w0 N st .ret (bodyPost Tryz.prog fn (PCu w0 b k rel res a)) := by
  subst hl
  exact At.retC (α := Cu × A) (β := Cu × B) (rel := fun x y => CuTo x.1 y.1 ∧ rel x.2 y.2) (us' := fun _ y => cuL y.1) (res := fun x y => res x.2 y.2) (x := (k, a)) (k', y) ⟨hto, hrel⟩ hN hB (hb.trans (by rw [hls])) (cuL_ex k') (he ▸ hr) hL
end

theorem wrap_in (n : Int) : inI64 (IntKind.i64.wrap n) := by
  have : IntKind.i64.wrap n = (n + 9223372036854775808) % 18446744073709551616 - 9223372036854775808 := by
    simp only [IntKind.wrap, IntKind.bits, IntKind.signed]
    simp
    split <;> omega
  rw [this]
  unfold inI64
  omega
theorem and_255 (x : Int) : bits .and .i64 x 255 = (((x % 256).toNat : Nat) : Int) := by
  show IntKind.i64.wrap ((BitVec.ofInt 64 x &&& BitVec.ofInt 64 255).toNat : Int) = _
  have h1 : (BitVec.ofInt 64 255).toNat = 2 ^ 8 - 1 := rfl
  rw [BitVec.toNat_and, h1, Nat.and_two_pow_sub_one_eq_mod, BitVec.toNat_ofInt, wrap_i64n (by omega)]
  have h2 : ((2 ^ 64 : Nat) : Int) = 18446744073709551616 := rfl
  rw [h2]
  omega
theorem and_30 (x : Int) : bits .and .i64 x 1073741823 = (((x % 1073741824).toNat : Nat) : Int) := by
  show IntKind.i64.wrap ((BitVec.ofInt 64 x &&& BitVec.ofInt 64 1073741823).toNat : Int) = _
  have h1 : (BitVec.ofInt 64 1073741823).toNat = 2 ^ 30 - 1 := rfl
  rw [BitVec.toNat_and, h1, Nat.and_two_pow_sub_one_eq_mod, BitVec.toNat_ofInt, wrap_i64n (by omega)]
  have h2 : ((2 ^ 64 : Nat) : Int) = 18446744073709551616 := rfl
  rw [h2]
  omega

theorem l1Byte_s : SoundCu Tryz.prog 113 (fun _ : Unit => True) (fun _ => []) (fun (_ : Unit) (r : Int) => 0 ≤ r ∧ r ≤ 255) (fun _ r => rI r) := by
  refine SoundCu.of Tryz.func113 rfl Tryz.ntmps113 ?_
  rintro ⟨v, bs, i, h⟩ - b w ⟨hbs, hi0, hi1, hh, hlen⟩ - hB
  refine ⟨by simp, ?_⟩
  dsimp only at hbs hi0 hi1 hh hlen
  have hΓ : GSound Tryz.prog (look []) := env_nil
  have e1 : ar .i64 (h * 6364136223846793005) = some (.int .i64 (IntKind.i64.wrap (h * 6364136223846793005))) := rfl
  generalize IntKind.i64.wrap (h * 6364136223846793005) = h1 at e1
  have e2 : ar .i64 (h1 + 1442695040888963407) = some (.int .i64 (IntKind.i64.wrap (h1 + 1442695040888963407))) := rfl
  have h2i := wrap_in (h1 + 1442695040888963407)
  generalize IntKind.i64.wrap (h1 + 1442695040888963407) = h2 at e2 h2i
  obtain ⟨f, e3, hf⟩ : ∃ f : Int → Int, (∀ X, bits .and .i64 X 255 = f X) ∧ ∀ X, 0 ≤ f X ∧ f X ≤ 255 := ⟨_, and_255, fun X => by omega⟩
  have ecu : cuL ⟨v, bs, i, h⟩ = [.xl v (rowsF cU8 bs), .sc (.int .i64 i), .sc (.int .i64 h)] := rfl
  simp only [initC, ecu]
  simp only [initS, argPV, List.map_cons, List.map_nil, toPL, Nat.zero_add]
  refine zR ?_
  refine W.drawB hΓ 13 [[], [0], [0, 1], [0, 1, 2], [0, 1, 2, 3], [], [5], [5, 6], [5, 6, 7], [5, 6, 7, 8], [0, 1, 2, 3, 4, 5, 6, 7, 8, 9], [0, 1, 2, 3, 4, 5, 6, 7, 8, 9, 10], [0, 1, 2, 3, 4, 5, 6, 7, 8, 9, 10, 11]] (Es := ?Es3) (rest := ?rest3) (st1 := ?st13) ?_
  refine zL ?_
  refine zE ?_
  generalize hx : f _ = x
  have hxb : 0 ≤ x ∧ x ≤ 255 := hx ▸ hf _
  clear hx
  by_cases hlt : i < bs.length
  · have hr : (rowsF cU8 bs)[i.toNat]? = some [.sc (.int .u8 ((bs[i.toNat]'(by omega) : Nat) : Int))] := rowsF_get cU8 bs i.toNat (by omega)
    have hn := hbs (bs[i.toNat]'(by omega)) (List.getElem_mem _)
    generalize bs[i.toNat]'(by omega) = n at hr hn
    refine zR ?_
    refine W.drawB hΓ 10 [[], [0], [0, 1], [0, 1, 2], [], [4], [4, 5], [4, 5, 6], [4, 5, 6, 7], [0, 1, 2, 3, 4, 5, 6, 7, 8]] (Es := ?Es5) (rest := ?rest5) (st1 := ?st15) ?_
    refine zL ?_
    refine zE ?_
    refine zR ?_
    refine W.drawB hΓ 15 [[], [], [1], [1, 2], [1, 2, 3], [], [5], [5, 6], [5, 6, 7], [1, 2, 3, 4, 5, 6, 7, 8], [1, 2, 3, 4, 5, 6, 7, 8, 9], [1, 2, 3, 4, 5, 6, 7, 8, 9, 10], [0, 1, 2, 3, 4, 5, 6, 7, 8, 9, 10, 11], [0, 1, 2, 3, 4, 5, 6, 7, 8, 9, 10, 11, 12], [0, 1, 2, 3, 4, 5, 6, 7, 8, 9, 10, 11, 12, 13]] (Es := ?Es7) (rest := ?rest7) (st1 := ?st17) ?_
    refine zL ?_
    refine zE ?_
    refine zR ?_
    refine At.retCu (by rw [Tryz.results113]) hB ⟨v, bs, i + 1, h2⟩ (f (x + n)) ⟨rfl, rfl, hbs, by dsimp only; omega, by dsimp only; omega, h2i, hlen⟩ (hf _) (hls := ?_) (he := ?_)
    · rfl
    · rfl
  · refine zR ?_
    refine W.drawB hΓ 10 [[], [0], [0, 1], [0, 1, 2], [], [4], [4, 5], [4, 5, 6], [4, 5, 6, 7], [0, 1, 2, 3, 4, 5, 6, 7, 8]] (Es := ?Es10) (rest := ?rest10) (st1 := ?st110) ?_
    refine zL ?_
    refine zE ?_
    refine zR ?_
    refine At.retCu (by rw [Tryz.results113]) hB ⟨v, bs, i, h2⟩ x ⟨rfl, rfl, hbs, hi0, hi1, h2i, hlen⟩ hxb (hls := ?_) (he := ?_)
    · rfl
    · rfl

def CuNew (x : Value × List Nat) (y : Cu) : Prop := y.v = x.1 ∧ y.bs = x.2 ∧ CuOk y
def CodeOk (bs : List Nat) : Prop := (∀ n ∈ bs, n < 256) ∧ bs.length ≤ 140737488355328
abbrev SoundNew (P : Program) (f : FuncId) : Prop := SoundB P f (α := Value × List Nat) (β := Cu) (fun x => CodeOk x.2) (fun x => [.xl x.1 (rowsF cU8 x.2)]) CuNew (fun _ y => cuL y)
theorem l1New_s : SoundNew Tryz.prog 54 := by
  refine SoundB.of Tryz.func54 rfl Tryz.ntmps54 (fun x y _ hr l hl => ?_) ?_
  · obtain ⟨h1, h2, _⟩ := hr
    unfold cuL at hl
    rw [h1, h2] at hl
    simp only [List.mem_cons, List.not_mem_nil, or_false] at hl ⊢
    rcases hl with rfl | rfl | rfl
    · exact .inl rfl
    · exact .inr ⟨_, rfl, rfl⟩
    · exact .inr ⟨_, rfl, rfl⟩
  rintro ⟨v, bs⟩ w ⟨hbs, hlen⟩
  refine ⟨by simp, ?_⟩
  dsimp only at hbs hlen
  have hΓ : GSound Tryz.prog (look []) := env_nil
  obtain ⟨f, e3, hf⟩ : ∃ f : Int → Int, (∀ X, bits .and .i64 X 1073741823 = f X) ∧ ∀ X, 0 ≤ f X ∧ f X ≤ 1073741823 := ⟨_, and_30, fun X => by omega⟩
  simp only [initX]
  refine zR ?_
  refine W.loopA (fun x : Int × Int => 0 ≤ x.1 ∧ x.1 ≤ bs.length ∧ 0 ≤ x.2 ∧ x.2 ≤ 281474976710656) (fun x => [.slot 0 (one (.xl v (rowsF cU8 bs))), .slot 3 (vI x.2), .slot 4 (vI x.1)]) (fun x => (bs.length - x.1).toNat) (0, 10101 + bs.length) ⟨by simp, by simp, by dsimp only; omega, by dsimp only; omega⟩ (h := ?_)
  rintro ⟨i, h⟩ ⟨hi0, hi1, hh0, hh1⟩
  dsimp only at hi0 hi1 hh0 hh1 ⊢
  by_cases hlt : i < bs.length
  · have hr : (rowsF cU8 bs)[i.toNat]? = some [.sc (.int .u8 ((bs[i.toNat]'(by omega) : Nat) : Int))] := rowsF_get cU8 bs i.toNat (by omega)
    have hn := hbs (bs[i.toNat]'(by omega)) (List.getElem_mem _)
    generalize bs[i.toNat]'(by omega) = n at hr hn
    by_cases h4 : i < 4000
    · have hX := hf (h * 131 + n + 7)
      refine zR ?_
      exact At.roundA (i + 1, f (h * 131 + n + 7)) ⟨by dsimp only; omega, by dsimp only; omega, hX.1, by dsimp only; omega⟩ (by dsimp only; omega)
    · refine zR ?_
      refine At.retB (P := Tryz.prog) (us' := fun _ y => cuL y) (rel := CuNew) (x := (v, bs)) (n := 31) ⟨v, bs, 0, h⟩ ⟨rfl, rfl, hbs, by simp, by simp, ⟨by dsimp only; omega, by dsimp only; omega⟩, hlen⟩ (by rw [Tryz.results54]) ?_ ?_ (cuL_ex _)
      · simp (config := { maxSteps := 1000000 }) (disch := first | assumption | omega) only [TY, ar_u64, binE, eqCells, eqVal, eqOp, step_mk, makeE, List.toList_toArray, Value.oneCell', step_fnv, step_makeFunc, ev_func, callV, cells_agg, cells_int, cells_bool, cells_str, cells_sl, List.size_toArray, flatB_nil, flatB_cons, wid_nil, wid_cons, rowsF_len, rowsF_flat, rowsF_app, step_build, buildE, fillE, indexSlE, indexArrE, shiftE, indexArrV, indexStE, step_move, step_assign, step_pick, step_load, step_nilCheck, step_binOp, step_unOp, step_convert, step_slice, step_fieldAddr, step_field, step_indexAddr, step_index, step_extract, step_len, step_min, step_max, step_alloc, step_box, step_lit, step_app, step_fn, step_store, putV_some, getS_hit, getS_miss, getS_blk, getS_kill, getS_nil, getB_nil, getB_slot, getB_hit, getB_miss, getB_kill0, getB_kill1, ev_tmp, ev_int, ev_bool, ev_str, ev_nil, ev_agg, cl_int, cl_bool, cl_str, cl_nil, loadE, loadV, fieldAddrE, fieldE, partV, indexAddrE, lenE, lenO, strIdx, indexE, boundE, subE, sliceE, convE, minE, scal, nilE, tupE, capsE, optE, pickE, pbin, pint, pstr, pun, ar_in, ar_u32, ar_u8, allocE, boxE, litE, rowsO, leafO, leafsO, frz, clr, rowsOf, flB, Fl.and, Fl.nst, Fl.ok, Fl.isFl, noRef, nstOk, flatAt, hasAll, absL, appN, Fl.isNd, asN, storeN, Nat.reduceBNe, destOf, appE, storeE, argO, argsO, boxesO, callG, callE, impE, pvR, pvs, pvRL, pvT, owns, ownsT, ownsR, clrL, withB, PV.kill, PL.kill, PL.names, Blk.kill, PL.live, toPL, resV, resO, compsO, compO, rlsO, rlO, toRes, Leaf.isSc, List.map_cons, List.map_nil, List.all_cons, List.all_nil, List.length_cons, List.length_nil, List.drop_zero, List.drop_succ_cons, List.take_succ_cons, List.take_zero, List.drop_nil, List.take_nil, List.getElem?_cons_zero, List.getElem?_cons_succ, List.getElem?_nil, Option.map_some, Option.map_none, Option.bind_some, Option.isSome_some, Option.isSome_none, List.cons_append, List.nil_append, List.append_nil, if_true, if_false, reduceIte, Nat.reduceLT, Nat.reduceBEq, Nat.reduceLeDiff, Nat.reduceEqDiff, Nat.reduceAdd, Nat.reduceMul, Nat.zero_add, Nat.add_zero, Nat.mul_one, Int.reduceToNat, Bool.and_true, Bool.true_and, Bool.false_and, Bool.and_false, Bool.not_true, Bool.not_false, Bool.false_eq_true, decide_true, decide_false, and_self, and_true, true_and, or_true, true_or, or_false, false_or, if_pos, if_neg, Int.toNat_natCast, decide_eq_true, decide_eq_false, look_hit, look_miss, Int.ofNat_eq_natCast, Bool.or_false, Bool.or_true, Bool.true_or, Bool.false_or, Bool.not_eq_true, beq_self_eq_true, ne_eq, not_false_eq_true, not_true_eq_false, eq_self, *]
      · simp (config := { maxSteps := 1000000 }) (disch := first | assumption | omega) only [TY, ar_u64, binE, eqCells, eqVal, eqOp, step_mk, makeE, List.toList_toArray, Value.oneCell', step_fnv, step_makeFunc, ev_func, callV, cells_agg, cells_int, cells_bool, cells_str, cells_sl, List.size_toArray, flatB_nil, flatB_cons, wid_nil, wid_cons, rowsF_len, rowsF_flat, rowsF_app, step_build, buildE, fillE, indexSlE, indexArrE, shiftE, indexArrV, indexStE, step_move, step_assign, step_pick, step_load, step_nilCheck, step_binOp, step_unOp, step_convert, step_slice, step_fieldAddr, step_field, step_indexAddr, step_index, step_extract, step_len, step_min, step_max, step_alloc, step_box, step_lit, step_app, step_fn, step_store, putV_some, getS_hit, getS_miss, getS_blk, getS_kill, getS_nil, getB_nil, getB_slot, getB_hit, getB_miss, getB_kill0, getB_kill1, ev_tmp, ev_int, ev_bool, ev_str, ev_nil, ev_agg, cl_int, cl_bool, cl_str, cl_nil, loadE, loadV, fieldAddrE, fieldE, partV, indexAddrE, lenE, lenO, strIdx, indexE, boundE, subE, sliceE, convE, minE, scal, nilE, tupE, capsE, optE, pickE, pbin, pint, pstr, pun, ar_in, ar_u32, ar_u8, allocE, boxE, litE, rowsO, leafO, leafsO, frz, clr, rowsOf, flB, Fl.and, Fl.nst, Fl.ok, Fl.isFl, noRef, nstOk, flatAt, hasAll, absL, appN, Fl.isNd, asN, storeN, Nat.reduceBNe, destOf, appE, storeE, argO, argsO, boxesO, callG, callE, impE, pvR, pvs, pvRL, pvT, owns, ownsT, ownsR, clrL, withB, PV.kill, PL.kill, PL.names, Blk.kill, PL.live, toPL, resV, resO, compsO, compO, rlsO, rlO, toRes, Leaf.isSc, List.map_cons, List.map_nil, List.all_cons, List.all_nil, List.length_cons, List.length_nil, List.drop_zero, List.drop_succ_cons, List.take_succ_cons, List.take_zero, List.drop_nil, List.take_nil, List.getElem?_cons_zero, List.getElem?_cons_succ, List.getElem?_nil, Option.map_some, Option.map_none, Option.bind_some, Option.isSome_some, Option.isSome_none, List.cons_append, List.nil_append, List.append_nil, if_true, if_false, reduceIte, Nat.reduceLT, Nat.reduceBEq, Nat.reduceLeDiff, Nat.reduceEqDiff, Nat.reduceAdd, Nat.reduceMul, Nat.zero_add, Nat.add_zero, Nat.mul_one, Int.reduceToNat, Bool.and_true, Bool.true_and, Bool.false_and, Bool.and_false, Bool.not_true, Bool.not_false, Bool.false_eq_true, decide_true, decide_false, and_self, and_true, true_and, or_true, true_or, or_false, false_or, if_pos, if_neg, Int.toNat_natCast, decide_eq_true, decide_eq_false, look_hit, look_miss, Int.ofNat_eq_natCast, Bool.or_false, Bool.or_true, Bool.true_or, Bool.false_or, Bool.not_eq_true, beq_self_eq_true, ne_eq, not_false_eq_true, not_true_eq_false, eq_self, *]
        rfl
  · refine zR ?_
    refine At.retB (P := Tryz.prog) (us' := fun _ y => cuL y) (rel := CuNew) (x := (v, bs)) (n := 31) ⟨v, bs, 0, h⟩ ⟨rfl, rfl, hbs, by simp, by simp, ⟨by dsimp only; omega, by dsimp only; omega⟩, hlen⟩ (by rw [Tryz.results54]) ?_ ?_ (cuL_ex _)
    · simp (config := { maxSteps := 1000000 }) (disch := first | assumption | omega) only [TY, ar_u64, binE, eqCells, eqVal, eqOp, step_mk, makeE, List.toList_toArray, Value.oneCell', step_fnv, step_makeFunc, ev_func, callV, cells_agg, cells_int, cells_bool, cells_str, cells_sl, List.size_toArray, flatB_nil, flatB_cons, wid_nil, wid_cons, rowsF_len, rowsF_flat, rowsF_app, step_build, buildE, fillE, indexSlE, indexArrE, shiftE, indexArrV, indexStE, step_move, step_assign, step_pick, step_load, step_nilCheck, step_binOp, step_unOp, step_convert, step_slice, step_fieldAddr, step_field, step_indexAddr, step_index, step_extract, step_len, step_min, step_max, step_alloc, step_box, step_lit, step_app, step_fn, step_store, putV_some, getS_hit, getS_miss, getS_blk, getS_kill, getS_nil, getB_nil, getB_slot, getB_hit, getB_miss, getB_kill0, getB_kill1, ev_tmp, ev_int, ev_bool, ev_str, ev_nil, ev_agg, cl_int, cl_bool, cl_str, cl_nil, loadE, loadV, fieldAddrE, fieldE, partV, indexAddrE, lenE, lenO, strIdx, indexE, boundE, subE, sliceE, convE, minE, scal, nilE, tupE, capsE, optE, pickE, pbin, pint, pstr, pun, ar_in, ar_u32, ar_u8, allocE, boxE, litE, rowsO, leafO, leafsO, frz, clr, rowsOf, flB, Fl.and, Fl.nst, Fl.ok, Fl.isFl, noRef, nstOk, flatAt, hasAll, absL, appN, Fl.isNd, asN, storeN, Nat.reduceBNe, destOf, appE, storeE, argO, argsO, boxesO, callG, callE, impE, pvR, pvs, pvRL, pvT, owns, ownsT, ownsR, clrL, withB, PV.kill, PL.kill, PL.names, Blk.kill, PL.live, toPL, resV, resO, compsO, compO, rlsO, rlO, toRes, Leaf.isSc, List.map_cons, List.map_nil, List.all_cons, List.all_nil, List.length_cons, List.length_nil, List.drop_zero, List.drop_succ_cons, List.take_succ_cons, List.take_zero, List.drop_nil, List.take_nil, List.getElem?_cons_zero, List.getElem?_cons_succ, List.getElem?_nil, Option.map_some, Option.map_none, Option.bind_some, Option.isSome_some, Option.isSome_none, List.cons_append, List.nil_append, List.append_nil, if_true, if_false, reduceIte, Nat.reduceLT, Nat.reduceBEq, Nat.reduceLeDiff, Nat.reduceEqDiff, Nat.reduceAdd, Nat.reduceMul, Nat.zero_add, Nat.add_zero, Nat.mul_one, Int.reduceToNat, Bool.and_true, Bool.true_and, Bool.false_and, Bool.and_false, Bool.not_true, Bool.not_false, Bool.false_eq_true, decide_true, decide_false, and_self, and_true, true_and, or_true, true_or, or_false, false_or, if_pos, if_neg, Int.toNat_natCast, decide_eq_true, decide_eq_false, look_hit, look_miss, Int.ofNat_eq_natCast, Bool.or_false, Bool.or_true, Bool.true_or, Bool.false_or, Bool.not_eq_true, beq_self_eq_true, ne_eq, not_false_eq_true, not_true_eq_false, eq_self, *]
    · simp (config := { maxSteps := 1000000 }) (disch := first | assumption | omega) only [TY, ar_u64, binE, eqCells, eqVal, eqOp, step_mk, makeE, List.toList_toArray, Value.oneCell', step_fnv, step_makeFunc, ev_func, callV, cells_agg, cells_int, cells_bool, cells_str, cells_sl, List.size_toArray, flatB_nil, flatB_cons, wid_nil, wid_cons, rowsF_len, rowsF_flat, rowsF_app, step_build, buildE, fillE, indexSlE, indexArrE, shiftE, indexArrV, indexStE, step_move, step_assign, step_pick, step_load, step_nilCheck, step_binOp, step_unOp, step_convert, step_slice, step_fieldAddr, step_field, step_indexAddr, step_index, step_extract, step_len, step_min, step_max, step_alloc, step_box, step_lit, step_app, step_fn, step_store, putV_some, getS_hit, getS_miss, getS_blk, getS_kill, getS_nil, getB_nil, getB_slot, getB_hit, getB_miss, getB_kill0, getB_kill1, ev_tmp, ev_int, ev_bool, ev_str, ev_nil, ev_agg, cl_int, cl_bool, cl_str, cl_nil, loadE, loadV, fieldAddrE, fieldE, partV, indexAddrE, lenE, lenO, strIdx, indexE, boundE, subE, sliceE, convE, minE, scal, nilE, tupE, capsE, optE, pickE, pbin, pint, pstr, pun, ar_in, ar_u32, ar_u8, allocE, boxE, litE, rowsO, leafO, leafsO, frz, clr, rowsOf, flB, Fl.and, Fl.nst, Fl.ok, Fl.isFl, noRef, nstOk, flatAt, hasAll, absL, appN, Fl.isNd, asN, storeN, Nat.reduceBNe, destOf, appE, storeE, argO, argsO, boxesO, callG, callE, impE, pvR, pvs, pvRL, pvT, owns, ownsT, ownsR, clrL, withB, PV.kill, PL.kill, PL.names, Blk.kill, PL.live, toPL, resV, resO, compsO, compO, rlsO, rlO, toRes, Leaf.isSc, List.map_cons, List.map_nil, List.all_cons, List.all_nil, List.length_cons, List.length_nil, List.drop_zero, List.drop_succ_cons, List.take_succ_cons, List.take_zero, List.drop_nil, List.take_nil, List.getElem?_cons_zero, List.getElem?_cons_succ, List.getElem?_nil, Option.map_some, Option.map_none, Option.bind_some, Option.isSome_some, Option.isSome_none, List.cons_append, List.nil_append, List.append_nil, if_true, if_false, reduceIte, Nat.reduceLT, Nat.reduceBEq, Nat.reduceLeDiff, Nat.reduceEqDiff, Nat.reduceAdd, Nat.reduceMul, Nat.zero_add, Nat.add_zero, Nat.mul_one, Int.reduceToNat, Bool.and_true, Bool.true_and, Bool.false_and, Bool.and_false, Bool.not_true, Bool.not_false, Bool.false_eq_true, decide_true, decide_false, and_self, and_true, true_and, or_true, true_or, or_false, false_or, if_pos, if_neg, Int.toNat_natCast, decide_eq_true, decide_eq_false, look_hit, look_miss, Int.ofNat_eq_natCast, Bool.or_false, Bool.or_true, Bool.true_or, Bool.false_or, Bool.not_eq_true, beq_self_eq_true, ne_eq, not_false_eq_true, not_true_eq_false, eq_self, *]
      rfl
def rBelow (n r : Int) : Prop := 0 ≤ r ∧ (0 < n → r < n) ∧ (n ≤ 0 → r = 0)
theorem l1Below_s : SoundCu Tryz.prog 56 (fun n : Int => inI64 n) (fun n => [aI n]) rBelow (fun _ r => rI r) := by
  refine SoundCu.of Tryz.func56 rfl Tryz.ntmps56 ?_
  rintro k n b w hc hn hB
  refine ⟨by simp, ?_⟩
  simp only [initC]
  have hΓ : GSound Tryz.prog (look []) := env_nil
  have hB8 : Has Tryz.prog 113 := has_of Tryz.func113 rfl rfl
  obtain ⟨hn1, hn2⟩ := hn
  simp only [initS, argPV, List.map_cons, List.map_nil, toPL, Nat.zero_add]
  by_cases h0 : n ≤ 0
  · refine zR ?_
    refine At.retCu (by rw [Tryz.results56]) hB (hls := ?_) (he := ?_) k 0 (.refl hc) ⟨by omega, by omega, by omega⟩
    · rfl
    · rfl
  · by_cases h1 : n ≤ 256
    · refine zR ?_
      refine zO ?_
      refine zL ?_
      refine WL.opCu hB8 l1Byte_s k hc () trivial (h := ?_)
      intro k1 r hk1 ⟨hr0, hr1⟩
      have hnz : (n = 0) = False := by simp; omega
      refine zL ?_
      refine zE ?_
      refine zR ?_
      refine At.retCu (by rw [Tryz.results56]) hB (hls := ?_) (he := ?_) k1 (r.tmod n) hk1 ?_
      · rw [Int.tmod_eq_emod_of_nonneg hr0]
        exact ⟨Int.emod_nonneg _ (by omega), fun h => Int.emod_lt_of_pos _ h, fun h => absurd h h0⟩
      · rfl
      · rfl
    · have hnz : (n = 0) = False := by simp; omega
      refine zR ?_
      refine zO ?_
      refine zL ?_
      refine WL.opCu hB8 l1Byte_s k hc () trivial (h := ?_)
      intro k1 r1 hk1 ⟨ha0, ha1⟩
      refine zL ?_
      refine zE ?_
      refine zR ?_
      refine zO ?_
      refine zL ?_
      refine WL.opCu hB8 l1Byte_s k1 hk1.ok () trivial (h := ?_)
      intro k2 r2 hk2 ⟨hb0, hb1⟩
      refine zL ?_
      refine zE ?_
      refine zR ?_
      refine zO ?_
      refine zL ?_
      refine WL.opCu hB8 l1Byte_s k2 hk2.ok () trivial (h := ?_)
      intro k3 r3 hk3 ⟨hc0, hc1⟩
      refine zL ?_
      refine zE ?_
      refine zR ?_
      refine zO ?_
      refine zL ?_
      refine WL.opCu hB8 l1Byte_s k3 hk3.ok () trivial (h := ?_)
      intro k4 r4 hk4 ⟨hd0, hd1⟩
      refine zL ?_
      refine zE ?_
      refine zR ?_
      refine At.retCu (by rw [Tryz.results56]) hB (hls := ?_) (he := ?_) k4 ((r1 * 16777216 + r2 * 65536 + r3 * 256 + r4).tmod n) (((hk1.trans hk2).trans hk3).trans hk4) ?_
      · rw [Int.tmod_eq_emod_of_nonneg (by omega)]
        exact ⟨Int.emod_nonneg _ (by omega), fun h => Int.emod_lt_of_pos _ h, fun h => absurd h h0⟩
      · rfl
      · rfl
theorem l1Once_s : SoundCu Tryz.prog 55 (fun n : Int => inI64 n) (fun n => [aI n]) (fun (_ : Int) (_ : Bool) => True) (fun _ r => rB r) := by
  refine SoundCu.of Tryz.func55 rfl Tryz.ntmps55 ?_
  rintro k n b w hc hn hB
  refine ⟨by simp, ?_⟩
  simp only [initC]
  have hΓ : GSound Tryz.prog (look []) := env_nil
  have hB8 : Has Tryz.prog 56 := has_of Tryz.func56 rfl rfl
  simp only [initS, argPV, List.map_cons, List.map_nil, toPL, Nat.zero_add]
  refine zR ?_
  refine zO ?_
  refine zL ?_
  refine WL.opCu hB8 l1Below_s k hc n hn (h := ?_)
  rintro k1 r hk1 -
  refine zL ?_
  refine zE ?_
  refine zR ?_
  refine At.retCu (by rw [Tryz.results55]) hB (hls := ?_) (he := ?_) k1 (decide (r = 0)) hk1 trivial
  · rfl
  · rfl
theorem l1PickInt_s : SoundCu Tryz.prog 121 (fun l : List Int => 0 < l.length ∧ l.length ≤ 140737488355328) (fun l => [aL cInt l]) (fun l r => r ∈ l) (fun _ r => rI r) := by
  refine SoundCu.of Tryz.func121 rfl Tryz.ntmps121 ?_
  rintro k l b w hc ⟨hl0, hl1⟩ hB
  refine ⟨by simp, ?_⟩
  simp only [initC]
  have hΓ : GSound Tryz.prog (look []) := env_nil
  have hB8 : Has Tryz.prog 56 := has_of Tryz.func56 rfl rfl
  simp only [initS, argPV, List.map_cons, List.map_nil, toPL, Nat.zero_add]
  refine zR ?_
  refine zO ?_
  refine zL ?_
  refine WL.opCu hB8 l1Below_s k hc (l.length : Int) ⟨by omega, by omega⟩ (h := ?_)
  rintro k1 r hk1 ⟨hr0, hr1, -⟩
  have hlt : r.toNat < l.length := by have := hr1 (by omega); omega
  have hr : (rowsF cInt l)[r.toNat]? = some [.sc (.int .i64 l[r.toNat])] := rowsF_get cInt l r.toNat hlt
  refine zL ?_
  refine zE ?_
  refine zR ?_
  refine At.retCu (by rw [Tryz.results121]) hB (hls := ?_) (he := ?_) k1 l[r.toNat] hk1 (List.getElem_mem _)
  · rfl
  · rfl
theorem l1Pick_s : SoundCu Tryz.prog 114 (fun l : List ByteArray => 0 < l.length ∧ l.length ≤ 140737488355328) (fun l => [aL cStr l]) (fun l r => r ∈ l) (fun _ r => rS r) := by
  refine SoundCu.of Tryz.func114 rfl Tryz.ntmps114 ?_
  rintro k l b w hc ⟨hl0, hl1⟩ hB
  refine ⟨by simp, ?_⟩
  simp only [initC]
  have hΓ : GSound Tryz.prog (look []) := env_nil
  have hB8 : Has Tryz.prog 56 := has_of Tryz.func56 rfl rfl
  simp only [initS, argPV, List.map_cons, List.map_nil, toPL, Nat.zero_add]
  refine zR ?_
  refine zO ?_
  refine zL ?_
  refine WL.opCu hB8 l1Below_s k hc (l.length : Int) ⟨by omega, by omega⟩ (h := ?_)
  rintro k1 r hk1 ⟨hr0, hr1, -⟩
  have hlt : r.toNat < l.length := by have := hr1 (by omega); omega
  have hr : (rowsF cStr l)[r.toNat]? = some [.sc (.string l[r.toNat])] := rowsF_get cStr l r.toNat hlt
  refine zL ?_
  refine zE ?_
  refine zR ?_
  refine At.retCu (by rw [Tryz.results114]) hB (hls := ?_) (he := ?_) k1 l[r.toNat] hk1 (List.getElem_mem _)
  · rfl
  · rfl

/-! what the walks need -/
theorem lsNms_cu (c : Cu) : lsNms (cuL c) = [] := rfl
theorem kill_cu (m : Nat) (c : Cu) : (cuL c).map (PL.kill m) = cuL c := rfl
section
variable {γ0 : Nat → Option Nat} {w0 : World} {N : Nat} {st : St} {Q : Exit → Act → World → Prop}
theorem WL.opNew {ops : Array Oper} {r : List Oper} {d f : Nat} {xs : List Operand} {ts : Array TypeId} {ty : TypeId} {pos : String} {after : Array Edge}
    (hf : Has Tryz.prog f) (hs : SoundNew Tryz.prog f) (v : Value) (bs : List Nat) (hok : CodeOk bs) (hN : d < N := by decide) (hd : getB st d = none := by exact evsP) (ha : exactO st xs = some [.xl v (rowsF cU8 bs)] := by exact evcP)
    (h : ∀ c, CuOk c → WL Tryz.prog γ0 w0 N ops r (.slot d (one (.ptr d 0)) :: .blk d (.box (cuL c)) :: st) Q) :
    WL Tryz.prog γ0 w0 N ops (⟨some d, .call ⟨.value (.func f), xs.toArray, ts⟩, ty, pos, after, none⟩ :: r) st Q :=
  WL.opB hf hs (v, bs) hok hN hd ha fun y hy => h y hy.2.2
end
end Go.Proofs.YtfgkfcfplodaoaaGreatDoor
