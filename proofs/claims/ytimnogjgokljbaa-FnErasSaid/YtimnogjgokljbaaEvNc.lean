/-
  Functions that move a cursor and whose results may speak of any memory but the cursor's: contracts, entering, leaving, calling.
-/
import Derived.Test.YtimnogjgokljbaaEvCu
import Derived.Test.YtimnogjgokljbaaEvNest
import Derived.Test.YtimnogjgokljbaaEvFrz
namespace Go.Proofs.Ytimnogjgokljbaa
set_option maxRecDepth 100000
set_option linter.unusedVariables false
set_option linter.unusedSimpArgs false
open Go Go.RowKit
set_option linter.unusedVariables false

/-- what a function leaves whose results do not speak of the block c -/
def PostF (c : Nat) (w : World) (r : Res) (e : Ending) (w' : World) : Prop :=
  ∃ u γ hdr, e = .returned u ∧ Below w.heap.size w w' ∧ γ c ≠ none ∧ (∀ b k, b ≠ c → γ b = some k → w.heap.size ≤ b ∧ b < w'.heap.size ∧ AtR r hdr b k) ∧ RepR w.heap.size w' γ hdr r u
def SoundCN (P : Program) (f : FuncId) {α β : Type} (ok : α → Prop) (us : α → List PL) (enc : α → List Arg) (rel : α → β → Prop) (us' : α → β → List PL) (res : α → β → Res) : Prop :=
  (∀ x y, ok x → rel x y → Kept (us x) (us' x y)) ∧
  ∀ x b t vs w, ok x → GlobOk (own1 b) w → (∀ l ∈ us x, ExOk w (own1 b) l) → w.heap[b]? = some (.cells ((us x).map exV).toArray t (0, 0)) → RepDs w (own1 b) (enc x) vs →
    Calls P f (Value.pointer (some ⟨b, 0, none⟩) :: vs).toArray w fun e w' => ∃ y t', rel x y ∧ PostF b (putO w b (.cells ((us' x y).map exV).toArray t' (0, 0))) (res x y) e w'
/-- no block is owned but that of the name n -/
def onlyB (n : Nat) : St → Bool
  | [] => true
  | .blk m _ :: r => m == n && onlyB n r
  | _ :: r => onlyB n r
theorem onlyB_of {n : Nat} : ∀ {st : St} (_ : onlyB n st = true) {m : Nat} {b : Blk} (_ : getB st m = some b), m = n
  | [], _, m, b, h => by cases h
  | .slot _ _ :: r, h, m, b, hb => onlyB_of (st := r) h hb
  | .blk k b0 :: r, h, m, b, hb => by
    simp only [onlyB, Bool.and_eq_true, beq_iff_eq] at h
    simp only [getB] at hb
    split at hb
    · rename_i e
      exact e.symm.trans h.1
    · exact onlyB_of (st := r) h.2 hb
  | .kill k :: r, h, m, b, hb => by
    simp only [getB] at hb
    split at hb
    · cases hb
    · obtain ⟨b0, h1, _⟩ := Option.map_eq_some_iff.1 hb
      exact onlyB_of (st := r) h h1
theorem clrL_back {st : St} {n : Nat} : ∀ {os : List (Nat × Blk)} {b : Blk} (_ : getB (clrL os st) n = some b), ∃ b0, getB st n = some b0 ∧ nstB (some b) = nstB (some b0)
  | [], b, h => ⟨b, h, rfl⟩
  | (m, c) :: r, b, h => by
    unfold clrL clr at h
    split at h
    · simp only [getB] at h
      split at h
      · cases h
      · obtain ⟨b1, h1, rfl⟩ := Option.map_eq_some_iff.1 h
        obtain ⟨b0, h2, h3⟩ := clrL_back h1
        refine ⟨b0, h2, ?_⟩
        rw [← h3]
        cases b1 <;> rfl
    · exact clrL_back h

section
variable {P : Program} {Γ : Models} {γ0 : Nat → Option Nat} {w0 : World} {N : Nat} {st st1 : St} {a : Act} {w : World} {η : Nat → Value} {γ : Nat → Option Nat} {Q : Exit → Act → World → Prop}
theorem WL.opCN {ops : Array Oper} {r : List Oper} {d f n : Nat} {x0 : Operand} {xs : List Operand} {ts : Array TypeId} {ty : TypeId} {pos : String} {after : Array Edge}
    {α β : Type} {ok : α → Prop} {us : α → List PL} {enc : α → List Arg} {rel : α → β → Prop} {us' : α → β → List PL} {res : α → β → Res}
    (hf : Has P f) (hs : SoundCN P f ok us enc rel us' res) (x : α) (hok : ok x) (hN : d < N)
    (hp : ev st x0 = one (.ptr n 0)) (hb : getB st n = some (.box (us x))) (hon : onlyB n st = true) (he : (us x).all exB = true) (ha : datasO st n xs = some (enc x))
    (h : ∀ y, rel x y → WL P γ0 w0 N ops r (impE (.blk n (.box (us' x y)) :: st) d (res x y)) Q) :
    WL P γ0 w0 N ops (⟨some d, .call ⟨.value (.func f), (x0 :: xs).toArray, ts⟩, ty, pos, after, none⟩ :: r) st Q := fun a w hR => by
  refine wpList_plain rfl fun K hK => ?_
  obtain ⟨η, γ, hI⟩ := hR
  have h0 := ev_sound hI x0
  rw [hp] at h0
  obtain ⟨ls, b, g1, g2, g3⟩ := RepV.one_iff.1 h0
  obtain ⟨b', cs, t, g4, g5, g6, g7⟩ := hI.blks n _ hb
  rw [g2] at g4
  injection g4 with g4
  injection g4 with g4
  injection g4 with g4
  subst g4
  obtain ⟨g8, g9⟩ := g7.exs he
  have hcs : cs = ((us x).map exV).toArray := by rw [← g8]
  have hlt := heap_lt g6
  have hglob : GlobOk (own1 b) w := fun g vs hg => by
    obtain ⟨k1, k2, k3⟩ := hI.globw g vs hg
    refine ⟨own1_other (fun e => ?_), k2, k3⟩
    obtain ⟨m1, m2, _⟩ := hI.glob g vs hg
    have := (hI.low g m2 m1).1
    rw [e, g5] at this
    cases this
  have hkb : Kp w w γ (own1 b) := ⟨Nat.le_refl _, fun k _ hk => ⟨own1_other (fun e => by rw [e, g5] at hk; cases hk), rfl⟩⟩
  have hcall := hs.2 x b t (xs.map a.eval) w hok hglob (fun l hl => (g9 l hl).kp hkb) (by rw [← hcs]; exact g6) (datasO_sound hI g5 ha)
  have hrun := enter_of (P := P) hf (a := a) (w := w) (args := x0 :: xs) (ts := ts) (dst := some d) (ty := ty) (pos := pos) (after := after) (g := none)
  unfold Oper.wp
  rw [hrun]
  show Calls P f ((x0 :: xs).map a.eval).toArray w _
  rw [List.map_cons, g3]
  refine hcall.mono fun e w' ⟨y, t', hrel, hpost⟩ => ?_
  have hI2 := hI.turnO n _ (us' x y) hb b g5 (.cells ((us' x y).map exV).toArray t' (0, 0)) (fun hn hk => ⟨b, ((us' x y).map exV).toArray, t', g2, g5, putO_same _ hlt, by
    simpa using RepPs.ofExs (((hs.1 x y hok hrel).ok fun l hl => (g9 l hl).kp hk))⟩)
  obtain ⟨u, γr, hdr, rfl, hbel, hcn, hnew, hrr⟩ := hpost
  refine hK _ _ (h y hrel _ _ (impE_soundG hI2 hN hbel (fun γ1 hg1 b0 hb0 hr0 => ?_) (fun b0 k hb0 hk0 => ?_) hrr))
  · cases hg : γ1 b0 with
    | none => rfl
    | some n' =>
      obtain ⟨h8, h9⟩ := hg1 b0 n' hg
      obtain ⟨bk, hbk⟩ := Option.isSome_iff_exists.1 h9
      obtain ⟨bk0, hbk0, hns⟩ := clrL_back hbk
      have hnn : n' = n := onlyB_of (st := .blk n (.box (us' x y)) :: st) (by simp [onlyB, hon]) hbk0
      subst hnn
      have hbk0' : bk0 = .box (us' x y) := by
        rw [getB_hit] at hbk0
        cases hbk0
        rfl
      subst hbk0'
      rcases h8 with h8 | h8
      · rw [g2] at h8
        cases h8
        exact absurd hr0 hcn
      · rw [hbk, hns] at h8
        cases h8
  · have hb0' : b0 ≠ b := fun e => by
      rw [e] at hb0
      have := hlt
      rw [putO_size] at hb0
      omega
    exact ⟨(hnew b0 k hb0' hk0).2.1, (hnew b0 k hb0' hk0).2.2⟩
theorem SoundCN.of {f : FuncId} {fn : Func} {c : Code} {α β : Type} {ok : α → Prop} {us : α → List PL} {enc : α → List Arg} {rel : α → β → Prop} {us' : α → β → List PL} {res : α → β → Res}
    (hf : P.funcs[f]? = some fn) (hb : fn.body = some c) (hN : fn.ntmps = N)
    (hkept : ∀ x y, ok x → rel x y → Kept (us x) (us' x y))
    (h : ∀ x b w, ok x → b < w.heap.size → (enc x).length + 1 ≤ N ∧
      W P (own1 b) w N (initC (us x) (enc x)) c (bodyPost P fn fun e w' => ∃ y t', rel x y ∧ PostF b (putO w b (.cells ((us' x y).map exV).toArray t' (0, 0))) (res x y) e w')) : SoundCN P f ok us enc rel us' res := by
  refine ⟨hkept, ?_⟩
  intro x b t vs w hok hgl h1 hh hargs
  obtain ⟨hl, hW⟩ := h x b w hok (heap_lt hh)
  refine calls_of_wp hf hb (hW _ _ ⟨fun _ => .pointer (some ⟨b, 0, none⟩), own1 b, ?_⟩)
  have hsz : vs.length = (enc x).length := hargs.1
  refine { slots := fun k => ?_, blks := fun n b' hb' => ?_, live := fun k n hk => ?_, low := fun k _ hk => ⟨hk, rfl⟩, os := rfl, tape := rfl, output := rfl, size := Nat.le_refl _, defers := rfl, width := ?_, glob := hgl, pin := fun _ k ls hk _ => hk, pinA := PinA.no fun _ fl e s rows hb => (by simp [getB] at hb) }
  · show RepV _ _ _ _ (if 0 = k then one (.ptr 999 0) else getS (initS 1 (enc x)) k) _
    by_cases e : 0 = k
    · subst e
      rw [if_pos rfl]
      refine RepV.one_iff.2 ⟨us x, b, by simp [getB], rfl, ?_⟩
      show ((Value.pointer (some ⟨b, 0, none⟩) :: vs).toArray ++ Array.replicate (fn.ntmps - (Value.pointer (some ⟨b, 0, none⟩) :: vs).toArray.size) undef).getD 0 undef = _
      rw [Array.getD_eq_getD_getElem?, Array.getElem?_append_left (by simp)]
      simp
    · rw [if_neg e]
      refine initS_data (enc x) 1 (fun t => ((Value.pointer (some ⟨b, 0, none⟩) :: vs).toArray ++ Array.replicate (fn.ntmps - (Value.pointer (some ⟨b, 0, none⟩) :: vs).toArray.size) undef).getD t undef) (fun j y hj => ?_) k
      obtain ⟨v, k1, k2⟩ := hargs.2 j y hj
      have hlt : j < vs.length := (List.getElem?_eq_some_iff.1 k1).1
      have : ((Value.pointer (some ⟨b, 0, none⟩) :: vs).toArray ++ Array.replicate (fn.ntmps - (Value.pointer (some ⟨b, 0, none⟩) :: vs).toArray.size) undef).getD (1 + j) undef = v := by
        rw [Array.getD_eq_getD_getElem?, Array.getElem?_append_left (by simp; omega)]
        simp [Nat.add_comm 1 j, k1]
      rw [this]
      exact k2
  · simp only [getB] at hb'
    split at hb'
    · rename_i e
      cases hb'
      subst e
      exact ⟨b, ((us x).map exV).toArray, t, rfl, own1_same b, hh, by simpa using RepPs.ofExs h1⟩
    · rw [initS_blk] at hb'
      cases hb'
  · have hkb := own1_some hk
    subst hkb
    rw [own1_same] at hk
    cases hk
    exact ⟨heap_lt hh, .inl rfl, by simp [getB]⟩
  · simp
    omega

theorem At.retCN {b : Nat} {fn : Func} {α β : Type} {rel : α → β → Prop} {us' : α → β → List PL} {res : α → β → Res} {x : α} (y : β) (hrel : rel x y) (hN : N ≤ 999) (hB : b < w0.heap.size)
    (hb : getB st 999 = some (.box (us' x y))) (hx : (us' x y).all exB = true) (hr : resN P st fn.results.toList = some (res x y)) (hL : apart (ownC P st 0 fn.results.toList) = true) (hL9 : ((ownC P st 0 fn.results.toList).all fun p => p.2 != 999) = true) :
    At (own1 b) w0 N st .ret (bodyPost P fn fun e w' => ∃ y t', rel x y ∧ PostF b (putO w0 b (.cells ((us' x y).map exV).toArray t' (0, 0))) (res x y) e w') := by
  intro a w ⟨η, γ, h⟩
  obtain ⟨b', cs, t, g1, g2, g3, g4⟩ := h.blks 999 _ hb
  have hbb : b' = b := own1_some (h.pin hN b' _ g2 hb)
  subst hbb
  obtain ⟨g5, g6⟩ := g4.exs hx
  have hcs : cs = ((us' x y).map exV).toArray := by rw [← g5]
  subst hcs
  generalize hLd : ownC P st 0 fn.results.toList = L at hL hL9
  have hn9 : ∀ i n, (i, n) ∈ L → n ≠ 999 := fun i n hm => by
    have := List.all_eq_true.1 hL9 _ hm
    simpa using this
  have hge : ∀ k n, γ k = some n → n ≠ 999 → w0.heap.size ≤ k ∧ k ≠ b' := fun k n hk hn => by
    have hkb : k ≠ b' := fun e => by rw [e, g2] at hk; injection hk with hk; exact hn hk.symm
    refine ⟨Nat.le_of_not_lt fun hlt => ?_, hkb⟩
    have := (h.low k hlt (own1_other hkb)).1
    rw [hk] at this
    cases this
  obtain ⟨u, h1, h2⟩ := retN_core h hr hLd hL (B := w0.heap.size) (γr := fun k => if k = b' then some 999999 else γoutN γ L k) (fun k hk => by
      have hkb : k ≠ b' := fun e => by rw [e, g2] at hk; cases hk
      simp only [if_neg hkb, γoutN, hk]) (fun i n hm k hk => by
      obtain ⟨h3, h4⟩ := hge k n hk (hn9 i n hm)
      exact ⟨h3, by simp only [if_neg h4, γoutN, hk, (find_own hL hm).1, Option.map_some]⟩)
  refine ⟨h.defers, u, h1, y, t, hrel, u, fun k => if k = b' then some 999999 else γoutN γ L k, hout η L, rfl, ⟨h.os, h.tape, h.output, by rw [putO_size]; exact h.size, fun k hk => ?_⟩, by simp, fun k i hkb hk => ?_, by rw [putO_size]; exact h2⟩
  · rw [putO_size] at hk
    by_cases e : k = b'
    · subst e
      rw [g3, putO_same _ hk]
    · rw [(h.low k hk (own1_other e)).2, putO_other _ e]
  · simp only [if_neg hkb, γoutN] at hk
    cases hg : γ k with
    | none => simp [hg] at hk
    | some n =>
      simp only [hg] at hk
      obtain ⟨p, hp, rfl⟩ := Option.map_eq_some_iff.1 hk
      have h3 := List.find?_some hp
      have h4 := List.mem_of_find?_eq_some hp
      obtain ⟨i, m⟩ := p
      simp only [beq_iff_eq] at h3
      subst h3
      obtain ⟨q1, q2, _⟩ := h.live k m hg
      rw [putO_size]
      refine ⟨(hge k m hg (hn9 i m h4)).1, q1, q2.imp (fun q2 => ?_) (fun q2 fl e s rows hat => ?_)⟩
      · simp only [hout, (find_own hL h4).2]
        exact q2
      · obtain ⟨vs, hvs, hrv⟩ := Option.map_eq_some_iff.1 hr
        rw [← hrv] at hat
        obtain ⟨m', h5, h6⟩ := compsN_at hvs 0 hat
        have h7 : m' = m := (apart_spec hL (by rw [← hLd]; simpa using h5) h4).2 rfl
        subst h7
        rw [h6] at q2
        exact q2
end
abbrev SoundCuN (P : Program) (f : FuncId) {A B : Type} (ok : A → Prop) (enc : A → List Arg) (rel : A → B → Prop) (res : A → B → Res) : Prop :=
  SoundCN P f (α := Cu × A) (β := Cu × B) (fun x => CuOk x.1 ∧ ok x.2) (fun x => cuL x.1) (fun x => enc x.2) (fun x y => CuTo x.1 y.1 ∧ rel x.2 y.2) (fun _ y => cuL y.1) (fun x y => res x.2 y.2)
def PCuN (w : World) (b : Nat) (k : Cu) {A B : Type} (rel : A → B → Prop) (res : A → B → Res) (a : A) : Ending → World → Prop := fun e w' => ∃ (y : Cu × B) (t' : TypeId), (CuTo k y.1 ∧ rel a y.2) ∧ PostF b (putO w b (.cells ((cuL y.1).map exV).toArray t' (0, 0))) (res a y.2) e w'
theorem SoundCuN.of {P : Program} {N : Nat} {f : FuncId} {fn : Func} {c : Code} {A B : Type} {ok : A → Prop} {enc : A → List Arg} {rel : A → B → Prop} {res : A → B → Res}
    (hf : P.funcs[f]? = some fn) (hb : fn.body = some c) (hN : fn.ntmps = N)
    (h : ∀ (k : Cu) (a : A) b w, CuOk k → ok a → b < w.heap.size → (enc a).length + 1 ≤ N ∧
      W P (own1 b) w N (initC (cuL k) (enc a)) c (bodyPost P fn (PCuN w b k rel res a))) : SoundCuN P f ok enc rel res :=
  SoundCN.of hf hb hN (fun x y _ hr => cuL_kept hr.1) fun x b w hok hB => h x.1 x.2 b w hok.1 hok.2 hB
section
variable {γ0 : Nat → Option Nat} {w0 : World} {N : Nat} {st : St} {Q : Exit → Act → World → Prop}
theorem WL.opCuN {ops : Array Oper} {r : List Oper} {d f m : Nat} {x0 : Operand} {xs : List Operand} {ts : Array TypeId} {ty : TypeId} {pos : String} {after : Array Edge}
    {A B : Type} {ok : A → Prop} {enc : A → List Arg} {rel : A → B → Prop} {res : A → B → Res} {st1 : Cu → B → St}
    (hf : Has Try.prog f) (hs : SoundCuN Try.prog f ok enc rel res) (c : Cu) (hc : CuOk c) (a : A) (hok : ok a) (hN : d < N := by decide)
    (hp : ev st x0 = one (.ptr m 0) := by simp (config := { maxSteps := 1000000 }) (disch := first | assumption | omega) only [TY, datasO, dataO, exactO, exB, ar_u64, binE, eqCells, eqVal, eqOp, step_mk, makeE, List.toList_toArray, Value.oneCell', step_fnv, step_makeFunc, ev_func, callV, cells_agg, cells_int, cells_bool, cells_str, cells_sl, List.size_toArray, flatB_nil, flatB_cons, wid_nil, wid_cons, rowsF_len, rowsF_flat, rowsF_app, step_build, buildE, fillE, indexSlE, indexArrE, shiftE, indexArrV, indexStE, step_move, step_assign, step_pick, step_load, step_nilCheck, step_binOp, step_unOp, step_convert, step_slice, step_fieldAddr, step_field, step_indexAddr, step_index, step_extract, step_len, step_min, step_max, step_alloc, step_box, step_lit, step_app, step_fn, step_store, putV_some, getS_hit, getS_miss, getS_blk, getS_kill, getS_nil, getB_nil, getB_slot, getB_hit, getB_miss, getB_kill0, getB_kill1, ev_tmp, ev_int, ev_bool, ev_str, ev_nil, ev_agg, cl_int, cl_bool, cl_str, cl_nil, loadE, loadV, fieldAddrE, fieldE, partV, indexAddrE, lenE, lenO, strIdx, indexE, boundE, subE, sliceE, convE, minE, scal, nilE, tupE, capsE, optE, pickE, pbin, pint, pstr, pun, ar_in, ar_u32, ar_u8, allocE, boxE, litE, rowsO, leafO, leafsO, frz, clr, rowsOf, flB, Fl.and, Fl.nst, Fl.ok, Fl.isFl, noRef, nstOk, flatAt, hasAll, absL, appN, Fl.isNd, asN, storeN, Nat.reduceBNe, destOf, appE, storeE, argO, argsO, boxesO, callG, callE, impE, pvR, pvs, pvRL, pvT, owns, ownsT, ownsR, clrL, withB, PV.kill, PL.kill, PL.names, Blk.kill, PL.live, toPL, resV, resO, compsO, compO, rlsO, rlO, toRes, Leaf.isSc, List.map_cons, List.map_nil, List.all_cons, List.all_nil, List.length_cons, List.length_nil, List.drop_zero, List.drop_succ_cons, List.take_succ_cons, List.take_zero, List.drop_nil, List.take_nil, List.getElem?_cons_zero, List.getElem?_cons_succ, List.getElem?_nil, Option.map_some, Option.map_none, Option.bind_some, Option.isSome_some, Option.isSome_none, List.cons_append, List.nil_append, List.append_nil, if_true, if_false, reduceIte, Nat.reduceLT, Nat.reduceBEq, Nat.reduceLeDiff, Nat.reduceEqDiff, Nat.reduceAdd, Nat.reduceMul, Nat.zero_add, Nat.add_zero, Nat.mul_one, Int.reduceToNat, Bool.and_true, Bool.true_and, Bool.false_and, Bool.and_false, Bool.not_true, Bool.not_false, Bool.false_eq_true, decide_true, decide_false, and_self, and_true, true_and, or_true, true_or, or_false, false_or, if_pos, if_neg, Int.toNat_natCast, decide_eq_true, decide_eq_false, look_hit, look_miss, Int.ofNat_eq_natCast, Bool.or_false, Bool.or_true, Bool.true_or, Bool.false_or, Bool.not_eq_true, beq_self_eq_true, ne_eq, not_false_eq_true, not_true_eq_false, eq_self, *] <;> rfl) (hb : getB st m = some (.box (cuL c)) := by simp (config := { maxSteps := 1000000 }) (disch := first | assumption | omega) only [TY, datasO, dataO, exactO, exB, ar_u64, binE, eqCells, eqVal, eqOp, step_mk, makeE, List.toList_toArray, Value.oneCell', step_fnv, step_makeFunc, ev_func, callV, cells_agg, cells_int, cells_bool, cells_str, cells_sl, List.size_toArray, flatB_nil, flatB_cons, wid_nil, wid_cons, rowsF_len, rowsF_flat, rowsF_app, step_build, buildE, fillE, indexSlE, indexArrE, shiftE, indexArrV, indexStE, step_move, step_assign, step_pick, step_load, step_nilCheck, step_binOp, step_unOp, step_convert, step_slice, step_fieldAddr, step_field, step_indexAddr, step_index, step_extract, step_len, step_min, step_max, step_alloc, step_box, step_lit, step_app, step_fn, step_store, putV_some, getS_hit, getS_miss, getS_blk, getS_kill, getS_nil, getB_nil, getB_slot, getB_hit, getB_miss, getB_kill0, getB_kill1, ev_tmp, ev_int, ev_bool, ev_str, ev_nil, ev_agg, cl_int, cl_bool, cl_str, cl_nil, loadE, loadV, fieldAddrE, fieldE, partV, indexAddrE, lenE, lenO, strIdx, indexE, boundE, subE, sliceE, convE, minE, scal, nilE, tupE, capsE, optE, pickE, pbin, pint, pstr, pun, ar_in, ar_u32, ar_u8, allocE, boxE, litE, rowsO, leafO, leafsO, frz, clr, rowsOf, flB, Fl.and, Fl.nst, Fl.ok, Fl.isFl, noRef, nstOk, flatAt, hasAll, absL, appN, Fl.isNd, asN, storeN, Nat.reduceBNe, destOf, appE, storeE, argO, argsO, boxesO, callG, callE, impE, pvR, pvs, pvRL, pvT, owns, ownsT, ownsR, clrL, withB, PV.kill, PL.kill, PL.names, Blk.kill, PL.live, toPL, resV, resO, compsO, compO, rlsO, rlO, toRes, Leaf.isSc, List.map_cons, List.map_nil, List.all_cons, List.all_nil, List.length_cons, List.length_nil, List.drop_zero, List.drop_succ_cons, List.take_succ_cons, List.take_zero, List.drop_nil, List.take_nil, List.getElem?_cons_zero, List.getElem?_cons_succ, List.getElem?_nil, Option.map_some, Option.map_none, Option.bind_some, Option.isSome_some, Option.isSome_none, List.cons_append, List.nil_append, List.append_nil, if_true, if_false, reduceIte, Nat.reduceLT, Nat.reduceBEq, Nat.reduceLeDiff, Nat.reduceEqDiff, Nat.reduceAdd, Nat.reduceMul, Nat.zero_add, Nat.add_zero, Nat.mul_one, Int.reduceToNat, Bool.and_true, Bool.true_and, Bool.false_and, Bool.and_false, Bool.not_true, Bool.not_false, Bool.false_eq_true, decide_true, decide_false, and_self, and_true, true_and, or_true, true_or, or_false, false_or, if_pos, if_neg, Int.toNat_natCast, decide_eq_true, decide_eq_false, look_hit, look_miss, Int.ofNat_eq_natCast, Bool.or_false, Bool.or_true, Bool.true_or, Bool.false_or, Bool.not_eq_true, beq_self_eq_true, ne_eq, not_false_eq_true, not_true_eq_false, eq_self, *] <;> rfl) (hon : onlyB m st = true := by rfl) (ha : datasO st m xs = some (enc a) := by simp (config := { maxSteps := 1000000 }) (disch := first | assumption | omega) only [TY, datasO, dataO, exactO, exB, ar_u64, binE, eqCells, eqVal, eqOp, step_mk, makeE, List.toList_toArray, Value.oneCell', step_fnv, step_makeFunc, ev_func, callV, cells_agg, cells_int, cells_bool, cells_str, cells_sl, List.size_toArray, flatB_nil, flatB_cons, wid_nil, wid_cons, rowsF_len, rowsF_flat, rowsF_app, step_build, buildE, fillE, indexSlE, indexArrE, shiftE, indexArrV, indexStE, step_move, step_assign, step_pick, step_load, step_nilCheck, step_binOp, step_unOp, step_convert, step_slice, step_fieldAddr, step_field, step_indexAddr, step_index, step_extract, step_len, step_min, step_max, step_alloc, step_box, step_lit, step_app, step_fn, step_store, putV_some, getS_hit, getS_miss, getS_blk, getS_kill, getS_nil, getB_nil, getB_slot, getB_hit, getB_miss, getB_kill0, getB_kill1, ev_tmp, ev_int, ev_bool, ev_str, ev_nil, ev_agg, cl_int, cl_bool, cl_str, cl_nil, loadE, loadV, fieldAddrE, fieldE, partV, indexAddrE, lenE, lenO, strIdx, indexE, boundE, subE, sliceE, convE, minE, scal, nilE, tupE, capsE, optE, pickE, pbin, pint, pstr, pun, ar_in, ar_u32, ar_u8, allocE, boxE, litE, rowsO, leafO, leafsO, frz, clr, rowsOf, flB, Fl.and, Fl.nst, Fl.ok, Fl.isFl, noRef, nstOk, flatAt, hasAll, absL, appN, Fl.isNd, asN, storeN, Nat.reduceBNe, destOf, appE, storeE, argO, argsO, boxesO, callG, callE, impE, pvR, pvs, pvRL, pvT, owns, ownsT, ownsR, clrL, withB, PV.kill, PL.kill, PL.names, Blk.kill, PL.live, toPL, resV, resO, compsO, compO, rlsO, rlO, toRes, Leaf.isSc, List.map_cons, List.map_nil, List.all_cons, List.all_nil, List.length_cons, List.length_nil, List.drop_zero, List.drop_succ_cons, List.take_succ_cons, List.take_zero, List.drop_nil, List.take_nil, List.getElem?_cons_zero, List.getElem?_cons_succ, List.getElem?_nil, Option.map_some, Option.map_none, Option.bind_some, Option.isSome_some, Option.isSome_none, List.cons_append, List.nil_append, List.append_nil, if_true, if_false, reduceIte, Nat.reduceLT, Nat.reduceBEq, Nat.reduceLeDiff, Nat.reduceEqDiff, Nat.reduceAdd, Nat.reduceMul, Nat.zero_add, Nat.add_zero, Nat.mul_one, Int.reduceToNat, Bool.and_true, Bool.true_and, Bool.false_and, Bool.and_false, Bool.not_true, Bool.not_false, Bool.false_eq_true, decide_true, decide_false, and_self, and_true, true_and, or_true, true_or, or_false, false_or, if_pos, if_neg, Int.toNat_natCast, decide_eq_true, decide_eq_false, look_hit, look_miss, Int.ofNat_eq_natCast, Bool.or_false, Bool.or_true, Bool.true_or, Bool.false_or, Bool.not_eq_true, beq_self_eq_true, ne_eq, not_false_eq_true, not_true_eq_false, eq_self, *] <;> rfl)
    (hst : ∀ c' b, impE (.blk m (.box (cuL c')) :: st) d (res a b) = st1 c' b := by intro c' b; simp (config := { maxSteps := 1000000 }) (disch := first | assumption | omega) only [TY, datasO, dataO, exactO, exB, ar_u64, binE, eqCells, eqVal, eqOp, step_mk, makeE, List.toList_toArray, Value.oneCell', step_fnv, step_makeFunc, ev_func, callV, cells_agg, cells_int, cells_bool, cells_str, cells_sl, List.size_toArray, flatB_nil, flatB_cons, wid_nil, wid_cons, rowsF_len, rowsF_flat, rowsF_app, step_build, buildE, fillE, indexSlE, indexArrE, shiftE, indexArrV, indexStE, step_move, step_assign, step_pick, step_load, step_nilCheck, step_binOp, step_unOp, step_convert, step_slice, step_fieldAddr, step_field, step_indexAddr, step_index, step_extract, step_len, step_min, step_max, step_alloc, step_box, step_lit, step_app, step_fn, step_store, putV_some, getS_hit, getS_miss, getS_blk, getS_kill, getS_nil, getB_nil, getB_slot, getB_hit, getB_miss, getB_kill0, getB_kill1, ev_tmp, ev_int, ev_bool, ev_str, ev_nil, ev_agg, cl_int, cl_bool, cl_str, cl_nil, loadE, loadV, fieldAddrE, fieldE, partV, indexAddrE, lenE, lenO, strIdx, indexE, boundE, subE, sliceE, convE, minE, scal, nilE, tupE, capsE, optE, pickE, pbin, pint, pstr, pun, ar_in, ar_u32, ar_u8, allocE, boxE, litE, rowsO, leafO, leafsO, frz, clr, rowsOf, flB, Fl.and, Fl.nst, Fl.ok, Fl.isFl, noRef, nstOk, flatAt, hasAll, absL, appN, Fl.isNd, asN, storeN, Nat.reduceBNe, destOf, appE, storeE, argO, argsO, boxesO, callG, callE, impE, pvR, pvs, pvRL, pvT, owns, ownsT, ownsR, clrL, withB, PV.kill, PL.kill, PL.names, Blk.kill, PL.live, toPL, resV, resO, compsO, compO, rlsO, rlO, toRes, Leaf.isSc, List.map_cons, List.map_nil, List.all_cons, List.all_nil, List.length_cons, List.length_nil, List.drop_zero, List.drop_succ_cons, List.take_succ_cons, List.take_zero, List.drop_nil, List.take_nil, List.getElem?_cons_zero, List.getElem?_cons_succ, List.getElem?_nil, Option.map_some, Option.map_none, Option.bind_some, Option.isSome_some, Option.isSome_none, List.cons_append, List.nil_append, List.append_nil, if_true, if_false, reduceIte, Nat.reduceLT, Nat.reduceBEq, Nat.reduceLeDiff, Nat.reduceEqDiff, Nat.reduceAdd, Nat.reduceMul, Nat.zero_add, Nat.add_zero, Nat.mul_one, Int.reduceToNat, Bool.and_true, Bool.true_and, Bool.false_and, Bool.and_false, Bool.not_true, Bool.not_false, Bool.false_eq_true, decide_true, decide_false, and_self, and_true, true_and, or_true, true_or, or_false, false_or, if_pos, if_neg, Int.toNat_natCast, decide_eq_true, decide_eq_false, look_hit, look_miss, Int.ofNat_eq_natCast, Bool.or_false, Bool.or_true, Bool.true_or, Bool.false_or, Bool.not_eq_true, beq_self_eq_true, ne_eq, not_false_eq_true, not_true_eq_false, eq_self, *] <;> rfl)
    (h : ∀ c' b, CuTo c c' → rel a b → WL Try.prog γ0 w0 N ops r (st1 c' b) Q) :
    WL Try.prog γ0 w0 N ops (⟨some d, .call ⟨.value (.func f), (x0 :: xs).toArray, ts⟩, ty, pos, after, none⟩ :: r) st Q :=
  WL.opCN hf hs (c, a) ⟨hc, hok⟩ hN hp hb hon (cuL_ex c) ha fun y hy => by
    rw [hst y.1 y.2]
    exact h y.1 y.2 hy.1 hy.2
theorem At.retCuN {b : Nat} {fn : Func} {A B : Type} {rel : A → B → Prop} {res : A → B → Res} {k : Cu} {a : A} {l : List ResultVar} {ls : List PL} {r' : Res} (hl : fn.results.toList = l) (hB : b < w0.heap.size) (k' : Cu) (y : B) (hto : CuTo k k') (hrel : rel a y) (hN : N ≤ 999 := by decide)
    (hb : getB st 999 = some (.box ls) := by simp (config := { maxSteps := 1000000 }) (disch := first | assumption | omega) only [TY, datasO, dataO, exactO, exB, ar_u64, binE, eqCells, eqVal, eqOp, step_mk, makeE, List.toList_toArray, Value.oneCell', step_fnv, step_makeFunc, ev_func, callV, cells_agg, cells_int, cells_bool, cells_str, cells_sl, List.size_toArray, flatB_nil, flatB_cons, wid_nil, wid_cons, rowsF_len, rowsF_flat, rowsF_app, step_build, buildE, fillE, indexSlE, indexArrE, shiftE, indexArrV, indexStE, step_move, step_assign, step_pick, step_load, step_nilCheck, step_binOp, step_unOp, step_convert, step_slice, step_fieldAddr, step_field, step_indexAddr, step_index, step_extract, step_len, step_min, step_max, step_alloc, step_box, step_lit, step_app, step_fn, step_store, putV_some, getS_hit, getS_miss, getS_blk, getS_kill, getS_nil, getB_nil, getB_slot, getB_hit, getB_miss, getB_kill0, getB_kill1, ev_tmp, ev_int, ev_bool, ev_str, ev_nil, ev_agg, cl_int, cl_bool, cl_str, cl_nil, loadE, loadV, fieldAddrE, fieldE, partV, indexAddrE, lenE, lenO, strIdx, indexE, boundE, subE, sliceE, convE, minE, scal, nilE, tupE, capsE, optE, pickE, pbin, pint, pstr, pun, ar_in, ar_u32, ar_u8, allocE, boxE, litE, rowsO, leafO, leafsO, frz, clr, rowsOf, flB, Fl.and, Fl.nst, Fl.ok, Fl.isFl, noRef, nstOk, flatAt, hasAll, absL, appN, Fl.isNd, asN, storeN, Nat.reduceBNe, destOf, appE, storeE, argO, argsO, boxesO, callG, callE, impE, pvR, pvs, pvRL, pvT, owns, ownsT, ownsR, clrL, withB, PV.kill, PL.kill, PL.names, Blk.kill, PL.live, toPL, resV, resO, compsO, compO, rlsO, rlO, toRes, Leaf.isSc, List.map_cons, List.map_nil, List.all_cons, List.all_nil, List.length_cons, List.length_nil, List.drop_zero, List.drop_succ_cons, List.take_succ_cons, List.take_zero, List.drop_nil, List.take_nil, List.getElem?_cons_zero, List.getElem?_cons_succ, List.getElem?_nil, Option.map_some, Option.map_none, Option.bind_some, Option.isSome_some, Option.isSome_none, List.cons_append, List.nil_append, List.append_nil, if_true, if_false, reduceIte, Nat.reduceLT, Nat.reduceBEq, Nat.reduceLeDiff, Nat.reduceEqDiff, Nat.reduceAdd, Nat.reduceMul, Nat.zero_add, Nat.add_zero, Nat.mul_one, Int.reduceToNat, Bool.and_true, Bool.true_and, Bool.false_and, Bool.and_false, Bool.not_true, Bool.not_false, Bool.false_eq_true, decide_true, decide_false, and_self, and_true, true_and, or_true, true_or, or_false, false_or, if_pos, if_neg, Int.toNat_natCast, decide_eq_true, decide_eq_false, look_hit, look_miss, Int.ofNat_eq_natCast, Bool.or_false, Bool.or_true, Bool.true_or, Bool.false_or, Bool.not_eq_true, beq_self_eq_true, ne_eq, not_false_eq_true, not_true_eq_false, eq_self, *] <;> rfl) (hr : resN Try.prog st l = some r' := by simp only [resN, compsN, compN, rlsN, rlN, resV]; simp (config := { maxSteps := 1000000 }) (disch := first | assumption | omega) only [TY, ar_u64, binE, eqCells, eqVal, eqOp, step_mk, makeE, List.toList_toArray, Value.oneCell', step_fnv, step_makeFunc, ev_func, callV, cells_agg, cells_int, cells_bool, cells_str, cells_sl, List.size_toArray, flatB_nil, flatB_cons, wid_nil, wid_cons, rowsF_len, rowsF_flat, rowsF_app, step_build, buildE, fillE, indexSlE, indexArrE, shiftE, indexArrV, indexStE, step_move, step_assign, step_pick, step_load, step_nilCheck, step_binOp, step_unOp, step_convert, step_slice, step_fieldAddr, step_field, step_indexAddr, step_index, step_extract, step_len, step_min, step_max, step_alloc, step_box, step_lit, step_app, step_fn, step_store, putV_some, getS_hit, getS_miss, getS_blk, getS_kill, getS_nil, getB_nil, getB_slot, getB_hit, getB_miss, getB_kill0, getB_kill1, ev_tmp, ev_int, ev_bool, ev_str, ev_nil, ev_agg, cl_int, cl_bool, cl_str, cl_nil, loadE, loadV, fieldAddrE, fieldE, partV, indexAddrE, lenE, lenO, strIdx, indexE, boundE, subE, sliceE, convE, minE, scal, nilE, tupE, capsE, optE, pickE, pbin, pint, pstr, pun, ar_in, ar_u32, ar_u8, allocE, boxE, litE, rowsO, leafO, leafsO, frz, clr, rowsOf, flB, Fl.and, Fl.nst, Fl.ok, Fl.isFl, noRef, nstOk, flatAt, hasAll, absL, appN, Fl.isNd, asN, storeN, Nat.reduceBNe, destOf, appE, storeE, argO, argsO, boxesO, callG, callE, impE, pvR, pvs, pvRL, pvT, owns, ownsT, ownsR, clrL, withB, PV.kill, PL.kill, PL.names, Blk.kill, PL.live, toPL, resV, resO, compsO, compO, rlsO, rlO, toRes, Leaf.isSc, List.map_cons, List.map_nil, List.all_cons, List.all_nil, List.length_cons, List.length_nil, List.drop_zero, List.drop_succ_cons, List.take_succ_cons, List.take_zero, List.drop_nil, List.take_nil, List.getElem?_cons_zero, List.getElem?_cons_succ, List.getElem?_nil, Option.map_some, Option.map_none, Option.bind_some, Option.isSome_some, Option.isSome_none, List.cons_append, List.nil_append, List.append_nil, if_true, if_false, reduceIte, Nat.reduceLT, Nat.reduceBEq, Nat.reduceLeDiff, Nat.reduceEqDiff, Nat.reduceAdd, Nat.reduceMul, Nat.zero_add, Nat.add_zero, Nat.mul_one, Int.reduceToNat, Bool.and_true, Bool.true_and, Bool.false_and, Bool.and_false, Bool.not_true, Bool.not_false, Bool.false_eq_true, decide_true, decide_false, and_self, and_true, true_and, or_true, true_or, or_false, false_or, if_pos, if_neg, Int.toNat_natCast, decide_eq_true, decide_eq_false, look_hit, look_miss, Int.ofNat_eq_natCast, Bool.or_false, Bool.or_true, Bool.true_or, Bool.false_or, Bool.not_eq_true, beq_self_eq_true, ne_eq, not_false_eq_true, not_true_eq_false, eq_self, *] <;> rfl) (hL : apart (ownC Try.prog st 0 l) = true := by simp only [ownC, resV]; simp (config := { maxSteps := 1000000 }) (disch := first | assumption | omega) only [TY, ar_u64, binE, eqCells, eqVal, eqOp, step_mk, makeE, List.toList_toArray, Value.oneCell', step_fnv, step_makeFunc, ev_func, callV, cells_agg, cells_int, cells_bool, cells_str, cells_sl, List.size_toArray, flatB_nil, flatB_cons, wid_nil, wid_cons, rowsF_len, rowsF_flat, rowsF_app, step_build, buildE, fillE, indexSlE, indexArrE, shiftE, indexArrV, indexStE, step_move, step_assign, step_pick, step_load, step_nilCheck, step_binOp, step_unOp, step_convert, step_slice, step_fieldAddr, step_field, step_indexAddr, step_index, step_extract, step_len, step_min, step_max, step_alloc, step_box, step_lit, step_app, step_fn, step_store, putV_some, getS_hit, getS_miss, getS_blk, getS_kill, getS_nil, getB_nil, getB_slot, getB_hit, getB_miss, getB_kill0, getB_kill1, ev_tmp, ev_int, ev_bool, ev_str, ev_nil, ev_agg, cl_int, cl_bool, cl_str, cl_nil, loadE, loadV, fieldAddrE, fieldE, partV, indexAddrE, lenE, lenO, strIdx, indexE, boundE, subE, sliceE, convE, minE, scal, nilE, tupE, capsE, optE, pickE, pbin, pint, pstr, pun, ar_in, ar_u32, ar_u8, allocE, boxE, litE, rowsO, leafO, leafsO, frz, clr, rowsOf, flB, Fl.and, Fl.nst, Fl.ok, Fl.isFl, noRef, nstOk, flatAt, hasAll, absL, appN, Fl.isNd, asN, storeN, Nat.reduceBNe, destOf, appE, storeE, argO, argsO, boxesO, callG, callE, impE, pvR, pvs, pvRL, pvT, owns, ownsT, ownsR, clrL, withB, PV.kill, PL.kill, PL.names, Blk.kill, PL.live, toPL, resV, resO, compsO, compO, rlsO, rlO, toRes, Leaf.isSc, List.map_cons, List.map_nil, List.all_cons, List.all_nil, List.length_cons, List.length_nil, List.drop_zero, List.drop_succ_cons, List.take_succ_cons, List.take_zero, List.drop_nil, List.take_nil, List.getElem?_cons_zero, List.getElem?_cons_succ, List.getElem?_nil, Option.map_some, Option.map_none, Option.bind_some, Option.isSome_some, Option.isSome_none, List.cons_append, List.nil_append, List.append_nil, if_true, if_false, reduceIte, Nat.reduceLT, Nat.reduceBEq, Nat.reduceLeDiff, Nat.reduceEqDiff, Nat.reduceAdd, Nat.reduceMul, Nat.zero_add, Nat.add_zero, Nat.mul_one, Int.reduceToNat, Bool.and_true, Bool.true_and, Bool.false_and, Bool.and_false, Bool.not_true, Bool.not_false, Bool.false_eq_true, decide_true, decide_false, and_self, and_true, true_and, or_true, true_or, or_false, false_or, if_pos, if_neg, Int.toNat_natCast, decide_eq_true, decide_eq_false, look_hit, look_miss, Int.ofNat_eq_natCast, Bool.or_false, Bool.or_true, Bool.true_or, Bool.false_or, Bool.not_eq_true, beq_self_eq_true, ne_eq, not_false_eq_true, not_true_eq_false, eq_self, *] <;> rfl) (hL9 : ((ownC Try.prog st 0 l).all fun p => p.2 != 999) = true := by simp only [ownC, resV]; simp (config := { maxSteps := 1000000 }) (disch := first | assumption | omega) only [TY, ar_u64, binE, eqCells, eqVal, eqOp, step_mk, makeE, List.toList_toArray, Value.oneCell', step_fnv, step_makeFunc, ev_func, callV, cells_agg, cells_int, cells_bool, cells_str, cells_sl, List.size_toArray, flatB_nil, flatB_cons, wid_nil, wid_cons, rowsF_len, rowsF_flat, rowsF_app, step_build, buildE, fillE, indexSlE, indexArrE, shiftE, indexArrV, indexStE, step_move, step_assign, step_pick, step_load, step_nilCheck, step_binOp, step_unOp, step_convert, step_slice, step_fieldAddr, step_field, step_indexAddr, step_index, step_extract, step_len, step_min, step_max, step_alloc, step_box, step_lit, step_app, step_fn, step_store, putV_some, getS_hit, getS_miss, getS_blk, getS_kill, getS_nil, getB_nil, getB_slot, getB_hit, getB_miss, getB_kill0, getB_kill1, ev_tmp, ev_int, ev_bool, ev_str, ev_nil, ev_agg, cl_int, cl_bool, cl_str, cl_nil, loadE, loadV, fieldAddrE, fieldE, partV, indexAddrE, lenE, lenO, strIdx, indexE, boundE, subE, sliceE, convE, minE, scal, nilE, tupE, capsE, optE, pickE, pbin, pint, pstr, pun, ar_in, ar_u32, ar_u8, allocE, boxE, litE, rowsO, leafO, leafsO, frz, clr, rowsOf, flB, Fl.and, Fl.nst, Fl.ok, Fl.isFl, noRef, nstOk, flatAt, hasAll, absL, appN, Fl.isNd, asN, storeN, Nat.reduceBNe, destOf, appE, storeE, argO, argsO, boxesO, callG, callE, impE, pvR, pvs, pvRL, pvT, owns, ownsT, ownsR, clrL, withB, PV.kill, PL.kill, PL.names, Blk.kill, PL.live, toPL, resV, resO, compsO, compO, rlsO, rlO, toRes, Leaf.isSc, List.map_cons, List.map_nil, List.all_cons, List.all_nil, List.length_cons, List.length_nil, List.drop_zero, List.drop_succ_cons, List.take_succ_cons, List.take_zero, List.drop_nil, List.take_nil, List.getElem?_cons_zero, List.getElem?_cons_succ, List.getElem?_nil, Option.map_some, Option.map_none, Option.bind_some, Option.isSome_some, Option.isSome_none, List.cons_append, List.nil_append, List.append_nil, if_true, if_false, reduceIte, Nat.reduceLT, Nat.reduceBEq, Nat.reduceLeDiff, Nat.reduceEqDiff, Nat.reduceAdd, Nat.reduceMul, Nat.zero_add, Nat.add_zero, Nat.mul_one, Int.reduceToNat, Bool.and_true, Bool.true_and, Bool.false_and, Bool.and_false, Bool.not_true, Bool.not_false, Bool.false_eq_true, decide_true, decide_false, and_self, and_true, true_and, or_true, true_or, or_false, false_or, if_pos, if_neg, Int.toNat_natCast, decide_eq_true, decide_eq_false, look_hit, look_miss, Int.ofNat_eq_natCast, Bool.or_false, Bool.or_true, Bool.true_or, Bool.false_or, Bool.not_eq_true, beq_self_eq_true, ne_eq, not_false_eq_true, not_true_eq_false, eq_self, *] <;> rfl)
    (hls : ls = cuL k') (he : r' = res a y) :
    At (own1 b) w0 N st .ret (bodyPost Try.prog fn (PCuN w0 b k rel res a)) := by
  subst hl
  exact At.retCN (α := Cu × A) (β := Cu × B) (rel := fun x y => CuTo x.1 y.1 ∧ rel x.2 y.2) (us' := fun _ y => cuL y.1) (res := fun x y => res x.2 y.2) (x := (k, a)) (k', y) ⟨hto, hrel⟩ hN hB (hb.trans (by rw [hls])) (cuL_ex k') (he ▸ hr) hL hL9
end
/-! kinds of rows -/
section
variable {γ0 : Nat → Option Nat} {w0 : World} {N : Nat} {st : St} {Q : Exit → Act → World → Prop} {c : Code} {x : Exit}
theorem R.toNd {a : Act} {w : World} (h : R γ0 w0 N st a w) {n e s : Nat} {rows : List (List Leaf)} (hb : getB st n = some (.arr .ft e s rows)) : R γ0 w0 N (.blk n (.arr .nd e s rows) :: st) a w := by
  obtain ⟨η, γ, hI⟩ := h
  exact ⟨η, γ, hI.toNd hb⟩
theorem W.toNd (n : Nat) {e s : Nat} {rows : List (List Leaf)} (hb : getB st n = some (.arr .ft e s rows) := by simp (config := { maxSteps := 1000000 }) (disch := first | assumption | omega) only [TY, ar_u64, binE, eqCells, eqVal, eqOp, step_mk, makeE, List.toList_toArray, Value.oneCell', step_fnv, step_makeFunc, ev_func, callV, cells_agg, cells_int, cells_bool, cells_str, cells_sl, List.size_toArray, flatB_nil, flatB_cons, wid_nil, wid_cons, rowsF_len, rowsF_flat, rowsF_app, step_build, buildE, fillE, indexSlE, indexArrE, shiftE, indexArrV, indexStE, step_move, step_assign, step_pick, step_load, step_nilCheck, step_binOp, step_unOp, step_convert, step_slice, step_fieldAddr, step_field, step_indexAddr, step_index, step_extract, step_len, step_min, step_max, step_alloc, step_box, step_lit, step_app, step_fn, step_store, putV_some, getS_hit, getS_miss, getS_blk, getS_kill, getS_nil, getB_nil, getB_slot, getB_hit, getB_miss, getB_kill0, getB_kill1, ev_tmp, ev_int, ev_bool, ev_str, ev_nil, ev_agg, cl_int, cl_bool, cl_str, cl_nil, loadE, loadV, fieldAddrE, fieldE, partV, indexAddrE, lenE, lenO, strIdx, indexE, boundE, subE, sliceE, convE, minE, scal, nilE, tupE, capsE, optE, pickE, pbin, pint, pstr, pun, ar_in, ar_u32, ar_u8, allocE, boxE, litE, rowsO, leafO, leafsO, frz, clr, rowsOf, flB, Fl.and, Fl.nst, Fl.ok, Fl.isFl, noRef, nstOk, flatAt, hasAll, absL, appN, Fl.isNd, asN, storeN, Nat.reduceBNe, destOf, appE, storeE, argO, argsO, boxesO, callG, callE, impE, pvR, pvs, pvRL, pvT, owns, ownsT, ownsR, clrL, withB, PV.kill, PL.kill, PL.names, Blk.kill, PL.live, toPL, resV, resO, compsO, compO, rlsO, rlO, toRes, Leaf.isSc, List.map_cons, List.map_nil, List.all_cons, List.all_nil, List.length_cons, List.length_nil, List.drop_zero, List.drop_succ_cons, List.take_succ_cons, List.take_zero, List.drop_nil, List.take_nil, List.getElem?_cons_zero, List.getElem?_cons_succ, List.getElem?_nil, Option.map_some, Option.map_none, Option.bind_some, Option.isSome_some, Option.isSome_none, List.cons_append, List.nil_append, List.append_nil, if_true, if_false, reduceIte, Nat.reduceLT, Nat.reduceBEq, Nat.reduceLeDiff, Nat.reduceEqDiff, Nat.reduceAdd, Nat.reduceMul, Nat.zero_add, Nat.add_zero, Nat.mul_one, Int.reduceToNat, Bool.and_true, Bool.true_and, Bool.false_and, Bool.and_false, Bool.not_true, Bool.not_false, Bool.false_eq_true, decide_true, decide_false, and_self, and_true, true_and, or_true, true_or, or_false, false_or, if_pos, if_neg, Int.toNat_natCast, decide_eq_true, decide_eq_false, look_hit, look_miss, Int.ofNat_eq_natCast, Bool.or_false, Bool.or_true, Bool.true_or, Bool.false_or, Bool.not_eq_true, beq_self_eq_true, ne_eq, not_false_eq_true, not_true_eq_false, eq_self, *] <;> rfl) (h : W Try.prog γ0 w0 N (.blk n (.arr .nd e s rows) :: st) c Q) : W Try.prog γ0 w0 N st c Q := fun a w hR => h a w (hR.toNd hb)
theorem At.toNd (n : Nat) {e s : Nat} {rows : List (List Leaf)} (hb : getB st n = some (.arr .ft e s rows) := by simp (config := { maxSteps := 1000000 }) (disch := first | assumption | omega) only [TY, ar_u64, binE, eqCells, eqVal, eqOp, step_mk, makeE, List.toList_toArray, Value.oneCell', step_fnv, step_makeFunc, ev_func, callV, cells_agg, cells_int, cells_bool, cells_str, cells_sl, List.size_toArray, flatB_nil, flatB_cons, wid_nil, wid_cons, rowsF_len, rowsF_flat, rowsF_app, step_build, buildE, fillE, indexSlE, indexArrE, shiftE, indexArrV, indexStE, step_move, step_assign, step_pick, step_load, step_nilCheck, step_binOp, step_unOp, step_convert, step_slice, step_fieldAddr, step_field, step_indexAddr, step_index, step_extract, step_len, step_min, step_max, step_alloc, step_box, step_lit, step_app, step_fn, step_store, putV_some, getS_hit, getS_miss, getS_blk, getS_kill, getS_nil, getB_nil, getB_slot, getB_hit, getB_miss, getB_kill0, getB_kill1, ev_tmp, ev_int, ev_bool, ev_str, ev_nil, ev_agg, cl_int, cl_bool, cl_str, cl_nil, loadE, loadV, fieldAddrE, fieldE, partV, indexAddrE, lenE, lenO, strIdx, indexE, boundE, subE, sliceE, convE, minE, scal, nilE, tupE, capsE, optE, pickE, pbin, pint, pstr, pun, ar_in, ar_u32, ar_u8, allocE, boxE, litE, rowsO, leafO, leafsO, frz, clr, rowsOf, flB, Fl.and, Fl.nst, Fl.ok, Fl.isFl, noRef, nstOk, flatAt, hasAll, absL, appN, Fl.isNd, asN, storeN, Nat.reduceBNe, destOf, appE, storeE, argO, argsO, boxesO, callG, callE, impE, pvR, pvs, pvRL, pvT, owns, ownsT, ownsR, clrL, withB, PV.kill, PL.kill, PL.names, Blk.kill, PL.live, toPL, resV, resO, compsO, compO, rlsO, rlO, toRes, Leaf.isSc, List.map_cons, List.map_nil, List.all_cons, List.all_nil, List.length_cons, List.length_nil, List.drop_zero, List.drop_succ_cons, List.take_succ_cons, List.take_zero, List.drop_nil, List.take_nil, List.getElem?_cons_zero, List.getElem?_cons_succ, List.getElem?_nil, Option.map_some, Option.map_none, Option.bind_some, Option.isSome_some, Option.isSome_none, List.cons_append, List.nil_append, List.append_nil, if_true, if_false, reduceIte, Nat.reduceLT, Nat.reduceBEq, Nat.reduceLeDiff, Nat.reduceEqDiff, Nat.reduceAdd, Nat.reduceMul, Nat.zero_add, Nat.add_zero, Nat.mul_one, Int.reduceToNat, Bool.and_true, Bool.true_and, Bool.false_and, Bool.and_false, Bool.not_true, Bool.not_false, Bool.false_eq_true, decide_true, decide_false, and_self, and_true, true_and, or_true, true_or, or_false, false_or, if_pos, if_neg, Int.toNat_natCast, decide_eq_true, decide_eq_false, look_hit, look_miss, Int.ofNat_eq_natCast, Bool.or_false, Bool.or_true, Bool.true_or, Bool.false_or, Bool.not_eq_true, beq_self_eq_true, ne_eq, not_false_eq_true, not_true_eq_false, eq_self, *] <;> rfl) (h : At γ0 w0 N (.blk n (.arr .nd e s rows) :: st) x Q) : At γ0 w0 N st x Q := fun a w hR => h a w (hR.toNd hb)
end
end Go.Proofs.Ytimnogjgokljbaa
