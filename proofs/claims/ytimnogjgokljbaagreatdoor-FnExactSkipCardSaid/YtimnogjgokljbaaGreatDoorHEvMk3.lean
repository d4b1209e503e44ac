/-
  A function marks three rows of one's own at once; all three are data from then on.
-/
import Derived.Test.YtimnogjgokljbaaGreatDoorHEvMark
namespace Go.Proofs.YtimnogjgokljbaaGreatDoor
set_option maxRecDepth 100000
set_option linter.unusedVariables false
set_option linter.unusedSimpArgs false
open Go Go.RowKit
set_option maxHeartbeats 4000000
set_option linter.unusedVariables false
set_option linter.unusedSimpArgs false

def rstO (w' : World) (b : Nat) : Option Obj → World
  | some o => putO w' b o
  | none => w'
/-- the world w' with the block o as it was in w -/
def rst (w w' : World) : Option Nat → World
  | none => w'
  | some b => rstO w' b w.heap[b]?
theorem rst_size (w w' : World) (o : Option Nat) : (rst w w' o).heap.size = w'.heap.size := by
  cases o with
  | none => rfl
  | some b =>
    show (rstO w' b w.heap[b]?).heap.size = _
    cases w.heap[b]? with
    | none => rfl
    | some o => exact putO_size _ _ _
theorem rst_eqs (w w' : World) (o : Option Nat) : (rst w w' o).os = w'.os ∧ (rst w w' o).tape = w'.tape ∧ (rst w w' o).output = w'.output := by
  cases o with
  | none => exact ⟨rfl, rfl, rfl⟩
  | some b =>
    show (rstO w' b w.heap[b]?).os = _ ∧ (rstO w' b w.heap[b]?).tape = _ ∧ (rstO w' b w.heap[b]?).output = _
    cases w.heap[b]? with
    | none => exact ⟨rfl, rfl, rfl⟩
    | some o => exact ⟨rfl, rfl, rfl⟩
theorem rst_at {w w' : World} {b : Nat} (hb : b < w.heap.size) (hs : w.heap.size ≤ w'.heap.size) : (rst w w' (some b)).heap[b]? = w.heap[b]? := by
  show (rstO w' b w.heap[b]?).heap[b]? = _
  have h : w.heap[b]? = some w.heap[b] := Array.getElem?_eq_getElem hb
  rw [h]
  exact putO_same _ (by omega)
theorem rst_other {w w' : World} {o : Option Nat} {q : Nat} (h : o ≠ some q) : (rst w w' o).heap[q]? = w'.heap[q]? := by
  cases o with
  | none => rfl
  | some b =>
    show (rstO w' b w.heap[b]?).heap[q]? = _
    cases w.heap[b]? with
    | none => rfl
    | some o => exact putO_other _ fun e => h (by rw [e])
def plVη (η : Nat → Value) : PL → Value
  | .sc x => x
  | .all m => η m
  | _ => undef
def plOkη : PL → Bool
  | .sc _ => true
  | .all _ => true
  | _ => false
def Marks3 {α β δ : Type} (s1 : Nat) (f1 : α → List Value) (v1 : Value) (l1 : List α) (s2 : Nat) (f2 : β → List Value) (v2 : Value) (l2 : List β) (s3 : Nat) (f3 : δ → List Value) (v3 : Value) (l3 : List δ) (k' : Nat) (w : World) (e : Ending) (w' : World) : Prop :=
  e = .returned (.int .i64 (k' : Int)) ∧ (OwnS w' 0 s1 f1 v1 l1 ∧ OwnS w' 0 s2 f2 v2 l2 ∧ OwnS w' 0 s3 f3 v3 l3) ∧ (w'.os = w.os ∧ w'.tape = w.tape ∧ w'.output = w.output ∧ w.heap.size ≤ w'.heap.size) ∧
    ∀ q, q < w.heap.size → v1.ownBlock ≠ some q → v2.ownBlock ≠ some q → v3.ownBlock ≠ some q → w'.heap[q]? = w.heap[q]?
theorem OwnS.blk' {α : Type} {w w' : World} {B0 s : Nat} {f : α → List Value} {v : Value} {l : List α} (h : OwnS w B0 s f v l) (hs : w.heap.size ≤ w'.heap.size) (hb : ∀ q, q < w.heap.size → v.ownBlock = some q → w'.heap[q]? = w.heap[q]?) : OwnS w' B0 s f v l := by
  obtain ⟨A, c, rfl, h1, h2, h3⟩ := h
  refine ⟨A, c, rfl, h1, h2, fun hne => ?_⟩
  obtain ⟨b, off, rfl, g1, g2, g3, g4⟩ := h3 hne
  have hq := hb b g2 rfl
  exact ⟨b, off, rfl, g1, Nat.lt_of_lt_of_le g2 hs, fun o => by rw [World.frozen?_of_block (a := ⟨b, o, none⟩) hq]; exact g3 o, fun i x hi j u hu => by rw [World.cell?_of_block (a := ⟨b, _, none⟩) hq]; exact g4 i x hi j u hu⟩
section
variable {P : Program} {γ0 : Nat → Option Nat} {w0 : World} {N : Nat} {st : St} {a : Act} {w : World} {η : Nat → Value} {γ : Nat → Option Nat} {Q : Exit → Act → World → Prop}
theorem plVη_rep {hb : Nat → Option Blk} {l : PL} {u : Value} (ho : plOkη l = true) (h : RepP hb η γ w l u) : u = plVη η l := by
  cases l with
  | sc x => exact h.1
  | all m => exact h.1
  | _ => cases ho
theorem plVηs_rep {hb : Nat → Option Blk} {ls : List PL} {us : List Value} (ho : ls.all plOkη = true) (h : RepPs hb η γ w ls us) : us = ls.map (plVη η) := by
  refine List.ext_getElem? fun j => ?_
  rw [List.getElem?_map]
  cases hj : ls[j]? with
  | none =>
    have := List.getElem?_eq_none_iff.1 hj
    exact List.getElem?_eq_none (by rw [h.1]; exact this)
  | some l =>
    obtain ⟨u, h1, h2⟩ := h.2 j l hj
    rw [h1, Option.map_some, plVη_rep (List.all_eq_true.1 ho l (List.mem_of_getElem? hj)) h2]
theorem own_out {α : Type} {f : α → List Value} {s n e : Nat} {fl : Fl} {l : List α} (hI : Inv γ0 w0 N st a w η γ) (hb : getB st n = some (.arr fl e s (rowsF f l))) : ∀ b, (η n).ownBlock = some b → γ b = some n ∧ b < w.heap.size := by
  obtain ⟨xs, _, _, _, hg, _⟩ := hI.blks n _ hb
  exact fun b h => ⟨hg b h, (hI.live b n (hg b h)).1⟩
theorem WL.opMark3 {ops : Array Oper} {r : List Oper} {d f n1 n2 n3 k k' : Nat} {x0 x1 : Operand} {ts : Array TypeId} {ty : TypeId} {pos : String} {after : Array Edge} {α β δ : Type} {f1 : α → List Value} {f2 : β → List Value} {f3 : δ → List Value} {s1 s2 s3 e1 e2 e3 : Nat} {g1 g2 g3 : Fl} {l1 m1 : List α} {l2 m2 : List β} {l3 m3 : List δ} {ls : List PL}
    (hf : Has P f) (hs : ∀ (η : Nat → Value) (w : World), OwnS w 0 s1 f1 (η n1) l1 → OwnS w 0 s2 f2 (η n2) l2 → OwnS w 0 s3 f3 (η n3) l3 → (∀ b, (η n1).ownBlock = some b → (η n2).ownBlock ≠ some b) → (∀ b, (η n1).ownBlock = some b → (η n3).ownBlock ≠ some b) → (∀ b, (η n2).ownBlock = some b → (η n3).ownBlock ≠ some b) → (∀ b, (η n1).ownBlock = some b → b < w.heap.size) → (∀ b, (η n2).ownBlock = some b → b < w.heap.size) →
      Calls P f #[.agg (ls.map (plVη η)).toArray, .int .i64 (k : Int)] w (Marks3 s1 f1 (η n1) m1 s2 f2 (η n2) m2 s3 f3 (η n3) m3 k' w))
    (h12 : n1 ≠ n2) (h13 : n1 ≠ n3) (h23 : n2 ≠ n3)
    (hl1 : ∀ x, (f1 x).length = s1) (ho1 : ∀ x, ∀ u ∈ f1 x, u.oneCell' = true) (hl2 : ∀ x, (f2 x).length = s2) (ho2 : ∀ x, ∀ u ∈ f2 x, u.oneCell' = true) (hl3 : ∀ x, (f3 x).length = s3) (ho3 : ∀ x, ∀ u ∈ f3 x, u.oneCell' = true) (hN : d < N)
    (hx : ev st x0 = .comp true ls) (ho : ls.all plOkη = true) (hk : ev st x1 = one (.sc (.int .i64 (k : Int))))
    (hb1 : getB st n1 = some (.arr g1 e1 s1 (rowsF f1 l1))) (hb2 : getB st n2 = some (.arr g2 e2 s2 (rowsF f2 l2))) (hb3 : getB st n3 = some (.arr g3 e3 s3 (rowsF f3 l3)))
    (h : WL P γ0 w0 N ops r (.slot d (one (.sc (.int .i64 (k' : Int)))) :: datS n3 (rowsF f3 m3) (datS n2 (rowsF f2 m2) (datS n1 (rowsF f1 m1) st))) Q) : WL P γ0 w0 N ops (⟨some d, .call ⟨.value (.func f), #[x0, x1], ts⟩, ty, pos, after, none⟩ :: r) st Q := fun a w hR => by
  refine wpList_plain rfl fun K hK => ?_
  obtain ⟨η, γ, hI⟩ := hR
  have h0 := ev_sound hI x0
  rw [hx] at h0
  obtain ⟨us, h0, h0'⟩ := h0
  have hus := plVηs_rep ho h0'
  rw [hus] at h0
  have h1 := ev_sound hI x1
  rw [hk] at h1
  obtain ⟨h1, -⟩ := RepV.one_iff.1 h1
  have hrun := enter_of (P := P) hf (a := a) (w := w) (args := [x0, x1]) (ts := ts) (dst := some d) (ty := ty) (pos := pos) (after := after) (g := none)
  unfold Oper.wp
  rw [hrun]
  show Calls P f ([x0, x1].map a.eval).toArray w _
  simp only [List.map_cons, List.map_nil, h0, h1]
  have w1 := own_blk hl1 hI hb1
  have w2 := own_blk hl2 hI hb2
  have w3 := own_blk hl3 hI hb3
  have q1 := own_out hI hb1
  have q2 := own_out hI hb2
  have q3 := own_out hI hb3
  have ne : ∀ {i j : Nat}, i ≠ j → (∀ b, (η i).ownBlock = some b → γ b = some i ∧ b < w.heap.size) → (∀ b, (η j).ownBlock = some b → γ b = some j ∧ b < w.heap.size) → ∀ b, (η i).ownBlock = some b → (η j).ownBlock ≠ some b := fun hij hi hj b h h' => by
    have a1 := (hi b h).1
    have a2 := (hj b h').1
    rw [a1] at a2
    injection a2 with a2
    exact hij a2
  have d12 := ne h12 q1 q2
  have d13 := ne h13 q1 q3
  have d23 := ne h23 q2 q3
  refine (hs η w w1 w2 w3 d12 d13 d23 (fun b h => (q1 b h).2) fun b h => (q2 b h).2).mono fun e' w' ⟨he, ⟨o1, o2, o3⟩, ⟨eos, etape, eout, esz⟩, hblk⟩ => ?_
  subst he
  have wb3 := rst_eqs w w' (η n3).ownBlock
  have wb2 := rst_eqs w (rst w w' (η n3).ownBlock) (η n2).ownBlock
  have sz3 := rst_size w w' (η n3).ownBlock
  have sz2 := rst_size w (rst w w' (η n3).ownBlock) (η n2).ownBlock
  have hI1 := hI.toDat n1 (rows := rowsF f1 m1) (rst w (rst w w' (η n3).ownBlock) (η n2).ownBlock)
    (by rw [wb2.1, wb3.1]; exact eos) (by rw [wb2.2.1, wb3.2.1]; exact etape) (by rw [wb2.2.2, wb3.2.2]; exact eout) (by rw [sz2, sz3]; exact esz)
    (fun q hq hne => by
      by_cases c2 : (η n2).ownBlock = some q
      · rw [c2]; exact rst_at hq (by rw [sz3]; exact esz)
      · rw [rst_other c2]
        by_cases c3 : (η n3).ownBlock = some q
        · rw [c3]; exact rst_at hq esz
        · rw [rst_other c3]
          exact hblk q hq (fun c1 => hne (q1 q c1).1) c2 c3)
    (rep_of_own hl1 ho1 (fun b hb => by simp [(q1 b hb).1]) (o1.blk' (by rw [sz2, sz3]; exact Nat.le_refl _) fun q _ hq => by rw [rst_other (d12 q hq), rst_other (d13 q hq)]))
  have hI2 := hI1.toDat n2 (rows := rowsF f2 m2) (rst w w' (η n3).ownBlock)
    (wb2.1.symm) (wb2.2.1.symm) (wb2.2.2.symm) (by rw [sz2]; exact Nat.le_refl _)
    (fun q hq hne => (rst_other fun c2 => hne (by
      have := (q2 q c2).1
      simp [this]
      exact fun e => h12 e.symm)).symm)
    (rep_of_own hl2 ho2 (fun b hb => by simp [(q2 b hb).1]) (o2.blk' (by rw [sz3]; exact Nat.le_refl _) fun q _ hq => by rw [rst_other (d23 q hq)]))
  have hI3 := hI2.toDat n3 (rows := rowsF f3 m3) w'
    (wb3.1.symm) (wb3.2.1.symm) (wb3.2.2.symm) (by rw [sz3]; exact Nat.le_refl _)
    (fun q hq hne => (rst_other fun c3 => hne (by
      have := (q3 q c3).1
      have e1 : ¬ n3 = n1 := fun e => h13 e.symm
      have e2 : ¬ n3 = n2 := fun e => h23 e.symm
      simp [this, e1, e2])).symm)
    (rep_of_own hl3 ho3 (fun b hb => by
      have := (q3 b hb).1
      simp [this]) o3)
  exact hK _ _ (h _ _ ⟨η, _, hI3.put d _ _ hN (RepV.one_iff.2 ⟨rfl, rfl⟩)⟩)
end
section
variable {γ0 : Nat → Option Nat} {w0 : World} {N : Nat} {st st1 : St} {Q : Exit → Act → World → Prop}
theorem WL.opMark3A {ops : Array Oper} {r : List Oper} {d f : Nat} {x0 x1 : Operand} {ts : Array TypeId} {ty : TypeId} {pos : String} {after : Array Edge} {α β δ : Type} {f1 : α → List Value} {f2 : β → List Value} {f3 : δ → List Value} {s1 s2 s3 e1 e2 e3 : Nat} {g1 g2 g3 : Fl} {l1 : List α} {l2 : List β} {l3 : List δ} {ls : List PL} (n1 n2 n3 k k' : Nat) (m1 : List α) (m2 : List β) (m3 : List δ)
    (hf : Has Tryz.prog f) (hs : ∀ (η : Nat → Value) (w : World), OwnS w 0 s1 f1 (η n1) l1 → OwnS w 0 s2 f2 (η n2) l2 → OwnS w 0 s3 f3 (η n3) l3 → (∀ b, (η n1).ownBlock = some b → (η n2).ownBlock ≠ some b) → (∀ b, (η n1).ownBlock = some b → (η n3).ownBlock ≠ some b) → (∀ b, (η n2).ownBlock = some b → (η n3).ownBlock ≠ some b) → (∀ b, (η n1).ownBlock = some b → b < w.heap.size) → (∀ b, (η n2).ownBlock = some b → b < w.heap.size) →
      Calls Tryz.prog f #[.agg (ls.map (plVη η)).toArray, .int .i64 (k : Int)] w (Marks3 s1 f1 (η n1) m1 s2 f2 (η n2) m2 s3 f3 (η n3) m3 k' w))
    (hl1 : ∀ x, (f1 x).length = s1) (ho1 : ∀ x, ∀ u ∈ f1 x, u.oneCell' = true) (hl2 : ∀ x, (f2 x).length = s2) (ho2 : ∀ x, ∀ u ∈ f2 x, u.oneCell' = true) (hl3 : ∀ x, (f3 x).length = s3) (ho3 : ∀ x, ∀ u ∈ f3 x, u.oneCell' = true)
    (h12 : n1 ≠ n2 := by decide) (h13 : n1 ≠ n3 := by decide) (h23 : n2 ≠ n3 := by decide) (hN : d < N := by decide)
    (hx : ev st x0 = .comp true ls := by simp (config := { maxSteps := 1000000 }) (disch := first | assumption | omega) only [TY, ar_u64, binE, eqCells, eqVal, eqOp, step_mk, makeE, List.toList_toArray, Value.oneCell', step_fnv, step_makeFunc, ev_func, callV, cells_agg, cells_int, cells_bool, cells_str, cells_sl, List.size_toArray, flatB_nil, flatB_cons, wid_nil, wid_cons, rowsF_len, rowsF_flat, rowsF_app, step_build, buildE, fillE, indexSlE, indexArrE, shiftE, indexArrV, indexStE, step_move, step_assign, step_pick, step_load, step_nilCheck, step_binOp, step_unOp, step_convert, step_slice, step_fieldAddr, step_field, step_indexAddr, step_index, step_extract, step_len, step_min, step_max, step_alloc, step_box, step_lit, step_app, step_fn, step_store, putV_some, getS_hit, getS_miss, getS_blk, getS_kill, getS_nil, getB_nil, getB_slot, getB_hit, getB_miss, getB_kill0, getB_kill1, ev_tmp, ev_int, ev_bool, ev_str, ev_nil, ev_agg, cl_int, cl_bool, cl_str, cl_nil, loadE, loadV, fieldAddrE, fieldE, partV, indexAddrE, lenE, lenO, strIdx, indexE, boundE, subE, sliceE, convE, minE, scal, nilE, tupE, capsE, optE, pickE, pbin, pint, pstr, pun, ar_in, ar_u32, ar_u8, allocE, boxE, litE, rowsO, leafO, leafsO, frz, clr, rowsOf, flB, Fl.and, Fl.nst, Fl.ok, Fl.isFl, noRef, nstOk, flatAt, hasAll, absL, appN, Fl.isNd, asN, storeN, Nat.reduceBNe, destOf, appE, storeE, argO, argsO, boxesO, callG, callE, impE, pvR, pvs, pvRL, pvT, owns, ownsT, ownsR, clrL, withB, PV.kill, PL.kill, PL.names, Blk.kill, PL.live, toPL, resV, resO, compsO, compO, rlsO, rlO, toRes, Leaf.isSc, List.map_cons, List.map_nil, List.all_cons, List.all_nil, List.length_cons, List.length_nil, List.drop_zero, List.drop_succ_cons, List.take_succ_cons, List.take_zero, List.drop_nil, List.take_nil, List.getElem?_cons_zero, List.getElem?_cons_succ, List.getElem?_nil, Option.map_some, Option.map_none, Option.bind_some, Option.isSome_some, Option.isSome_none, List.cons_append, List.nil_append, List.append_nil, if_true, if_false, reduceIte, Nat.reduceLT, Nat.reduceBEq, Nat.reduceLeDiff, Nat.reduceEqDiff, Nat.reduceAdd, Nat.reduceMul, Nat.zero_add, Nat.add_zero, Nat.mul_one, Int.reduceToNat, Bool.and_true, Bool.true_and, Bool.false_and, Bool.and_false, Bool.not_true, Bool.not_false, Bool.false_eq_true, decide_true, decide_false, and_self, and_true, true_and, or_true, true_or, or_false, false_or, if_pos, if_neg, Int.toNat_natCast, decide_eq_true, decide_eq_false, look_hit, look_miss, Int.ofNat_eq_natCast, Bool.or_false, Bool.or_true, Bool.true_or, Bool.false_or, Bool.not_eq_true, beq_self_eq_true, ne_eq, not_false_eq_true, not_true_eq_false, eq_self, *] <;> rfl) (ho : ls.all plOkη = true := by rfl) (hk : ev st x1 = one (.sc (.int .i64 (k : Int))) := by simp (config := { maxSteps := 1000000 }) (disch := first | assumption | omega) only [TY, ar_u64, binE, eqCells, eqVal, eqOp, step_mk, makeE, List.toList_toArray, Value.oneCell', step_fnv, step_makeFunc, ev_func, callV, cells_agg, cells_int, cells_bool, cells_str, cells_sl, List.size_toArray, flatB_nil, flatB_cons, wid_nil, wid_cons, rowsF_len, rowsF_flat, rowsF_app, step_build, buildE, fillE, indexSlE, indexArrE, shiftE, indexArrV, indexStE, step_move, step_assign, step_pick, step_load, step_nilCheck, step_binOp, step_unOp, step_convert, step_slice, step_fieldAddr, step_field, step_indexAddr, step_index, step_extract, step_len, step_min, step_max, step_alloc, step_box, step_lit, step_app, step_fn, step_store, putV_some, getS_hit, getS_miss, getS_blk, getS_kill, getS_nil, getB_nil, getB_slot, getB_hit, getB_miss, getB_kill0, getB_kill1, ev_tmp, ev_int, ev_bool, ev_str, ev_nil, ev_agg, cl_int, cl_bool, cl_str, cl_nil, loadE, loadV, fieldAddrE, fieldE, partV, indexAddrE, lenE, lenO, strIdx, indexE, boundE, subE, sliceE, convE, minE, scal, nilE, tupE, capsE, optE, pickE, pbin, pint, pstr, pun, ar_in, ar_u32, ar_u8, allocE, boxE, litE, rowsO, leafO, leafsO, frz, clr, rowsOf, flB, Fl.and, Fl.nst, Fl.ok, Fl.isFl, noRef, nstOk, flatAt, hasAll, absL, appN, Fl.isNd, asN, storeN, Nat.reduceBNe, destOf, appE, storeE, argO, argsO, boxesO, callG, callE, impE, pvR, pvs, pvRL, pvT, owns, ownsT, ownsR, clrL, withB, PV.kill, PL.kill, PL.names, Blk.kill, PL.live, toPL, resV, resO, compsO, compO, rlsO, rlO, toRes, Leaf.isSc, List.map_cons, List.map_nil, List.all_cons, List.all_nil, List.length_cons, List.length_nil, List.drop_zero, List.drop_succ_cons, List.take_succ_cons, List.take_zero, List.drop_nil, List.take_nil, List.getElem?_cons_zero, List.getElem?_cons_succ, List.getElem?_nil, Option.map_some, Option.map_none, Option.bind_some, Option.isSome_some, Option.isSome_none, List.cons_append, List.nil_append, List.append_nil, if_true, if_false, reduceIte, Nat.reduceLT, Nat.reduceBEq, Nat.reduceLeDiff, Nat.reduceEqDiff, Nat.reduceAdd, Nat.reduceMul, Nat.zero_add, Nat.add_zero, Nat.mul_one, Int.reduceToNat, Bool.and_true, Bool.true_and, Bool.false_and, Bool.and_false, Bool.not_true, Bool.not_false, Bool.false_eq_true, decide_true, decide_false, and_self, and_true, true_and, or_true, true_or, or_false, false_or, if_pos, if_neg, Int.toNat_natCast, decide_eq_true, decide_eq_false, look_hit, look_miss, Int.ofNat_eq_natCast, Bool.or_false, Bool.or_true, Bool.true_or, Bool.false_or, Bool.not_eq_true, beq_self_eq_true, ne_eq, not_false_eq_true, not_true_eq_false, eq_self, *] <;> rfl)
    (hb1 : getB st n1 = some (.arr g1 e1 s1 (rowsF f1 l1)) := by simp (config := { maxSteps := 1000000 }) (disch := first | assumption | omega) only [TY, ar_u64, binE, eqCells, eqVal, eqOp, step_mk, makeE, List.toList_toArray, Value.oneCell', step_fnv, step_makeFunc, ev_func, callV, cells_agg, cells_int, cells_bool, cells_str, cells_sl, List.size_toArray, flatB_nil, flatB_cons, wid_nil, wid_cons, rowsF_len, rowsF_flat, rowsF_app, step_build, buildE, fillE, indexSlE, indexArrE, shiftE, indexArrV, indexStE, step_move, step_assign, step_pick, step_load, step_nilCheck, step_binOp, step_unOp, step_convert, step_slice, step_fieldAddr, step_field, step_indexAddr, step_index, step_extract, step_len, step_min, step_max, step_alloc, step_box, step_lit, step_app, step_fn, step_store, putV_some, getS_hit, getS_miss, getS_blk, getS_kill, getS_nil, getB_nil, getB_slot, getB_hit, getB_miss, getB_kill0, getB_kill1, ev_tmp, ev_int, ev_bool, ev_str, ev_nil, ev_agg, cl_int, cl_bool, cl_str, cl_nil, loadE, loadV, fieldAddrE, fieldE, partV, indexAddrE, lenE, lenO, strIdx, indexE, boundE, subE, sliceE, convE, minE, scal, nilE, tupE, capsE, optE, pickE, pbin, pint, pstr, pun, ar_in, ar_u32, ar_u8, allocE, boxE, litE, rowsO, leafO, leafsO, frz, clr, rowsOf, flB, Fl.and, Fl.nst, Fl.ok, Fl.isFl, noRef, nstOk, flatAt, hasAll, absL, appN, Fl.isNd, asN, storeN, Nat.reduceBNe, destOf, appE, storeE, argO, argsO, boxesO, callG, callE, impE, pvR, pvs, pvRL, pvT, owns, ownsT, ownsR, clrL, withB, PV.kill, PL.kill, PL.names, Blk.kill, PL.live, toPL, resV, resO, compsO, compO, rlsO, rlO, toRes, Leaf.isSc, List.map_cons, List.map_nil, List.all_cons, List.all_nil, List.length_cons, List.length_nil, List.drop_zero, List.drop_succ_cons, List.take_succ_cons, List.take_zero, List.drop_nil, List.take_nil, List.getElem?_cons_zero, List.getElem?_cons_succ, List.getElem?_nil, Option.map_some, Option.map_none, Option.bind_some, Option.isSome_some, Option.isSome_none, List.cons_append, List.nil_append, List.append_nil, if_true, if_false, reduceIte, Nat.reduceLT, Nat.reduceBEq, Nat.reduceLeDiff, Nat.reduceEqDiff, Nat.reduceAdd, Nat.reduceMul, Nat.zero_add, Nat.add_zero, Nat.mul_one, Int.reduceToNat, Bool.and_true, Bool.true_and, Bool.false_and, Bool.and_false, Bool.not_true, Bool.not_false, Bool.false_eq_true, decide_true, decide_false, and_self, and_true, true_and, or_true, true_or, or_false, false_or, if_pos, if_neg, Int.toNat_natCast, decide_eq_true, decide_eq_false, look_hit, look_miss, Int.ofNat_eq_natCast, Bool.or_false, Bool.or_true, Bool.true_or, Bool.false_or, Bool.not_eq_true, beq_self_eq_true, ne_eq, not_false_eq_true, not_true_eq_false, eq_self, *] <;> rfl) (hb2 : getB st n2 = some (.arr g2 e2 s2 (rowsF f2 l2)) := by simp (config := { maxSteps := 1000000 }) (disch := first | assumption | omega) only [TY, ar_u64, binE, eqCells, eqVal, eqOp, step_mk, makeE, List.toList_toArray, Value.oneCell', step_fnv, step_makeFunc, ev_func, callV, cells_agg, cells_int, cells_bool, cells_str, cells_sl, List.size_toArray, flatB_nil, flatB_cons, wid_nil, wid_cons, rowsF_len, rowsF_flat, rowsF_app, step_build, buildE, fillE, indexSlE, indexArrE, shiftE, indexArrV, indexStE, step_move, step_assign, step_pick, step_load, step_nilCheck, step_binOp, step_unOp, step_convert, step_slice, step_fieldAddr, step_field, step_indexAddr, step_index, step_extract, step_len, step_min, step_max, step_alloc, step_box, step_lit, step_app, step_fn, step_store, putV_some, getS_hit, getS_miss, getS_blk, getS_kill, getS_nil, getB_nil, getB_slot, getB_hit, getB_miss, getB_kill0, getB_kill1, ev_tmp, ev_int, ev_bool, ev_str, ev_nil, ev_agg, cl_int, cl_bool, cl_str, cl_nil, loadE, loadV, fieldAddrE, fieldE, partV, indexAddrE, lenE, lenO, strIdx, indexE, boundE, subE, sliceE, convE, minE, scal, nilE, tupE, capsE, optE, pickE, pbin, pint, pstr, pun, ar_in, ar_u32, ar_u8, allocE, boxE, litE, rowsO, leafO, leafsO, frz, clr, rowsOf, flB, Fl.and, Fl.nst, Fl.ok, Fl.isFl, noRef, nstOk, flatAt, hasAll, absL, appN, Fl.isNd, asN, storeN, Nat.reduceBNe, destOf, appE, storeE, argO, argsO, boxesO, callG, callE, impE, pvR, pvs, pvRL, pvT, owns, ownsT, ownsR, clrL, withB, PV.kill, PL.kill, PL.names, Blk.kill, PL.live, toPL, resV, resO, compsO, compO, rlsO, rlO, toRes, Leaf.isSc, List.map_cons, List.map_nil, List.all_cons, List.all_nil, List.length_cons, List.length_nil, List.drop_zero, List.drop_succ_cons, List.take_succ_cons, List.take_zero, List.drop_nil, List.take_nil, List.getElem?_cons_zero, List.getElem?_cons_succ, List.getElem?_nil, Option.map_some, Option.map_none, Option.bind_some, Option.isSome_some, Option.isSome_none, List.cons_append, List.nil_append, List.append_nil, if_true, if_false, reduceIte, Nat.reduceLT, Nat.reduceBEq, Nat.reduceLeDiff, Nat.reduceEqDiff, Nat.reduceAdd, Nat.reduceMul, Nat.zero_add, Nat.add_zero, Nat.mul_one, Int.reduceToNat, Bool.and_true, Bool.true_and, Bool.false_and, Bool.and_false, Bool.not_true, Bool.not_false, Bool.false_eq_true, decide_true, decide_false, and_self, and_true, true_and, or_true, true_or, or_false, false_or, if_pos, if_neg, Int.toNat_natCast, decide_eq_true, decide_eq_false, look_hit, look_miss, Int.ofNat_eq_natCast, Bool.or_false, Bool.or_true, Bool.true_or, Bool.false_or, Bool.not_eq_true, beq_self_eq_true, ne_eq, not_false_eq_true, not_true_eq_false, eq_self, *] <;> rfl) (hb3 : getB st n3 = some (.arr g3 e3 s3 (rowsF f3 l3)) := by simp (config := { maxSteps := 1000000 }) (disch := first | assumption | omega) only [TY, ar_u64, binE, eqCells, eqVal, eqOp, step_mk, makeE, List.toList_toArray, Value.oneCell', step_fnv, step_makeFunc, ev_func, callV, cells_agg, cells_int, cells_bool, cells_str, cells_sl, List.size_toArray, flatB_nil, flatB_cons, wid_nil, wid_cons, rowsF_len, rowsF_flat, rowsF_app, step_build, buildE, fillE, indexSlE, indexArrE, shiftE, indexArrV, indexStE, step_move, step_assign, step_pick, step_load, step_nilCheck, step_binOp, step_unOp, step_convert, step_slice, step_fieldAddr, step_field, step_indexAddr, step_index, step_extract, step_len, step_min, step_max, step_alloc, step_box, step_lit, step_app, step_fn, step_store, putV_some, getS_hit, getS_miss, getS_blk, getS_kill, getS_nil, getB_nil, getB_slot, getB_hit, getB_miss, getB_kill0, getB_kill1, ev_tmp, ev_int, ev_bool, ev_str, ev_nil, ev_agg, cl_int, cl_bool, cl_str, cl_nil, loadE, loadV, fieldAddrE, fieldE, partV, indexAddrE, lenE, lenO, strIdx, indexE, boundE, subE, sliceE, convE, minE, scal, nilE, tupE, capsE, optE, pickE, pbin, pint, pstr, pun, ar_in, ar_u32, ar_u8, allocE, boxE, litE, rowsO, leafO, leafsO, frz, clr, rowsOf, flB, Fl.and, Fl.nst, Fl.ok, Fl.isFl, noRef, nstOk, flatAt, hasAll, absL, appN, Fl.isNd, asN, storeN, Nat.reduceBNe, destOf, appE, storeE, argO, argsO, boxesO, callG, callE, impE, pvR, pvs, pvRL, pvT, owns, ownsT, ownsR, clrL, withB, PV.kill, PL.kill, PL.names, Blk.kill, PL.live, toPL, resV, resO, compsO, compO, rlsO, rlO, toRes, Leaf.isSc, List.map_cons, List.map_nil, List.all_cons, List.all_nil, List.length_cons, List.length_nil, List.drop_zero, List.drop_succ_cons, List.take_succ_cons, List.take_zero, List.drop_nil, List.take_nil, List.getElem?_cons_zero, List.getElem?_cons_succ, List.getElem?_nil, Option.map_some, Option.map_none, Option.bind_some, Option.isSome_some, Option.isSome_none, List.cons_append, List.nil_append, List.append_nil, if_true, if_false, reduceIte, Nat.reduceLT, Nat.reduceBEq, Nat.reduceLeDiff, Nat.reduceEqDiff, Nat.reduceAdd, Nat.reduceMul, Nat.zero_add, Nat.add_zero, Nat.mul_one, Int.reduceToNat, Bool.and_true, Bool.true_and, Bool.false_and, Bool.and_false, Bool.not_true, Bool.not_false, Bool.false_eq_true, decide_true, decide_false, and_self, and_true, true_and, or_true, true_or, or_false, false_or, if_pos, if_neg, Int.toNat_natCast, decide_eq_true, decide_eq_false, look_hit, look_miss, Int.ofNat_eq_natCast, Bool.or_false, Bool.or_true, Bool.true_or, Bool.false_or, Bool.not_eq_true, beq_self_eq_true, ne_eq, not_false_eq_true, not_true_eq_false, eq_self, *] <;> rfl)
    (hst : .slot d (one (.sc (.int .i64 (k' : Int)))) :: datS n3 (rowsF f3 m3) (datS n2 (rowsF f2 m2) (datS n1 (rowsF f1 m1) st)) = st1 := by simp only [datS, PV.dat, datL, datT, PL.dat, Blk.dat, Nat.reduceEqDiff, reduceIte]; rfl)
    (h : WL Tryz.prog γ0 w0 N ops r st1 Q) : WL Tryz.prog γ0 w0 N ops (⟨some d, .call ⟨.value (.func f), #[x0, x1], ts⟩, ty, pos, after, none⟩ :: r) st Q :=
  WL.opMark3 hf hs h12 h13 h23 hl1 ho1 hl2 ho2 hl3 ho3 hN hx ho hk hb1 hb2 hb3 (by rw [hst]; exact h)
end
end Go.Proofs.YtimnogjgokljbaaGreatDoor
