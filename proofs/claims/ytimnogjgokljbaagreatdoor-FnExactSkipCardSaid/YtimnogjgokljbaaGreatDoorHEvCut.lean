/-
  A function that cuts a row of one's own in place: contract, entering, leaving, calling.
-/
import Derived.Test.YtimnogjgokljbaaGreatDoorHEvCur
namespace Go.Proofs.YtimnogjgokljbaaGreatDoor
set_option maxRecDepth 100000
set_option linter.unusedVariables false
set_option linter.unusedSimpArgs false
open Go Go.RowKit
set_option linter.unusedVariables false

/-- F, called with g's function value over a variable of the cells cs, leaves of a row the elements without p -/
def CutsBy (P : Program) (F g : FuncId) {α : Type} (enc : α → List Value) (e s : Nat) (cs : List Value) (p : α → Bool) : Prop :=
  (∀ A c b1 w, GlobOk none0 w → c ≤ maxLen → b1 < w.heap.size → (∀ i v, cs[i]? = some v → w.cell? ⟨b1, i, none⟩ = some v) →
    Calls P F #[.slice A 0 c, .func (.func g) #[] #[.pointer (some ⟨b1, 0, none⟩)]] w fun e' w' => e' = .returned (.slice A 0 c) ∧ Below w.heap.size w w') ∧
  ∀ b b1 cap cur (l : List α) w, GlobOk (own1 b) w → b1 ≠ b → b1 < w.heap.size → (∀ i v, cs[i]? = some v → w.cell? ⟨b1, i, none⟩ = some v) → w.heap[b]? = some (.cells cur e (0, 0)) → 0 < l.length → l.length ≤ cap → cap ≤ maxLen → cur.size = cap * s → cur.toList.take (l.length * s) = (l.map enc).flatten → l.length ≤ 8796093022207 → (∀ v ∈ (l.map enc).flatten, v.oneCell' = true) →
    Calls P F #[.slice (some ⟨b, 0, none⟩) l.length cap, .func (.func g) #[] #[.pointer (some ⟨b1, 0, none⟩)]] w fun e' w' => e' = .returned (.slice (some ⟨b, 0, none⟩) (l.filter fun x => !p x).length cap) ∧
      ∃ cur' : Array Value, Below w.heap.size (putO w b (.cells cur' e (0, 0))) w' ∧ cur'.size = cap * s ∧ cur'.toList.take ((l.filter fun x => !p x).length * s) = ((l.filter fun x => !p x).map enc).flatten

section
variable {P : Program} {γ0 : Nat → Option Nat} {w0 : World} {N : Nat} {st : St} {a : Act} {w : World} {η : Nat → Value} {γ : Nat → Option Nat} {Q : Exit → Act → World → Prop}
section
variable {α : Type} {enc : α → List Value} {k : Nat}
theorem flat_lenK (hk : ∀ x, (enc x).length = k) (l : List α) : ((l.map enc).flatten).length = l.length * k := by
  have := flatten_len (s := k) (rows := l.map enc) (fun row hr => by
    obtain ⟨x, _, rfl⟩ := List.mem_map.1 hr
    exact hk x)
  simpa using this
end
theorem scs_eq {l : List Value} {us : List Value} (h : RepLs w γ (l.map Leaf.sc) us) : us = l ∧ ∀ v ∈ l, v.oneCell' = true := by
  obtain ⟨h1, h2⟩ := h
  rw [List.length_map] at h1
  have key : ∀ j (v : Value), l[j]? = some v → us[j]? = some v ∧ v.oneCell' = true := fun j v hj => by
    obtain ⟨u, h3, h4⟩ := h2 j (.sc v) (by rw [List.getElem?_map, hj]; rfl)
    cases h4 with
    | sc h5 => exact ⟨h3, h5⟩
  refine ⟨List.ext_getElem? fun j => ?_, fun v hv => ?_⟩
  · cases hj : l[j]? with
    | some v => exact (key j v hj).1
    | none =>
      rw [List.getElem?_eq_none_iff] at hj ⊢
      omega
  · obtain ⟨j, hj⟩ := List.mem_iff_getElem?.1 hv
    exact (key j v hj).2
theorem scs_rep {l : List Value} (h : ∀ v ∈ l, v.oneCell' = true) : RepLs w γ (l.map Leaf.sc) l := by
  refine ⟨by simp, fun j x hj => ?_⟩
  rw [List.getElem?_map] at hj
  obtain ⟨u, h1, rfl⟩ := Option.map_eq_some_iff.1 hj
  exact ⟨u, h1, .sc (h u (List.mem_of_getElem? h1))⟩
theorem rowsF_flatten {α : Type} (f : α → List Value) (l : List α) : (rowsF f l).flatten = ((l.map f).flatten).map Leaf.sc := by
  unfold rowsF
  induction l with
  | nil => rfl
  | cons x l ih => simp [ih]

/-- the state at the start -/
abbrev initA {α : Type} (enc : α → List Value) (e s : Nat) (l : List α) (g : FuncId) (cs : List Value) : St := [.slot 0 (one (.all 999)), .blk 999 (.arr .ft e s (rowsF enc l)), .slot 1 (one (.clo g [cs.map Leaf.sc]))]
theorem enterA {f : FuncId} {fn : Func} {c : Code} {α : Type} {enc : α → List Value} {e s : Nat} {l : List α} {g : FuncId} {cs : List Value} {R' : Ending → World → Prop} {b b1 cap : Nat} {cur : Array Value}
    (hf : P.funcs[f]? = some fn) (hbd : fn.body = some c) (hN : fn.ntmps = N) (h2 : 2 ≤ N) (hk : ∀ x, (enc x).length = s) (hc1 : ∀ v ∈ cs, v.oneCell' = true) (hgl : GlobOk (own1 b) w) (hne : b1 ≠ b) (hb1 : b1 < w.heap.size) (hcs : ∀ i v, cs[i]? = some v → w.cell? ⟨b1, i, none⟩ = some v)
    (hh : w.heap[b]? = some (.cells cur e (0, 0))) (hlc : l.length ≤ cap) (hcap : cap ≤ maxLen) (hsz : cur.size = cap * s) (htk : cur.toList.take (l.length * s) = (l.map enc).flatten) (hone : ∀ v ∈ (l.map enc).flatten, v.oneCell' = true)
    (h : W P (own1 b) w N (initA enc e s l g cs) c (bodyPost P fn R')) : Calls P f #[.slice (some ⟨b, 0, none⟩) l.length cap, .func (.func g) #[] #[.pointer (some ⟨b1, 0, none⟩)]] w R' := by
  refine calls_of_wp hf hbd (h _ _ ⟨fun _ => .slice (some ⟨b, 0, none⟩) l.length cap, own1 b, ?_⟩)
  have hget : ∀ k, 1 < k → getS (initA enc e s l g cs) k = one .dead := fun k hk => by
    have h1 : ¬ 0 = k := by omega
    have h3 : ¬ 1 = k := by omega
    simp only [initA, getS, if_neg h1, if_neg h3]
  have hty : ∀ k : Nat, (#[Value.slice (some ⟨b, 0, none⟩) l.length cap, .func (.func g) #[] #[.pointer (some ⟨b1, 0, none⟩)]] ++ Array.replicate (fn.ntmps - 2) undef).getD k undef = (if k = 0 then .slice (some ⟨b, 0, none⟩) l.length cap else if k = 1 then .func (.func g) #[] #[.pointer (some ⟨b1, 0, none⟩)] else undef) := fun k => by
    rw [Array.getD_eq_getD_getElem?]
    rcases k with _ | _ | k
    · rw [Array.getElem?_append_left (by simp)]; rfl
    · rw [Array.getElem?_append_left (by simp)]; rfl
    · rw [Array.getElem?_append_right (by simp)]
      simp only [Array.getElem?_replicate]
      split <;> simp
  refine { slots := fun k => ?_, blks := fun n b' hb' => ?_, live := fun k n hk => ?_, low := fun k _ hk => ⟨hk, rfl⟩, os := rfl, tape := rfl, output := rfl, size := Nat.le_refl _, defers := rfl, width := ?_, glob := hgl, pin := fun _ k ls hk hbx => (by simp [getB] at hbx), pinA := fun _ fl1 e1 s1 rows1 hbx => ?_ }
  · show RepV _ _ _ _ _ ((#[Value.slice (some ⟨b, 0, none⟩) l.length cap, .func (.func g) #[] #[.pointer (some ⟨b1, 0, none⟩)]] ++ Array.replicate (fn.ntmps - 2) undef).getD k undef)
    rw [hty]
    by_cases e0 : k = 0
    · subst e0
      exact RepV.one_iff.2 ⟨rfl, .ft, e, s, rowsF enc l, by simp [getB]⟩
    · by_cases e1 : k = 1
      · subst e1
        refine RepV.one_iff.2 ⟨[b1], rfl, rfl, fun j b2 c2 hj hc => ?_⟩
        rcases j with _ | j
        · simp only [List.getElem?_cons_zero, Option.some.injEq] at hj hc
          subst hj; subst hc
          refine ⟨own1_other hne, hb1, cs, ?_, fun i v hi => hcs i v hi⟩
          exact scs_rep hc1
        · simp at hj
      · rw [hget k (by omega)]
        exact RepV.one_iff.2 trivial
  · simp only [getB] at hb'
    split at hb'
    · rename_i e9
      cases hb'
      subst e9
      refine ⟨(l.map enc).flatten, ⟨by rw [rowsF_len, flat_lenK hk], .inr ⟨b, cap, cur, by rw [rowsF_len], Nat.zero_le _, hh, by rw [rowsF_len]; exact hlc, hcap, hsz, by rw [rowsF_len]; exact htk⟩⟩, by rw [rowsF_flatten, vw_of rfl]; exact scs_rep hone, fun row hr => rowsF_wid hk _ row hr, fun b2 hb2 => ?_, fun _ row hr x hx => ?_, fun e' => (by cases e')⟩
      · cases hb2
        exact own1_same _
      · unfold rowsF at hr
        obtain ⟨y, _, rfl⟩ := List.mem_map.1 hr
        obtain ⟨v, _, rfl⟩ := List.mem_map.1 hx
        exact ⟨v, rfl⟩
    · cases hb'
  · have hkb := own1_some hk
    subst hkb
    rw [own1_same] at hk
    cases hk
    exact ⟨heap_lt hh, .inl rfl, by simp [getB]⟩
  · simp
    omega
  · have hbx : some (Blk.arr .ft e s (rowsF enc l)) = some (.arr fl1 e1 s1 rows1) := hbx
    cases hbx
    exact .inr ⟨b, cap, by rw [rowsF_len], own1_same _, by simp only [szB, hh, hsz]⟩
/-- leaving with the first m rows -/
theorem At.retCut {fn : Func} {b cap t m : Nat} {cur0 : Array Value} {α : Type} {enc : α → List Value} {e s : Nat} {fl : Fl} {rows : List (List Leaf)} (l' : List α) (hs : 0 < s) (hN : N ≤ 999) (hfn : fn.results.toList = [.tmp t]) (hh : w0.heap[b]? = some (.cells cur0 e (0, 0))) (hsz : cur0.size = cap * s) (hl : 0 < rows.length)
    (ht : (getS st t = one (.all 999) ∧ m = rows.length) ∨ getS st t = one (.ref 999 0 m)) (hb : getB st 999 = some (.arr fl e s rows)) (hm : rows.take m = rowsF enc l') (hml : m ≤ rows.length) :
    At (own1 b) w0 N st .ret (bodyPost P fn fun e' w' => e' = .returned (.slice (some ⟨b, 0, none⟩) l'.length cap) ∧
      ∃ cur' : Array Value, Below w0.heap.size (putO w0 b (.cells cur' e (0, 0))) w' ∧ cur'.size = cap * s ∧ cur'.toList.take (l'.length * s) = (l'.map enc).flatten) := by
  intro a w ⟨η, γ, h⟩
  have hl' : l'.length = m := by rw [← rowsF_len enc l', ← hm, List.length_take]; omega
  obtain ⟨xs, ⟨ho1, ho2⟩, hr, hw, _, _⟩ := h.blks 999 _ hb
  have hη : ∃ cur, η 999 = .slice (some ⟨b, 0, none⟩) rows.length cap ∧ w.heap[b]? = some (.cells cur e (0, 0)) ∧ cur.size = cap * s ∧ cur.toList.take (rows.length * s) = xs := by
    rcases h.pinA hN fl e s _ hb with ⟨_, h1⟩ | ⟨b0, cap0, h1, h2, h3⟩
    · omega
    · have hb0 := own1_some h2
      subst hb0
      have hc0 : cap0 = cap := by
        simp only [szB, hh, Option.some.injEq] at h3
        rw [hsz] at h3
        exact (Nat.eq_of_mul_eq_mul_right hs h3).symm
      subst hc0
      rcases ho2 with ⟨ho, _⟩ | ⟨b1, cap1, cur, ho, _, q1, q2, q3, q4, q5⟩
      · rw [h1] at ho; cases ho
      · rw [h1] at ho
        cases ho
        exact ⟨cur, h1, q1, q4, q5⟩
  obtain ⟨cur, hη, g1, g2, g3⟩ := hη
  have hval : a.tmps.getD t undef = .slice (some ⟨b, 0, none⟩) m cap := by
    have h0 := h.slots t
    rcases ht with ⟨ht, rfl⟩ | ht
    · rw [ht] at h0
      have := (RepV.one_iff.1 h0).1
      rw [this, hη]
    · rw [ht] at h0
      obtain ⟨fl1, e1, s1, rows1, k1, k2, k3⟩ := RepV.one_iff.1 h0
      rw [hb] at k1
      cases k1
      rcases k3 with ⟨k3, _⟩ | ⟨b2, c2, cap2, k3, k4, k5, k6, k7⟩
      · rw [hη] at k3; cases k3
      · rw [hη] at k3
        cases k3
        rw [k4, Nat.zero_mul]
        rw [Nat.add_zero] at k7
        rw [k7]
  refine ⟨h.defers, .slice (some ⟨b, 0, none⟩) m cap, ?_, by rw [hl'], cur, ?_, g2, ?_⟩
  · unfold results
    have hfn' : fn.results = #[.tmp t] := by
      have := congrArg List.toArray hfn
      simpa using this
    rw [hfn']
    rw [Array.getD_eq_getD_getElem?] at hval
    simp [hval]
  · refine ⟨h.os, h.tape, h.output, by rw [putO_size]; exact h.size, fun k hk => ?_⟩
    by_cases ek : k = b
    · subst ek
      rw [putO_same _ hk]
      exact g1
    · rw [putO_other _ ek]
      exact (h.low k hk (own1_other ek)).2
  · have e1 : cur.toList.take (m * s) = xs.take (m * s) := by
      rw [← g3, List.take_take, Nat.min_eq_left (Nat.mul_le_mul_right _ hml)]
    have e2 := hr.take (m * s)
    rw [← take_rows hw hml, hm, rowsF_flatten] at e2
    rw [hl', e1]
    exact (scs_eq e2).1
/-- entering with an exact row and a function value -/
theorem enterXF {f : FuncId} {fn : Func} {c : Code} {g : FuncId} {cs : List Value} {R' : Ending → World → Prop} {b1 : Nat} {v : Value} {rows : List (List Leaf)}
    (hf : P.funcs[f]? = some fn) (hbd : fn.body = some c) (hN : fn.ntmps = N) (h2 : 2 ≤ N) (hv : RepL w none0 (.sl rows) v) (hc1 : ∀ v ∈ cs, v.oneCell' = true) (hgl : GlobOk none0 w) (hb1 : b1 < w.heap.size) (hcs : ∀ i v, cs[i]? = some v → w.cell? ⟨b1, i, none⟩ = some v)
    (h : W P none0 w N [.slot 0 (one (.xl v rows)), .slot 1 (one (.clo g [cs.map Leaf.sc]))] c (bodyPost P fn R')) : Calls P f #[v, .func (.func g) #[] #[.pointer (some ⟨b1, 0, none⟩)]] w R' := by
  refine calls_of_wp hf hbd (h _ _ ⟨fun _ => undef, none0, ?_⟩)
  have hty : ∀ k : Nat, (#[v, .func (.func g) #[] #[.pointer (some ⟨b1, 0, none⟩)]] ++ Array.replicate (fn.ntmps - 2) undef).getD k undef = (if k = 0 then v else if k = 1 then .func (.func g) #[] #[.pointer (some ⟨b1, 0, none⟩)] else undef) := fun k => by
    rw [Array.getD_eq_getD_getElem?]
    rcases k with _ | _ | k
    · rw [Array.getElem?_append_left (by simp)]; rfl
    · rw [Array.getElem?_append_left (by simp)]; rfl
    · rw [Array.getElem?_append_right (by simp)]
      simp only [Array.getElem?_replicate]
      split <;> simp
  refine { slots := fun k => ?_, blks := fun n b' hb' => (by cases hb'), live := fun k n hk => (by cases hk), low := fun k _ hk => ⟨hk, rfl⟩, os := rfl, tape := rfl, output := rfl, size := Nat.le_refl _, defers := rfl, width := ?_, glob := hgl, pin := fun _ k ls hk hbx => (by cases hk), pinA := PinA.no fun _ fl1 e1 s1 rows1 hbx => (by cases hbx) }
  · show RepV _ _ _ _ _ ((#[v, .func (.func g) #[] #[.pointer (some ⟨b1, 0, none⟩)]] ++ Array.replicate (fn.ntmps - 2) undef).getD k undef)
    rw [hty]
    by_cases e0 : k = 0
    · subst e0
      exact RepV.one_iff.2 ⟨rfl, hv⟩
    · by_cases e1 : k = 1
      · subst e1
        refine RepV.one_iff.2 ⟨[b1], rfl, rfl, fun j b2 c2 hj hc => ?_⟩
        rcases j with _ | j
        · simp only [List.getElem?_cons_zero, Option.some.injEq] at hj hc
          subst hj; subst hc
          exact ⟨rfl, hb1, cs, scs_rep hc1, fun i v hi => hcs i v hi⟩
        · simp at hj
      · have h1 : ¬ 0 = k := fun e => e0 e.symm
        have h3 : ¬ 1 = k := fun e => e1 e.symm
        simp only [getS, if_neg h1, if_neg h3]
        exact RepV.one_iff.2 trivial
  · simp
    omega
theorem At.retX {fn : Func} {t : Nat} {v : Value} {rows : List (List Leaf)} (hfn : fn.results.toList = [.tmp t]) (ht : getS st t = one (.xl v rows)) : At none0 w0 N st .ret (bodyPost P fn fun e' w' => e' = .returned v ∧ Below w0.heap.size w0 w') := by
  intro a w ⟨η, γ, h⟩
  have h0 := h.slots t
  rw [ht] at h0
  have hv := (RepV.one_iff.1 h0).1
  refine ⟨h.defers, v, ?_, rfl, h.os, h.tape, h.output, h.size, fun k hk => (h.low k hk rfl).2⟩
  unfold results
  have hfn' : fn.results = #[.tmp t] := by
    have := congrArg List.toArray hfn
    simpa using this
  rw [hfn']
  rw [Array.getD_eq_getD_getElem?] at hv
  simp [hv]
/-- the row of one's own with the name n is cut -/
theorem WL.opCut {ops : Array Oper} {r : List Oper} {d F g n n1 : Nat} {x0 x1 : Operand} {ts : Array TypeId} {ty : TypeId} {pos : String} {after : Array Edge} {α : Type} {enc : α → List Value} {s : Nat} {cs : List Value} {p : α → Bool} {fl : Fl} {e : Nat}
    (hf : Has P F) (hs : CutsBy P F g enc e s cs p) (hk : ∀ x, (enc x).length = s) (l : List α) (hl62 : l.length ≤ 8796093022207) (hN : d < N) (hn9 : n ≠ 999) (hnn : n1 ≠ n)
    (hp : ev st x0 = one (.all n)) (hg : ev st x1 = one (.fn g [n1])) (hb : getB st n = some (.arr fl e s (rowsF enc l))) (hb1 : getB st n1 = some (.box (cs.map PL.sc)))
    (h : WL P γ0 w0 N ops r (.slot d (one (.all n)) :: .blk n (.arr .ft e s (rowsF enc (l.filter fun x => !p x))) :: .kill n :: st) Q) :
    WL P γ0 w0 N ops (⟨some d, .call ⟨.value (.func F), #[x0, x1], ts⟩, ty, pos, after, none⟩ :: r) st Q := fun a w hR => by
  refine wpList_plain rfl fun K hK => ?_
  obtain ⟨η, γ, hI⟩ := hR
  have h0 := ev_sound hI x0
  have h1 := ev_sound hI x1
  rw [hg] at h1
  rw [hp] at h0
  obtain ⟨h1, -⟩ := RepV.one_iff.1 h1
  obtain ⟨h0, -⟩ := RepV.one_iff.1 h0
  have hrun := enter_of (P := P) hf (a := a) (w := w) (args := [x0, x1]) (ts := ts) (dst := some d) (ty := ty) (pos := pos) (after := after) (g := none)
  unfold Oper.wp
  rw [hrun]
  show Calls P F ([x0, x1].map a.eval).toArray w _
  obtain ⟨b1, us, t1, k1, k2, k3, k4⟩ := hI.blks n1 _ hb1
  have hus : us.toList = cs := by
    obtain ⟨m1, m2⟩ := k4
    rw [List.length_map] at m1
    refine List.ext_getElem? fun j => ?_
    cases hj : cs[j]? with
    | none => rw [List.getElem?_eq_none_iff] at hj ⊢; omega
    | some v =>
      obtain ⟨u, m3, m4⟩ := m2 j (.sc v) (by rw [List.getElem?_map, hj]; rfl)
      rw [m3]
      obtain ⟨rfl, _⟩ := m4
      rfl
  have hcell : ∀ i v, cs[i]? = some v → w.cell? ⟨b1, i, none⟩ = some v := fun i v hi => by
    rw [← hus] at hi
    simp only [World.cell?, k3, Option.isSome_none, Bool.false_eq_true, if_false]
    simpa using hi
  simp only [List.map_cons, List.map_nil, h1, h0, k1]
  obtain ⟨xs, ⟨ho1, ho2⟩, hr, hw, hgo, hff⟩ := hI.blks n _ hb
  rw [rowsF_flatten] at hr
  obtain ⟨rfl, hone⟩ := scs_eq hr
  rw [rowsF_len] at ho1 ho2
  have hvn : ∀ b, (η n).ownBlock = some b → γ b = some n := hgo
  have hflat : ∀ l' : List α, Fl.ft = .ft → ∀ row ∈ rowsF enc l', ∀ x ∈ row, ∃ v, x = Leaf.sc v := fun l' _ row hr x hx => by
    unfold rowsF at hr
    obtain ⟨y, _, rfl⟩ := List.mem_map.1 hr
    obtain ⟨v, _, rfl⟩ := List.mem_map.1 hx
    exact ⟨v, rfl⟩
  have hempty : l = [] → ∃ A c, η n = .slice A 0 c ∧ c ≤ maxLen := fun hl => by
    subst hl
    rcases ho2 with ⟨ho, _⟩ | ⟨b, cap, cur, ho, _, _, _, q3, _⟩
    · exact ⟨none, 0, ho, Nat.zero_le _⟩
    · exact ⟨_, _, ho, q3⟩
  by_cases hl0 : l = []
  · obtain ⟨A, c, hA, hc⟩ := hempty hl0
    subst hl0
    rw [hA]
    refine (hs.1 A c b1 w hI.globw hc (heap_lt k3) hcell).mono fun e' w' ⟨he, hw'⟩ => ?_
    subst he
    have h2 := hI.grow n d hN (fun _ => hn9) (fl := .ft) (e := e) (s := s) (rows := rowsF enc ([] : List α)) (v := η n) (v' := η n) (w' := w') (xs := []) hvn (by
        refine ⟨by simp [rowsF], ?_⟩
        rcases ho2 with ⟨ho, hz⟩ | ⟨b, cap, cur, ho, q0, q1, q2, q3, q4, q5⟩
        · exact .inl ⟨ho, rfl⟩
        · exact .inr ⟨b, cap, cur, ho, q0, by rw [hw'.block b (heap_lt q1)]; exact q1, Nat.zero_le _, q3, q4, by simp [rowsF]⟩)
      ⟨hw'.os, hw'.tape, hw'.output, hw'.size, fun k hk _ => hw'.block k hk⟩ (.inl rfl) (fun hk => ⟨by simp [rowsF], fun j x hj => by simp [rowsF] at hj⟩) (fun row hr => rowsF_wid hk _ row hr) rfl (hflat [])
    rw [hA] at h2
    exact hK _ _ (h _ _ h2)
  · have hlp : 0 < l.length := List.length_pos_iff.2 hl0
    rcases ho2 with ⟨_, hz⟩ | ⟨b, cap, cur, ho, q0, q1, q2, q3, q4, q5⟩
    · omega
    · have hgb : γ b = some n := hgo b (by rw [ho]; rfl)
      rw [ho]
      have hne : b1 ≠ b := fun e0 => by rw [e0, hgb] at k2; cases k2; exact hnn rfl
      have hglob : GlobOk (own1 b) w := fun g vs hg => by
        obtain ⟨m1, m2, m3⟩ := hI.globw g vs hg
        refine ⟨own1_other (fun e => ?_), m2, m3⟩
        obtain ⟨p1, p2, _⟩ := hI.glob g vs hg
        have := (hI.low g p2 p1).1
        rw [e, hgb] at this
        cases this
      refine (hs.2 b b1 cap cur l w hglob hne (heap_lt k3) hcell q1 hlp q2 q3 q4 q5 hl62 hone).mono fun e' w' ⟨he, cur', hbel, c1, c2⟩ => ?_
      subst he
      have hfl := List.length_filter_le (fun x => !p x) l
      generalize hl' : (l.filter fun x => !p x) = l' at *
      have hone' : ∀ v ∈ (l'.map enc).flatten, v.oneCell' = true := fun v hv => by
        obtain ⟨row, hr1, hr2⟩ := List.mem_flatten.1 hv
        obtain ⟨x, hx1, rfl⟩ := List.mem_map.1 hr1
        rw [← hl'] at hx1
        exact hone v (List.mem_flatten.2 ⟨_, List.mem_map.2 ⟨x, (List.mem_filter.1 hx1).1, rfl⟩, hr2⟩)
      have hlt := heap_lt q1
      have hpsz : w.heap.size ≤ w'.heap.size := by have := hbel.size; rw [putO_size] at this; exact this
      have h2 := hI.grow n d hN (fun _ => hn9) (fl := .ft) (e := e) (s := s) (rows := rowsF enc l') (v := η n) (v' := .slice (some ⟨b, 0, none⟩) l'.length cap) (w' := w') (xs := (l'.map enc).flatten) hvn
        ⟨by rw [rowsF_len, flat_lenK hk], .inr ⟨b, cap, cur', by rw [rowsF_len], q0, by rw [hbel.block b hlt, putO_same _ hlt], by rw [rowsF_len]; omega, q3, c1, by rw [rowsF_len]; exact c2⟩⟩
        ⟨hbel.os, hbel.tape, hbel.output, hpsz, fun k hk hkb => by
          rw [hbel.block k hk]
          exact putO_other _ fun e0 => hkb (by rw [ho, e0]; rfl)⟩
        (.inl (by rw [ho]; rfl)) (fun _ => by rw [rowsF_flatten]; exact scs_rep hone') (fun row hr => rowsF_wid hk _ row hr) rfl (hflat l')
      exact hK _ _ (h _ _ h2)
theorem zeroCells_len (z : Array Value) (n : Nat) : (Builtin.zeroCells z n).toList.length = n * z.size := by simp [Builtin.zeroCells]
theorem zeroCells_rep (z : Array Value) (n : Nat) : (Builtin.zeroCells z n).toList = (List.replicate n z.toList).flatten := by
  have hl : (List.replicate n z.toList).flatten.length = n * z.size := by rw [List.length_flatten]; simp
  refine List.ext_getElem? fun i => ?_
  by_cases hi : i < n * z.size
  · have hz : 0 < z.size := Nat.pos_of_ne_zero fun e => by rw [e] at hi; simp at hi
    have hm : i % z.size < z.size := Nat.mod_lt _ hz
    have hd : i / z.size < n := Nat.div_lt_of_lt_mul (by rw [Nat.mul_comm]; exact hi)
    have h1 := flatten_row (s := z.size) (rows := List.replicate n z.toList) (fun row hr => by rw [List.eq_of_mem_replicate hr]; simp) (i := i / z.size) (row := z.toList) (by simp [hd]) (i % z.size) hm
    rw [Nat.div_add_mod' i z.size] at h1
    rw [h1]
    simp [Builtin.zeroCells, hi, hm]
  · rw [List.getElem?_eq_none (by rw [zeroCells_len]; omega), List.getElem?_eq_none (by rw [hl]; omega)]
theorem zeroCells_one {z : Array Value} {n : Nat} (h : ∀ v ∈ z.toList, v.oneCell' = true) : ∀ v ∈ (Builtin.zeroCells z n).toList, v.oneCell' = true := by
  intro v hv
  simp only [Builtin.zeroCells, Array.toList_map, List.mem_map] at hv
  obtain ⟨i, hi, rfl⟩ := hv
  have hi : i < n * z.size := by simpa using hi
  have hz : 0 < z.size := Nat.pos_of_ne_zero fun e => by rw [e] at hi; simp at hi
  have hm : i % z.size < z.size := Nat.mod_lt _ hz
  rw [getElem!_pos z _ hm]
  exact h _ (by simp)
theorem run_clear {P : Program} {w : World} {t ty e s : Nat} {z : Value} (he : elT P t = some e) (hz : zeroT P e = some z) (hzs : z.cells.size = s) (h1 : ∀ v ∈ z.cells.toList, v.oneCell' = true) {b o n c : Nat} {cur : Array Value} {tt : TypeId} (hn : 0 < n) (hh : w.heap[b]? = some (.cells cur tt (0, 0))) (hf : o + n * s ≤ cur.size) :
    (Builtin.clear_ #[t] ty #[.slice (some ⟨b, o, none⟩) n c]).run P w = .ok (.tuple #[]) (w.setRow b (cur.toList.take o ++ (Builtin.zeroCells z.cells n).toList ++ cur.toList.drop (o + n * s)).toArray) := by
  have hlen := zeroCells_len z.cells n
  rw [hzs] at hlen
  have hst := run_storeCells_at P b o tt (Builtin.zeroCells z.cells n).toList 0 cur w hh (by rw [hlen]; simpa using hf) (zeroCells_one h1)
  rw [hlen] at hst
  simp only [Nat.add_zero] at hst
  have hzv : ∀ w, (zeroValue e).run P w = .ok z w := fun w => by
    obtain ⟨i, hi, hz'⟩ := Option.bind_eq_some_iff.1 hz
    simp [zeroValue, typeInfo, hi, hz']
  obtain ⟨m, rfl⟩ : ∃ m, n = m + 1 := ⟨n - 1, by omega⟩
  simp [Builtin.clear_, run_underlying (elT_sound he), hzv, hst]
/-- the end of a row of one's own is cleared; what stands ahead of it stays -/
theorem WL.opClear {ops : Array Oper} {r : List Oper} {n off len : Nat} {x0 : Operand} {t : TypeId} {ty : TypeId} {pos : String} {after : Array Edge} {s e : Nat} {z : Value} {zs : List Value} {fl : Fl} {rows : List (List Leaf)}
    (hp : ev st x0 = one (.ref n off len)) (hl : 0 < len) (hb : getB st n = some (.arr fl e s rows)) (hol : off + len = rows.length) (he : elT P t = some e) (hz : zeroT P e = some z) (hzs : z.cells.toList = zs) (hzl : zs.length = s) (h1 : ∀ v ∈ zs, v.oneCell' = true) (hs : 0 < s) (hns : fl.nst = false := by rfl)
    (h : ∀ rows', rows'.length = rows.length → rows'.take off = rows.take off → WL P γ0 w0 N ops r (.blk n (.arr .no e s rows') :: st) Q) :
    WL P γ0 w0 N ops (⟨none, .call ⟨.builtin .clear, #[x0], #[t]⟩, ty, pos, after, none⟩ :: r) st Q := fun a w hR => by
  subst hzs
  refine wpList_plain rfl fun K hK => ?_
  obtain ⟨η, γ, hI⟩ := hR
  have h0 := ev_sound hI x0
  rw [hp] at h0
  obtain ⟨fl1, e1, s1, rows1, k1, k2, k3⟩ := RepV.one_iff.1 h0
  rw [hb] at k1
  cases k1
  obtain ⟨xs, ⟨ho1, ho2⟩, hr, hw, hgo, hff⟩ := hI.blks n _ hb
  rw [vw_of hns] at hr
  rcases k3 with ⟨_, _, hz0⟩ | ⟨b, c, cap, k3, k4, k5, k6, k7⟩
  · omega
  rcases ho2 with ⟨ho, _⟩ | ⟨b1, cap1, cur, ho, _, q1, q2, q3, q4, q5⟩
  · rw [ho] at k3; cases k3
  rw [ho] at k3
  cases k3
  have hgb : γ b = some n := hgo b (by rw [ho]; rfl)
  have hzs : z.cells.size = s := by rw [← Array.length_toList]; exact hzl
  have hm : (off + len) * s ≤ c * s := Nat.mul_le_mul_right _ (by omega)
  rw [Nat.add_mul] at hm
  have hrun := run_clear (P := P) (w := w) (t := t) (ty := ty) (n := len) (c := cap) (o := off * s) he hz hzs h1 hl q1 (by omega)
  rw [← k4] at hrun
  rw [zeroCells_rep] at hrun
  have hzr := scs_rep (w := w.setRow b (cur.toList.take (off * s) ++ (List.replicate len z.cells.toList).flatten ++ cur.toList.drop (off * s + len * s)).toArray) (γ := γ) (l := (List.replicate len z.cells.toList).flatten) (fun v hv => by
    obtain ⟨row, hr1, hr2⟩ := List.mem_flatten.1 hv
    rw [List.eq_of_mem_replicate hr1] at hr2
    exact h1 v hr2)
  have hrl : ((List.replicate len (z.cells.toList.map Leaf.sc)).flatten) = ((List.replicate len z.cells.toList).flatten).map Leaf.sc := by
    rw [List.map_flatten, List.map_replicate]
  have hwt : ∀ row ∈ rows.take off, row.length = s := fun row hr => hw row (List.mem_of_mem_take hr)
  have hft : (rows.take off).flatten = rows.flatten.take (off * s) := by
    have e1 := flatten_len hwt
    have e2 : (rows.take off).flatten.length = off * s := by rw [e1, List.length_take]; congr 1; omega
    conv => rhs; rw [← List.take_append_drop off rows, List.flatten_append, ← e2, List.take_left]
  have hwid : ∀ row ∈ rows.take off ++ List.replicate len (z.cells.toList.map Leaf.sc), row.length = s := fun row hr => by
    rcases List.mem_append.1 hr with hr | hr
    · exact hwt row hr
    · rw [List.eq_of_mem_replicate hr, List.length_map, hzl]
  have hlen' : (rows.take off ++ List.replicate len (z.cells.toList.map Leaf.sc)).length = rows.length := by
    rw [List.length_append, List.length_take, List.length_replicate]; omega
  have hxl : xs.length = rows.length * s := ho1
  have hms : rows.length * s = off * s + len * s := by rw [← hol, Nat.add_mul]
  have hxt : (xs.take (off * s)).length = off * s := by rw [List.length_take]; omega
  have hzfl : (List.replicate len z.cells.toList).flatten.length = len * s := by rw [List.length_flatten]; simp [hzl]
  have hct : cur.toList.take (off * s) = xs.take (off * s) := by
    rw [← q5, List.take_take, Nat.min_eq_left (by omega)]
  have hcz : cur.toList.length = cur.size := by simp
  refine wp_value (u := .tuple #[]) (w' := w.setRow b (cur.toList.take (off * s) ++ (List.replicate len z.cells.toList).flatten ++ cur.toList.drop (off * s + len * s)).toArray) (by unfold execOp; simp [resolve, invoke, builtin, hrun]) (hK _ _ (h (rows.take off ++ List.replicate len (z.cells.toList.map Leaf.sc)) hlen' (by rw [List.take_append_of_le_length (by rw [List.length_take]; omega), List.take_take, Nat.min_self]) _ _ ⟨η, γ, ?_⟩))
  refine hI.turn n _ _ hb b hgb _ ⟨rfl, rfl, hlen', fun e' => by rw [hns] at e'; cases e'⟩ fun hn hk => ⟨xs.take (off * s) ++ (List.replicate len z.cells.toList).flatten, ⟨by rw [List.length_append, hxt, hzfl, hlen', hms], .inr ⟨b, c, _, by rw [hlen']; exact ho, Nat.zero_le _, setRow_heap w b cur _ e _ q1, by rw [hlen']; exact q2, q3, by
      simp only [List.size_toArray, List.length_append, List.length_take, List.length_drop, hzfl, hcz]
      omega, by
      rw [List.toList_toArray, hlen', hct, List.take_append_of_le_length (by rw [List.length_append, hxt, hzfl]; omega), List.take_of_length_le (by rw [List.length_append, hxt, hzfl]; omega)]⟩⟩, ?_, hwid, hgo, ⟨fun hf => (by cases hf), fun hf => (by cases hf)⟩⟩
  rw [vw_of rfl, List.flatten_append, hrl, hft]
  refine RepLs.append ?_ hzr
  refine RepLs.kp hk ⟨by rw [List.length_take, List.length_take, hr.1], fun j x hj => ?_⟩
  rw [List.getElem?_take] at hj ⊢
  split at hj
  · rename_i hlt
    rw [if_pos hlt]
    exact hr.2 j x hj
  · cases hj
end
def idxP {α : Type} (p : α → Bool) (l : List α) : Int := if l.findIdx p < l.length then (l.findIdx p : Int) else -1
theorem idxP_at {α : Type} {p : α → Bool} {l : List α} {k : Nat} (hk : k < l.length) (hn : ∀ j, (h : j < k) → p l[j] = false) (hx : p l[k] = true) : idxP p l = k := by
  have : l.findIdx p = k := (List.findIdx_eq hk).2 ⟨hx, fun j hj => hn j hj⟩
  unfold idxP
  rw [this, if_pos hk]
theorem idxP_no {α : Type} {p : α → Bool} {l : List α} (hn : ∀ j, (h : j < l.length) → p l[j] = false) : idxP p l = -1 := by
  unfold idxP
  rw [if_neg]
  intro h
  have h1 := List.findIdx_getElem (p := p) (w := h)
  rw [hn _ h] at h1
  cases h1
end Go.Proofs.YtimnogjgokljbaaGreatDoor
