/-
  Put together: EvSort EvBookQ.
-/
import Derived.Shelf.SlSortCmp.NoneTotal
import Derived.Test.YtimnogjgokljbaaDoorHEvCut
import Derived.Test.YtimnogjgokljbaaDoorHEvBookO
import Derived.Test.YtimnogjgokljbaaDoorSortL
section
/-!
  slices.SortFunc upon a row of one's own: what the library's contract says, in this evaluator's words.
-/
namespace Go.Proofs.YtimnogjgokljbaaDoor
set_option maxRecDepth 100000
set_option linter.unusedVariables false
set_option linter.unusedSimpArgs false
open Go Go.RowKit Go.Shelf Go.Sort

/-- F, called with g's function value, sorts a row in place by cf -/
def SortsBy (P : Program) (F g : FuncId) {α : Type} (enc : α → List Value) (k : Nat) (cf : α → α → Int) : Prop :=
  (∀ A cap w, Calls P F #[.slice A 0 cap, .func (.func g) #[] #[]] w fun e w' => e = .returned (.tuple #[]) ∧ w' = w) ∧
  ∀ (b off cap : Nat) (cur : Array Value) (ty : TypeId) (l : List α) (w : World), w.heap[b]? = some (.cells cur ty (0, 0)) → off + l.length * k ≤ cur.size → (∀ j v, ((l.map enc).flatten)[j]? = some v → cur[off + j]? = some v) → l.length < 4611686018427387904 →
    Calls P F #[.slice (some ⟨b, off, none⟩) l.length cap, .func (.func g) #[] #[]] w fun e w' => e = .returned (.tuple #[]) ∧ ∃ l' : List α, l'.Perm l ∧ l'.Pairwise (fun x y => ¬ cf y x < 0) ∧ w'.os = w.os ∧ w'.tape = w.tape ∧ w'.output = w.output ∧ w.heap.size ≤ w'.heap.size ∧ (∀ q, q < w.heap.size → q ≠ b → w'.heap[q]? = w.heap[q]?) ∧
      ∃ cur' : Array Value, w'.heap[b]? = some (.cells cur' ty (0, 0)) ∧ cur'.size = cur.size ∧ (∀ j, j < off ∨ off + l.length * k ≤ j → cur'[j]? = cur[j]?) ∧ ∀ j v, ((l'.map enc).flatten)[j]? = some v → cur'[off + j]? = some v
/-- what the comparing function says -/
def CmpSays (P : Program) (g : FuncId) {α : Type} (enc : α → List Value) (cf : α → α → Int) : Prop := ∀ x y w, Calls P g #[.agg (enc x).toArray, .agg (enc y).toArray] w fun e w' => e = .returned (.int .i64 (cf x y)) ∧ ∃ os', w' = grow w os'

section
variable {α : Type} {enc : α → List Value} {k : Nat}
theorem flatK_get [Inhabited α] (hk : ∀ x, (enc x).length = k) (l : List α) (t : Nat) (ht : t < l.length * k) : ((l.map enc).flatten)[t]? = some (flatK enc k l.toArray)[t]! := by
  have k0 : 0 < k := by
    rcases Nat.eq_zero_or_pos k with h | h
    · subst h; simp at ht
    · exact h
  have hi : t / k < l.length := Nat.div_lt_of_lt_mul (by rw [Nat.mul_comm]; exact ht)
  have hm : t % k < k := Nat.mod_lt _ k0
  have h1 := flatten_row (s := k) (rows := l.map enc) (fun row hr => by
    obtain ⟨x, _, rfl⟩ := List.mem_map.1 hr
    exact hk x) (i := t / k) (row := enc l[t / k]) (by simp [hi]) (t % k) hm
  rw [Nat.div_add_mod' t k] at h1
  rw [h1, get_flatK _ _ _ _ (by simpa using ht)]
  have h2 : (l.toArray[t / k]!) = l[t / k] := by simp [hi]
  rw [h2, getElem!_pos _ _ (by rw [hk]; exact hm), List.getElem?_eq_getElem (by rw [hk]; exact hm)]
theorem sorts_of [Inhabited α] {P : Program} {ρ : Ren} (L : SlLaysF0.n6 P ρ) (aE : ∀ w, (isAgg (ρ.t 24)).run P w = .ok true w) (zE : ∀ w, (Go.sizeOf (ρ.t 24)).run P w = .ok k w) (hk : ∀ x, (enc x).length = k) (h1 : ∀ x, ∀ v ∈ enc x, v.oneCell' = true) (cf : α → α → Int) (hO : SWO (ltOf cf)) {g : FuncId}
    (eg : ∀ args w, (callFunc g args).run P w = .ok (.enter g args) w) (hc : CmpSays P g enc cf) : SortsBy P (ρ.f 6) g enc k cf := by
  refine ⟨fun A cap w => AnyF.slices_SortFunc_none L A cap _ w, fun b off cap cur ty l w hh hoff hcells hlen => ?_⟩
  have hblk := heap_lt hh
  have hH : HoldsK enc k w b off l.toArray := by
    intro j hj
    rw [size_flatK] at hj
    have hj' : j < l.length * k := by simpa using hj
    have h3 := hcells j _ (flatK_get hk l j hj')
    refine ⟨?_, ?_⟩
    · simp only [World.cell?, hh, Option.isSome_none, Bool.false_eq_true, if_false, id, h3]
    · simp only [World.frozen?, hh]
      simp
  have hcmp : CmpLays P g #[] enc k cf b off l.toArray.size w := fun m os dk _ x y => (hc x y _).mono fun e w' ⟨he, os', hw⟩ => ⟨he, 0, os', hw⟩
  have hcon := AnyQ.slices_SortFunc L k aE zE enc hk h1 cf hO g #[] b off cap l.toArray w eg hcmp hH hblk (by simpa using hlen)
  rw [List.size_toArray] at hcon
  refine hcon.mono ?_
  rintro e w' ⟨he, d', n, os, ⟨p1, p2, p3⟩, hs, rfl⟩
  have hds : d'.size = l.length := by simpa using p1
  have hlt : b < (putRowK enc k (Sort.ahead w n) b off d').heap.size := by rw [size_putRowK]; exact hblk
  have hold : ∀ q, q < w.heap.size → (sortWorldK enc k w b off n d' os).heap[q]? = (putRowK enc k (Sort.ahead w n) b off d').heap[q]? := fun q hq => by
    simp only [sortWorldK, grow]
    exact Array.getElem?_append_left (by rw [size_putRowK]; exact hq)
  refine ⟨he, d'.toList, ?_, ?_, rfl, rfl, rfl, ?_, ?_, putCells id off (flatK enc k d') cur, ?_, ?_, ?_, ?_⟩
  · have e1 : d'.extract 0 l.length = d' := by rw [← hds]; simp
    have e2 : l.toArray.extract 0 l.length = l.toArray := by simp
    rw [e1, e2] at p3
    simpa using p3
  · rw [List.pairwise_iff_getElem]
    intro i j hi hj hij
    have hi' : i < d'.size := by simpa using hi
    have hj' : j < d'.size := by simpa using hj
    have := hs i j (Nat.zero_le _) hij (by omega)
    rw [getElem!_pos d' j hj', getElem!_pos d' i hi'] at this
    simp only [ltOf, decide_eq_false_iff_not] at this
    simpa using this
  · simp [sortWorldK, grow, putRowK]
  · intro q hq hne
    rw [hold q hq]
    simp only [putRowK, putRow, mapBlock]
    rw [Array.getElem?_modify, if_neg (fun e => hne e.symm)]
    rfl
  · rw [hold b hblk]
    simp only [putRowK, putRow, mapBlock]
    rw [Array.getElem?_modify, if_pos rfl]
    show Option.map _ w.heap[b]? = _
    rw [hh]
    rfl
  · simp [putCells]
  · intro j hj
    simp only [putCells, Array.getElem?_mapIdx]
    have : ¬ (off ≤ j ∧ j < off + (flatK enc k d').size) := by rw [size_flatK, hds]; omega
    cases cur[j]? with
    | none => rfl
    | some x => rw [Option.map_some, if_neg this]
  · intro j v hv
    have hlen2 : ((d'.toList.map enc).flatten).length = l.length * k := by
      have e3 := flat_lenK hk d'.toList
      rw [e3, Array.length_toList, hds]
    have hj : j < l.length * k := by rw [← hlen2]; exact (List.getElem?_eq_some_iff.1 hv).1
    have h3 := flatK_get hk d'.toList j (by simpa [hds] using hj)
    rw [hv] at h3
    simp only [Array.toArray_toList, Option.some.injEq] at h3
    simp only [putCells, Array.getElem?_mapIdx]
    have hin : off ≤ off + j ∧ off + j < off + (flatK enc k d').size := by rw [size_flatK, hds]; omega
    rw [Array.getElem?_eq_getElem (by omega), Option.map_some, if_pos hin, Nat.add_sub_cancel_left, h3]
    rfl
end

section
variable {P : Program} {γ0 : Nat → Option Nat} {w0 : World} {N : Nat} {st : St} {a : Act} {w : World} {η : Nat → Value} {γ : Nat → Option Nat} {Q : Exit → Act → World → Prop}
/-- a row of one's own turns in place, and new blocks are laid -/
theorem Inv.turnW (h : Inv γ0 w0 N st a w η γ) (n : Nat) {fl : Bool} {e s : Nat} {rows rows' : List (List Leaf)} (hb0 : getB st n = some (.arr fl e s rows)) (hlen : rows'.length = rows.length) (g : Nat) (hg : γ g = some n) (w' : World)
    (hos : w'.os = w.os) (htape : w'.tape = w.tape) (hout : w'.output = w.output) (hsize : w.heap.size ≤ w'.heap.size) (hold : ∀ k, k < w.heap.size → k ≠ g → w'.heap[k]? = w.heap[k]?)
    (hB : RepB (getB (.blk n (.arr fl e s rows') :: st)) η γ w' n (.arr fl e s rows')) :
    Inv γ0 w0 N (.blk n (.arr fl e s rows') :: st) a w' η γ := by
  have hlive : ∀ k m, γ k = some m → k < w.heap.size := fun k m hk => (h.live k m hk).1
  have hk : Kp w w' γ γ := ⟨hsize, fun k hk hgk => ⟨hgk, hold k hk (fun e => by rw [e, hg] at hgk; cases hgk)⟩⟩
  have hget : ∀ m, m ≠ n → getB (.blk n (.arr fl e s rows') :: st) m = getB st m := fun m hm => if_neg (fun e => hm e.symm)
  have hn : Nm (getB st) (getB (.blk n (.arr fl e s rows') :: st)) η η (fun _ => True) := by
    intro m b' _ hb
    refine ⟨rfl, ?_⟩
    by_cases hm : m = n
    · subst hm
      rw [hb0] at hb
      cases hb
      exact ⟨fl, rows', if_pos rfl, hlen⟩
    · cases b' with
      | arr fl e s rows => exact ⟨fl, rows, by rw [hget m hm]; exact hb, rfl⟩
      | box ls => exact ⟨ls, by rw [hget m hm]; exact hb⟩
  have hgm : ∀ m b0, m ≠ n → γ b0 = some m → γ b0 = some m ∧ w'.heap[b0]? = w.heap[b0]? := fun m b0 hm hb0 => ⟨hb0, hold b0 (hlive b0 m hb0) (fun e => by rw [e, hg] at hb0; cases hb0; exact hm rfl)⟩
  refine { h with slots := fun t => (h.slots t).kp hn hk, blks := fun m b' hb => ?_, live := fun b0 m hb => ?_, low := fun b0 hb hg0 => ?_, size := Nat.le_trans h.size hsize, os := hos.trans h.os, tape := htape.trans h.tape, output := hout.trans h.output, pin := fun h9 b2 ls hb hbx => ?_, pinA := h.pinA.to fun h9 fl1 e1 s1 rows1 hbx => ⟨rfl, ?_⟩ }
  · by_cases hm : m = n
    · subst hm
      rw [getB_hit] at hb
      cases hb
      exact hB
    · rw [hget m hm] at hb
      have h1 := h.blks m b' hb
      cases b' with
      | box ls => exact RepB.kp_box hn hk h1 rfl (hgm m · hm)
      | arr fl e s rows => exact RepB.kp_arr hk h1 rfl (hgm m · hm)
  · obtain ⟨h1, h2, h3⟩ := h.live b0 m hb
    refine ⟨Nat.lt_of_lt_of_le h1 hsize, h2, ?_⟩
    by_cases hm : m = n
    · subst hm; simp [getB]
    · rw [hget m hm]; exact h3
  · obtain ⟨h1, h2⟩ := h.low b0 hb hg0
    exact ⟨h1, by rw [hold b0 (Nat.lt_of_lt_of_le hb h.size) (fun e => by rw [e, hg] at h1; cases h1)]; exact h2⟩
  · by_cases hm : (999 : Nat) = n
    · subst hm
      rw [getB_hit] at hbx
      cases hbx
    · rw [hget 999 hm] at hbx
      exact h.pin h9 b2 ls hb hbx
  · by_cases hm : (999 : Nat) = n
    · subst hm
      rw [getB_hit] at hbx
      cases hbx
      exact ⟨_, _, hb0, hlen⟩
    · rw [hget 999 hm] at hbx
      exact ⟨_, _, hbx, rfl⟩

/-- the first m rows of a row of one's own are sorted -/
theorem WL.opSort {ops : Array Oper} {r : List Oper} {d F g n m : Nat} {x0 x1 : Operand} {ts : Array TypeId} {ty : TypeId} {pos : String} {after : Array Edge} {α : Type} {enc : α → List Value} {s : Nat} {cf : α → α → Int} {fl : Bool} {e : Nat}
    (hf : Has P F) (hs : SortsBy P F g enc s cf) (hk : ∀ x, (enc x).length = s) (l : List α) (hl62 : l.length < 4611686018427387904) (hN : d < N)
    (hp : (ev st x0 = one (.all n) ∧ m = l.length) ∨ (ev st x0 = one (.ref n 0 m))) (hg : ev st x1 = one (.fn g [])) (hb : getB st n = some (.arr fl e s (rowsF enc l)))
    (h : ∀ l' : List α, l'.Perm (l.take m) → l'.Pairwise (fun x y => ¬ cf y x < 0) → WL P γ0 w0 N ops r (.slot d (.tup []) :: .blk n (.arr fl e s (rowsF enc (l' ++ l.drop m))) :: st) Q) :
    WL P γ0 w0 N ops (⟨some d, .call ⟨.value (.func F), #[x0, x1], ts⟩, ty, pos, after, none⟩ :: r) st Q := fun a w hR => by
  refine wpList_plain rfl fun K hK => ?_
  obtain ⟨η, γ, hI⟩ := hR
  have h0 := ev_sound hI x0
  have h1 := ev_sound hI x1
  rw [hg] at h1
  obtain ⟨h1, -⟩ := RepV.one_iff.1 h1
  have hrun := enter_of (P := P) hf (a := a) (w := w) (args := [x0, x1]) (ts := ts) (dst := some d) (ty := ty) (pos := pos) (after := after) (g := none)
  unfold Oper.wp
  rw [hrun]
  show Calls P F ([x0, x1].map a.eval).toArray w _
  simp only [List.map_cons, List.map_nil, h1]
  obtain ⟨xs, ⟨ho1, ho2⟩, hr, hw, hgo, hff⟩ := hI.blks n _ hb
  rw [rowsF_flatten] at hr
  obtain ⟨rfl, hone⟩ := scs_eq hr
  rw [rowsF_len] at ho1 ho2
  have hval : ∃ A c, a.eval x0 = .slice A m c ∧ m ≤ l.length ∧ ((m = 0) ∨ ∃ b cap cur, A = some ⟨b, 0, none⟩ ∧ γ b = some n ∧ η n = .slice (some ⟨b, 0, none⟩) l.length cap ∧ w.heap[b]? = some (.cells cur e (0, 0)) ∧ l.length ≤ cap ∧ cap ≤ maxLen ∧ cur.size = cap * s ∧ cur.toList.take (l.length * s) = (l.map enc).flatten) := by
    rcases hp with ⟨hp, rfl⟩ | hp
    · rw [hp] at h0
      obtain ⟨h0, -⟩ := RepV.one_iff.1 h0
      rcases ho2 with ⟨ho, hz⟩ | ⟨b, cap, cur, ho, _, q1, q2, q3, q4, q5⟩
      · exact ⟨none, 0, by rw [h0, ho, hz], Nat.le_refl _, .inl hz⟩
      · exact ⟨some ⟨b, 0, none⟩, cap, by rw [h0, ho], Nat.le_refl _, .inr ⟨b, cap, cur, rfl, hgo b (by rw [ho]; rfl), ho, q1, q2, q3, q4, q5⟩⟩
    · rw [hp] at h0
      obtain ⟨fl1, e1, s1, rows1, k1, k2, k3⟩ := RepV.one_iff.1 h0
      rw [hb] at k1
      cases k1
      rw [rowsF_len] at k2 k3
      rcases k3 with ⟨_, k3, rfl⟩ | ⟨b, c, cap, k3, k4, k5, k6, _⟩
      · exact ⟨none, 0, k3, Nat.zero_le _, .inl rfl⟩
      · rcases ho2 with ⟨ho, hz⟩ | ⟨b1, cap1, cur, ho, _, q1, q2, q3, q4, q5⟩
        · rw [ho] at k3; cases k3
        · rw [ho] at k3
          cases k3
          exact ⟨some ⟨b, 0, none⟩, cap, by rw [k4, Nat.zero_mul], by omega, .inr ⟨b, _, cur, rfl, hgo b (by rw [ho]; rfl), ho, q1, q2, q3, q4, q5⟩⟩
  obtain ⟨A, c, hx, hm, hval⟩ := hval
  rw [hx]
  have tupRep : ∀ {hb : Nat → Option Blk} {w : World}, RepV hb η γ w (.tup []) (.tuple #[]) := ⟨[], rfl, rfl, fun j g ls hj => by simp at hj⟩
  rcases hval with rfl | ⟨b, cap, cur, rfl, hgb, hηn, q1, q2, q3, q4, q5⟩
  · refine (hs.1 A c w).mono fun e' w' ⟨he, hw'⟩ => ?_
    subst he; subst hw'
    have h2 := hI.turnW n (rows' := rowsF enc l) hb rfl
    have hI2 : R γ0 w0 N (.slot d (.tup []) :: .blk n (.arr fl e s (rowsF enc ([] ++ l.drop 0))) :: st) (a.put (some d) (.tuple #[])) w' := by
      have hI3 : R γ0 w0 N (.slot d (.tup []) :: st) (a.put (some d) (.tuple #[])) w' := ⟨η, γ, hI.put d _ _ hN tupRep⟩
      refine R.congr (fun t => ?_) (fun q => ?_) hI3
      · rfl
      · simp only [getB, List.nil_append, List.drop_zero]
        split
        · rename_i e0; rw [← e0]; exact hb
        · rfl
    exact hK _ _ (h [] (by simp) List.Pairwise.nil _ _ hI2)
  · have hls : (l.take m).length = m := by simp; omega
    have hcap : l.length * s ≤ cap * s := Nat.mul_le_mul_right _ q2
    have hms : m * s ≤ l.length * s := Nat.mul_le_mul_right _ hm
    have hcur : ∀ j v, (((l.map enc).flatten))[j]? = some v → cur[j]? = some v := fun j v hj => by
      rw [← q5, List.getElem?_take] at hj
      split at hj
      · simpa using hj
      · cases hj
    have hsplit : (l.map enc).flatten = ((l.take m).map enc).flatten ++ ((l.drop m).map enc).flatten := by
      rw [← List.flatten_append, ← List.map_append, List.take_append_drop]
    have hcall := hs.2 b 0 c cur e (l.take m) w q1 (by rw [hls]; omega) (fun j v hj => by
      rw [Nat.zero_add]
      refine hcur j v ?_
      rw [hsplit, List.getElem?_append_left (List.getElem?_eq_some_iff.1 hj).1]
      exact hj) (by rw [hls]; omega)
    rw [hls] at hcall
    refine hcall.mono fun e' w' ⟨he, l', hperm, hsort, hos, htape, hout, hsize, hold, cur', k1, k2, k3, k4⟩ => ?_
    subst he
    have hl' : l'.length = m := by rw [hperm.length_eq, hls]
    have hone' : ∀ v ∈ ((l' ++ l.drop m).map enc).flatten, v.oneCell' = true := fun v hv => by
      refine hone v ?_
      rw [hsplit]
      rw [List.map_append, List.flatten_append] at hv
      rcases List.mem_append.1 hv with hv | hv
      · refine List.mem_append_left _ ?_
        obtain ⟨row, hr1, hr2⟩ := List.mem_flatten.1 hv
        obtain ⟨x, hx1, rfl⟩ := List.mem_map.1 hr1
        exact List.mem_flatten.2 ⟨_, List.mem_map.2 ⟨x, hperm.mem_iff.1 hx1, rfl⟩, hr2⟩
      · exact List.mem_append_right _ hv
    have hlenT : (l' ++ l.drop m).length = l.length := by simp [hl']; omega
    have hflT : (((l' ++ l.drop m).map enc).flatten).length = l.length * s := by rw [flat_lenK hk, hlenT]
    have hcells : ∀ j v, (((l' ++ l.drop m).map enc).flatten)[j]? = some v → cur'[j]? = some v := fun j v hj => by
      rw [List.map_append, List.flatten_append, List.getElem?_append] at hj
      have e1 := flat_lenK hk l'
      rw [hl'] at e1
      rw [e1] at hj
      split at hj
      · have := k4 j v hj
        rwa [Nat.zero_add] at this
      · rename_i hlt
        rw [k3 j (.inr (by omega))]
        refine hcur j v ?_
        rw [hsplit, List.getElem?_append_right (by rw [flat_lenK hk, hls]; omega), flat_lenK hk, hls]
        exact hj
    have hI2 := hI.turnW n (rows' := rowsF enc (l' ++ l.drop m)) hb (by rw [rowsF_len, rowsF_len, hlenT]) b hgb w' hos htape hout hsize hold
      ⟨((l' ++ l.drop m).map enc).flatten, ⟨by rw [hflT, rowsF_len, hlenT], .inr ⟨b, cap, cur', by rw [rowsF_len, hlenT]; exact hηn, Nat.zero_le _, k1, by rw [rowsF_len, hlenT]; exact q2, q3, by rw [k2]; exact q4, by
        rw [rowsF_len, hlenT]
        refine List.ext_getElem? fun j => ?_
        rw [List.getElem?_take]
        split
        · rename_i hlt
          have hj : j < (((l' ++ l.drop m).map enc).flatten).length := by rw [hflT]; exact hlt
          have := hcells j _ (List.getElem?_eq_getElem hj)
          rw [Array.getElem?_toList, this, List.getElem?_eq_getElem hj]
        · rename_i hlt
          rw [List.getElem?_eq_none (by rw [hflT]; omega)]⟩⟩, by rw [rowsF_flatten]; exact scs_rep hone', fun row hr => rowsF_wid hk _ row hr, hgo, fun _ row hr x hx => by
          unfold rowsF at hr
          obtain ⟨y, _, rfl⟩ := List.mem_map.1 hr
          obtain ⟨v, _, rfl⟩ := List.mem_map.1 hx
          exact ⟨v, rfl⟩⟩
    exact hK _ _ (h l' hperm hsort _ _ ⟨η, γ, hI2.put d _ _ hN tupRep⟩)
end
section
variable {γ0 : Nat → Option Nat} {w0 : World} {N : Nat} {st : St} {Q : Exit → Act → World → Prop}
/-- a whole row of one's own is sorted -/
theorem WL.opSortA {ops : Array Oper} {r : List Oper} {d F g n : Nat} {x0 x1 : Operand} {ts : Array TypeId} {ty : TypeId} {pos : String} {after : Array Edge} {α : Type} {enc : α → List Value} {s : Nat} {cf : α → α → Int} {fl : Bool} {e : Nat}
    (hf : Has Tryd.prog F) (hs : SortsBy Tryd.prog F g enc s cf) (hk : ∀ x, (enc x).length = s) (l : List α) (hl62 : l.length < 4611686018427387904) (hN : d < N := by decide)
    (hp : ev st x0 = one (.all n) := by simp (config := { maxSteps := 1000000 }) (disch := first | assumption | omega) only [TY, ar_u64, binE, eqCells, eqVal, eqOp, step_mk, makeE, List.toList_toArray, Value.oneCell', step_fnv, step_makeFunc, ev_func, callV, cells_agg, cells_int, cells_bool, cells_str, cells_sl, List.size_toArray, flatB_nil, flatB_cons, wid_nil, wid_cons, rowsF_len, rowsF_flat, rowsF_app, step_build, buildE, fillE, indexSlE, indexArrE, shiftE, indexArrV, indexStE, step_move, step_assign, step_pick, step_load, step_nilCheck, step_binOp, step_unOp, step_convert, step_slice, step_fieldAddr, step_field, step_indexAddr, step_index, step_extract, step_len, step_min, step_max, step_alloc, step_box, step_lit, step_app, step_fn, step_store, putV_some, getS_hit, getS_miss, getS_blk, getS_kill, getS_nil, getB_nil, getB_slot, getB_hit, getB_miss, getB_kill0, getB_kill1, ev_tmp, ev_int, ev_bool, ev_str, ev_nil, ev_agg, cl_int, cl_bool, cl_str, cl_nil, loadE, loadV, fieldAddrE, fieldE, partV, indexAddrE, lenE, lenO, strIdx, indexE, boundE, subE, sliceE, convE, minE, scal, nilE, tupE, capsE, optE, pickE, pbin, pint, pstr, pun, ar_in, ar_u32, ar_u8, allocE, boxE, litE, rowsO, leafO, leafsO, frz, clr, rowsOf, destOf, appE, storeE, argO, argsO, boxesO, callG, callE, impE, pvR, pvs, pvRL, pvT, owns, ownsT, ownsR, clrL, withB, PV.kill, PL.kill, PL.names, Blk.kill, PL.live, toPL, resV, resO, compsO, compO, rlsO, rlO, toRes, Leaf.isSc, List.map_cons, List.map_nil, List.all_cons, List.all_nil, List.length_cons, List.length_nil, List.drop_zero, List.drop_succ_cons, List.take_succ_cons, List.take_zero, List.drop_nil, List.take_nil, List.getElem?_cons_zero, List.getElem?_cons_succ, List.getElem?_nil, Option.map_some, Option.map_none, Option.bind_some, Option.isSome_some, Option.isSome_none, List.cons_append, List.nil_append, List.append_nil, if_true, if_false, reduceIte, Nat.reduceLT, Nat.reduceBEq, Nat.reduceLeDiff, Nat.reduceEqDiff, Nat.reduceAdd, Nat.reduceMul, Nat.zero_add, Nat.add_zero, Nat.mul_one, Int.reduceToNat, Bool.and_true, Bool.true_and, Bool.false_and, Bool.and_false, Bool.not_true, Bool.not_false, Bool.false_eq_true, decide_true, decide_false, and_self, and_true, true_and, or_true, true_or, or_false, false_or, if_pos, if_neg, Int.toNat_natCast, decide_eq_true, decide_eq_false, look_hit, look_miss, Int.ofNat_eq_natCast, Bool.or_false, Bool.or_true, Bool.true_or, Bool.false_or, Bool.not_eq_true, beq_self_eq_true, ne_eq, not_false_eq_true, not_true_eq_false, eq_self, *] <;> rfl) (hg : ev st x1 = one (.fn g []) := by rfl) (hb : getB st n = some (.arr fl e s (rowsF enc l)) := by simp (config := { maxSteps := 1000000 }) (disch := first | assumption | omega) only [TY, ar_u64, binE, eqCells, eqVal, eqOp, step_mk, makeE, List.toList_toArray, Value.oneCell', step_fnv, step_makeFunc, ev_func, callV, cells_agg, cells_int, cells_bool, cells_str, cells_sl, List.size_toArray, flatB_nil, flatB_cons, wid_nil, wid_cons, rowsF_len, rowsF_flat, rowsF_app, step_build, buildE, fillE, indexSlE, indexArrE, shiftE, indexArrV, indexStE, step_move, step_assign, step_pick, step_load, step_nilCheck, step_binOp, step_unOp, step_convert, step_slice, step_fieldAddr, step_field, step_indexAddr, step_index, step_extract, step_len, step_min, step_max, step_alloc, step_box, step_lit, step_app, step_fn, step_store, putV_some, getS_hit, getS_miss, getS_blk, getS_kill, getS_nil, getB_nil, getB_slot, getB_hit, getB_miss, getB_kill0, getB_kill1, ev_tmp, ev_int, ev_bool, ev_str, ev_nil, ev_agg, cl_int, cl_bool, cl_str, cl_nil, loadE, loadV, fieldAddrE, fieldE, partV, indexAddrE, lenE, lenO, strIdx, indexE, boundE, subE, sliceE, convE, minE, scal, nilE, tupE, capsE, optE, pickE, pbin, pint, pstr, pun, ar_in, ar_u32, ar_u8, allocE, boxE, litE, rowsO, leafO, leafsO, frz, clr, rowsOf, destOf, appE, storeE, argO, argsO, boxesO, callG, callE, impE, pvR, pvs, pvRL, pvT, owns, ownsT, ownsR, clrL, withB, PV.kill, PL.kill, PL.names, Blk.kill, PL.live, toPL, resV, resO, compsO, compO, rlsO, rlO, toRes, Leaf.isSc, List.map_cons, List.map_nil, List.all_cons, List.all_nil, List.length_cons, List.length_nil, List.drop_zero, List.drop_succ_cons, List.take_succ_cons, List.take_zero, List.drop_nil, List.take_nil, List.getElem?_cons_zero, List.getElem?_cons_succ, List.getElem?_nil, Option.map_some, Option.map_none, Option.bind_some, Option.isSome_some, Option.isSome_none, List.cons_append, List.nil_append, List.append_nil, if_true, if_false, reduceIte, Nat.reduceLT, Nat.reduceBEq, Nat.reduceLeDiff, Nat.reduceEqDiff, Nat.reduceAdd, Nat.reduceMul, Nat.zero_add, Nat.add_zero, Nat.mul_one, Int.reduceToNat, Bool.and_true, Bool.true_and, Bool.false_and, Bool.and_false, Bool.not_true, Bool.not_false, Bool.false_eq_true, decide_true, decide_false, and_self, and_true, true_and, or_true, true_or, or_false, false_or, if_pos, if_neg, Int.toNat_natCast, decide_eq_true, decide_eq_false, look_hit, look_miss, Int.ofNat_eq_natCast, Bool.or_false, Bool.or_true, Bool.true_or, Bool.false_or, Bool.not_eq_true, beq_self_eq_true, ne_eq, not_false_eq_true, not_true_eq_false, eq_self, *] <;> rfl)
    (h : ∀ l' : List α, l'.Perm l → l'.Pairwise (fun x y => ¬ cf y x < 0) → WL Tryd.prog γ0 w0 N ops r (.slot d (.tup []) :: .blk n (.arr fl e s (rowsF enc l')) :: st) Q) :
    WL Tryd.prog γ0 w0 N ops (⟨some d, .call ⟨.value (.func F), #[x0, x1], ts⟩, ty, pos, after, none⟩ :: r) st Q :=
  WL.opSort hf hs hk l hl62 hN (.inl ⟨hp, rfl⟩) hg hb fun l' h1 h2 => by
    rw [List.take_length] at h1
    rw [List.drop_length, List.append_nil]
    exact h l' h1 h2
end
end Go.Proofs.YtimnogjgokljbaaDoor

end
section
/-!
  Items are sorted by their keys.
-/
namespace Go.Proofs.YtimnogjgokljbaaDoor
set_option maxRecDepth 100000
set_option linter.unusedVariables false
set_option linter.unusedSimpArgs false
open Go Go.RowKit Go.Shelf Go.Sort
set_option maxHeartbeats 4000000
set_option linter.unusedVariables false

theorem cmpI_swo : SWO (ltOf cmpI) where
  irrefl x := by
    have := cmpI_lt x x
    rw [klt_irr] at this
    simp only [ltOf, decide_eq_false_iff_not, this]
    simp
  trans x y z h1 h2 := by
    simp only [ltOf, decide_eq_true_eq, cmpI_lt] at *
    exact klt_trans h1 h2
  ntrans x y z h1 h2 := by
    simp only [ltOf, decide_eq_false_iff_not, cmpI_lt] at *
    intro h
    rcases klt_tri x.1 y.1 with h3 | h3 | h3
    · exact h1 h3
    · rw [h3] at h
      exact h2 h
    · exact h2 (klt_trans h3 h)
theorem compareI_says : CmpSays Tryd.prog 67 cItem cmpI := by
  rintro ⟨a1, a2⟩ ⟨b1, b2⟩ w
  show Calls _ _ #[.agg #[.string a1, .int .i64 a2], .agg #[.string b1, .int .i64 b2]] w _
  unfold cmpI
  dsimp only
  cases h : klt a1 b1 with
  | true =>
    unfold klt at h
    rw [if_pos rfl]
    go_enter Tryd.func67, Tryd.ntmps67
    go_wp2
    go_ret
    exact ⟨rfl, _, by rw [alloc_eq_grow, alloc_eq_grow, grow_grow]⟩
  | false =>
    unfold klt at h
    rw [if_neg (by simp)]
    go_enter Tryd.func67, Tryd.ntmps67
    go_wp2
    go_ret
    exact ⟨rfl, _, by rw [alloc_eq_grow, alloc_eq_grow, grow_grow]⟩
theorem sortI_s : SortsBy Tryd.prog 66 67 cItem 2 cmpI :=
  haveI : Inhabited TItem := ⟨(ByteArray.empty, 0)⟩
  sorts_of Tryd.sortItem Tryd.isAgg36 Tryd.sizeOf36 (fun _ => rfl) (fun x v hv => by simp only [cItem, List.mem_cons, List.not_mem_nil, or_false] at hv; rcases hv with rfl | rfl <;> rfl) cmpI cmpI_swo (enters_of Tryd.func67 (by kernel_rfl) rfl) compareI_says
end Go.Proofs.YtimnogjgokljbaaDoor

end
