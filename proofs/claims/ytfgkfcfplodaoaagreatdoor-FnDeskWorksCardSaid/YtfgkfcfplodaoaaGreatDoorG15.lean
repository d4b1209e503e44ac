/-
  Put together: PEvSort PEvWord PEvList PEvFrz.
-/
import Derived.Shelf.SlSortCmp.NoneTotal
import Derived.Test.YtfgkfcfplodaoaaGreatDoorG13
import Derived.Test.YtfgkfcfplodaoaaGreatDoorHPEvBs
import Derived.Laws.Bits64
import Derived.Laws.Bits64b
import Derived.Test.YtfgkfcfplodaoaaGreatDoorG3
set_option linter.unusedSimpArgs false
set_option linter.unusedVariables false
set_option maxRecDepth 100000
section
namespace Go.Proofs.YtfgkfcfplodaoaaGreatDoor
open Go Go.RowKit Go.Shelf Go.Sort
def SortsBy (P : Program) (F g : FuncId) {α : Type} (enc : α → List Value) (k : Nat) (cf : α → α → Int) : Prop :=
  (∀ A cap w, Calls P F #[.slice A 0 cap, .func (.func g) #[] #[]] w fun e w' => e = .returned (.tuple #[]) ∧ w' = w) ∧
  ∀ (b off cap : Nat) (cur : Array Value) (ty : TypeId) (l : List α) (w : World), w.heap[b]? = some (.cells cur ty (0, 0)) → off + l.length * k ≤ cur.size → (∀ j v, ((l.map enc).flatten)[j]? = some v → cur[off + j]? = some v) → l.length < 4611686018427387904 →
    Calls P F #[.slice (some ⟨b, off, none⟩) l.length cap, .func (.func g) #[] #[]] w fun e w' => e = .returned (.tuple #[]) ∧ ∃ l' : List α, l'.Perm l ∧ l'.Pairwise (fun x y => ¬ cf y x < 0) ∧ w'.os = w.os ∧ w'.tape = w.tape ∧ w'.output = w.output ∧ w.heap.size ≤ w'.heap.size ∧ (∀ q, q < w.heap.size → q ≠ b → w'.heap[q]? = w.heap[q]?) ∧
      ∃ cur' : Array Value, w'.heap[b]? = some (.cells cur' ty (0, 0)) ∧ cur'.size = cur.size ∧ (∀ j, j < off ∨ off + l.length * k ≤ j → cur'[j]? = cur[j]?) ∧ ∀ j v, ((l'.map enc).flatten)[j]? = some v → cur'[off + j]? = some v
def CmpSays (P : Program) (g : FuncId) {α : Type} (enc : α → List Value) (cf : α → α → Int) : Prop := ∀ x y w, Calls P g #[.agg (enc x).toArray, .agg (enc y).toArray] w fun e w' => e = .returned (.int .i64 (cf x y)) ∧ ∃ os', w' = grow w os'
section
variable {α : Type} {enc : α → List Value} {k : Nat}
theorem flatK_get [Inhabited α] (hk : ∀ x, (enc x).length = k) (l : List α) (t : Nat) (ht : t < l.length * k) : ((l.map enc).flatten)[t]? = some (flatK enc k l.toArray)[t]! := by
  have k0 : 0 < k := by
    rcases Nat.eq_zero_or_pos k with h | h
    · subst h; simp at ht
    · exact h
  have hi : t / k < l.length := Nat.div_lt_of_lt_mul (by rw [Nat.mul_comm]; exact ht)
  have hm : t % k < k := Nat.mod_lt _ k0
  have h1 := flatten_row (s := k) (rows := l.map enc) (fun row hr => by
    obtain ⟨x, _, rfl⟩ := List.mem_map.1 hr
    exact hk x) (i := t / k) (row := enc l[t / k]) (by simp [hi]) (t % k) hm
  rw [Nat.div_add_mod' t k] at h1
  rw [h1, get_flatK _ _ _ _ (by simpa using ht)]
  have h2 : (l.toArray[t / k]!) = l[t / k] := by simp [hi]
  rw [h2, getElem!_pos _ _ (by rw [hk]; exact hm), List.getElem?_eq_getElem (by rw [hk]; exact hm)]
theorem sorts_of [Inhabited α] {P : Program} {ρ : Ren} (L : SlLaysF0.n6 P ρ) (aE : ∀ w, (isAgg (ρ.t 24)).run P w = .ok true w) (zE : ∀ w, (Go.sizeOf (ρ.t 24)).run P w = .ok k w) (hk : ∀ x, (enc x).length = k) (h1 : ∀ x, ∀ v ∈ enc x, v.oneCell' = true) (cf : α → α → Int) (hO : SWO (ltOf cf)) {g : FuncId}
    (eg : ∀ args w, (callFunc g args).run P w = .ok (.enter g args) w) (hc : CmpSays P g enc cf) : SortsBy P (ρ.f 6) g enc k cf := by
  refine ⟨fun A cap w => AnyF.slices_SortFunc_none L A cap _ w, fun b off cap cur ty l w hh hoff hcells hlen => ?_⟩
  have hblk := heap_lt hh
  have hH : HoldsK enc k w b off l.toArray := by
    intro j hj
    rw [size_flatK] at hj
    have hj' : j < l.length * k := by simpa using hj
    have h3 := hcells j _ (flatK_get hk l j hj')
    refine ⟨?_, ?_⟩
    · simp only [World.cell?, hh, Option.isSome_none, Bool.false_eq_true, if_false, id, h3]
    · simp only [World.frozen?, hh]
      simp
  have hcmp : CmpLays P g #[] enc k cf b off l.toArray.size w := fun m os dk _ x y => (hc x y _).mono fun e w' ⟨he, os', hw⟩ => ⟨he, 0, os', hw⟩
  have hcon := AnyQ.slices_SortFunc L k aE zE enc hk h1 cf hO g #[] b off cap l.toArray w eg hcmp hH hblk (by simpa using hlen)
  rw [List.size_toArray] at hcon
  refine hcon.mono ?_
  rintro e w' ⟨he, d', n, os, ⟨p1, p2, p3⟩, hs, rfl⟩
  have hds : d'.size = l.length := by simpa using p1
  have hlt : b < (putRowK enc k (Sort.ahead w n) b off d').heap.size := by rw [size_putRowK]; exact hblk
  have hold : ∀ q, q < w.heap.size → (sortWorldK enc k w b off n d' os).heap[q]? = (putRowK enc k (Sort.ahead w n) b off d').heap[q]? := fun q hq => by
    simp only [sortWorldK, grow]
    exact Array.getElem?_append_left (by rw [size_putRowK]; exact hq)
  refine ⟨he, d'.toList, ?_, ?_, rfl, rfl, rfl, ?_, ?_, putCells id off (flatK enc k d') cur, ?_, ?_, ?_, ?_⟩
  · have e1 : d'.extract 0 l.length = d' := by rw [← hds]; simp
    have e2 : l.toArray.extract 0 l.length = l.toArray := by simp
    rw [e1, e2] at p3
    simpa using p3
  · rw [List.pairwise_iff_getElem]
    intro i j hi hj hij
    have hi' : i < d'.size := by simpa using hi
    have hj' : j < d'.size := by simpa using hj
    have := hs i j (Nat.zero_le _) hij (by omega)
    rw [getElem!_pos d' j hj', getElem!_pos d' i hi'] at this
    simp only [ltOf, decide_eq_false_iff_not] at this
    simpa using this
  · simp [sortWorldK, grow, putRowK]
  · intro q hq hne
    rw [hold q hq]
    simp only [putRowK, putRow, mapBlock]
    rw [Array.getElem?_modify, if_neg (fun e => hne e.symm)]
    rfl
  · rw [hold b hblk]
    simp only [putRowK, putRow, mapBlock]
    rw [Array.getElem?_modify, if_pos rfl]
    show Option.map _ w.heap[b]? = _
    rw [hh]
    rfl
  · simp [putCells]
  · intro j hj
    simp only [putCells, Array.getElem?_mapIdx]
    have : ¬ (off ≤ j ∧ j < off + (flatK enc k d').size) := by rw [size_flatK, hds]; omega
    cases cur[j]? with
    | none => rfl
    | some x => rw [Option.map_some, if_neg this]
  · intro j v hv
    have hlen2 : ((d'.toList.map enc).flatten).length = l.length * k := by
      have e3 := flat_lenK hk d'.toList
      rw [e3, Array.length_toList, hds]
    have hj : j < l.length * k := by rw [← hlen2]; exact (List.getElem?_eq_some_iff.1 hv).1
    have h3 := flatK_get hk d'.toList j (by simpa [hds] using hj)
    rw [hv] at h3
    simp only [Array.toArray_toList, Option.some.injEq] at h3
    simp only [putCells, Array.getElem?_mapIdx]
    have hin : off ≤ off + j ∧ off + j < off + (flatK enc k d').size := by rw [size_flatK, hds]; omega
    rw [Array.getElem?_eq_getElem (by omega), Option.map_some, if_pos hin, Nat.add_sub_cancel_left, h3]
    rfl
end
section
variable {P : Program} {γ0 : Nat → Option Nat} {w0 : World} {N : Nat} {st : St} {a : Act} {w : World} {η : Nat → Value} {γ : Nat → Option Nat} {Q : Exit → Act → World → Prop}
theorem WL.opSort {ops : Array Oper} {r : List Oper} {d F g n m : Nat} {x0 x1 : Operand} {ts : Array TypeId} {ty : TypeId} {pos : String} {after : Array Edge} {α : Type} {enc : α → List Value} {s : Nat} {cf : α → α → Int} {e : Nat}
    (hf : Has P F) (hs : SortsBy P F g enc s cf) (hk : ∀ x, (enc x).length = s) (l : List α) (hl62 : l.length < 4611686018427387904) (hN : d < N)
    (hp : (ev st x0 = one (.all n) ∧ m = l.length) ∨ (ev st x0 = one (.ref n 0 m))) (hg : ev st x1 = one (.fn g [])) (hb : getB st n = some (.arr .ft e s (rowsF enc l)))
    (h : ∀ l' : List α, l'.Perm (l.take m) → l'.Pairwise (fun x y => ¬ cf y x < 0) → WL P γ0 w0 N ops r (.slot d (.tup []) :: .blk n (.arr .ft e s (rowsF enc (l' ++ l.drop m))) :: st) Q) :
    WL P γ0 w0 N ops (⟨some d, .call ⟨.value (.func F), #[x0, x1], ts⟩, ty, pos, after, none⟩ :: r) st Q := fun a w hR => by
  refine wpList_plain rfl fun K hK => ?_
  obtain ⟨η, γ, hI⟩ := hR
  have h0 := ev_sound hI x0
  have h1 := ev_sound hI x1
  rw [hg] at h1
  obtain ⟨h1, -⟩ := RepV.one_iff.1 h1
  have hrun := enter_of (P := P) hf (a := a) (w := w) (args := [x0, x1]) (ts := ts) (dst := some d) (ty := ty) (pos := pos) (after := after) (g := none)
  unfold Oper.wp
  rw [hrun]
  show Calls P F ([x0, x1].map a.eval).toArray w _
  simp only [List.map_cons, List.map_nil, h1]
  obtain ⟨xs, ⟨ho1, ho2⟩, hr, hw, hgo, hff⟩ := hI.blks n _ hb
  rw [rowsF_flatten] at hr
  obtain ⟨rfl, hone⟩ := scs_eq hr
  rw [rowsF_len] at ho1 ho2
  have hval : ∃ A c, a.eval x0 = .slice A m c ∧ m ≤ l.length ∧ ((m = 0) ∨ ∃ b cap cur, A = some ⟨b, 0, none⟩ ∧ γ b = some n ∧ η n = .slice (some ⟨b, 0, none⟩) l.length cap ∧ w.heap[b]? = some (.cells cur e (0, 0)) ∧ l.length ≤ cap ∧ cap ≤ maxLen ∧ cur.size = cap * s ∧ cur.toList.take (l.length * s) = (l.map enc).flatten) := by
    rcases hp with ⟨hp, rfl⟩ | hp
    · rw [hp] at h0
      obtain ⟨h0, -⟩ := RepV.one_iff.1 h0
      rcases ho2 with ⟨ho, hz⟩ | ⟨b, cap, cur, ho, _, q1, q2, q3, q4, q5⟩
      · exact ⟨none, 0, by rw [h0, ho, hz], Nat.le_refl _, .inl hz⟩
      · exact ⟨some ⟨b, 0, none⟩, cap, by rw [h0, ho], Nat.le_refl _, .inr ⟨b, cap, cur, rfl, hgo b (by rw [ho]; rfl), ho, q1, q2, q3, q4, q5⟩⟩
    · rw [hp] at h0
      obtain ⟨fl1, e1, s1, rows1, k1, k2, k3⟩ := RepV.one_iff.1 h0
      rw [hb] at k1
      cases k1
      rw [rowsF_len] at k2 k3
      rcases k3 with ⟨_, k3, rfl⟩ | ⟨b, c, cap, k3, k4, k5, k6, _⟩
      · exact ⟨none, 0, k3, Nat.zero_le _, .inl rfl⟩
      · rcases ho2 with ⟨ho, hz⟩ | ⟨b1, cap1, cur, ho, _, q1, q2, q3, q4, q5⟩
        · rw [ho] at k3; cases k3
        · rw [ho] at k3
          cases k3
          exact ⟨some ⟨b, 0, none⟩, cap, by rw [k4, Nat.zero_mul], by omega, .inr ⟨b, _, cur, rfl, hgo b (by rw [ho]; rfl), ho, q1, q2, q3, q4, q5⟩⟩
  obtain ⟨A, c, hx, hm, hval⟩ := hval
  rw [hx]
  have tupRep : ∀ {hb : Nat → Option Blk} {w : World}, RepV hb η γ w (.tup []) (.tuple #[]) := ⟨[], rfl, rfl, fun j g ls hj => by simp at hj⟩
  rcases hval with rfl | ⟨b, cap, cur, rfl, hgb, hηn, q1, q2, q3, q4, q5⟩
  · refine (hs.1 A c w).mono fun e' w' ⟨he, hw'⟩ => ?_
    subst he; subst hw'
    have h2 := hI.turnW n (rows' := rowsF enc l) hb rfl
    have hI2 : R γ0 w0 N (.slot d (.tup []) :: .blk n (.arr .ft e s (rowsF enc ([] ++ l.drop 0))) :: st) (a.put (some d) (.tuple #[])) w' := by
      have hI3 : R γ0 w0 N (.slot d (.tup []) :: st) (a.put (some d) (.tuple #[])) w' := ⟨η, γ, hI.put d _ _ hN tupRep⟩
      refine R.congr (fun t => ?_) (fun q => ?_) hI3
      · rfl
      · simp only [getB, List.nil_append, List.drop_zero]
        split
        · rename_i e0; rw [← e0]; exact hb
        · rfl
    exact hK _ _ (h [] (by simp) List.Pairwise.nil _ _ hI2)
  · have hls : (l.take m).length = m := by simp; omega
    have hcap : l.length * s ≤ cap * s := Nat.mul_le_mul_right _ q2
    have hms : m * s ≤ l.length * s := Nat.mul_le_mul_right _ hm
    have hcur : ∀ j v, (((l.map enc).flatten))[j]? = some v → cur[j]? = some v := fun j v hj => by
      rw [← q5, List.getElem?_take] at hj
      split at hj
      · simpa using hj
      · cases hj
    have hsplit : (l.map enc).flatten = ((l.take m).map enc).flatten ++ ((l.drop m).map enc).flatten := by
      rw [← List.flatten_append, ← List.map_append, List.take_append_drop]
    have hcall := hs.2 b 0 c cur e (l.take m) w q1 (by rw [hls]; omega) (fun j v hj => by
      rw [Nat.zero_add]
      refine hcur j v ?_
      rw [hsplit, List.getElem?_append_left (List.getElem?_eq_some_iff.1 hj).1]
      exact hj) (by rw [hls]; omega)
    rw [hls] at hcall
    refine hcall.mono fun e' w' ⟨he, l', hperm, hsort, hos, htape, hout, hsize, hold, cur', k1, k2, k3, k4⟩ => ?_
    subst he
    have hl' : l'.length = m := by rw [hperm.length_eq, hls]
    have hone' : ∀ v ∈ ((l' ++ l.drop m).map enc).flatten, v.oneCell' = true := fun v hv => by
      refine hone v ?_
      rw [hsplit]
      rw [List.map_append, List.flatten_append] at hv
      rcases List.mem_append.1 hv with hv | hv
      · refine List.mem_append_left _ ?_
        obtain ⟨row, hr1, hr2⟩ := List.mem_flatten.1 hv
        obtain ⟨x, hx1, rfl⟩ := List.mem_map.1 hr1
        exact List.mem_flatten.2 ⟨_, List.mem_map.2 ⟨x, hperm.mem_iff.1 hx1, rfl⟩, hr2⟩
      · exact List.mem_append_right _ hv
    have hlenT : (l' ++ l.drop m).length = l.length := by simp [hl']; omega
    have hflT : (((l' ++ l.drop m).map enc).flatten).length = l.length * s := by rw [flat_lenK hk, hlenT]
    have hcells : ∀ j v, (((l' ++ l.drop m).map enc).flatten)[j]? = some v → cur'[j]? = some v := fun j v hj => by
      rw [List.map_append, List.flatten_append, List.getElem?_append] at hj
      have e1 := flat_lenK hk l'
      rw [hl'] at e1
      rw [e1] at hj
      split at hj
      · have := k4 j v hj
        rwa [Nat.zero_add] at this
      · rename_i hlt
        rw [k3 j (.inr (by omega))]
        refine hcur j v ?_
        rw [hsplit, List.getElem?_append_right (by rw [flat_lenK hk, hls]; omega), flat_lenK hk, hls]
        exact hj
    have hI2 := hI.turnW n (rows' := rowsF enc (l' ++ l.drop m)) hb (by rw [rowsF_len, rowsF_len, hlenT]) b hgb w' hos htape hout hsize hold
      ⟨((l' ++ l.drop m).map enc).flatten, ⟨by rw [hflT, rowsF_len, hlenT], .inr ⟨b, cap, cur', by rw [rowsF_len, hlenT]; exact hηn, Nat.zero_le _, k1, by rw [rowsF_len, hlenT]; exact q2, q3, by rw [k2]; exact q4, by
        rw [rowsF_len, hlenT]
        refine List.ext_getElem? fun j => ?_
        rw [List.getElem?_take]
        split
        · rename_i hlt
          have hj : j < (((l' ++ l.drop m).map enc).flatten).length := by rw [hflT]; exact hlt
          have := hcells j _ (List.getElem?_eq_getElem hj)
          rw [Array.getElem?_toList, this, List.getElem?_eq_getElem hj]
        · rename_i hlt
          rw [List.getElem?_eq_none (by rw [hflT]; omega)]⟩⟩, by rw [rowsF_flatten]; exact scs_rep hone', fun row hr => rowsF_wid hk _ row hr, hgo, ⟨fun _ row hr x hx => by
          unfold rowsF at hr
          obtain ⟨y, _, rfl⟩ := List.mem_map.1 hr
          obtain ⟨v, _, rfl⟩ := List.mem_map.1 hx
          exact ⟨v, rfl⟩, fun e => (by cases e), fun _ _ e => (by cases e)⟩⟩
    exact hK _ _ (h l' hperm hsort _ _ ⟨η, γ, hI2.put d _ _ hN tupRep⟩)
end
section
variable {γ0 : Nat → Option Nat} {w0 : World} {N : Nat} {st : St} {Q : Exit → Act → World → Prop}
theorem WL.opSortA {ops : Array Oper} {r : List Oper} {d F g n : Nat} {x0 x1 : Operand} {ts : Array TypeId} {ty : TypeId} {pos : String} {after : Array Edge} {α : Type} {enc : α → List Value} {s : Nat} {cf : α → α → Int} {e : Nat}
    (hf : Has Tryz.prog F) (hs : SortsBy Tryz.prog F g enc s cf) (hk : ∀ x, (enc x).length = s) (l : List α) (hl62 : l.length < 4611686018427387904) (hN : d < N := by decide)
    (hp : ev st x0 = one (.all n) := by exact evsP) (hg : ev st x1 = one (.fn g []) := by rfl) (hb : getB st n = some (.arr .ft e s (rowsF enc l)) := by exact evsP)
    (h : ∀ l' : List α, l'.Perm l → l'.Pairwise (fun x y => ¬ cf y x < 0) → WL Tryz.prog γ0 w0 N ops r (.slot d (.tup []) :: .blk n (.arr .ft e s (rowsF enc l')) :: st) Q) :
    WL Tryz.prog γ0 w0 N ops (⟨some d, .call ⟨.value (.func F), #[x0, x1], ts⟩, ty, pos, after, none⟩ :: r) st Q :=
  WL.opSort hf hs hk l hl62 hN (.inl ⟨hp, rfl⟩) hg hb fun l' h1 h2 => by
    rw [List.take_length] at h1
    rw [List.drop_length, List.append_nil]
    exact h l' h1 h2
end
end Go.Proofs.YtfgkfcfplodaoaaGreatDoor

end
section
namespace Go.Proofs.YtfgkfcfplodaoaaGreatDoor
open Go Go.RowKit
set_option maxHeartbeats 4000000
theorem wrap_u32n (n : Nat) : IntKind.u32.wrap (n : Int) = ((n % 4294967296 : Nat) : Int) := by
  simp [IntKind.wrap, IntKind.bits, IntKind.signed]
theorem wrap_i64n {n : Nat} (h : n < 9223372036854775808) : IntKind.i64.wrap (n : Int) = (n : Int) := wrap_i64 n (by omega)
theorem ofInt_nat {m n : Nat} (h : n < 2 ^ m) : (BitVec.ofInt m (n : Int)).toNat = n := by
  rw [BitVec.ofInt_natCast, BitVec.toNat_ofNat]
  exact Nat.mod_eq_of_lt h
section
variable {a b : Nat}
theorem and_i64 (ha : a < 9223372036854775808) (hb : b < 9223372036854775808) : bits .and .i64 (a : Int) (b : Int) = ((a &&& b : Nat) : Int) := by
  have hx : a &&& b < 2 ^ 63 := Nat.and_lt_two_pow _ (by omega)
  show IntKind.i64.wrap ((BitVec.ofInt 64 (a : Int) &&& BitVec.ofInt 64 (b : Int)).toNat : Int) = _
  rw [BitVec.toNat_and, ofInt_nat (by omega), ofInt_nat (by omega), wrap_i64n (by omega)]
theorem or_i64 (ha : a < 9223372036854775808) (hb : b < 9223372036854775808) : bits .or .i64 (a : Int) (b : Int) = ((a ||| b : Nat) : Int) := by
  have hx : a ||| b < 2 ^ 63 := Nat.or_lt_two_pow (by omega) (by omega)
  show IntKind.i64.wrap ((BitVec.ofInt 64 (a : Int) ||| BitVec.ofInt 64 (b : Int)).toNat : Int) = _
  rw [BitVec.toNat_or, ofInt_nat (by omega), ofInt_nat (by omega), wrap_i64n (by omega)]
theorem xor_i64 (ha : a < 9223372036854775808) (hb : b < 9223372036854775808) : bits .xor .i64 (a : Int) (b : Int) = ((a ^^^ b : Nat) : Int) := by
  have hx : a ^^^ b < 2 ^ 63 := Nat.xor_lt_two_pow (by omega) (by omega)
  show IntKind.i64.wrap ((BitVec.ofInt 64 (a : Int) ^^^ BitVec.ofInt 64 (b : Int)).toNat : Int) = _
  rw [BitVec.toNat_xor, ofInt_nat (by omega), ofInt_nat (by omega), wrap_i64n (by omega)]
theorem and_u32 (ha : a < 4294967296) (hb : b < 4294967296) : bits .and .u32 (a : Int) (b : Int) = ((a &&& b : Nat) : Int) := by
  have hx : a &&& b < 2 ^ 32 := Nat.and_lt_two_pow _ (by omega)
  show IntKind.u32.wrap ((BitVec.ofInt 32 (a : Int) &&& BitVec.ofInt 32 (b : Int)).toNat : Int) = _
  rw [BitVec.toNat_and, ofInt_nat (by omega), ofInt_nat (by omega), wrap_u32n, Nat.mod_eq_of_lt (by omega)]
theorem or_u32 (ha : a < 4294967296) (hb : b < 4294967296) : bits .or .u32 (a : Int) (b : Int) = ((a ||| b : Nat) : Int) := by
  have hx : a ||| b < 2 ^ 32 := Nat.or_lt_two_pow (by omega) (by omega)
  show IntKind.u32.wrap ((BitVec.ofInt 32 (a : Int) ||| BitVec.ofInt 32 (b : Int)).toNat : Int) = _
  rw [BitVec.toNat_or, ofInt_nat (by omega), ofInt_nat (by omega), wrap_u32n, Nat.mod_eq_of_lt (by omega)]
theorem xor_u32 (ha : a < 4294967296) (hb : b < 4294967296) : bits .xor .u32 (a : Int) (b : Int) = ((a ^^^ b : Nat) : Int) := by
  have hx : a ^^^ b < 2 ^ 32 := Nat.xor_lt_two_pow (by omega) (by omega)
  show IntKind.u32.wrap ((BitVec.ofInt 32 (a : Int) ^^^ BitVec.ofInt 32 (b : Int)).toNat : Int) = _
  rw [BitVec.toNat_xor, ofInt_nat (by omega), ofInt_nat (by omega), wrap_u32n, Nat.mod_eq_of_lt (by omega)]
end
theorem fdiv_nat (a n : Nat) : (a : Int).fdiv (2 ^ n) = ((a / 2 ^ n : Nat) : Int) := by
  rw [Int.fdiv_eq_ediv_of_nonneg _ (Int.pow_nonneg (by omega))]
  simp
theorem mul_pow_nat (a n : Nat) : (a : Int) * 2 ^ n = ((a * 2 ^ n : Nat) : Int) := by simp
def rotr (x n : Nat) : Nat := (x / 2 ^ n ||| x * 2 ^ (32 - n)) % 4294967296
theorem rotr_lt (x n : Nat) : rotr x n < 4294967296 := Nat.mod_lt _ (by omega)
abbrev aU (n : Nat) : Arg := .val false [.sc (.int .u32 (n : Int))]
abbrev rU (n : Nat) : Res := .comp false [.ro (.sc (.int .u32 (n : Int)))]
abbrev rNat (n : Nat) : Res := .comp false [.ro (.sc (.int .i64 (n : Int)))]
noncomputable def mRot := mdl (fun x : Nat × Nat => x.1 < 4294967296 ∧ 1 ≤ x.2 ∧ x.2 ≤ 31) (fun x => [aU x.1, aI (-(x.2 : Int))]) (fun x => rU (rotr x.1 x.2))
theorem mRot_eq (x n : Nat) (h : x < 4294967296) (h1 : 1 ≤ n) (h2 : n ≤ 31) : mRot [aU x, aI (-(n : Int))] = some (rU (rotr x n)) := mdl_eq (by rintro ⟨a, b⟩ ⟨d, e⟩ h; simp at h; simp; omega) (x, n) ⟨h, h1, h2⟩
theorem rot_s : Sound Tryz.prog 254 mRot := by
  refine Sound.mdl Tryz.func254 rfl Tryz.ntmps254 ?_
  rintro ⟨x, n⟩ w ⟨hx, h1, h2⟩
  refine ⟨by simp, ?_⟩
  dsimp only at hx h1 h2
  have hΓ : GSound Tryz.prog (look []) := env_nil
  have e1 : bits .and .u64 (IntKind.u64.wrap (-(n : Int))) 31 = ((32 - n : Nat) : Int) := by
    have : IntKind.u64.wrap (-(n : Int)) = ((18446744073709551616 - n : Nat) : Int) := by
      rw [IntKind.wrap_u64]
      omega
    rw [this, show (31 : Int) = ((31 : Nat) : Int) from rfl, bits_and_u64_nat _ _ (by omega) (by omega), show 31 = 2 ^ 5 - 1 from rfl, Nat.and_two_pow_sub_one_eq_mod]
    congr 1
    omega
  have e2 : IntKind.u64.wrap (32 - ((32 - n : Nat) : Int)) = (n : Int) := by
    rw [IntKind.wrap_u64]
    omega
  simp only [initS, argPV, List.map_cons, List.map_nil, toPL, Nat.zero_add]
  refine zR ?_
  refine At.retA (by rw [Tryz.results254]) (he := ?_)
  have m1 : min (32 - n) IntKind.u32.bits = 32 - n := by show min (32 - n) 32 = _; omega
  have m2 : min n IntKind.u32.bits = n := by show min n 32 = _; omega
  rw [m1, m2, mul_pow_nat, fdiv_nat, wrap_u32n, or_u32 (Nat.mod_lt _ (by omega)) (Nat.lt_of_le_of_lt (Nat.div_le_self _ _) hx)]
  congr 5
  unfold rotr
  rw [show 4294967296 = 2 ^ 32 from rfl, Nat.or_mod_two_pow, Nat.or_comm, Nat.mod_eq_of_lt (a := x / 2 ^ n) (Nat.lt_of_le_of_lt (Nat.div_le_self _ _) hx)]
end Go.Proofs.YtfgkfcfplodaoaaGreatDoor

end
section
namespace Go.Proofs.YtfgkfcfplodaoaaGreatDoor
open Go Go.RowKit
@[simp] theorem rowsF_Val {a b : List TVal} : rowsF cVal a = rowsF cVal b ↔ a = b := rowsF_iff fun x y h => by simpa [cVal, Prod.ext_iff] using h
section
variable {P : Program} {F : FuncId} {α : Type} {f : α → List Value} {s : Nat}
theorem Sound.listB (hf : ∀ x, (f x).length = s) {ok : List α → Prop} {p : List α → Bool} (h : ∀ v l w, ok l → RdS w w.heap.size s f v l → Calls P F #[v] w (SaysB (p l) w)) : Sound P F (Go.Proofs.YtfgkfcfplodaoaaGreatDoor.mdl ok (fun l => [aL f l]) fun l => rB (p l)) :=
  Sound.says (fun _ => rfl) fun l vs w hok hr => by
    obtain ⟨v, rfl, h2⟩ := RepAs.one hr
    exact (h v l w hok (rep_RdS hf (repA_list_inv h2))).mono fun e w' hq => hq
theorem aL_rep {w : World} {v : Value} {l : List α} (hf : ∀ x, (f x).length = s) (h1 : ∀ x, ∀ u ∈ f x, u.oneCell' = true) (h : RdS w w.heap.size s f v l) : RepA w (aL f l) v := repA_list (h.rep hf h1)
abbrev rSc (v : Value) : Bool × List RL := (false, [.ro (.sc v)])
abbrev rL {α : Type} (e s : Nat) (f : α → List Value) (l : List α) : Res := .comp false [.own .ft e s (rowsF f l)]
abbrev rN : Res := .comp false [.ro (.sl [])]
theorem calls_says {m : List Arg → Option Res} {args : List Arg} {vs : List Value} {w : World} {v : Value} (hs : Sound P F m) (hm : m args = some (.comp false [.ro (.sc v)])) (hr : RepAs w args vs) (hg : GlobOk none0 w := by first | exact glob_triv | assumption) :
    Calls P F vs.toArray w fun e w' => e = .returned v ∧ Below w.heap.size w w' := (hs args _ vs w hg hm hr).mono fun e w' ⟨u, γ, hdr, h1, h2, _, _, h5⟩ => by
  obtain ⟨x, e1, h9⟩ := h5
  cases e1
  cases h9
  exact ⟨h1, h2⟩
end
def sumK {α : Type} (c : α → Int) (l : List α) (k : Nat) : Int := ((l.take k).map c).sum
theorem sumK_zero {α : Type} (c : α → Int) (l : List α) : sumK c l 0 = 0 := rfl
theorem sumK_succ {α : Type} (c : α → Int) {l : List α} {k : Nat} (h : k < l.length) : sumK c l (k + 1) = sumK c l k + c l[k] := by
  unfold sumK
  rw [List.take_succ_eq_append_getElem h, List.map_append, List.sum_append]
  simp only [List.map_cons, List.map_nil, List.sum_cons, List.sum_nil, Int.add_zero]
theorem sumK_all {α : Type} (c : α → Int) {l : List α} {k : Nat} (h : l.length ≤ k) : sumK c l k = (l.map c).sum := by unfold sumK; rw [List.take_of_length_le h]
theorem sumK_in {α : Type} {c : α → Int} {l : List α} {m : Nat} (h : ∀ k (hk : k < l.length), 0 ≤ c l[k] ∧ c l[k] ≤ m) : ∀ k, k ≤ l.length → 0 ≤ sumK c l k ∧ sumK c l k ≤ m * k
  | 0, _ => by simp [sumK]
  | k + 1, hk => by
    have ih := sumK_in h k (by omega)
    have := h k (by omega)
    rw [sumK_succ c (by omega)]
    have e : (m : Int) * ((k + 1 : Nat) : Int) = m * k + m := by rw [Int.natCast_add, Int.mul_add]; simp
    omega
end Go.Proofs.YtfgkfcfplodaoaaGreatDoor

end
section
namespace Go.Proofs.YtfgkfcfplodaoaaGreatDoor
open Go Go.RowKit
section
variable {P : Program} {γ0 : Nat → Option Nat} {w0 : World} {N : Nat} {st : St} {a : Act} {w : World} {Q : Exit → Act → World → Prop} {c : Code}
theorem R.frz (h : R γ0 w0 N st a w) {t n : Nat} {fl : Fl} {e s : Nat} {rows : List (List Leaf)} (ht : getS st t = one (.all n)) (hb : getB st n = some (.arr fl e s rows)) : R γ0 w0 N (.slot t (one (.sl rows)) :: .kill n :: st) a w := by
  obtain ⟨η, γ, hI⟩ := h
  obtain ⟨γ', h1, h2⟩ := hI.frz [.all n]
  have hu := hI.slots t
  rw [ht] at hu
  have hk : ∀ b, γ b = none → γ' b = none := fun b hb => by
    cases hg : γ' b with
    | none => rfl
    | some m => have := (h2 b m hg).1; rw [hb] at this; cases this
  have hrep : RepL w γ' (.sl rows) (a.tmps.getD t undef) := by
    obtain ⟨l, e1, h3⟩ := hu
    cases e1
    refine leafO_sound hI hk (fun b m hbm he => ?_) h3 (by simp only [leafO, hb])
    have hm : m = n := by
      rcases he with e | ⟨o, k, e⟩
      · cases e; rfl
      · cases e
    subst hm
    cases hg : γ' b with
    | none => rfl
    | some k =>
      obtain ⟨h4, h5⟩ := h2 b k hg
      rw [hbm] at h4
      cases h4
      exact absurd rfl ((h5 _ List.mem_cons_self).1 m rfl)
  refine ⟨η, γ', { h1 with slots := fun k => ?_ }⟩
  show RepV (getB (.kill n :: st)) η γ' w (if t = k then one (.sl rows) else getS (.kill n :: st) k) (a.tmps.getD k undef)
  by_cases e : t = k
  · subst e
    rw [if_pos rfl]
    exact ⟨_, rfl, hrep⟩
  · rw [if_neg e]
    exact h1.slots k
theorem W.frz (t n : Nat) {fl : Fl} {e s : Nat} {rows : List (List Leaf)} (ht : getS st t = one (.all n)) (hb : getB st n = some (.arr fl e s rows)) (h : W P γ0 w0 N (.slot t (one (.sl rows)) :: .kill n :: st) c Q) : W P γ0 w0 N st c Q :=
  fun a w hR => h a w (hR.frz ht hb)
theorem At.frz (t n : Nat) {x : Exit} {fl : Fl} {e s : Nat} {rows : List (List Leaf)} (ht : getS st t = one (.all n)) (hb : getB st n = some (.arr fl e s rows)) (h : At γ0 w0 N (.slot t (one (.sl rows)) :: .kill n :: st) x Q) : At γ0 w0 N st x Q :=
  fun a w hR => h a w (hR.frz ht hb)
end
theorem W.subA {γ0 : Nat → Option Nat} {w0 : World} {N : Nat} {st : St} {Q : Exit → Act → World → Prop} {c : Code} (st' : St) (hs : Sub st' st := by exact subP) (h : W Tryz.prog γ0 w0 N st' c Q) : W Tryz.prog γ0 w0 N st c Q := W.sub hs h
theorem W.frzA {γ0 : Nat → Option Nat} {w0 : World} {N : Nat} {st : St} {Q : Exit → Act → World → Prop} {c : Code} (t n : Nat) {fl : Fl} {e s : Nat} {rows : List (List Leaf)} (ht : getS st t = one (.all n) := by exact evsP) (hb : getB st n = some (.arr fl e s rows) := by exact evsP)
    (h : W Tryz.prog γ0 w0 N (.slot t (one (.sl rows)) :: .kill n :: st) c Q) : W Tryz.prog γ0 w0 N st c Q := W.frz t n ht hb h
theorem At.frzA {γ0 : Nat → Option Nat} {w0 : World} {N : Nat} {st : St} {Q : Exit → Act → World → Prop} {x : Exit} (t n : Nat) {fl : Fl} {e s : Nat} {rows : List (List Leaf)} (ht : getS st t = one (.all n) := by exact evsP) (hb : getB st n = some (.arr fl e s rows) := by exact evsP)
    (h : At γ0 w0 N (.slot t (one (.sl rows)) :: .kill n :: st) x Q) : At γ0 w0 N st x Q := At.frz t n ht hb h
end Go.Proofs.YtfgkfcfplodaoaaGreatDoor

end
