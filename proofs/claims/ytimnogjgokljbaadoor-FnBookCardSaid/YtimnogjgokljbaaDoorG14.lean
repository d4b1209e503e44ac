/-
  Put together: EvBookS EvBookD.
-/
import Derived.Test.YtimnogjgokljbaaDoorG12
import Derived.Test.YtimnogjgokljbaaDoorG13
import Derived.Lib.Strings
section
/-!
  l36At, l36Set: the balance of a key, and a book with another one.
-/
namespace Go.Proofs.YtimnogjgokljbaaDoor
set_option maxRecDepth 100000
set_option linter.unusedVariables false
set_option linter.unusedSimpArgs false
open Go Go.RowKit
set_option maxHeartbeats 4000000
set_option linter.unusedVariables false

theorem bLess_irr : ∀ x : List UInt8, Op.bytesLess x x = false
  | [] => rfl
  | a :: x => by simp [Op.bytesLess, bLess_irr x]
theorem bLess_tri : ∀ x y : List UInt8, Op.bytesLess x y = true ∨ x = y ∨ Op.bytesLess y x = true
  | [], [] => .inr (.inl rfl)
  | [], b :: y => .inl rfl
  | a :: x, [] => .inr (.inr rfl)
  | a :: x, b :: y => by
    simp only [Op.bytesLess]
    rcases Nat.lt_trichotomy a.toNat b.toNat with h | h | h
    · left; simp [UInt8.lt_iff_toNat_lt, h]
    · have hab : a = b := UInt8.toNat_inj.1 h
      subst hab
      rcases bLess_tri x y with h1 | h1 | h1
      · left; simp [h1]
      · right; left; rw [h1]
      · right; right; simp [h1]
    · right; right; simp [UInt8.lt_iff_toNat_lt, h]
theorem bLess_trans : ∀ {x y z : List UInt8}, Op.bytesLess x y = true → Op.bytesLess y z = true → Op.bytesLess x z = true
  | [], [], z, h, _ => by cases h
  | [], b :: y, [], _, h => by cases h
  | [], b :: y, c :: z, _, _ => rfl
  | a :: x, [], z, h, _ => by cases h
  | a :: x, b :: y, [], _, h => by cases h
  | a :: x, b :: y, c :: z, h1, h2 => by
    have ih := @bLess_trans x y z
    simp only [Op.bytesLess, Bool.or_eq_true, Bool.and_eq_true, decide_eq_true_eq, beq_iff_eq, UInt8.lt_iff_toNat_lt] at h1 h2 ⊢
    rcases h1 with h1 | ⟨rfl, h1⟩
    · rcases h2 with h2 | ⟨rfl, h2⟩
      · left; omega
      · left; exact h1
    · rcases h2 with h2 | ⟨rfl, h2⟩
      · left; exact h2
      · right; exact ⟨rfl, ih h1 h2⟩
def klt (a b : ByteArray) : Bool := Op.bytesLess a.toList b.toList
theorem klt_irr (a : ByteArray) : klt a a = false := bLess_irr _
theorem klt_trans {a b c : ByteArray} (h1 : klt a b = true) (h2 : klt b c = true) : klt a c = true := bLess_trans h1 h2
theorem klt_tri (a b : ByteArray) : klt a b = true ∨ a = b ∨ klt b a = true := by
  rcases bLess_tri a.toList b.toList with h | h | h
  · exact .inl h
  · refine .inr (.inl ?_)
    have h1 := Lib.toList_data a
    have h2 := Lib.toList_data b
    rw [h1, h2] at h
    exact ByteArray.ext (Array.toList_inj.1 h)
  · exact .inr (.inr h)
theorem klt_ne {a b : ByteArray} (h : klt a b = true) : a ≠ b := fun e => by rw [e, klt_irr] at h; cases h
abbrev AscI (l : List TItem) : Prop := l.Pairwise fun a b => klt a.1 b.1 = true
def setI (key : ByteArray) (n : Int) : List TItem → List TItem
  | [] => if n = 0 then [] else [(key, n)]
  | x :: r => if klt x.1 key then x :: setI key n r else if x.1 = key then (if n = 0 then r else (key, n) :: r) else (if n = 0 then x :: r else (key, n) :: x :: r)
def balI (key : ByteArray) : List TItem → Int
  | [] => 0
  | x :: r => if x.1 = key then x.2 else balI key r
theorem setI_id {key : ByteArray} {n : Int} {x : TItem} : ∀ {l : List TItem} (_ : x ∈ setI key n l), x = (key, n) ∨ x ∈ l
  | [], h => by
    unfold setI at h
    split at h
    · cases h
    · exact .inl (List.mem_singleton.1 h)
  | y :: r, h => by
    unfold setI at h
    split at h
    · rcases List.mem_cons.1 h with rfl | h
      · exact .inr List.mem_cons_self
      · rcases setI_id h with h | h
        · exact .inl h
        · exact .inr (List.mem_cons_of_mem _ h)
    · split at h
      · split at h
        · exact .inr (List.mem_cons_of_mem _ h)
        · rcases List.mem_cons.1 h with rfl | h
          · exact .inl rfl
          · exact .inr (List.mem_cons_of_mem _ h)
      · split at h
        · exact .inr h
        · rcases List.mem_cons.1 h with rfl | h
          · exact .inl rfl
          · exact .inr h
theorem setI_len (key : ByteArray) (n : Int) (l : List TItem) : (setI key n l).length ≤ l.length + 1 := by
  induction l with
  | nil => unfold setI; split <;> simp
  | cons x r ih =>
    unfold setI
    split
    · simp; exact ih
    · split <;> split <;> simp <;> omega
theorem setI_asc {key : ByteArray} {n : Int} : ∀ {l : List TItem} (_ : AscI l), AscI (setI key n l)
  | [], _ => by
    unfold setI
    split
    · exact List.Pairwise.nil
    · exact List.pairwise_singleton _ _
  | y :: r, h => by
    obtain ⟨h1, h2⟩ := List.pairwise_cons.1 h
    unfold setI
    split
    · rename_i hlt
      refine List.pairwise_cons.2 ⟨fun z hz => ?_, setI_asc h2⟩
      rcases setI_id hz with rfl | hz
      · exact hlt
      · exact h1 z hz
    · rename_i hn1
      split
      · rename_i he
        split
        · exact h2
        · exact List.pairwise_cons.2 ⟨fun z hz => by show klt key z.1 = true; rw [← he]; exact h1 z hz, h2⟩
      · rename_i hn2
        split
        · exact h
        · have hky : klt key y.1 = true := by
            rcases klt_tri y.1 key with h | h | h
            · exact absurd h hn1
            · exact absurd h hn2
            · exact h
          refine List.pairwise_cons.2 ⟨fun z hz => ?_, h⟩
          rcases List.mem_cons.1 hz with rfl | hz
          · exact hky
          · exact klt_trans hky (h1 z hz)

/-! the spec's own step -/
def sst (key : ByteArray) (n : Int) (q : List TItem × Bool) (x : TItem) : List TItem × Bool :=
  if klt x.1 key then (q.1 ++ [x], q.2) else if x.1 = key then ((if q.2 then q.1 else q.1 ++ [(key, n)]), true) else ((if q.2 then q.1 else q.1 ++ [(key, n)]) ++ [x], true)
def sfo (key : ByteArray) (n : Int) (l : List TItem) : List TItem × Bool := l.foldl (sst key n) ([], decide (n = 0))
theorem sfo_succ (key : ByteArray) (n : Int) (l : List TItem) {k : Nat} (hk : k < l.length) : sfo key n (l.take (k + 1)) = sst key n (sfo key n (l.take k)) l[k] := by
  unfold sfo
  rw [List.take_succ_eq_append_getElem hk, List.foldl_append]
  rfl
theorem sfold_gt (key : ByteArray) (n : Int) : ∀ (l o : List TItem), (∀ x ∈ l, klt key x.1 = true) → l.foldl (sst key n) (o, true) = (o ++ l, true)
  | [], o, _ => by simp
  | x :: r, o, h => by
    have hx := h x List.mem_cons_self
    have e : sst key n (o, true) x = (o ++ [x], true) := by
      unfold sst
      have h1 : ¬ klt x.1 key = true := fun h' => by have := klt_trans hx h'; rw [klt_irr] at this; cases this
      rw [if_neg h1, if_neg (fun h' => klt_ne hx h'.symm)]
      rfl
    rw [List.foldl_cons, e, sfold_gt key n r _ (fun y hy => h y (List.mem_cons_of_mem _ hy))]
    simp
theorem sfold_all (key : ByteArray) (n : Int) : ∀ (l o : List TItem) (_ : AscI l), (let q := l.foldl (sst key n) (o, decide (n = 0)); if q.2 then q.1 else q.1 ++ [(key, n)]) = o ++ setI key n l
  | [], o, _ => by
    unfold setI
    by_cases h : n = 0 <;> simp [h]
  | x :: r, o, h => by
    obtain ⟨h1, h2⟩ := List.pairwise_cons.1 h
    rw [List.foldl_cons]
    unfold setI
    by_cases hlt : klt x.1 key = true
    · have e : sst key n (o, decide (n = 0)) x = (o ++ [x], decide (n = 0)) := by
        unfold sst
        rw [if_pos hlt]
      rw [e, if_pos hlt, sfold_all key n r _ h2]
      simp
    · rw [if_neg hlt]
      by_cases heq : x.1 = key
      · have e : sst key n (o, decide (n = 0)) x = ((if n = 0 then o else o ++ [(key, n)]), true) := by
          unfold sst
          rw [if_neg hlt, if_pos heq]
          by_cases h : n = 0 <;> simp [h]
        rw [e, if_pos heq, sfold_gt key n r _ (fun y hy => by rw [← heq]; exact h1 y hy)]
        by_cases h : n = 0 <;> simp [h]
      · have hkx : klt key x.1 = true := by
          rcases klt_tri x.1 key with h | h | h
          · exact absurd h hlt
          · exact absurd h heq
          · exact h
        have e : sst key n (o, decide (n = 0)) x = ((if n = 0 then o else o ++ [(key, n)]) ++ [x], true) := by
          unfold sst
          rw [if_neg hlt, if_neg heq]
          by_cases h : n = 0 <;> simp [h]
        rw [e, if_neg heq, sfold_gt key n r _ (fun y hy => klt_trans hkx (h1 y hy))]
        by_cases h : n = 0 <;> simp [h]
theorem sfo_all {key : ByteArray} {n : Int} {l o : List TItem} {p : Bool} (hs : AscI l) (h : sfo key n l = (o, p)) : (if p then o else o ++ [(key, n)]) = setI key n l := by
  have := sfold_all key n l [] hs
  unfold sfo at h
  rw [h] at this
  simpa using this
theorem sfo_len (key : ByteArray) (n : Int) (l : List TItem) : (sfo key n l).1.length ≤ 2 * l.length := by
  have key' : ∀ (l : List TItem) (q : List TItem × Bool), (l.foldl (sst key n) q).1.length ≤ q.1.length + 2 * l.length := by
    intro l
    induction l with
    | nil => intro q; simp
    | cons x r ih =>
      intro q
      rw [List.foldl_cons]
      have h1 := ih (sst key n q x)
      have h2 : (sst key n q x).1.length ≤ q.1.length + 2 := by
        unfold sst
        split
        · simp
        · split
          · split <;> simp
          · split <;> simp
      simp only [List.length_cons]
      omega
  simpa [sfo] using key' l ([], decide (n = 0))
@[simp] theorem rowsF_ItemS {a b : List TItem} : rowsF cItem a = rowsF cItem b ↔ a = b := rowsF_iff fun x y h => by simpa [cItem, Prod.ext_iff] using h
abbrev bItem (a : TItem) : List Leaf := [.sc (.string a.1), .sc (.int .i64 a.2)]
theorem item_row {l : List TItem} {k : Nat} (h : k < l.length) : (rowsF cItem l)[k]? = some (bItem l[k]) := rowsF_get cItem l k h
theorem cItem_app (l : List TItem) (t : TItem) : rowsF cItem l ++ [bItem t] = rowsF cItem (l ++ [t]) := by rw [← rowsF_app]; rfl
theorem bal_at {key : ByteArray} : ∀ {l : List TItem} {k : Nat} (hk : k < l.length) (_ : ∀ j, (h : j < k) → (l[j]'(by omega)).1 ≠ key) (_ : l[k].1 = key), balI key l = l[k].2
  | x :: r, 0, _, _, h => by
    have h : x.1 = key := h
    unfold balI
    rw [if_pos h]
    rfl
  | x :: r, k + 1, hk, hn, h => by
    have h0 : x.1 ≠ key := hn 0 (by omega)
    unfold balI
    rw [if_neg h0]
    have hk' : k < r.length := by simpa using hk
    exact bal_at hk' (fun j hj => hn (j + 1) (by omega)) h
theorem bal_no {key : ByteArray} : ∀ {l : List TItem} (_ : ∀ x ∈ l, x.1 ≠ key), balI key l = 0
  | [], _ => rfl
  | x :: r, h => by
    unfold balI
    rw [if_neg (h x List.mem_cons_self)]
    exact bal_no fun y hy => h y (List.mem_cons_of_mem _ hy)
noncomputable def mBal := mdl (fun x : List TItem × ByteArray => x.1.length ≤ 8796093022207) (fun x => [aL cItem x.1, aS x.2]) (fun x => rI (balI x.2 x.1))
theorem mBal_eq (l : List TItem) (key : ByteArray) (h : l.length ≤ 8796093022207) : mBal [aL cItem l, aS key] = some (rI (balI key l)) := mdl_eq (by rintro ⟨a, b⟩ ⟨d, e⟩ h; simpa using h) (l, key) h
theorem l36At_s : Sound Tryd.prog 29 mBal := by
  refine Sound.mdl Tryd.func29 rfl Tryd.ntmps29 ?_
  rintro ⟨l, key⟩ w hl
  refine ⟨by simp, ?_⟩
  replace hl : l.length ≤ 8796093022207 := hl
  have hΓ : GSound Tryd.prog (look []) := env_nil
  simp only [initS, argPV, List.map_cons, List.map_nil, toPL, Nat.zero_add]
  repeat (first | with_reducible apply W.seq | with_reducible apply W.block | with_reducible apply W.skip | with_reducible apply W.exit | with_reducible apply W.ret | with_reducible apply At.seqN | with_reducible apply At.blkN | with_reducible apply At.blkE | with_reducible apply At.blkR | with_reducible apply At.thenX | with_reducible apply At.thenR | with_reducible apply At.blkX rfl | ((with_reducible apply W.ops); (repeat (first | refine WL.opA hΓ (h := ?_) | refine WL.opX hΓ (h := ?_) | refine WL.opY (h := ?_) | refine WL.opZ (h := ?_))); with_reducible apply WL.nil) | refine W.condT (h := ?_) | refine W.condF (h := ?_))
  refine W.loopA (fun k => k ≤ l.length ∧ ∀ j, (h : j < k) → ∀ hj : j < l.length, l[j].1 ≠ key) (fun k : Nat => [.slot 0 (vL cItem l), .slot 1 (vS key), .slot 5 (vI k)]) (fun k => l.length - k) 0 ⟨Nat.zero_le _, fun j h => by omega⟩ (h := ?_)
  rintro k ⟨hk, hn⟩
  by_cases hlt : k < l.length
  · have hrow := item_row hlt
    have hbal := bal_at (key := key) hlt (fun j hj => hn j hj (by omega))
    have hnx : l[k].1 ≠ key → ∀ j, (h : j < k + 1) → ∀ hj : j < l.length, l[j].1 ≠ key := fun he j h hj => by
      rcases Nat.lt_or_ge j k with h1 | h1
      · exact hn j h1 hj
      · have : j = k := by omega
        subst this
        exact he
    clear hn
    generalize l[k] = x at hrow hbal hnx
    obtain ⟨xk, xn⟩ := x
    dsimp only [bItem] at hrow hbal hnx
    by_cases he : xk = key
    · have hres := hbal he
      clear hbal hnx
      repeat (first | with_reducible apply W.seq | with_reducible apply W.block | with_reducible apply W.skip | with_reducible apply W.exit | with_reducible apply W.ret | with_reducible apply At.seqN | with_reducible apply At.blkN | with_reducible apply At.blkE | with_reducible apply At.blkR | with_reducible apply At.thenX | with_reducible apply At.thenR | with_reducible apply At.blkX rfl | ((with_reducible apply W.ops); (repeat (first | refine WL.opA hΓ (h := ?_) | refine WL.opX hΓ (h := ?_) | refine WL.opY (h := ?_) | refine WL.opZ (h := ?_))); with_reducible apply WL.nil) | refine W.condT (h := ?_) | refine W.condF (h := ?_))
      refine At.retA (by rw [Tryd.results29]) (he := ?_)
      rw [hres]
    · have hnx := hnx he
      clear hbal
      repeat (first | with_reducible apply W.seq | with_reducible apply W.block | with_reducible apply W.skip | with_reducible apply W.exit | with_reducible apply W.ret | with_reducible apply At.seqN | with_reducible apply At.blkN | with_reducible apply At.blkE | with_reducible apply At.blkR | with_reducible apply At.thenX | with_reducible apply At.thenR | with_reducible apply At.blkX rfl | ((with_reducible apply W.ops); (repeat (first | refine WL.opA hΓ (h := ?_) | refine WL.opX hΓ (h := ?_) | refine WL.opY (h := ?_) | refine WL.opZ (h := ?_))); with_reducible apply WL.nil) | refine W.condT (h := ?_) | refine W.condF (h := ?_))
      exact At.roundA (k + 1) ⟨by omega, hnx⟩ (by omega)
  · have hres : balI key l = 0 := bal_no fun x hx => by
      obtain ⟨j, hj, rfl⟩ := List.getElem_of_mem hx
      exact hn j (by omega) hj
    clear hn
    repeat (first | with_reducible apply W.seq | with_reducible apply W.block | with_reducible apply W.skip | with_reducible apply W.exit | with_reducible apply W.ret | with_reducible apply At.seqN | with_reducible apply At.blkN | with_reducible apply At.blkE | with_reducible apply At.blkR | with_reducible apply At.thenX | with_reducible apply At.thenR | with_reducible apply At.blkX rfl | ((with_reducible apply W.ops); (repeat (first | refine WL.opA hΓ (h := ?_) | refine WL.opX hΓ (h := ?_) | refine WL.opY (h := ?_) | refine WL.opZ (h := ?_))); with_reducible apply WL.nil) | refine W.condT (h := ?_) | refine W.condF (h := ?_))
    refine At.retA (by rw [Tryd.results29]) (he := ?_)
    rw [hres]
abbrev okSetI (x : List TItem × ByteArray × Int) : Prop := AscI x.1 ∧ x.1.length ≤ 1000
noncomputable def mSetI := mdl okSetI (fun x => [aL cItem x.1, aS x.2.1, aI x.2.2]) (fun x => rL 36 2 cItem (setI x.2.1 x.2.2 x.1))
theorem mSetI_eq (l : List TItem) (key : ByteArray) (n : Int) (h : okSetI (l, key, n)) : mSetI [aL cItem l, aS key, aI n] = some (rL 36 2 cItem (setI key n l)) := mdl_eq (by rintro ⟨a, b, c⟩ ⟨d, e, f⟩ h; simpa using h) (l, key, n) h
theorem l36Set_s : Sound Tryd.prog 30 mSetI := by
  refine Sound.mdl Tryd.func30 rfl Tryd.ntmps30 ?_
  rintro ⟨l, key, n⟩ w ⟨hs, hl⟩
  refine ⟨by simp, ?_⟩
  dsimp only at hs hl
  have hΓ : GSound Tryd.prog (look []) := env_nil
  have hnil : ([] : List (List Leaf)) = rowsF cItem [] := rfl
  simp only [initS, argPV, List.map_cons, List.map_nil, toPL, Nat.zero_add]
  repeat (first | with_reducible apply W.seq | with_reducible apply W.block | with_reducible apply W.skip | with_reducible apply W.exit | with_reducible apply W.ret | with_reducible apply At.seqN | with_reducible apply At.blkN | with_reducible apply At.blkE | with_reducible apply At.blkR | with_reducible apply At.thenX | with_reducible apply At.thenR | with_reducible apply At.blkX rfl | ((with_reducible apply W.ops); (repeat (first | refine WL.opA hΓ (h := ?_) | refine WL.opX hΓ (h := ?_) | refine WL.opY (h := ?_) | refine WL.opZ (h := ?_))); with_reducible apply WL.nil) | refine W.condT (h := ?_) | refine W.condF (h := ?_))
  refine W.loopA (fun x : Nat × List TItem × Bool => sfo key n (l.take x.1) = (x.2.1, x.2.2) ∧ x.1 ≤ l.length) (fun x => [.slot 0 (vL cItem l), .slot 1 (vS key), .slot 2 (vI n), .slot 7 (one (.all 10)), .blk 10 (.arr true 36 2 (rowsF cItem x.2.1)), .slot 8 (one (.sc (.bool x.2.2))), .slot 9 (vI x.1)]) (fun x => l.length - x.1) (0, [], decide (n = 0)) ⟨by simp [sfo], Nat.zero_le _⟩ (h := ?_)
  rintro ⟨k, o, p⟩ ⟨hfo, hk⟩
  dsimp only at hfo hk ⊢
  have hol := sfo_len key n (l.take k)
  rw [hfo, List.length_take] at hol
  dsimp only at hol
  replace hol : o.length ≤ 2000 := by omega
  have e1 := cItem_app o (key, n)
  dsimp only [bItem] at e1
  clear hnil
  by_cases hlt : k < l.length
  · have hrow := item_row hlt
    have hstep := sfo_succ key n l hlt
    rw [hfo] at hstep
    clear hfo
    generalize l[k] = x at hrow hstep
    obtain ⟨d, e⟩ := x
    have e2 := cItem_app o (d, e)
    have e3 := cItem_app (o ++ [(key, n)]) (d, e)
    have hl3 : (o ++ [(key, n)]).length ≤ 2001 := by simp; omega
    dsimp only [bItem] at hrow e2 e3
    unfold sst at hstep
    dsimp only at hstep
    cases hb : klt d key with
    | true =>
      have hne : ¬ d = key := klt_ne hb
      rw [if_pos hb] at hstep
      unfold klt at hb
      cases p with
      | true =>
        repeat (first | with_reducible apply W.seq | with_reducible apply W.block | with_reducible apply W.skip | with_reducible apply W.exit | with_reducible apply W.ret | with_reducible apply At.seqN | with_reducible apply At.blkN | with_reducible apply At.blkE | with_reducible apply At.blkR | with_reducible apply At.thenX | with_reducible apply At.thenR | with_reducible apply At.blkX rfl | ((with_reducible apply W.ops); (repeat (first | refine WL.opA hΓ (h := ?_) | refine WL.opX hΓ (h := ?_) | refine WL.opY (h := ?_) | refine WL.opZ (h := ?_))); with_reducible apply WL.nil) | refine W.condT (h := ?_) | refine W.condF (h := ?_))
        exact At.roundA (k + 1, o ++ [(d, e)], true) ⟨hstep, by dsimp only; omega⟩ (by dsimp only; omega)
      | false =>
        repeat (first | with_reducible apply W.seq | with_reducible apply W.block | with_reducible apply W.skip | with_reducible apply W.exit | with_reducible apply W.ret | with_reducible apply At.seqN | with_reducible apply At.blkN | with_reducible apply At.blkE | with_reducible apply At.blkR | with_reducible apply At.thenX | with_reducible apply At.thenR | with_reducible apply At.blkX rfl | ((with_reducible apply W.ops); (repeat (first | refine WL.opA hΓ (h := ?_) | refine WL.opX hΓ (h := ?_) | refine WL.opY (h := ?_) | refine WL.opZ (h := ?_))); with_reducible apply WL.nil) | refine W.condT (h := ?_) | refine W.condF (h := ?_))
        exact At.roundA (k + 1, o ++ [(d, e)], false) ⟨hstep, by dsimp only; omega⟩ (by dsimp only; omega)
    | false =>
      rw [hb, if_neg (by simp)] at hstep
      unfold klt at hb
      by_cases he : d = key
      · subst he
        rw [if_pos rfl] at hstep
        cases p with
        | true =>
          rw [if_pos rfl] at hstep
          repeat (first | with_reducible apply W.seq | with_reducible apply W.block | with_reducible apply W.skip | with_reducible apply W.exit | with_reducible apply W.ret | with_reducible apply At.seqN | with_reducible apply At.blkN | with_reducible apply At.blkE | with_reducible apply At.blkR | with_reducible apply At.thenX | with_reducible apply At.thenR | with_reducible apply At.blkX rfl | ((with_reducible apply W.ops); (repeat (first | refine WL.opA hΓ (h := ?_) | refine WL.opX hΓ (h := ?_) | refine WL.opY (h := ?_) | refine WL.opZ (h := ?_))); with_reducible apply WL.nil) | refine W.condT (h := ?_) | refine W.condF (h := ?_))
          exact At.roundA (k + 1, o, true) ⟨hstep, by dsimp only; omega⟩ (by dsimp only; omega)
        | false =>
          rw [if_neg (by simp)] at hstep
          repeat (first | with_reducible apply W.seq | with_reducible apply W.block | with_reducible apply W.skip | with_reducible apply W.exit | with_reducible apply W.ret | with_reducible apply At.seqN | with_reducible apply At.blkN | with_reducible apply At.blkE | with_reducible apply At.blkR | with_reducible apply At.thenX | with_reducible apply At.thenR | with_reducible apply At.blkX rfl | ((with_reducible apply W.ops); (repeat (first | refine WL.opA hΓ (h := ?_) | refine WL.opX hΓ (h := ?_) | refine WL.opY (h := ?_) | refine WL.opZ (h := ?_))); with_reducible apply WL.nil) | refine W.condT (h := ?_) | refine W.condF (h := ?_))
          exact At.roundA (k + 1, o ++ [(d, n)], true) ⟨hstep, by dsimp only; omega⟩ (by dsimp only; omega)
      · rw [if_neg he] at hstep
        cases p with
        | true =>
          rw [if_pos rfl] at hstep
          repeat (first | with_reducible apply W.seq | with_reducible apply W.block | with_reducible apply W.skip | with_reducible apply W.exit | with_reducible apply W.ret | with_reducible apply At.seqN | with_reducible apply At.blkN | with_reducible apply At.blkE | with_reducible apply At.blkR | with_reducible apply At.thenX | with_reducible apply At.thenR | with_reducible apply At.blkX rfl | ((with_reducible apply W.ops); (repeat (first | refine WL.opA hΓ (h := ?_) | refine WL.opX hΓ (h := ?_) | refine WL.opY (h := ?_) | refine WL.opZ (h := ?_))); with_reducible apply WL.nil) | refine W.condT (h := ?_) | refine W.condF (h := ?_))
          exact At.roundA (k + 1, o ++ [(d, e)], true) ⟨hstep, by dsimp only; omega⟩ (by dsimp only; omega)
        | false =>
          rw [if_neg (by simp)] at hstep
          repeat (first | with_reducible apply W.seq | with_reducible apply W.block | with_reducible apply W.skip | with_reducible apply W.exit | with_reducible apply W.ret | with_reducible apply At.seqN | with_reducible apply At.blkN | with_reducible apply At.blkE | with_reducible apply At.blkR | with_reducible apply At.thenX | with_reducible apply At.thenR | with_reducible apply At.blkX rfl | ((with_reducible apply W.ops); (repeat (first | refine WL.opA hΓ (h := ?_) | refine WL.opX hΓ (h := ?_) | refine WL.opY (h := ?_) | refine WL.opZ (h := ?_))); with_reducible apply WL.nil) | refine W.condT (h := ?_) | refine W.condF (h := ?_))
          exact At.roundA (k + 1, (o ++ [(key, n)]) ++ [(d, e)], true) ⟨hstep, by dsimp only; omega⟩ (by dsimp only; omega)
  · have hkl : k = l.length := by omega
    subst hkl
    rw [List.take_length] at hfo
    have hg := sfo_all hs hfo
    clear hfo
    cases p with
    | true =>
      rw [if_pos rfl] at hg
      subst hg
      repeat (first | with_reducible apply W.seq | with_reducible apply W.block | with_reducible apply W.skip | with_reducible apply W.exit | with_reducible apply W.ret | with_reducible apply At.seqN | with_reducible apply At.blkN | with_reducible apply At.blkE | with_reducible apply At.blkR | with_reducible apply At.thenX | with_reducible apply At.thenR | with_reducible apply At.blkX rfl | ((with_reducible apply W.ops); (repeat (first | refine WL.opA hΓ (h := ?_) | refine WL.opX hΓ (h := ?_) | refine WL.opY (h := ?_) | refine WL.opZ (h := ?_))); with_reducible apply WL.nil) | refine W.condT (h := ?_) | refine W.condF (h := ?_))
      refine At.retA (by rw [Tryd.results30]) (he := rfl)
    | false =>
      rw [if_neg (by simp)] at hg
      rw [hg] at e1
      repeat (first | with_reducible apply W.seq | with_reducible apply W.block | with_reducible apply W.skip | with_reducible apply W.exit | with_reducible apply W.ret | with_reducible apply At.seqN | with_reducible apply At.blkN | with_reducible apply At.blkE | with_reducible apply At.blkR | with_reducible apply At.thenX | with_reducible apply At.thenR | with_reducible apply At.blkX rfl | ((with_reducible apply W.ops); (repeat (first | refine WL.opA hΓ (h := ?_) | refine WL.opX hΓ (h := ?_) | refine WL.opY (h := ?_) | refine WL.opZ (h := ?_))); with_reducible apply WL.nil) | refine W.condT (h := ?_) | refine W.condF (h := ?_))
      refine At.retA (by rw [Tryd.results30]) (he := rfl)
end Go.Proofs.YtimnogjgokljbaaDoor

end
section
/-!
  BookDo of spec: what it computes.
-/
namespace Go.Proofs.YtimnogjgokljbaaDoor
set_option maxRecDepth 100000
set_option linter.unusedVariables false
set_option linter.unusedSimpArgs false
open Go Go.RowKit
set_option maxHeartbeats 4000000
set_option linter.unusedVariables false

noncomputable def keyZ (line : ByteArray) : ByteArray := (cutZ line).1
noncomputable def sigZ (line : ByteArray) : Nat := (cutZ line).2.1
noncomputable def resZ (line : ByteArray) : ByteArray := (cutZ line).2.2
noncomputable def blaZ (line : ByteArray) : Nat := byI isSp (resZ line)
noncomputable def toZ (line : ByteArray) : ByteArray := if sigZ line = 62 then (resZ line).extract 0 (blaZ line) else ByteArray.empty
noncomputable def numZ (line : ByteArray) : ByteArray := if sigZ line = 62 then (resZ line).extract (blaZ line + 1) (resZ line).size else resZ line
noncomputable def amtZ (line : ByteArray) : Int := (readZ (numZ line)).1
noncomputable def goodZ (l : List TItem) (line : ByteArray) : Prop := ¬ (sigZ line = 62 ∧ blaZ line = (resZ line).size) ∧ sigZ line ≠ 0 ∧ (readZ (numZ line)).2 = true ∧ keyOk (keyZ line) ∧ (sigZ line = 62 → keyOk (toZ line) ∧ amtZ line ≤ balI (keyZ line) l) ∧ amtZ line ≤ 1000000
noncomputable def outZ (l : List TItem) (line : ByteArray) : List TItem :=
  if sigZ line = 61 then setI (keyZ line) (amtZ line) l else if sigZ line = 43 then setI (keyZ line) (balI (keyZ line) l + amtZ line) l
  else setI (toZ line) (balI (toZ line) (setI (keyZ line) (balI (keyZ line) l - amtZ line) l) + amtZ line) (setI (keyZ line) (balI (keyZ line) l - amtZ line) l)
open Classical in
noncomputable def bdB (l : List TItem) (line : ByteArray) : Bool := decide (bookOk l) && decide (goodZ l line) && decide (bookOk (outZ l line))
open Classical in
noncomputable def bdL (l : List TItem) (line : ByteArray) : List TItem := if bdB l line = true then outZ l line else if bookOk l then l else []
theorem ext_size (s : ByteArray) (a b : Nat) : (s.extract a b).size ≤ s.size := by
  rw [ByteArray.size_extract]
  omega
theorem byI_le (p : Nat → Bool) (s : ByteArray) : byI p s ≤ s.size := by
  rw [← bl_len]
  exact List.findIdx_le_length
theorem keyZ_size (line : ByteArray) : (keyZ line).size ≤ line.size := by
  unfold keyZ cutZ
  split
  · exact ext_size _ _ _
  · exact Nat.le_refl _
theorem resZ_size (line : ByteArray) : (resZ line).size ≤ line.size := by
  unfold resZ cutZ
  split
  · exact ext_size _ _ _
  · exact Nat.zero_le _
theorem toZ_size (line : ByteArray) : (toZ line).size ≤ line.size := by
  unfold toZ
  split
  · exact Nat.le_trans (ext_size _ _ _) (resZ_size line)
  · exact Nat.zero_le _
theorem numZ_size (line : ByteArray) : (numZ line).size ≤ line.size := by
  unfold numZ
  split
  · exact Nat.le_trans (ext_size _ _ _) (resZ_size line)
  · exact resZ_size line
theorem sigZ_in (line : ByteArray) : sigZ line = 0 ∨ sigZ line = 61 ∨ sigZ line = 43 ∨ sigZ line = 62 := by
  unfold sigZ cutZ
  split
  · rename_i h
    have h2 : isSg (bl line)[byI isSg line] = true := List.findIdx_getElem (w := h)
    simp only [isSg, Bool.or_eq_true, decide_eq_true_eq] at h2
    dsimp only
    omega
  · exact .inl rfl
theorem amtZ_in (line : ByteArray) (h : (readZ (numZ line)).2 = true) : -999999999 ≤ amtZ line ∧ amtZ line ≤ 999999999 := by
  unfold amtZ
  unfold readZ at h ⊢
  split at h
  · rename_i hex
    obtain ⟨n, h1, h2⟩ := hex
    have := readZ_yes h1 h2
    unfold readZ at this
    rw [if_pos ⟨n, h1, h2⟩] at this ⊢
    rw [this]
    exact h1
  · cases h
theorem book_at {l : List TItem} (h : bookOk l) {k : Nat} (hk : k < l.length) : keyOk l[k].1 ∧ 1 ≤ l[k].2 ∧ l[k].2 ≤ 1000000 := by
  have := h.2 k hk
  unfold itemAt at this
  simp only [List.getD_eq_getElem?_getD, List.getElem?_eq_getElem hk, Option.getD_some] at this
  exact ⟨this.1, this.2.1, this.2.2.1⟩
theorem book_asc {l : List TItem} (h : bookOk l) : AscI l := by
  show l.Pairwise _
  rw [List.pairwise_iff_getElem]
  have one : ∀ i, (hi : i + 1 < l.length) → klt l[i].1 l[i + 1].1 = true := fun i hi => by
    have := h.2 (i + 1) hi
    unfold itemAt at this
    simp only [List.getD_eq_getElem?_getD, List.getElem?_eq_getElem hi, List.getElem?_eq_getElem (show i < l.length by omega), Option.getD_some, Nat.add_sub_cancel] at this
    exact this.2.2.2 (by omega)
  have key : ∀ d i, (hd : i + d + 1 < l.length) → klt l[i].1 l[i + d + 1].1 = true := by
    intro d
    induction d with
    | zero => exact fun i hd => one i hd
    | succ d ih => exact fun i hd => klt_trans (ih i (by omega)) (one (i + d + 1) hd)
  intro i j hi hj hij
  have := key (j - i - 1) i (by omega)
  have e : i + (j - i - 1) + 1 = j := by omega
  simp only [e] at this
  exact this
theorem bal_in {key : ByteArray} {m : Int} (hm : 0 ≤ m) : ∀ {l : List TItem} (_ : ∀ x ∈ l, -m ≤ x.2 ∧ x.2 ≤ m), -m ≤ balI key l ∧ balI key l ≤ m
  | [], _ => by unfold balI; omega
  | x :: r, h => by
    unfold balI
    split
    · exact h x List.mem_cons_self
    · exact bal_in hm fun y hy => h y (List.mem_cons_of_mem _ hy)
end Go.Proofs.YtimnogjgokljbaaDoor

end
