/-
  Put together: PEvStore PEvCVals PEvShaG.
-/
import Derived.Test.YtfgkfcfplodaoaaGreatDoorG33
import Derived.Test.YtfgkfcfplodaoaaGreatDoorHPEvSort1
set_option linter.unusedSimpArgs false
set_option linter.unusedVariables false
set_option maxRecDepth 100000
section
namespace Go.Proofs.YtfgkfcfplodaoaaGreatDoor
open Go Go.RowKit
set_option maxHeartbeats 4000000
abbrev TStore := List THeader × Int
@[simp] theorem rowsF_Header {a b : List THeader} : rowsF cHeader a = rowsF cHeader b ↔ a = b := rowsF_iff fun x y h => by simpa [cHeader, Prod.ext_iff] using h
abbrev aSto (t : TStore) : Arg := .val true [.sl (rowsF cHeader t.1), .sc (.int .i64 t.2)]
abbrev rSto (t : TStore) : List RL := [.own .ft 30 6 (rowsF cHeader t.1), .ro (.sc (.int .i64 t.2))]
abbrev bxSto (t : TStore) : Blk := .box [.sl (rowsF cHeader t.1), .sc (.int .i64 t.2)]
theorem aSto_inj {a b : TStore} (h : aSto a = aSto b) : a = b := by
  obtain ⟨a1, a2⟩ := a
  obtain ⟨b1, b2⟩ := b
  simpa using h
abbrev lHd (x : THeader) : List Leaf := [.sc (.int .i64 x.1), .sc (.int .i64 x.2.1), .sc (.string x.2.2.1), .sc (.string x.2.2.2.1), .sc (.string x.2.2.2.2.1), .sc (.string x.2.2.2.2.2)]
theorem cHeader_row (l : List THeader) (k : Nat) (h : k < l.length) : (rowsF cHeader l)[k]? = some (lHd l[k]) := rowsF_get cHeader l k h
theorem cHeader_app (l : List THeader) (x : THeader) : rowsF cHeader l ++ [lHd x] = rowsF cHeader (l ++ [x]) := by rw [← rowsF_app]; rfl
def zHd : THeader := (0, 0, ByteArray.empty, ByteArray.empty, ByteArray.empty, ByteArray.empty)
def hdD (l : List THeader) (j : Nat) : THeader := l.getD j zHd
theorem hdD_get {l : List THeader} {j : Nat} (h : j < l.length) : hdD l j = l[j] := by
  unfold hdD
  rw [List.getD_eq_getElem?_getD, List.getElem?_eq_getElem h]
  rfl
theorem hdD_row {l : List THeader} {k : Nat} (h : k < l.length) : (rowsF cHeader l)[k]? = some (lHd (hdD l k)) := by
  rw [cHeader_row l k h, hdD_get h]
def linkOk (y x : THeader) : Prop := x.1 = y.1 + 1 ∧ x.2.2.1 = headId y ∧ y.2.1 < x.2.1 ∧ x.2.2.2.1 = y.2.2.2.2.1
def hdAt (l : List THeader) (j : Nat) : Prop := headOk (hdD l j) ∧ (0 < j → linkOk (hdD l (j - 1)) (hdD l j))
def storeOk (t : TStore) : Prop := (t.1.length ≤ 20 ∧ 0 ≤ t.2 ∧ t.2 ≤ (t.1.length : Int)) ∧ ∀ j, j < t.1.length → hdAt t.1 j
open Classical in
noncomputable instance (t : TStore) : Decidable (storeOk t) := Classical.propDecidable _
theorem storeOk_len {t : TStore} (h : storeOk t) : t.1.length ≤ 20 := h.1.1
theorem hd_next {l : List THeader} {k : Nat} (hI : ∀ j, j < k → hdAt l j) (h : hdAt l k) : ∀ j, j < k + 1 → hdAt l j := fun j hj => by
  rcases Nat.lt_or_ge j k with h1 | h1
  · exact hI j h1
  · have : j = k := by omega
    subst this
    exact h
theorem store_bad {l : List THeader} {n : Int} {k : Nat} (hk : k < l.length) (h : ¬ hdAt l k) : decide (storeOk (l, n)) = false := decide_eq_false fun q => h (q.2 k hk)
abbrev okSto (t : TStore) : Prop := t.1.length ≤ 1048576
noncomputable def mCopySt := mdl okSto (fun t => [aSto t]) (fun t => .comp true (rSto t))
theorem mCopySt_eq (t : TStore) (h : okSto t) : mCopySt [aSto t] = some (.comp true (rSto t)) := mdl_eq (fun a b h => aSto_inj (by simpa using h)) t h
theorem copySt_s : Sound Tryz.prog 236 mCopySt := by
  refine Sound.mdl Tryz.func236 rfl Tryz.ntmps236 ?_
  rintro ⟨l, n⟩ w hl
  refine ⟨by simp, ?_⟩
  replace hl : l.length ≤ 1048576 := hl
  have hΓ : GSound Tryz.prog (look []) := env_nil
  have hw : wid 6 (rowsF cHeader l) := rowsF_wid (f := cHeader) (fun _ => rfl) l
  have hlen := rowsF_len cHeader l
  have hnil : ([] : List (List Leaf)) ++ rowsF cHeader l = rowsF cHeader l := rfl
  simp only [initS, argPV, List.map_cons, List.map_nil, toPL, Nat.zero_add]
  refine zR ?_
  refine W.subA [.slot 2 (one (.ptr 2 0)), .blk 2 (.box [.nil, .sc (.int .i64 0)]), .slot 1 (one (.ptr 1 0)), .blk 1 (bxSto (l, n))] (h := ?_)
  refine AllGo.start hΓ (h := ?_)
  refine AllGo.add 0 0 (h := ?_)
  refine AllGo.add 1 1 (h := ?_)
  refine AllGo.add 3 2 (h := ?_)
  refine AllGo.add 0 3 (h := ?_)
  refine AllGo.add 1 3 (h := ?_)
  refine AllGo.add 3 3 (h := ?_)
  refine AllGo.add 7 3 (h := ?_)
  refine AllGo.add 8 4 (h := ?_)
  refine AllGo.add 9 4 (h := ?_)
  refine AllGo.add 11 4 (h := ?_)
  refine AllGo.add 15 4 (h := ?_)
  refine AllGo.add 31 5 (h := ?_)
  refine AllGo.add 63 6 (h := ?_)
  refine AllGo.done hΓ [(0, 0), (0, 3), (1, 1), (1, 3), (3, 2), (3, 3), (7, 3), (8, 0), (8, 4), (9, 1), (9, 4), (11, 2), (11, 4), (15, 4), (24, 0), (25, 1), (27, 2), (31, 5), (63, 6)] (hp := ?hp1) (hD := ?hD1) (h0 := ?h01) (hS := ?hS1) (stE := ?stE1) (hE := ?hE1) (hT := ?hT1)
  case hp1 => kernel_rfl
  case hD1 => kernel_rfl
  case h01 => rfl
  case hS1 =>
    repeat (refine List.forall_mem_cons.2 ⟨StepAt.mk' (ho := by rfl) (hg := by rfl) (hm := by simp only [tabJ, eq_self, Nat.reduceEqDiff, reduceIte] <;> rfl) (hn := by simp only [tabJ, eq_self, Nat.reduceEqDiff, Nat.reduceAdd, Nat.reducePow, reduceIte] <;> rfl) (hs := by exact evsP) (hb := by simp (disch := omega) only [Sub, SubL, getS_hit, getS_miss, getS_blk, getS_kill, getS_nil, getB_nil, getB_slot, getB_hit, getB_miss, getB_kill0, getB_kill1, lsNms, vsNms, PL.nms, PV.nms, Blk.nms, bound, PV.kill, PL.kill, PL.names, List.append_nil, List.nil_append, List.cons_append, and_true, true_and, and_self, *] <;> (repeat' apply And.intro) <;> rfl), ?_⟩)
    exact List.forall_mem_nil _
  case hE1 => simp only [tabJ, eq_self, Nat.reduceEqDiff, List.length_cons, List.length_nil, Nat.reduceAdd, Nat.reducePow, Nat.reduceSub, reduceIte] <;> rfl
  with_reducible apply WL.nil
  refine zR ?_
  refine At.retA (by rw [Tryz.results236]) (he := rfl)
noncomputable def mSto := mdl (fun t : TStore => t.1.length ≤ 8796093022207) (fun t => [aSto t]) (fun t => rB (decide (storeOk t)))
theorem mSto_eq (t : TStore) (h : t.1.length ≤ 8796093022207) : mSto [aSto t] = some (rB (decide (storeOk t))) := mdl_eq (fun a b h => aSto_inj (by simpa using h)) t h
def findHd (l : List THeader) (n : Int) : THeader × Bool := match l.find? (fun h => decide (h.1 = n)) with
  | some h => (h, true)
  | none => (zHd, false)
noncomputable def getHd (t : TStore) (n : Int) : THeader × Bool := if decide (storeOk t) then findHd t.1 n else (zHd, false)
abbrev rlHd (x : THeader) : List RL := [.ro (.sc (.int .i64 x.1)), .ro (.sc (.int .i64 x.2.1)), .ro (.sc (.string x.2.2.1)), .ro (.sc (.string x.2.2.2.1)), .ro (.sc (.string x.2.2.2.2.1)), .ro (.sc (.string x.2.2.2.2.2))]
abbrev rHdB (y : THeader × Bool) : Res := .tup [(true, rlHd y.1), rSc (.bool y.2)]
noncomputable def mGetSt := mdl (fun x : TStore × Int => x.1.1.length ≤ 8796093022207) (fun x => [aSto x.1, aI x.2]) (fun x => rHdB (getHd x.1 x.2))
theorem mGetSt_eq (t : TStore) (n : Int) (h : t.1.length ≤ 8796093022207) : mGetSt [aSto t, aI n] = some (rHdB (getHd t n)) := mdl_eq (by
  rintro ⟨⟨a, b⟩, c⟩ ⟨⟨d, e⟩, f⟩ h
  simp at h
  simp [h]) (t, n) h
theorem findHd_at {l : List THeader} {n : Int} {k : Nat} (h : k < l.length) (hb : ∀ j, j < k → ¬ (hdD l j).1 = n) (hk : (hdD l k).1 = n) : findHd l n = (hdD l k, true) := by
  have : l.find? (fun h => decide (h.1 = n)) = some l[k] := by
    refine List.find?_eq_some_iff_getElem.2 ⟨by rw [← hdD_get h]; exact decide_eq_true hk, k, h, rfl, fun j hj => ?_⟩
    have := hb j hj
    rw [hdD_get (by omega)] at this
    simpa using this
  unfold findHd
  rw [this, hdD_get h]
theorem findHd_no {l : List THeader} {n : Int} (hb : ∀ j, j < l.length → ¬ (hdD l j).1 = n) : findHd l n = (zHd, false) := by
  have : l.find? (fun h => decide (h.1 = n)) = none := by
    refine List.find?_eq_none.2 fun x hx => ?_
    obtain ⟨j, hj, rfl⟩ := List.getElem_of_mem hx
    have := hb j hj
    rw [hdD_get hj] at this
    simpa using this
  unfold findHd
  rw [this]
end Go.Proofs.YtfgkfcfplodaoaaGreatDoor

end
section
namespace Go.Proofs.YtfgkfcfplodaoaaGreatDoor
open Go Go.RowKit
set_option maxHeartbeats 4000000
theorem strict_ext : ∀ {a b : List Int}, a.Pairwise (· < ·) → b.Pairwise (· < ·) → (∀ x, x ∈ a ↔ x ∈ b) → a = b
  | [], [], _, _, _ => rfl
  | [], y :: r, _, _, h => by have := (h y).2 (List.mem_cons_self ..); cases this
  | x :: r, [], _, _, h => by have := (h x).1 (List.mem_cons_self ..); cases this
  | x :: r, y :: q, ha, hb, h => by
    rw [List.pairwise_cons] at ha hb
    have h1 := (h x).1 (List.mem_cons_self ..)
    have h2 := (h y).2 (List.mem_cons_self ..)
    have e : x = y := by
      rcases List.mem_cons.1 h1 with h1 | h1
      · exact h1
      · rcases List.mem_cons.1 h2 with h2 | h2
        · exact h2.symm
        · have := hb.1 x h1; have := ha.1 y h2; omega
    subst e
    rw [strict_ext ha.2 hb.2 fun z => ⟨fun hz => ?_, fun hz => ?_⟩]
    · rcases List.mem_cons.1 ((h z).1 (List.mem_cons_of_mem _ hz)) with e | e
      · have := ha.1 z hz; omega
      · exact e
    · rcases List.mem_cons.1 ((h z).2 (List.mem_cons_of_mem _ hz)) with e | e
      · have := hb.1 z hz; omega
      · exact e
theorem compact_up {l : List Int} (h : l.Pairwise (· ≤ ·)) : ∀ m, m ≤ l.length → (Lib.compactUpTo l.toArray m).Pairwise (· < ·) ∧ ∀ x, x ∈ Lib.compactUpTo l.toArray m ↔ ∃ i, i < m ∧ l[i]? = some x
  | 0, _ => ⟨List.Pairwise.nil, fun x => ⟨fun h => by simp [Lib.compactUpTo] at h, fun ⟨i, hi, _⟩ => by omega⟩⟩
  | m + 1, hm => by
    obtain ⟨h1, h2⟩ := compact_up h m (by omega)
    have hg : ∀ i, i < l.length → l.toArray[i]! = l.getD i 0 := fun i hi => by simp [hi]
    have hgi : ∀ i, i < l.length → l[i]? = some (l.getD i 0) := fun i hi => by simp [List.getD_eq_getElem?_getD, hi]
    have hle : ∀ i j, i ≤ j → j < l.length → l.getD i 0 ≤ l.getD j 0 := fun i j hij hj => by
      by_cases e : i = j
      · rw [e]; exact Int.le_refl _
      · have := List.pairwise_iff_getElem.1 h i j (by omega) hj (by omega)
        simpa [List.getD_eq_getElem?_getD, hj, show i < l.length by omega] using this
    rw [Lib.compactUpTo_succ]
    cases hk : Lib.keeps l.toArray m with
    | true =>
      rw [if_pos rfl, hg m (by omega)]
      refine ⟨List.pairwise_append.2 ⟨h1, List.pairwise_singleton _ _, fun x hx y hy => ?_⟩, fun x => ?_⟩
      · rw [List.mem_singleton] at hy
        subst hy
        obtain ⟨i, hi, hx⟩ := (h2 x).1 hx
        rw [hgi i (by omega)] at hx
        cases hx
        have a1 := hle i (m - 1) (by omega) (by omega)
        have a2 := hle (m - 1) m (by omega) (by omega)
        have hne : l.getD m 0 ≠ l.getD (m - 1) 0 := by
          have := of_decide_eq_true hk
          rw [hg m (by omega), hg (m - 1) (by omega)] at this
          rcases this with h | h
          · omega
          · exact h
        omega
      · rw [List.mem_append, List.mem_singleton, h2]
        constructor
        · rintro (⟨i, hi, hx⟩ | rfl)
          · exact ⟨i, by omega, hx⟩
          · exact ⟨m, by omega, hgi m (by omega)⟩
        · rintro ⟨i, hi, hx⟩
          by_cases e : i = m
          · subst e
            rw [hgi i (by omega)] at hx
            cases hx
            exact .inr rfl
          · exact .inl ⟨i, by omega, hx⟩
    | false =>
      rw [if_neg (by simp), List.append_nil]
      refine ⟨h1, fun x => ?_⟩
      have hne := of_decide_eq_false hk
      rw [not_or, hg m (by omega), hg (m - 1) (by omega)] at hne
      obtain ⟨n1, n2⟩ := hne
      have n3 : l.getD m 0 = l.getD (m - 1) 0 := Classical.not_not.1 n2
      rw [h2]
      constructor
      · rintro ⟨i, hi, hx⟩; exact ⟨i, by omega, hx⟩
      · rintro ⟨i, hi, hx⟩
        by_cases e : i = m
        · subst e
          exact ⟨i - 1, by omega, by rw [hgi i (by omega), n3] at hx; rw [hgi (i - 1) (by omega)]; exact hx⟩
        · exact ⟨i, by omega, hx⟩
theorem compact_strict {l : List Int} (h : l.Pairwise (· ≤ ·)) : (Lib.compact l).Pairwise (· < ·) ∧ ∀ x, x ∈ Lib.compact l ↔ x ∈ l := by
  obtain ⟨h1, h2⟩ := compact_up h l.length (Nat.le_refl _)
  refine ⟨h1, fun x => ?_⟩
  show x ∈ Lib.compactUpTo l.toArray l.length ↔ _
  rw [h2, List.mem_iff_getElem?]
  constructor
  · rintro ⟨i, _, h⟩; exact ⟨i, h⟩
  · rintro ⟨i, h⟩; exact ⟨i, (List.getElem?_eq_some_iff.1 h).1, h⟩
abbrev TCommit := Int × Int × ByteArray × List TCSig
abbrev aCm (c : TCommit) : Arg := .val true [.sc (.int .i64 c.1), .sc (.int .i64 c.2.1), .sc (.string c.2.2.1), .sl (rowsF cCSig c.2.2.2)]
theorem csig_inj {a b : List TCSig} : rowsF cCSig a = rowsF cCSig b ↔ a = b := by
  refine ⟨fun h => ?_, fun h => by rw [h]⟩
  unfold rowsF at h
  refine (List.map_inj_right fun x y h => ?_).1 h
  obtain ⟨x1, x2⟩ := x
  obtain ⟨y1, y2⟩ := y
  simpa [cCSig] using h
theorem aCm_inj : ∀ x y : TCommit, [aCm x] = [aCm y] → x = y := by
  rintro ⟨a, b, c, l⟩ ⟨a', b', c', l'⟩ h
  simpa [aCm, csig_inj] using h
abbrev okCm (c : TCommit) : Prop := c.2.2.2.length ≤ 8796093022207
def sgAt (c : TCommit) (v : Int) (s : ByteArray) : Bool := signedB (c.1, c.2.1, 2, c.2.2.1, v) s
def hasK (c : TCommit) (v : Int) (k : Nat) : Bool := (c.2.2.2.take k).any fun g => decide (g.1 = v) && sgAt c v g.2
def cvK (c : TCommit) (k : Nat) : List Int := ((List.range k).map fun i : Nat => (i : Int) + 1).filter fun v => hasK c v c.2.2.2.length
theorem cvK_len (c : TCommit) (k : Nat) : (cvK c k).length ≤ k := by
  unfold cvK
  have := List.length_filter_le (fun v => hasK c v c.2.2.2.length) ((List.range k).map fun i : Nat => (i : Int) + 1)
  simpa using this
def cvals (c : TCommit) : List Int := if c.2.2.2.length ≤ 12 then cvK c 99 else []
theorem cvals_len (c : TCommit) : (cvals c).length ≤ 99 := by
  unfold cvals
  split
  · exact cvK_len c 99
  · simp
abbrev okCmI (x : TCommit × Int) : Prop := okCm x.1
abbrev aCmI (x : TCommit × Int) : List Arg := [aCm x.1, aI x.2]
abbrev rVt (x : TCommit × Int) : Res := Res.comp true [.ro (.sc (.int .i64 x.1.1)), .ro (.sc (.int .i64 x.1.2.1)), .ro (.sc (.int .i64 2)), .ro (.sc (.string x.1.2.2.1)), .ro (.sc (.int .i64 x.2))]
theorem aCmI_inj : ∀ x y, aCmI x = aCmI y → x = y := by
  rintro ⟨⟨a, b, c, l⟩, v⟩ ⟨⟨a', b', c', l'⟩, v'⟩ h
  simpa [aCmI, aCm, csig_inj, and_assoc] using h
noncomputable def mL9Vote := mdl okCmI aCmI rVt
theorem mL9Vote_eq (c : TCommit) (v : Int) (h : okCm c) : mL9Vote [aCm c, aI v] = some (rVt (c, v)) := mdl_eq aCmI_inj (c, v) h
theorem l9Vote_s : Sound Tryz.prog 79 mL9Vote := by
  refine Sound.mdl Tryz.func79 rfl Tryz.ntmps79 ?_
  rintro ⟨⟨h, r, id, l⟩, v⟩ w hl
  refine ⟨by simp, ?_⟩
  have hΓ : GSound Tryz.prog (look []) := env_nil
  simp only [initS, argPV, List.map_cons, List.map_nil, toPL, Nat.zero_add]
  refine zR ?_
  refine At.retA (by rw [Tryz.results79]) (he := rfl)
def outK (c : TCommit) (k : Nat) : List Int := ((c.2.2.2.take k).filter fun g => sgAt c g.1 g.2).map (·.1)
theorem outK_succ {c : TCommit} {k : Nat} (h : k < c.2.2.2.length) : outK c (k + 1) = outK c k ++ (if sgAt c c.2.2.2[k].1 c.2.2.2[k].2 then [c.2.2.2[k].1] else []) := by
  unfold outK
  rw [List.take_succ_eq_append_getElem h, List.filter_append, List.map_append]
  congr 1
  simp only [List.filter_cons, List.filter_nil]
  split <;> rfl
theorem outK_len (c : TCommit) (k : Nat) : (outK c k).length ≤ k := by
  unfold outK
  rw [List.length_map]
  refine Nat.le_trans (List.length_filter_le _ _) ?_
  rw [List.length_take]
  omega
theorem cvK_mem (c : TCommit) (x : Int) : x ∈ cvK c 99 ↔ (1 ≤ x ∧ x ≤ 99) ∧ hasK c x c.2.2.2.length = true := by
  unfold cvK
  rw [List.mem_filter, List.mem_map]
  refine and_congr ⟨?_, fun h => ⟨(x - 1).toNat, by rw [List.mem_range]; omega, by omega⟩⟩ Iff.rfl
  rintro ⟨i, hi, rfl⟩
  rw [List.mem_range] at hi
  omega
theorem cvK_strict (c : TCommit) (k : Nat) : (cvK c k).Pairwise (· < ·) := by
  unfold cvK
  refine List.Pairwise.filter _ ?_
  rw [List.pairwise_map]
  exact (List.pairwise_lt_range (n := k)).imp fun h => by omega
theorem outK_mem (c : TCommit) (x : Int) : x ∈ outK c c.2.2.2.length ↔ (1 ≤ x ∧ x ≤ 99) ∧ hasK c x c.2.2.2.length = true := by
  unfold outK hasK
  rw [List.take_length, List.any_eq_true, List.mem_map]
  constructor
  · rintro ⟨g, hg, rfl⟩
    rw [List.mem_filter] at hg
    obtain ⟨h1, h2⟩ := hg
    refine ⟨?_, g, h1, by simp [h2]⟩
    unfold sgAt signedB at h2
    rw [Bool.and_eq_true, decide_eq_true_eq] at h2
    exact h2.1.2.2.2.2
  · rintro ⟨_, g, h1, h2⟩
    rw [Bool.and_eq_true, decide_eq_true_eq] at h2
    obtain ⟨rfl, h2⟩ := h2
    exact ⟨g, List.mem_filter.2 ⟨h1, h2⟩, rfl⟩
theorem cvals_of {c : TCommit} {l' : List Int} (hp : l'.Perm (outK c c.2.2.2.length)) (hs : l'.Pairwise fun x y => x ≤ y) (h12 : c.2.2.2.length ≤ 12) : Lib.compact l' = cvals c := by
  obtain ⟨h1, h2⟩ := compact_strict hs
  unfold cvals
  rw [if_pos h12]
  refine strict_ext h1 (cvK_strict c 99) fun x => ?_
  rw [h2, hp.mem_iff, outK_mem, cvK_mem]
theorem csig_row {l : List TCSig} {k : Nat} (h : k < l.length) : (rowsF cCSig l)[k]? = some [.sc (.int .i64 l[k].1), .sc (.string l[k].2)] := rowsF_get cCSig l k h
noncomputable def mCValsI := mdl okCm (fun c => [aCm c]) (fun c => if c.2.2.2.length ≤ 12 then rL 3 1 cInt (cvals c) else rN)
theorem mCValsI_eq (c : TCommit) (h : okCm c) (h12 : c.2.2.2.length ≤ 12) : mCValsI [aCm c] = some (rL 3 1 cInt (cvals c)) := by
  have := mdl_eq (ok := okCm) (enc := fun c => [aCm c]) (g := fun c => if c.2.2.2.length ≤ 12 then rL 3 1 cInt (cvals c) else rN) aCm_inj c h
  rw [if_pos h12] at this
  exact this
theorem mCValsI_no (c : TCommit) (h : okCm c) (h12 : ¬ c.2.2.2.length ≤ 12) : mCValsI [aCm c] = some rN := by
  have := mdl_eq (ok := okCm) (enc := fun c => [aCm c]) (g := fun c => if c.2.2.2.length ≤ 12 then rL 3 1 cInt (cvals c) else rN) aCm_inj c h
  rw [if_neg h12] at this
  exact this
theorem cvalsI_s : Sound Tryz.prog 128 mCValsI := by
  refine Sound.mdl Tryz.func128 rfl Tryz.ntmps128 ?_
  rintro ⟨h, r, id, l⟩ w hl
  refine ⟨by simp, ?_⟩
  replace hl : l.length ≤ 8796093022207 := hl
  have hΓ : GSound Tryz.prog (look [(173, mSigned)]) := env_cons (has_of Tryz.func173 rfl rfl) signedI_s env_nil
  have hSo : Has Tryz.prog 174 := has_of Tryz.func174 rfl rfl
  have hCo : Has Tryz.prog 175 := has_of Tryz.func175 rfl rfl
  have hlen := rowsF_len cCSig l
  have hnil : rowsF cInt [] = [] := rfl
  simp only [initS, argPV, List.map_cons, List.map_nil, toPL, Nat.zero_add]
  by_cases h12 : l.length ≤ 12
  · have hz : rowsF cInt (outK (h, r, id, l) 0) = [] := rfl
    refine zR ?_
    refine W.loopA (fun k => k ≤ l.length) (fun k : Nat => [.slot 1 (one (.ptr 1 0)), .blk 1 (.box [.sc (.int .i64 h), .sc (.int .i64 r), .sc (.string id), .sl (rowsF cCSig l)]), .slot 12 (one (.sl (rowsF cCSig l))), .slot 13 (vI l.length), .slot 14 (vI k), .slot 3 (one (.all 10)), .blk 10 (.arr .ft 3 1 (rowsF cInt (outK (h, r, id, l) k)))]) (fun k => l.length - k) 0 (Nat.zero_le _) (h := ?_)
    rintro k hk
    clear hz hnil
    have hol := outK_len (h, r, id, l) k
    by_cases hlt : k < l.length
    · have hrow := csig_row hlt
      have hs1 : signedB (h, r, 2, id, l[k].1) l[k].2 = true → outK (h, r, id, l) (k + 1) = outK (h, r, id, l) k ++ [l[k].1] := fun e => by rw [outK_succ (c := (h, r, id, l)) hlt]; exact congrArg (outK (h, r, id, l) k ++ ·) (if_pos e)
      have hs2 : signedB (h, r, 2, id, l[k].1) l[k].2 = false → outK (h, r, id, l) (k + 1) = outK (h, r, id, l) k := fun e => by
        have e' : ¬ sgAt (h, r, id, l) l[k].1 l[k].2 = true := by show ¬ signedB (h, r, 2, id, l[k].1) l[k].2 = true; rw [e]; simp
        have := outK_succ (c := (h, r, id, l)) hlt
        rw [this]
        refine (congrArg (outK (h, r, id, l) k ++ ·) (if_neg e')).trans (List.append_nil _)
      have c2 := mSigned_eq (h, r, 2, id, l[k].1) l[k].2
      dsimp only [aVt] at c2
      cases hsb : signedB (h, r, 2, id, l[k].1) l[k].2 with
      | true =>
        have hsu := hs1 hsb
        rw [hsb] at c2
        clear hs1 hs2
        have e : rowsF cInt (outK (h, r, id, l) k) ++ [[.sc (.int .i64 l[k].1)]] = rowsF cInt (outK (h, r, id, l) (k + 1)) := by rw [hsu, ← rowsF_app]; rfl
        clear hsu hsb
        refine zR ?_
        exact At.roundA (k + 1) (by omega) (by omega)
      | false =>
        have hsu := hs2 hsb
        rw [hsb] at c2
        clear hsb hs1 hs2
        refine zR ?_
        exact At.roundA (k + 1) (by omega) (by omega)
    · have hke : k = l.length := by omega
      subst hke
      refine zR ?_
      refine zO ?_
      refine zL ?_
      refine WL.opSort1A (n := 10) hSo sortI_s (fun _ => rfl) (outK (h, r, id, l) l.length) (by omega) (h := ?_)
      rintro l' hp hs
      refine zL ?_
      refine zE ?_
      have hcv := cvals_of (c := (h, r, id, l)) hp hs h12
      have hl' : l'.length ≤ 12 := by rw [hp.length_eq]; omega
      clear hp hs
      refine zR ?_
      refine zO ?_
      refine zL ?_
      refine WL.opCut1A (n := 10) hCo (compI_s _) l' (by omega) (h := ?_)
      rw [hcv]
      refine zL ?_
      refine zE ?_
      refine zR ?_
      refine At.retA (by rw [Tryz.results128]) (he := ?_)
      simp only [if_pos h12]
  · refine zR ?_
    refine At.retA (by rw [Tryz.results128]) (he := ?_)
    simp only [if_neg h12]
end Go.Proofs.YtfgkfcfplodaoaaGreatDoor

end
section
namespace Go.Proofs.YtfgkfcfplodaoaaGreatDoor
open Go Go.RowKit
set_option maxHeartbeats 4000000
theorem bsS_ext {a b : List Nat} (ha : ∀ x ∈ a, x < 256) (hb : ∀ x ∈ b, x < 256) (h : bsS a = bsS b) : a = b := by
  have hl : a.length = b.length := by rw [← bsS_size a, ← bsS_size b, h]
  refine List.ext_getElem hl fun i h1 h2 => ?_
  have e : byteN (bsS a) i = byteN (bsS b) i := by rw [h]
  rw [byte_bsS ha, byte_bsS hb, nth_eq, nth_eq, List.getD_eq_getElem?_getD, List.getD_eq_getElem?_getD, List.getElem?_eq_getElem h1, List.getElem?_eq_getElem h2] at e
  exact e
theorem bsS_left (a r : List Nat) (n : Nat) (h : a.length = n) : (bsS (a ++ r)).extract 0 n = bsS a := by
  subst h
  unfold bsS
  apply ByteArray.ext
  rw [ByteArray.data_extract]
  simp
theorem outL_lt (v : W8) (k : Nat) : ∀ x ∈ outL v k, x < 256 := by
  intro x hx
  unfold outL at hx
  obtain ⟨y, _, hy⟩ := List.mem_flatMap.1 hx
  exact fixB_lt _ _ x hy
noncomputable def bX (X k : Nat) : Int := ((nth (fixB 8 X) k : Nat) : Int)
theorem sha_byte {l : List Nat} {X : Nat} (hl : l.length ≤ 55) (h : ∀ x ∈ l, x < 256) (hX : hash1 l = X) {k : Nat} (hk : k < 8) : ((byteN (shaS (bsS l)) k : Nat) : Int) = bX X k := by
  obtain ⟨r, hr⟩ := outL_two (shaW8 (bsS l)) (by
    have := foldK_ok (padS (bsS l)) ((padS (bsS l)).size / 64)
    exact ⟨this.1.1, this.1.2.1⟩)
  unfold shaS
  rw [byte_bsS (outL_lt _ _), hr, hash1_eq hl h, hX]
  unfold bX
  congr 1
  rw [nth_eq, nth_eq, List.getD_eq_getElem?_getD, List.getD_eq_getElem?_getD, List.getElem?_append_left (by rw [fixB_len]; exact hk)]
theorem short_eq {l : List Nat} {X : Nat} (hl : l.length ≤ 55) (h : ∀ x ∈ l, x < 256) (hX : hash1 l = X) : shortS (bsS l) = bsS (fixB 8 X) := by
  obtain ⟨r, hr⟩ := outL_two (shaW8 (bsS l)) (by
    have := foldK_ok (padS (bsS l)) ((padS (bsS l)).size / 64)
    exact ⟨this.1.1, this.1.2.1⟩)
  unfold shortS shaS
  rw [hr, hash1_eq hl h, hX]
  exact bsS_left _ r 8 (fixB_len 8 X)
theorem varS_one {n : Int} (h0 : 0 ≤ n) (h : n < 128) : varS n = bsS [n.toNat] := by
  unfold varS
  rw [if_pos ⟨h0, by omega⟩]
  show bsS (varF 6 n.toNat) = _
  rw [varF_lo 6 (by omega)]
theorem piece_eq {l : List Nat} (h : l.length < 128) : pieceS (bsS l) = bsS (l.length :: l) := by
  unfold pieceS
  rw [bsS_size, varS_one (by omega) (by omega), bsS_app]
  rfl
def tvL (v : TVal) : List Nat := [v.1.toNat, v.2.toNat]
def showVL (l : List TVal) : List Nat := l.length :: l.flatMap tvL
def smallV (l : List TVal) : Bool := l.all fun v => decide (v.1 < 128) && decide (v.2 < 128)
theorem valAt_pos {l : List TVal} (h : valsOk l) {v : TVal} (hv : v ∈ l) : 1 ≤ v.1 ∧ 1 ≤ v.2 := by
  obtain ⟨k, hk, rfl⟩ := List.getElem_of_mem hv
  have h1 := h.2 k hk
  unfold valAt at h1
  have e : l.getD k (0, 0) = l[k] := by rw [List.getD_eq_getElem?_getD, List.getElem?_eq_getElem hk]; rfl
  rw [e] at h1
  exact ⟨h1.1, h1.2.2.1⟩
theorem smallV_at {l : List TVal} (h : smallV l = true) {v : TVal} (hv : v ∈ l) : v.1 < 128 ∧ v.2 < 128 := by
  have := List.all_eq_true.1 h v hv
  simpa using this
theorem showK_eq {l : List TVal} (h : valsOk l) (hs : smallV l = true) : ∀ k, k ≤ l.length → showK l k = bsS (l.length :: (l.take k).flatMap tvL)
  | 0, _ => by
    have := h.1.2
    show varS l.length = _
    rw [varS_one (by omega) (by omega)]
    simp
  | k + 1, hk => by
    have hv := List.getElem_mem (show k < l.length by omega)
    have h1 := valAt_pos h hv
    have h2 := smallV_at hs hv
    rw [showK_succ (by omega), showK_eq h hs k (by omega), varS_one (by omega) h2.1, varS_one (by omega) h2.2, bsS_app, bsS_app, List.take_succ_eq_append_getElem (by omega), List.flatMap_append]
    congr 1
    simp [tvL]
theorem showVL_len (l : List TVal) : (showVL l).length = 1 + 2 * l.length := by
  unfold showVL
  rw [List.length_cons]
  have : (l.flatMap tvL).length = 2 * l.length := by
    induction l with
    | nil => rfl
    | cons a r ih => rw [List.flatMap_cons, List.length_append, ih]; show 2 + _ = _; rw [List.length_cons]; omega
  omega
theorem vhash_eq {l : List TVal} (h : valsOk l) (hs : smallV l = true) {X : Nat} (hX : hash1 (showVL l) = X) : vhash l = bsS (fixB 8 X) := by
  rw [vhash_yes h, showV_yes h, showK_eq h hs l.length (Nat.le_refl _), List.take_length]
  have hl := h.1.2
  refine short_eq (l := showVL l) (by rw [showVL_len]; omega) (fun x hx => ?_) hX
  unfold showVL at hx
  rcases List.mem_cons.1 hx with rfl | hx
  · omega
  · obtain ⟨v, hv, hx⟩ := List.mem_flatMap.1 hx
    have h1 := valAt_pos h hv
    have h2 := smallV_at hs hv
    simp only [tvL, List.mem_cons, List.not_mem_nil, or_false] at hx
    rcases hx with rfl | rfl <;> omega
def hdL (h t : Nat) (la va ne da : List Nat) : List Nat := h :: t :: (la.length :: la) ++ (va.length :: va) ++ (ne.length :: ne) ++ (da.length :: da)
theorem headId_eq {h t : Nat} {la va ne da : List Nat} (ho : headOk ((h : Int), (t : Int), bsS la, bsS va, bsS ne, bsS da)) (h1 : h < 128) (h2 : t < 128) (hl : (hdL h t la va ne da).length ≤ 55) (hb : ∀ x ∈ hdL h t la va ne da, x < 256) {X : Nat} (hX : hash1 (hdL h t la va ne da) = X) :
    headId ((h : Int), (t : Int), bsS la, bsS va, bsS ne, bsS da) = bsS (fixB 8 X) := by
  have hlen : la.length + va.length + ne.length + da.length + 6 ≤ 55 := by
    unfold hdL at hl
    simp only [List.length_append, List.length_cons] at hl
    omega
  unfold headId
  rw [if_pos ho]
  have e : showHead ((h : Int), (t : Int), bsS la, bsS va, bsS ne, bsS da) = bsS (hdL h t la va ne da) := by
    unfold showHead
    rw [if_pos ho]
    dsimp only
    rw [varS_one (by omega) (by omega), varS_one (by omega) (by omega), piece_eq (by omega), piece_eq (by omega), piece_eq (by omega), piece_eq (by omega)]
    simp only [bsS_app, Int.toNat_natCast]
    congr 1
  rw [e]
  exact short_eq hl hb hX
end Go.Proofs.YtfgkfcfplodaoaaGreatDoor

end
