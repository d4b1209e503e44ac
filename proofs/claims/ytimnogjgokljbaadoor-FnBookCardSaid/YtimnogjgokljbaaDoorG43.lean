/-
  Put together: EvFbP EvOld EvGrown EvStrLaw EvGrownS.
-/
import Derived.Test.YtimnogjgokljbaaDoorG26
import Derived.Test.YtimnogjgokljbaaDoorG41
import Derived.Test.YtimnogjgokljbaaDoorG42
import Derived.Test.YtimnogjgokljbaaDoorHEvTree
section
/-!
  Transfers leave the total; the place of a key. No program here.
-/
namespace Go.Proofs.YtimnogjgokljbaaDoor
set_option maxRecDepth 100000
set_option linter.unusedVariables false
set_option linter.unusedSimpArgs false
open Go Go.RowKit
set_option maxHeartbeats 4000000

theorem sum_cons (x : TItem) (r : List TItem) : sumBookSum (x :: r) = x.2 + sumBookSum r := by simp [sumBookSum]
theorem bal_none {key : ByteArray} : ∀ {l : List TItem}, (∀ x ∈ l, x.1 ≠ key) → balI key l = 0
  | [], _ => rfl
  | x :: r, h => by
    unfold balI
    rw [if_neg (h x List.mem_cons_self)]
    exact bal_none fun y hy => h y (List.mem_cons_of_mem _ hy)
theorem sum_set {key : ByteArray} {n : Int} : ∀ {l : List TItem}, AscI l → sumBookSum (setI key n l) = sumBookSum l - balI key l + n
  | [], _ => by
    unfold setI balI
    by_cases h : n = 0
    · rw [if_pos h, h]; simp [sumBookSum]
    · rw [if_neg h]; simp [sumBookSum]
  | x :: r, h => by
    obtain ⟨h1, h2⟩ := List.pairwise_cons.1 h
    unfold setI
    by_cases hlt : klt x.1 key = true
    · have hbe : balI key (x :: r) = balI key r := by rw [balI, if_neg (klt_ne hlt)]
      rw [if_pos hlt, sum_cons, sum_cons, sum_set h2, hbe]
      omega
    · rw [if_neg hlt]
      by_cases he : x.1 = key
      · have hbe : balI key (x :: r) = x.2 := by rw [balI, if_pos he]
        rw [if_pos he, hbe, sum_cons]
        by_cases hn : n = 0
        · rw [if_pos hn]; omega
        · rw [if_neg hn, sum_cons]; dsimp only; omega
      · rw [if_neg he]
        have hkx : klt key x.1 = true := by
          rcases klt_tri x.1 key with h | h | h
          · exact absurd h hlt
          · exact absurd h he
          · exact h
        have hb : balI key (x :: r) = 0 := bal_none fun y hy e => by
          rcases List.mem_cons.1 hy with rfl | hy
          · exact he e
          · have := klt_trans hkx (h1 y hy)
            rw [e, klt_irr] at this
            cases this
        rw [hb]
        by_cases hn : n = 0
        · rw [if_pos hn]; omega
        · rw [if_neg hn, sum_cons (key, n)]; dsimp only; omega
theorem bl_drop (s : ByteArray) (k : Nat) : bl (s.extract k s.size) = (bl s).drop k := by
  unfold bl
  rw [ByteArray.data_extract, Array.toList_extract, List.extract_eq_take_drop, List.map_take, List.map_drop]
  apply List.take_of_length_le
  rw [List.length_drop, List.length_map, Array.length_toList]
  exact Nat.le_refl _
theorem no62 {l : List TItem} {line : ByteArray} (h : goodZ l line) (hs : sigZ line ≠ 62) : 62 ∉ bl line := by
  intro hm
  obtain ⟨_, h0, hr, _⟩ := h
  obtain ⟨j, hj, hj2⟩ := List.getElem_of_mem hm
  unfold sigZ cutZ at h0 hs
  by_cases hi : byI isSg line < (bl line).length
  · rw [dif_pos hi] at h0 hs
    dsimp only at h0 hs
    by_cases e1 : j < byI isSg line
    · have : isSg (bl line)[j] = false := by
        have := List.not_of_lt_findIdx (p := isSg) (xs := bl line) e1
        simpa using this
      rw [hj2] at this
      cases this
    · by_cases e2 : j = byI isSg line
      · subst e2
        exact hs hj2
      · have hnum : numZ line = line.extract (byI isSg line + 1) line.size := by
          unfold numZ sigZ resZ cutZ
          rw [dif_pos hi]
          dsimp only
          rw [if_neg hs]
        rw [hnum] at hr
        unfold readZ at hr
        split at hr
        · rename_i hex
          obtain ⟨n, q1, q2⟩ := hex
          have hb : bl (line.extract (byI isSg line + 1) line.size) = decZ n := by rw [← q2]; exact bl_bsS (decZ_lt q1)
          rw [bl_drop] at hb
          have hmem : 62 ∈ decZ n := by
            rw [← hb, List.mem_iff_getElem]
            refine ⟨j - (byI isSg line + 1), by rw [List.length_drop]; omega, ?_⟩
            rw [List.getElem_drop]
            have e : byI isSg line + 1 + (j - (byI isSg line + 1)) = j := by omega
            simp only [e]
            exact hj2
          obtain ⟨neg, l', p0, p1, _⟩ := decZ_parts q1
          rw [p0] at hmem
          cases neg with
          | false =>
            have := p1 62 hmem
            unfold isDg at this
            omega
          | true =>
            rcases List.mem_cons.1 hmem with h | h
            · cases h
            · have := p1 62 h
              unfold isDg at this
              omega
        · cases hr
  · rw [dif_neg hi] at h0
    exact h0 rfl
theorem bd_sum {l : List TItem} {line : ByteArray} (hb : bookOk l) (hm : 62 ∈ bl line) : bookSum (bdL l line) = bookSum l := by
  by_cases hB : bdB l line = true
  · have hL : bdL l line = outZ l line := by unfold bdL; rw [if_pos hB]
    have hB' := hB
    unfold bdB at hB'
    simp only [Bool.and_eq_true, decide_eq_true_eq] at hB'
    obtain ⟨⟨_, hg⟩, ho⟩ := hB'
    rw [hL]
    unfold bookSum
    rw [if_pos ho, if_pos hb]
    have hs : sigZ line = 62 := by
      by_cases h : sigZ line = 62
      · exact h
      · exact absurd hm (no62 hg h)
    unfold outZ
    rw [if_neg (by rw [hs]; decide), if_neg (by rw [hs]; decide)]
    have ha := book_asc hb
    rw [sum_set (setI_asc ha), sum_set ha]
    omega
  · have hL : bdL l line = l := by unfold bdL; rw [if_neg hB, if_pos hb]
    rw [hL]
theorem bd_same {l : List TItem} {line : ByteArray} (hb : bookOk l) (h : bdB l line = false) : bdL l line = l := by unfold bdL; rw [h, if_neg (by simp), if_pos hb]
theorem bd_none {l : List TItem} {line : ByteArray} (hb : ¬ bookOk l) : bdB l line = false ∧ bdL l line = [] := by
  have h1 : bdB l line = false := by simp [bdB, hb]
  exact ⟨h1, by unfold bdL; rw [h1, if_neg (by simp), if_neg hb]⟩
theorem idx_self {x : List TItem} (hb : bookOk x) {i : Nat} (hi : i < x.length) : idxN x (x.getD i (ByteArray.empty, 0)).1 = i := by
  refine idxN_at hi (fun j hj e => ?_) rfl
  have ha := book_asc hb
  have := List.pairwise_iff_getElem.1 ha j i (by omega) hi hj
  rw [List.getD_eq_getElem?_getD, List.getD_eq_getElem?_getD, List.getElem?_eq_getElem hi, List.getElem?_eq_getElem (by omega)] at e
  simp only [Option.getD_some] at e
  exact klt_ne this e
theorem proof_self {x : List TItem} (hb : bookOk x) {i : Nat} (hi : i < x.length) :
    bpL x (x.getD i (ByteArray.empty, 0)).1 = pathL i (x.map textS) ∧ bpN x (x.getD i (ByteArray.empty, 0)).1 = (i : Int) ∧ bpB x (x.getD i (ByteArray.empty, 0)).1 = true ∧ proofOk x (x.getD i (ByteArray.empty, 0)).1 := by
  have he := idx_self hb hi
  have hp : proofOk x (x.getD i (ByteArray.empty, 0)).1 := ⟨hb, by rw [he]; exact hi⟩
  obtain ⟨h1, h2, h3⟩ := bp_yes hp
  rw [he] at h1 h2
  exact ⟨h1, h2, h3, hp⟩
theorem incl_self {x : List TItem} (hb : bookOk x) {i : Nat} (hi : i < x.length) : inclB (bookHash x) (textS (x.getD i (ByteArray.empty, 0))) i x.length (pathL i (x.map textS)) = true := by
  have h12 := hb.1
  have h1 := incl_path (l := x.map textS) (i := i) (by rw [List.length_map]; exact hi) (by rw [List.length_map]; omega)
  have hh : bookHash x = tree (x.map textS) := if_pos hb
  have hg : (x.map textS).getD i ByteArray.empty = textS (x.getD i (ByteArray.empty, 0)) := by
    rw [List.getD_eq_getElem?_getD, List.getD_eq_getElem?_getD, List.getElem?_map, List.getElem?_eq_getElem hi]
    rfl
  rw [List.length_map, hg] at h1
  rw [hh]
  exact h1
end Go.Proofs.YtimnogjgokljbaaDoor

end
section
/-!
  OldRoots and Grown of both programs.
-/
namespace Go.Proofs.YtimnogjgokljbaaDoor
set_option maxRecDepth 100000
set_option linter.unusedVariables false
set_option linter.unusedSimpArgs false
open Go Go.RowKit
set_option maxHeartbeats 4000000

/-- both roots of parts -/
def up (m n : Nat) (p : List ByteArray) : ByteArray × ByteArray × Bool :=
  if p.length = 0 then (ByteArray.empty, ByteArray.empty, false)
  else if m = n then (p.getD 0 ByteArray.empty, p.getD 0 ByteArray.empty, decide (p.length = 1))
  else if h : n < 2 ∨ 64 < n then (ByteArray.empty, ByteArray.empty, false)
  else if m ≤ spl n then
    ((up m (spl n) (p.take (p.length - 1))).1, nodeH (up m (spl n) (p.take (p.length - 1))).2.1 (p.getD (p.length - 1) ByteArray.empty), (up m (spl n) (p.take (p.length - 1))).2.2)
  else (nodeH (p.getD 0 ByteArray.empty) (up (m - spl n) (n - spl n) (p.drop 1)).1, nodeH (p.getD 0 ByteArray.empty) (up (m - spl n) (n - spl n) (p.drop 1)).2.1, (up (m - spl n) (n - spl n) (p.drop 1)).2.2)
termination_by n
decreasing_by all_goals (have := spl_lt (n := n) (by omega) (by omega); omega)
theorem up_nil {m n : Nat} {p : List ByteArray} (h : p.length = 0) : up m n p = (ByteArray.empty, ByteArray.empty, false) := by rw [up, if_pos h]
theorem up_eq {n : Nat} {p : List ByteArray} (h : ¬ p.length = 0) : up n n p = (p.getD 0 ByteArray.empty, p.getD 0 ByteArray.empty, decide (p.length = 1)) := by rw [up, if_neg h, if_pos rfl]
theorem up_lo {m n : Nat} {p : List ByteArray} (h : ¬ p.length = 0) (hm : ¬ m = n) (h2 : 2 ≤ n) (h64 : n ≤ 64) (hk : m ≤ spl n) :
    up m n p = ((up m (spl n) (p.take (p.length - 1))).1, nodeH (up m (spl n) (p.take (p.length - 1))).2.1 (p.getD (p.length - 1) ByteArray.empty), (up m (spl n) (p.take (p.length - 1))).2.2) := by
  rw [up, if_neg h, if_neg hm, dif_neg (by omega), if_pos hk]
theorem up_hi {m n : Nat} {p : List ByteArray} (h : ¬ p.length = 0) (hm : ¬ m = n) (h2 : 2 ≤ n) (h64 : n ≤ 64) (hk : ¬ m ≤ spl n) :
    up m n p = (nodeH (p.getD 0 ByteArray.empty) (up (m - spl n) (n - spl n) (p.drop 1)).1, nodeH (p.getD 0 ByteArray.empty) (up (m - spl n) (n - spl n) (p.drop 1)).2.1, (up (m - spl n) (n - spl n) (p.drop 1)).2.2) := by
  rw [up, if_neg h, if_neg hm, dif_neg (by omega), if_neg hk]
theorem up_size (n : Nat) : ∀ (m : Nat) (p : List ByteArray), (∀ x ∈ p, x.size ≤ 1048576) → (up m n p).1.size ≤ 1048576 ∧ (up m n p).2.1.size ≤ 1048576 := by
  induction n using Nat.strongRecOn with
  | _ n ih =>
    intro m p hs
    by_cases h0 : p.length = 0
    · rw [up_nil h0]; simp
    · by_cases hm : m = n
      · subst hm
        rw [up_eq h0]
        exact ⟨sz_at hs 0, sz_at hs 0⟩
      · by_cases hn : n < 2 ∨ 64 < n
        · rw [up, if_neg h0, if_neg hm, dif_pos hn]; simp
        · by_cases hk : m ≤ spl n
          · rw [up_lo h0 hm (by omega) (by omega) hk]
            have := ih (spl n) (spl_lt (by omega) (by omega)).2 m (p.take (p.length - 1)) (fun x hx => hs x (List.mem_of_mem_take hx))
            exact ⟨this.1, by dsimp only; rw [nodeH_size]; omega⟩
          · rw [up_hi h0 hm (by omega) (by omega) hk]
            exact ⟨by dsimp only; rw [nodeH_size]; omega, by dsimp only; rw [nodeH_size]; omega⟩
abbrev rT (a b : ByteArray) (t : Bool) : Res := .tup [(false, [.ro (.sc (.string a))]), (false, [.ro (.sc (.string b))]), (false, [.ro (.sc (.bool t))])]
abbrev rT3 (x : ByteArray × ByteArray × Bool) : Res := rT x.1 x.2.1 x.2.2
abbrev okP (p : List ByteArray) : Prop := p.length ≤ 8796093022207 ∧ ∀ x ∈ p, x.size ≤ 1048576
theorem okP.take {p : List ByteArray} (h : okP p) (k : Nat) : okP (p.take k) := okT.take h k
theorem okP.drop {p : List ByteArray} (h : okP p) (k : Nat) : okP (p.drop k) := okT.drop h k
abbrev encU (x : Nat × Nat × List ByteArray) : List Arg := [aI (x.1 : Int), aI (x.2.1 : Int), aL cStr x.2.2]
theorem encU_inj : ∀ x y, encU x = encU y → x = y := by
  rintro ⟨a, b, c⟩ ⟨d, e, f⟩ h
  simp [encU] at h
  obtain ⟨h1, h2, h3⟩ := h
  have e1 : a = d := by omega
  have e2 : b = e := by omega
  rw [e1, e2, h3]
abbrev okU (x : Nat × Nat × List ByteArray) : Prop := (1 ≤ x.1 ∧ x.1 ≤ x.2.1 ∧ x.2.1 ≤ 40) ∧ okP x.2.2
noncomputable def mUp := mdl okU encU (fun x => rT3 (up x.1 x.2.1 x.2.2))
noncomputable def mUpN (N : Nat) := mdl (fun x => okU x ∧ x.2.1 < N) encU (fun x => rT3 (up x.1 x.2.1 x.2.2))
theorem mUp_eq (m n : Nat) (p : List ByteArray) (h : 1 ≤ m ∧ m ≤ n ∧ n ≤ 40) (hp : okP p) : mUp (encU (m, n, p)) = some (rT3 (up m n p)) := mdl_eq encU_inj (m, n, p) ⟨h, hp⟩
theorem sub_hi (p : List ByteArray) (k : Nat) : (rowsF cStr p).take k = rowsF cStr (p.take k) := rowsF_take cStr p k

def fixR (r : ByteArray × ByteArray × Bool) : ByteArray × ByteArray × Bool := if r.2.2 = true then (r.1, r.2.1, true) else (ByteArray.empty, ByteArray.empty, false)
def oldR (m n : Int) (p : List ByteArray) : ByteArray × ByteArray × Bool := if (1 ≤ m ∧ m ≤ n) ∧ n ≤ 40 then fixR (up m.toNat n.toNat p) else (ByteArray.empty, ByteArray.empty, false)
theorem oldR_no {m n : Int} {p : List ByteArray} (h : ¬ ((1 ≤ m ∧ m ≤ n) ∧ n ≤ 40)) : oldR m n p = (ByteArray.empty, ByteArray.empty, false) := if_neg h
theorem oldR_yes {m n : Nat} {p : List ByteArray} (h : (1 ≤ m ∧ m ≤ n) ∧ n ≤ 40) : oldR m n p = fixR (up m n p) := by unfold oldR; rw [if_pos (by omega)]; rfl
abbrev encO (x : Int × Int × List ByteArray) : List Arg := [aI x.1, aI x.2.1, aL cStr x.2.2]
theorem encO_inj : ∀ x y, encO x = encO y → x = y := by
  rintro ⟨a, b, c⟩ ⟨d, e, f⟩ h
  simpa [encO] using h
abbrev okO (x : Int × Int × List ByteArray) : Prop := okP x.2.2
noncomputable def mOld := mdl okO encO (fun x => rT3 (oldR x.1 x.2.1 x.2.2))
noncomputable def mOldN (N : Nat) := mdl (fun x => okO x ∧ x.2.1.toNat < N) encO (fun x => rT3 (oldR x.1 x.2.1 x.2.2))
theorem mOld_eq (m n : Int) (p : List ByteArray) (hp : okP p) : mOld [aI m, aI n, aL cStr p] = some (rT3 (oldR m n p)) := mdl_eq encO_inj (m, n, p) hp

end Go.Proofs.YtimnogjgokljbaaDoor

end
section
/-!
  Grown of both programs; the words of the laws.
-/
namespace Go.Proofs.YtimnogjgokljbaaDoor
set_option maxRecDepth 100000
set_option linter.unusedVariables false
set_option linter.unusedSimpArgs false
open Go Go.RowKit
set_option maxHeartbeats 4000000

def grownB (a : ByteArray) (m : Int) (b : ByteArray) (n : Int) (p : List ByteArray) : Bool := (oldR m n p).2.2 && decide ((oldR m n p).1 = a) && decide ((oldR m n p).2.1 = b)
abbrev encG (x : ByteArray × Int × ByteArray × Int × List ByteArray) : List Arg := [aS x.1, aI x.2.1, aS x.2.2.1, aI x.2.2.2.1, aL cStr x.2.2.2.2]
theorem encG_inj : ∀ x y, encG x = encG y → x = y := by
  rintro ⟨a, b, c, d, e⟩ ⟨a', b', c', d', e'⟩ h
  simpa [encG] using h
noncomputable def mGrown := mdl (fun x : ByteArray × Int × ByteArray × Int × List ByteArray => okP x.2.2.2.2) encG (fun x => rB (grownB x.1 x.2.1 x.2.2.1 x.2.2.2.1 x.2.2.2.2))
theorem mGrown_eq (a : ByteArray) (m : Int) (b : ByteArray) (n : Int) (p : List ByteArray) (h : okP p) : mGrown [aS a, aI m, aS b, aI n, aL cStr p] = some (rB (grownB a m b n p)) := mdl_eq encG_inj (a, m, b, n, p) h
section
variable {w : World} {v : Value} {l : List ByteArray}
theorem old_args (m n : Int) (h : RdS w w.heap.size 1 cStr v l) : RepAs w [aI m, aI n, aL cStr l] [.int .i64 m, .int .i64 n, v] :=
  RepAs.cons (aI_rep m) (RepAs.cons (aI_rep n) (RepAs.cons (aL_rep (fun _ => rfl) cStr_one h) RepAs.nil))
theorem grown_args (a b : ByteArray) (m n : Int) (h : RdS w w.heap.size 1 cStr v l) : RepAs w [aS a, aI m, aS b, aI n, aL cStr l] [.string a, .int .i64 m, .string b, .int .i64 n, v] :=
  RepAs.cons (aS_rep a) (RepAs.cons (aI_rep m) (RepAs.cons (aS_rep b) (RepAs.cons (aI_rep n) (RepAs.cons (aL_rep (fun _ => rfl) cStr_one h) RepAs.nil))))
end

end Go.Proofs.YtimnogjgokljbaaDoor

end
section
/-!
  The laws' own functions for a row of texts: its size, copy, equality.
-/
namespace Go.Proofs.YtimnogjgokljbaaDoor
set_option maxRecDepth 100000
set_option linter.unusedVariables false
set_option linter.unusedSimpArgs false
open Go Go.RowKit
set_option maxHeartbeats 4000000

def szI (tot left : Int) : Int := if tot ≤ left then left - tot else -1
theorem szI_yes {tot left : Int} (h : tot ≤ left) : szI tot left = left - tot := if_pos h
theorem szI_no {tot left : Int} (h : ¬ tot ≤ left) : szI tot left = -1 := if_neg h
def bsz (x : ByteArray) : Int := (x.size : Int)
def strT (l : List ByteArray) : Int := l.length + (l.map bsz).sum
theorem sum_nonneg : ∀ {l : List ByteArray}, 0 ≤ (l.map bsz).sum
  | [] => by simp
  | x :: l => by
    have := sum_nonneg (l := l)
    simp only [List.map_cons, List.sum_cons]
    unfold bsz at *
    omega
theorem sumK_le (l : List ByteArray) (k : Nat) : 0 ≤ sumK bsz l k ∧ sumK bsz l k ≤ (l.map bsz).sum := by
  have h1 := sum_nonneg (l := l.take k)
  have h2 := sum_nonneg (l := l.drop k)
  have h3 : (l.map bsz).sum = ((l.take k).map bsz).sum + ((l.drop k).map bsz).sum := by rw [← List.sum_append, ← List.map_append, List.take_append_drop]
  unfold sumK
  omega
theorem elem_le {l : List ByteArray} {x : ByteArray} (h : x ∈ l) : bsz x ≤ (l.map bsz).sum := by
  obtain ⟨k, hk, rfl⟩ := List.getElem_of_mem h
  have h1 := sumK_succ bsz hk
  have h2 := (sumK_le l k).1
  have h3 := (sumK_le l (k + 1)).2
  omega
theorem okP_of {l : List ByteArray} (h : strT l ≤ 1048576) : okP l := by
  have h1 := sum_nonneg (l := l)
  unfold strT at h
  refine ⟨by omega, fun x hx => ?_⟩
  have := elem_le hx
  unfold bsz at *
  omega
abbrev okSS (x : List ByteArray × Int) : Prop := x.1.length ≤ 9223372036854775807 ∧ (∀ y ∈ x.1, y.size ≤ 9223372036854775807) ∧ 0 ≤ x.2 ∧ x.2 ≤ 1048576
noncomputable def mSzSS := mdl okSS (fun x => [aL cStr x.1, aI x.2]) (fun x => rI (szI (strT x.1) x.2))
theorem mSzSS_eq (l : List ByteArray) (n : Int) (h : okSS (l, n)) : mSzSS [aL cStr l, aI n] = some (rI (szI (strT l) n)) := mdl_eq (by rintro ⟨a, b⟩ ⟨d, e⟩ h; simpa using h) (l, n) h
theorem rowsF_repS (n : Nat) (x : ByteArray) : rowsF cStr (List.replicate n x) = List.replicate n [Leaf.sc (.string x)] := List.map_replicate
theorem padS_len {α : Type} (z : α) (l : List α) {k : Nat} (h : k ≤ l.length) : (l.take k ++ List.replicate (l.length - k) z).length = l.length := by simp; omega
def padT (l : List ByteArray) (k : Nat) : List ByteArray := l.take k ++ List.replicate (l.length - k) ByteArray.empty
theorem padT_len (l : List ByteArray) {k : Nat} (h : k ≤ l.length) : (padT l k).length = l.length := padS_len _ l h
theorem padT_all (l : List ByteArray) : padT l l.length = l := by simp [padT]
theorem padT_zero (l : List ByteArray) : padT l 0 = List.replicate l.length ByteArray.empty := by simp [padT]
theorem padT_get (l : List ByteArray) {k : Nat} (h : k < l.length) : (padT l k)[k]? = some ByteArray.empty := by
  unfold padT
  rw [List.getElem?_append_right (by simp; omega), List.length_take, Nat.min_eq_left (by omega), Nat.sub_self, List.getElem?_replicate, if_pos (by omega)]
theorem padT_set (l : List ByteArray) {k : Nat} (h : k < l.length) : (padT l k).set k l[k] = padT l (k + 1) := by
  have hl : (l.take k).length = k := by rw [List.length_take]; omega
  have hr : l.length - k = (l.length - (k + 1)) + 1 := by omega
  unfold padT
  rw [List.set_append_right _ _ (by omega), hl, Nat.sub_self, hr, List.replicate_succ, List.set_cons_zero, List.take_succ_eq_append_getElem h, List.append_assoc]
  rfl
noncomputable def mToSS := mdl (fun l : List ByteArray => l.length ≤ 1048576) (fun l => [aL cStr l]) (fun l => rL 9 1 cStr l)
theorem mToSS_eq (l : List ByteArray) (h : l.length ≤ 1048576) : mToSS [aL cStr l] = some (rL 9 1 cStr l) := mdl_eq aL_inj1 l h
theorem list_eqS {a b : List ByteArray} (hl : a.length = b.length) (h : ∀ j, j < a.length → a.getD j ByteArray.empty = b.getD j ByteArray.empty) : a = b := by
  refine List.ext_getElem hl fun i h1 h2 => ?_
  have := h i h1
  rwa [List.getD_eq_getElem?_getD, List.getD_eq_getElem?_getD, List.getElem?_eq_getElem h1, List.getElem?_eq_getElem h2] at this
noncomputable def mEqSS := mdl (fun x : List ByteArray × List ByteArray => x.1.length ≤ 8796093022207 ∧ x.2.length ≤ 8796093022207) (fun x => [aL cStr x.1, aL cStr x.2]) (fun x => rB (decide (x.1 = x.2)))
theorem mEqSS_eq (a b : List ByteArray) (h1 : a.length ≤ 8796093022207) (h2 : b.length ≤ 8796093022207) : mEqSS [aL cStr a, aL cStr b] = some (rB (decide (a = b))) := mdl_eq (by rintro ⟨a, b⟩ ⟨d, e⟩ h; simpa using h) (a, b) ⟨h1, h2⟩

end Go.Proofs.YtimnogjgokljbaaDoor

end
section
/-!
  Small functions of the law of Grown: at, sameTexts, MuchAlike.
-/
namespace Go.Proofs.YtimnogjgokljbaaDoor
set_option maxRecDepth 100000
set_option linter.unusedVariables false
set_option linter.unusedSimpArgs false
open Go Go.RowKit
set_option maxHeartbeats 4000000

end Go.Proofs.YtimnogjgokljbaaDoor

end
