/-
  Put together: PEvValF PEvHdF.
-/
import Derived.Test.YtfgkfcfplodaoaaGreatDoorG8
import Derived.Test.YtfgkfcfplodaoaaGreatDoorG9
import Derived.Test.YtfgkfcfplodaoaaGreatDoorG11
import Derived.Test.YtfgkfcfplodaoaaGreatDoorG16
section
/-!
  Validators in a law's own functions: copied, compared, measured.
-/
namespace Go.Proofs.YtfgkfcfplodaoaaGreatDoor
set_option maxRecDepth 100000
set_option linter.unusedVariables false
set_option linter.unusedSimpArgs false
open Go Go.RowKit
set_option maxHeartbeats 8000000
set_option linter.unusedVariables false

abbrev aVl (v : TVal) : Arg := .val true [.sc (.int .i64 v.1), .sc (.int .i64 v.2)]
theorem val_row {l : List TVal} {k : Nat} (h : k < l.length) : (rowsF cVal l)[k]? = some [.sc (.int .i64 l[k].1), .sc (.int .i64 l[k].2)] := rowsF_get cVal l k h
theorem aVl_inj : ∀ x y : TVal, [aVl x] = [aVl y] → x = y := by
  rintro ⟨a, b⟩ ⟨a', b'⟩ h
  simpa [aVl] using h
def padE {α : Type} (z : List Leaf) (f : α → List Leaf) (l : List α) (k : Nat) : List (List Leaf) := (l.take k).map f ++ List.replicate (l.length - k) z
theorem padE_len {α : Type} (z : List Leaf) (f : α → List Leaf) (l : List α) {k : Nat} (h : k ≤ l.length) : (padE z f l k).length = l.length := by simp [padE]; omega
theorem padE_zero {α : Type} (z : List Leaf) (f : α → List Leaf) (l : List α) : padE z f l 0 = List.replicate l.length z := by simp [padE]
theorem padE_all {α : Type} (z : List Leaf) (f : α → List Leaf) (l : List α) : padE z f l l.length = l.map f := by simp [padE]
theorem padE_get {α : Type} (z : List Leaf) (f : α → List Leaf) (l : List α) {k : Nat} (h : k < l.length) : (padE z f l k)[k]? = some z := by
  unfold padE
  rw [List.getElem?_append_right (by simp; omega)]
  simp [List.getElem?_replicate]
  omega
theorem padE_set {α : Type} (z : List Leaf) (f : α → List Leaf) (l : List α) {k : Nat} (h : k < l.length) : (padE z f l k).set k (f l[k]) = padE z f l (k + 1) := by
  unfold padE
  rw [List.set_append_right _ _ (by simp; omega)]
  have e1 : k - ((l.take k).map f).length = 0 := by simp; omega
  rw [e1, List.take_succ_eq_append_getElem h, List.map_append, List.append_assoc]
  congr 1
  obtain ⟨m, hm⟩ : ∃ m, l.length - k = m + 1 := ⟨l.length - k - 1, by omega⟩
  have hm2 : l.length - (k + 1) = m := by omega
  rw [hm, hm2, List.replicate_succ]
  rfl
def szE (tot : Nat) (left : Int) : Int := if (tot : Int) ≤ left then left - tot else -1
abbrev leftE (n : Int) : Prop := 0 ≤ n ∧ n ≤ 1048576
/-! validators -/
abbrev rVl (v : TVal) : Res := .comp true [.ro (.sc (.int .i64 v.1)), .ro (.sc (.int .i64 v.2))]
noncomputable def mToVl := mdl (fun _ : TVal => True) (fun v => [aVl v]) (fun v => rVl v)
theorem mToVl_eq (v : TVal) : mToVl [aVl v] = some (rVl v) := mdl_eq aVl_inj v trivial
theorem toVl_s : Sound Tryz.prog 132 mToVl := by
  refine Sound.mdl Tryz.func132 rfl Tryz.ntmps132 ?_
  rintro ⟨a, b⟩ w -
  refine ⟨by simp, ?_⟩
  have hΓ : GSound Tryz.prog (look []) := env_nil
  simp only [initS, argPV, List.map_cons, List.map_nil, toPL, Nat.zero_add]
  repeat (first | refine zN ?_ | (refine zO ?_; (repeat (first | refine za hΓ ?_ | refine zb hΓ ?_ | refine zc ?_ | refine zd ?_)); refine zE ?_) | refine zT ?_ | refine zF ?_ | with_reducible apply At.blkX rfl)
  refine At.retA (by rw [Tryz.results132]) (he := rfl)
noncomputable def mToVlS := mdl (fun l : List TVal => l.length ≤ 1048576) (fun l => [aL cVal l]) (fun l => rL 76 2 cVal l)
theorem mToVlS_eq (l : List TVal) (h : l.length ≤ 1048576) : mToVlS [aL cVal l] = some (rL 76 2 cVal l) := mdl_eq (by intro a b h; simpa using h) l h
theorem toVlS_s : Sound Tryz.prog 84 mToVlS := by
  refine Sound.mdl Tryz.func84 rfl Tryz.ntmps84 ?_
  rintro l w hl
  refine ⟨by simp, ?_⟩
  replace hl : l.length ≤ 1048576 := hl
  have hΓ : GSound Tryz.prog (look [(132, mToVl)]) := env_cons (has_of Tryz.func132 rfl rfl) toVl_s env_nil
  have hlen := rowsF_len cVal l
  have hz : List.replicate l.length [Leaf.sc (.int .i64 0), Leaf.sc (.int .i64 0)] = padE [Leaf.sc (.int .i64 0), Leaf.sc (.int .i64 0)] (fun v : TVal => (cVal v).map Leaf.sc) l 0 := (padE_zero _ _ _).symm
  simp only [initS, argPV, List.map_cons, List.map_nil, toPL, Nat.zero_add]
  repeat (first | refine zN ?_ | (refine zO ?_; (repeat (first | refine za hΓ ?_ | refine zb hΓ ?_ | refine zc ?_ | refine zd ?_)); refine zE ?_) | refine zT ?_ | refine zF ?_ | with_reducible apply At.blkX rfl)
  refine W.loopA (fun k => k ≤ l.length) (fun k : Nat => [.slot 4 (vI k), .slot 0 (vL cVal l), .slot 3 (one (.all 7)), .blk 7 (.arr .ft 76 2 (padE [Leaf.sc (.int .i64 0), Leaf.sc (.int .i64 0)] (fun v : TVal => (cVal v).map Leaf.sc) l k))]) (fun k => l.length - k) 0 (Nat.zero_le _) (h := ?_)
  rintro k hk
  clear hz
  have hpl := padE_len [Leaf.sc (.int .i64 0), Leaf.sc (.int .i64 0)] (fun v : TVal => (cVal v).map Leaf.sc) l hk
  by_cases hlt : k < l.length
  · have hrow := val_row hlt
    have hset : (padE [Leaf.sc (.int .i64 0), Leaf.sc (.int .i64 0)] (fun v : TVal => (cVal v).map Leaf.sc) l k).set k [.sc (.int .i64 l[k].1), .sc (.int .i64 l[k].2)] = padE [Leaf.sc (.int .i64 0), Leaf.sc (.int .i64 0)] (fun v : TVal => (cVal v).map Leaf.sc) l (k + 1) := padE_set _ _ l hlt
    have hold := padE_get [Leaf.sc (.int .i64 0), Leaf.sc (.int .i64 0)] (fun v : TVal => (cVal v).map Leaf.sc) l hlt
    have c1 := mToVl_eq l[k]
    generalize l[k] = x at hrow hset c1
    repeat (first | refine zN ?_ | (refine zO ?_; (repeat (first | refine za hΓ ?_ | refine zb hΓ ?_ | refine zc ?_ | refine zd ?_)); refine zE ?_) | refine zT ?_ | refine zF ?_ | with_reducible apply At.blkX rfl)
    exact At.roundA (k + 1) (by omega) (by omega)
  · have hke : k = l.length := by omega
    subst hke
    have hall := padE_all [Leaf.sc (.int .i64 0), Leaf.sc (.int .i64 0)] (fun v : TVal => (cVal v).map Leaf.sc) l
    repeat (first | refine zN ?_ | (refine zO ?_; (repeat (first | refine za hΓ ?_ | refine zb hΓ ?_ | refine zc ?_ | refine zd ?_)); refine zE ?_) | refine zT ?_ | refine zF ?_ | with_reducible apply At.blkX rfl)
    refine At.retA (by rw [Tryz.results84]) (he := ?_)
    first | rfl | (rw [hall]; rfl)
noncomputable def mEqVl := mdl (fun _ : TVal × TVal => True) (fun x => [aVl x.1, aVl x.2]) (fun x => rB (decide (x.1 = x.2)))
theorem mEqVl_eq (x y : TVal) : mEqVl [aVl x, aVl y] = some (rB (decide (x = y))) := mdl_eq (by
  rintro ⟨⟨a, b⟩, ⟨c, d⟩⟩ ⟨⟨a', b'⟩, ⟨c', d'⟩⟩ h
  simp at h
  simp [h]) (x, y) trivial
theorem eqVl_s : Sound Tryz.prog 134 mEqVl := by
  refine Sound.mdl Tryz.func134 rfl Tryz.ntmps134 ?_
  rintro ⟨⟨a, b⟩, ⟨c, d⟩⟩ w -
  refine ⟨by simp, ?_⟩
  have hΓ : GSound Tryz.prog (look []) := env_nil
  simp only [initS, argPV, List.map_cons, List.map_nil, toPL, Nat.zero_add]
  by_cases h1 : a = c
  · subst h1
    by_cases h2 : b = d
    · subst h2
      repeat (first | refine zN ?_ | (refine zO ?_; (repeat (first | refine za hΓ ?_ | refine zb hΓ ?_ | refine zc ?_ | refine zd ?_)); refine zE ?_) | refine zT ?_ | refine zF ?_ | with_reducible apply At.blkX rfl)
      refine At.retA (by rw [Tryz.results134]) (he := ?_)
      simp
    · repeat (first | refine zN ?_ | (refine zO ?_; (repeat (first | refine za hΓ ?_ | refine zb hΓ ?_ | refine zc ?_ | refine zd ?_)); refine zE ?_) | refine zT ?_ | refine zF ?_ | with_reducible apply At.blkX rfl)
      refine At.retA (by rw [Tryz.results134]) (he := ?_)
      simp [h2]
  · repeat (first | refine zN ?_ | (refine zO ?_; (repeat (first | refine za hΓ ?_ | refine zb hΓ ?_ | refine zc ?_ | refine zd ?_)); refine zE ?_) | refine zT ?_ | refine zF ?_ | with_reducible apply At.blkX rfl)
    refine At.retA (by rw [Tryz.results134]) (he := ?_)
    simp [h1]
/-! rows of validators: equal? -/
noncomputable def mEqVS := mdl (fun x : List TVal × List TVal => x.1.length ≤ 8796093022207 ∧ x.2.length ≤ 8796093022207) (fun x => [aL cVal x.1, aL cVal x.2]) (fun x => rB (decide (x.1 = x.2)))
theorem mEqVS_eq (a b : List TVal) (h1 : a.length ≤ 8796093022207) (h2 : b.length ≤ 8796093022207) : mEqVS [aL cVal a, aL cVal b] = some (rB (decide (a = b))) := mdl_eq (by rintro ⟨a, b⟩ ⟨d, e⟩ h; simpa using h) (a, b) ⟨h1, h2⟩
def SameK {α : Type} (a b : List α) (k : Nat) : Prop := ∀ j, j < k → a[j]? = b[j]?
theorem SameK.next {α : Type} {a b : List α} {k : Nat} (h : SameK a b k) (h1 : k < a.length) (h2 : k < b.length) (he : a[k] = b[k]) : SameK a b (k + 1) := fun j hj => by
  rcases Nat.lt_succ_iff_lt_or_eq.1 hj with h3 | rfl
  · exact h j h3
  · rw [List.getElem?_eq_getElem h1, List.getElem?_eq_getElem h2, he]
theorem SameK.all {α : Type} {a b : List α} (hl : a.length = b.length) (h : SameK a b a.length) : a = b := List.ext_getElem? fun j => by
  rcases Nat.lt_or_ge j a.length with h1 | h1
  · exact h j h1
  · rw [List.getElem?_eq_none h1, List.getElem?_eq_none (by omega)]
theorem ne_at {α : Type} {a b : List α} {k : Nat} (h1 : k < a.length) (h2 : k < b.length) (he : a[k] ≠ b[k]) : a ≠ b := fun h => by subst h; exact he rfl
theorem eqVS_s : Sound Tryz.prog 87 mEqVS := by
  refine Sound.mdl Tryz.func87 rfl Tryz.ntmps87 ?_
  rintro ⟨a, b⟩ w ⟨ha, hb⟩
  refine ⟨by simp, ?_⟩
  dsimp only at ha hb
  have hΓ : GSound Tryz.prog (look [(134, mEqVl)]) := env_cons (has_of Tryz.func134 rfl rfl) eqVl_s env_nil
  simp only [initS, argPV, List.map_cons, List.map_nil, toPL, Nat.zero_add]
  by_cases hl : a.length = b.length
  · have hli : ((a.length : Nat) : Int) = ((b.length : Nat) : Int) := by omega
    repeat (first | refine zN ?_ | (refine zO ?_; (repeat (first | refine za hΓ ?_ | refine zb hΓ ?_ | refine zc ?_ | refine zd ?_)); refine zE ?_) | refine zT ?_ | refine zF ?_ | with_reducible apply At.blkX rfl)
    refine W.loopA (fun k => k ≤ a.length ∧ SameK a b k) (fun k : Nat => [.slot 5 (vI k), .slot 0 (vL cVal a), .slot 1 (vL cVal b)]) (fun k => a.length - k) 0 ⟨Nat.zero_le _, fun j hj => by omega⟩ (h := ?_)
    rintro k ⟨hk, hS⟩
    have hS := Lib.hid hS
    by_cases hlt : k < a.length
    · have hlb : k < b.length := by omega
      have hra := val_row hlt
      have hrb := val_row hlb
      have c := mEqVl_eq a[k] b[k]
      by_cases he : a[k] = b[k]
      · have hn := hS.out.next hlt hlb he
        have hn := Lib.hid hn
        rw [decide_eq_true he] at c
        clear he hS hl
        generalize a[k] = x at *
        generalize b[k] = y at *
        repeat (first | refine zN ?_ | (refine zO ?_; (repeat (first | refine za hΓ ?_ | refine zb hΓ ?_ | refine zc ?_ | refine zd ?_)); refine zE ?_) | refine zT ?_ | refine zF ?_ | with_reducible apply At.blkX rfl)
        refine W.drawB hΓ 10 [[], [], [0, 1], [0, 1, 2], [], [], [4, 5], [4, 5, 6], [0, 1, 2, 3, 4, 5, 6, 7], [0, 1, 2, 3, 4, 5, 6, 7, 8]] (Es := ?Es23) (rest := ?rest23) (st1 := ?st123) ?_
        (repeat (first | refine za hΓ ?_ | refine zb hΓ ?_ | refine zc ?_ | refine zd ?_))
        refine zE ?_
        repeat (first | refine zN ?_ | (refine zO ?_; (repeat (first | refine za hΓ ?_ | refine zb hΓ ?_ | refine zc ?_ | refine zd ?_)); refine zE ?_) | refine zT ?_ | refine zF ?_ | with_reducible apply At.blkX rfl)
        exact At.roundA (k + 1) ⟨by omega, hn.out⟩ (by omega)
      · have hne := decide_eq_false (ne_at hlt hlb he)
        rw [decide_eq_false he] at c
        clear he hS hl
        generalize a[k] = x at *
        generalize b[k] = y at *
        repeat (first | refine zN ?_ | (refine zO ?_; (repeat (first | refine za hΓ ?_ | refine zb hΓ ?_ | refine zc ?_ | refine zd ?_)); refine zE ?_) | refine zT ?_ | refine zF ?_ | with_reducible apply At.blkX rfl)
        refine W.drawB hΓ 10 [[], [], [0, 1], [0, 1, 2], [], [], [4, 5], [4, 5, 6], [0, 1, 2, 3, 4, 5, 6, 7], [0, 1, 2, 3, 4, 5, 6, 7, 8]] (Es := ?Es26) (rest := ?rest26) (st1 := ?st126) ?_
        (repeat (first | refine za hΓ ?_ | refine zb hΓ ?_ | refine zc ?_ | refine zd ?_))
        refine zE ?_
        repeat (first | refine zN ?_ | (refine zO ?_; (repeat (first | refine za hΓ ?_ | refine zb hΓ ?_ | refine zc ?_ | refine zd ?_)); refine zE ?_) | refine zT ?_ | refine zF ?_ | with_reducible apply At.blkX rfl)
        refine At.retA (by rw [Tryz.results87]) (he := ?_)
        simp only [hne]
    · have hke : k = a.length := by omega
      have hE : a = b := by rw [hke] at hS; exact hS.out.all hl
      have hE := Lib.hid (decide_eq_true hE)
      clear hl hli
      repeat (first | refine zN ?_ | (refine zO ?_; (repeat (first | refine za hΓ ?_ | refine zb hΓ ?_ | refine zc ?_ | refine zd ?_)); refine zE ?_) | refine zT ?_ | refine zF ?_ | with_reducible apply At.blkX rfl)
      refine At.retA (by rw [Tryz.results87]) (he := ?_)
      rw [hE.out]
  · have hli : ¬ ((a.length : Nat) : Int) = ((b.length : Nat) : Int) := by omega
    have hne : decide (a = b) = false := decide_eq_false fun h => hl (by rw [h])
    clear hl
    repeat (first | refine zN ?_ | (refine zO ?_; (repeat (first | refine za hΓ ?_ | refine zb hΓ ?_ | refine zc ?_ | refine zd ?_)); refine zE ?_) | refine zT ?_ | refine zF ?_ | with_reducible apply At.blkX rfl)
    refine At.retA (by rw [Tryz.results87]) (he := ?_)
    simp only [hne]
end Go.Proofs.YtfgkfcfplodaoaaGreatDoor

end
section
/-!
  A header in a law's own functions: measured, copied, compared.
-/
namespace Go.Proofs.YtfgkfcfplodaoaaGreatDoor
set_option maxRecDepth 100000
set_option linter.unusedVariables false
set_option linter.unusedSimpArgs false
open Go Go.RowKit
set_option maxHeartbeats 4000000

def szR (tot : Nat) (left : Int) : Int := if (tot : Int) ≤ left then left - tot else -1
theorem szR_yes {tot : Nat} {left : Int} (h : (tot : Int) ≤ left) : szR tot left = left - tot := if_pos h
theorem szR_no {tot : Nat} {left : Int} (h : ¬ (tot : Int) ≤ left) : szR tot left = -1 := if_neg h
abbrev okSz (h : THeader) : Prop := h.2.2.1.size ≤ 9223372036854775807 ∧ h.2.2.2.1.size ≤ 9223372036854775807 ∧ h.2.2.2.2.1.size ≤ 9223372036854775807 ∧ h.2.2.2.2.2.size ≤ 9223372036854775807
abbrev leftOk (n : Int) : Prop := 0 ≤ n ∧ n ≤ 1048576

noncomputable def mSzHd := mdl (fun x : THeader × Int => okSz x.1 ∧ leftOk x.2) (fun x => [aHd x.1, aI x.2]) (fun x => rI (szR (totHeader x.1) x.2))
theorem mSzHd_eq (h : THeader) (n : Int) (h1 : okSz h) (h2 : leftOk n) : mSzHd [aHd h, aI n] = some (rI (szR (totHeader h) n)) := mdl_eq (by
  rintro ⟨⟨a, b, c, d, e, f⟩, n⟩ ⟨⟨a', b', c', d', e', f'⟩, n'⟩ h
  simp at h
  simp [h]) (h, n) ⟨h1, h2⟩
theorem szHd_s : Sound Tryz.prog 80 mSzHd := by
  refine Sound.mdl Tryz.func80 rfl Tryz.ntmps80 ?_
  rintro ⟨⟨h, t, la, va, ne, da⟩, n⟩ w ⟨⟨s1, s2, s3, s4⟩, n1, n2⟩
  refine ⟨by simp, ?_⟩
  dsimp only at s1 s2 s3 s4 n1 n2
  have hΓ : GSound Tryz.prog (look []) := env_nil
  simp only [initS, argPV, List.map_cons, List.map_nil, toPL, Nat.zero_add]
  have ht : totHeader (h, t, la, va, ne, da) = la.size + va.size + ne.size + da.size := rfl
  by_cases b1 : (la.size : Int) ≤ n
  · by_cases b2 : (la.size : Int) + va.size ≤ n
    · by_cases b3 : (la.size : Int) + va.size + ne.size ≤ n
      · by_cases b4 : (la.size : Int) + va.size + ne.size + da.size ≤ n
        · have hr := szR_yes (tot := la.size + va.size + ne.size + da.size) (left := n) (by omega)
          repeat (first | refine zN ?_ | (refine zO ?_; (repeat (first | refine za hΓ ?_ | refine zb hΓ ?_ | refine zc ?_ | refine zd ?_)); refine zE ?_) | refine zT ?_ | refine zF ?_ | with_reducible apply At.blkX rfl)
          refine At.retA (by rw [Tryz.results80]) (he := ?_)
          rw [ht, hr]
          congr 5
          omega
        · have hr := szR_no (tot := la.size + va.size + ne.size + da.size) (left := n) (by omega)
          repeat (first | refine zN ?_ | (refine zO ?_; (repeat (first | refine za hΓ ?_ | refine zb hΓ ?_ | refine zc ?_ | refine zd ?_)); refine zE ?_) | refine zT ?_ | refine zF ?_ | with_reducible apply At.blkX rfl)
          refine At.retA (by rw [Tryz.results80]) (he := ?_)
          rw [ht, hr]
      · have hr := szR_no (tot := la.size + va.size + ne.size + da.size) (left := n) (by omega)
        repeat (first | refine zN ?_ | (refine zO ?_; (repeat (first | refine za hΓ ?_ | refine zb hΓ ?_ | refine zc ?_ | refine zd ?_)); refine zE ?_) | refine zT ?_ | refine zF ?_ | with_reducible apply At.blkX rfl)
        refine At.retA (by rw [Tryz.results80]) (he := ?_)
        rw [ht, hr]
    · have hr := szR_no (tot := la.size + va.size + ne.size + da.size) (left := n) (by omega)
      repeat (first | refine zN ?_ | (refine zO ?_; (repeat (first | refine za hΓ ?_ | refine zb hΓ ?_ | refine zc ?_ | refine zd ?_)); refine zE ?_) | refine zT ?_ | refine zF ?_ | with_reducible apply At.blkX rfl)
      refine At.retA (by rw [Tryz.results80]) (he := ?_)
      rw [ht, hr]
  · have hr := szR_no (tot := la.size + va.size + ne.size + da.size) (left := n) (by omega)
    repeat (first | refine zN ?_ | (refine zO ?_; (repeat (first | refine za hΓ ?_ | refine zb hΓ ?_ | refine zc ?_ | refine zd ?_)); refine zE ?_) | refine zT ?_ | refine zF ?_ | with_reducible apply At.blkX rfl)
    refine At.retA (by rw [Tryz.results80]) (he := ?_)
    rw [ht, hr]
abbrev roI (n : Int) : RL := .ro (.sc (.int .i64 n))
abbrev roS (s : ByteArray) : RL := .ro (.sc (.string s))
abbrev rHd (h : THeader) : Res := .comp true [roI h.1, roI h.2.1, roS h.2.2.1, roS h.2.2.2.1, roS h.2.2.2.2.1, roS h.2.2.2.2.2]
noncomputable def mToHd := mdl (fun _ : THeader => True) (fun r => [aHd r]) (fun r => rHd r)
theorem mToHd_eq (r : THeader) : mToHd [aHd r] = some (rHd r) := mdl_eq aHd_inj r trivial
theorem toHd_s : Sound Tryz.prog 83 mToHd := by
  refine Sound.mdl Tryz.func83 rfl Tryz.ntmps83 ?_
  rintro ⟨a, b, c, d, e, f⟩ w -
  refine ⟨by simp, ?_⟩
  have hΓ : GSound Tryz.prog (look []) := env_nil
  simp only [initS, argPV, List.map_cons, List.map_nil, toPL, Nat.zero_add]
  repeat (first | refine zN ?_ | (refine zO ?_; (repeat (first | refine za hΓ ?_ | refine zb hΓ ?_ | refine zc ?_ | refine zd ?_)); refine zE ?_) | refine zT ?_ | refine zF ?_ | with_reducible apply At.blkX rfl)
  refine At.retA (by rw [Tryz.results83]) (he := rfl)
noncomputable def mEqHd := mdl (fun _ : THeader × THeader => True) (fun x => [aHd x.1, aHd x.2]) (fun x => rB (decide (x.1 = x.2)))
theorem mEqHd_eq (x y : THeader) : mEqHd [aHd x, aHd y] = some (rB (decide (x = y))) := mdl_eq (by
  rintro ⟨⟨a, b, c, d, e, f⟩, a', b', c', d', e', f'⟩ ⟨⟨g, i, j, k, l, m⟩, g', i', j', k', l', m'⟩ h
  simp at h
  simp [h]) (x, y) trivial
theorem eqHd_s : Sound Tryz.prog 86 mEqHd := by
  refine Sound.mdl Tryz.func86 rfl Tryz.ntmps86 ?_
  rintro ⟨⟨a, b, c, d, e, f⟩, a', b', c', d', e', f'⟩ w -
  refine ⟨by simp, ?_⟩
  have hΓ : GSound Tryz.prog (look []) := env_nil
  simp only [initS, argPV, List.map_cons, List.map_nil, toPL, Nat.zero_add]
  rcases cases6 (a = a') (b = b') (c = c') (d = d') (e = e') (f = f') with ⟨rfl, rfl, rfl, rfl, rfl, rfl⟩ | h | h | h | h | h | h
  · repeat (first | refine zN ?_ | (refine zO ?_; (repeat (first | refine za hΓ ?_ | refine zb hΓ ?_ | refine zc ?_ | refine zd ?_)); refine zE ?_) | refine zT ?_ | refine zF ?_ | with_reducible apply At.blkX rfl)
    refine At.retA (by rw [Tryz.results86]) (he := ?_)
    simp
  all_goals
    repeat (first | refine zN ?_ | (refine zO ?_; (repeat (first | refine za hΓ ?_ | refine zb hΓ ?_ | refine zc ?_ | refine zd ?_)); refine zE ?_) | refine zT ?_ | refine zF ?_ | with_reducible apply At.blkX rfl)
    refine At.retA (by rw [Tryz.results86]) (he := ?_)
    simp [h]
end Go.Proofs.YtfgkfcfplodaoaaGreatDoor

end
