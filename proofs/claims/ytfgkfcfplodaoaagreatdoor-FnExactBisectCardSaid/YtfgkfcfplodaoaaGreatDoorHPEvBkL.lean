/-
  Signatures, commits, anchors, blocks in the law's own functions: copied, compared, measured.
-/
import Derived.Test.YtfgkfcfplodaoaaGreatDoorHPEvSkip
import Derived.Test.YtfgkfcfplodaoaaGreatDoorG27
namespace Go.Proofs.YtfgkfcfplodaoaaGreatDoor
set_option maxRecDepth 100000
set_option linter.unusedVariables false
set_option linter.unusedSimpArgs false
open Go Go.RowKit
set_option maxHeartbeats 8000000
set_option linter.unusedVariables false

abbrev aCs (v : TCSig) : Arg := .val true [.sc (.int .i64 v.1), .sc (.string v.2)]
theorem aCs_inj : ∀ x y : TCSig, [aCs x] = [aCs y] → x = y := by
  rintro ⟨a, b⟩ ⟨a', b'⟩ h
  simpa [aCs] using h
abbrev rCs (v : TCSig) : Res := .comp true [.ro (.sc (.int .i64 v.1)), .ro (.sc (.string v.2))]
noncomputable def mToCs := mdl (fun _ : TCSig => True) (fun v => [aCs v]) (fun v => rCs v)
theorem mToCs_eq (v : TCSig) : mToCs [aCs v] = some (rCs v) := mdl_eq aCs_inj v trivial
theorem toCs_s : Sound Tryz.prog 222 mToCs := by
  refine Sound.mdl Tryz.func222 rfl Tryz.ntmps222 ?_
  rintro ⟨a, b⟩ w -
  refine ⟨by simp, ?_⟩
  have hΓ : GSound Tryz.prog (look []) := env_nil
  simp only [initS, argPV, List.map_cons, List.map_nil, toPL, Nat.zero_add]
  repeat (first | refine zN ?_ | (refine zO ?_; (repeat (first | refine za hΓ ?_ | refine zb hΓ ?_ | refine zc ?_ | refine zd ?_)); refine zE ?_) | refine zT ?_ | refine zF ?_ | with_reducible apply At.blkX rfl)
  refine At.retA (by rw [Tryz.results222]) (he := rfl)
noncomputable def mToCsS := mdl (fun l : List TCSig => l.length ≤ 1048576) (fun l => [aL cCSig l]) (fun l => rL 127 2 cCSig l)
theorem mToCsS_eq (l : List TCSig) (h : l.length ≤ 1048576) : mToCsS [aL cCSig l] = some (rL 127 2 cCSig l) := mdl_eq (by intro a b h; simpa [csig_inj] using h) l h
theorem toCsS_s : Sound Tryz.prog 178 mToCsS := by
  refine Sound.mdl Tryz.func178 rfl Tryz.ntmps178 ?_
  rintro l w hl
  refine ⟨by simp, ?_⟩
  replace hl : l.length ≤ 1048576 := hl
  have hΓ : GSound Tryz.prog (look [(222, mToCs)]) := env_cons (has_of Tryz.func222 rfl rfl) toCs_s env_nil
  have hlen := rowsF_len cCSig l
  have hz : List.replicate l.length [Leaf.sc (.int .i64 0), Leaf.sc (.string ByteArray.empty)] = padE [Leaf.sc (.int .i64 0), Leaf.sc (.string ByteArray.empty)] (fun v : TCSig => (cCSig v).map Leaf.sc) l 0 := (padE_zero _ _ _).symm
  simp only [initS, argPV, List.map_cons, List.map_nil, toPL, Nat.zero_add]
  repeat (first | refine zN ?_ | (refine zO ?_; (repeat (first | refine za hΓ ?_ | refine zb hΓ ?_ | refine zc ?_ | refine zd ?_)); refine zE ?_) | refine zT ?_ | refine zF ?_ | with_reducible apply At.blkX rfl)
  refine W.loopA (fun k => k ≤ l.length) (fun k : Nat => [.slot 4 (vI k), .slot 0 (vL cCSig l), .slot 3 (one (.all 7)), .blk 7 (.arr .ft 127 2 (padE [Leaf.sc (.int .i64 0), Leaf.sc (.string ByteArray.empty)] (fun v : TCSig => (cCSig v).map Leaf.sc) l k))]) (fun k => l.length - k) 0 (Nat.zero_le _) (h := ?_)
  rintro k hk
  clear hz
  have hpl := padE_len [Leaf.sc (.int .i64 0), Leaf.sc (.string ByteArray.empty)] (fun v : TCSig => (cCSig v).map Leaf.sc) l hk
  by_cases hlt : k < l.length
  · have hrow := csig_row hlt
    have hset : (padE [Leaf.sc (.int .i64 0), Leaf.sc (.string ByteArray.empty)] (fun v : TCSig => (cCSig v).map Leaf.sc) l k).set k [.sc (.int .i64 l[k].1), .sc (.string l[k].2)] = padE [Leaf.sc (.int .i64 0), Leaf.sc (.string ByteArray.empty)] (fun v : TCSig => (cCSig v).map Leaf.sc) l (k + 1) := padE_set _ _ l hlt
    have hold := padE_get [Leaf.sc (.int .i64 0), Leaf.sc (.string ByteArray.empty)] (fun v : TCSig => (cCSig v).map Leaf.sc) l hlt
    have c1 := mToCs_eq l[k]
    generalize l[k] = x at hrow hset c1
    repeat (first | refine zN ?_ | (refine zO ?_; (repeat (first | refine za hΓ ?_ | refine zb hΓ ?_ | refine zc ?_ | refine zd ?_)); refine zE ?_) | refine zT ?_ | refine zF ?_ | with_reducible apply At.blkX rfl)
    exact At.roundA (k + 1) (by omega) (by omega)
  · have hke : k = l.length := by omega
    subst hke
    have hall := padE_all [Leaf.sc (.int .i64 0), Leaf.sc (.string ByteArray.empty)] (fun v : TCSig => (cCSig v).map Leaf.sc) l
    repeat (first | refine zN ?_ | (refine zO ?_; (repeat (first | refine za hΓ ?_ | refine zb hΓ ?_ | refine zc ?_ | refine zd ?_)); refine zE ?_) | refine zT ?_ | refine zF ?_ | with_reducible apply At.blkX rfl)
    refine At.retA (by rw [Tryz.results178]) (he := ?_)
    first | rfl | (rw [hall]; rfl)
noncomputable def mEqCs := mdl (fun _ : TCSig × TCSig => True) (fun x => [aCs x.1, aCs x.2]) (fun x => rB (decide (x.1 = x.2)))
theorem mEqCs_eq (x y : TCSig) : mEqCs [aCs x, aCs y] = some (rB (decide (x = y))) := mdl_eq (by
  rintro ⟨⟨a, b⟩, ⟨c, d⟩⟩ ⟨⟨a', b'⟩, ⟨c', d'⟩⟩ h
  simp at h
  simp [h]) (x, y) trivial
theorem eqCs_s : Sound Tryz.prog 223 mEqCs := by
  refine Sound.mdl Tryz.func223 rfl Tryz.ntmps223 ?_
  rintro ⟨⟨a, b⟩, ⟨c, d⟩⟩ w -
  refine ⟨by simp, ?_⟩
  have hΓ : GSound Tryz.prog (look []) := env_nil
  simp only [initS, argPV, List.map_cons, List.map_nil, toPL, Nat.zero_add]
  by_cases h1 : a = c
  · subst h1
    by_cases h2 : b = d
    · subst h2
      repeat (first | refine zN ?_ | (refine zO ?_; (repeat (first | refine za hΓ ?_ | refine zb hΓ ?_ | refine zc ?_ | refine zd ?_)); refine zE ?_) | refine zT ?_ | refine zF ?_ | with_reducible apply At.blkX rfl)
      refine At.retA (by rw [Tryz.results223]) (he := ?_)
      simp
    · repeat (first | refine zN ?_ | (refine zO ?_; (repeat (first | refine za hΓ ?_ | refine zb hΓ ?_ | refine zc ?_ | refine zd ?_)); refine zE ?_) | refine zT ?_ | refine zF ?_ | with_reducible apply At.blkX rfl)
      refine At.retA (by rw [Tryz.results223]) (he := ?_)
      simp [h2]
  · repeat (first | refine zN ?_ | (refine zO ?_; (repeat (first | refine za hΓ ?_ | refine zb hΓ ?_ | refine zc ?_ | refine zd ?_)); refine zE ?_) | refine zT ?_ | refine zF ?_ | with_reducible apply At.blkX rfl)
    refine At.retA (by rw [Tryz.results223]) (he := ?_)
    simp [h1]
/-! rows of validators: equal? -/
noncomputable def mEqCS := mdl (fun x : List TCSig × List TCSig => x.1.length ≤ 8796093022207 ∧ x.2.length ≤ 8796093022207) (fun x => [aL cCSig x.1, aL cCSig x.2]) (fun x => rB (decide (x.1 = x.2)))
theorem mEqCS_eq (a b : List TCSig) (h1 : a.length ≤ 8796093022207) (h2 : b.length ≤ 8796093022207) : mEqCS [aL cCSig a, aL cCSig b] = some (rB (decide (a = b))) := mdl_eq (by rintro ⟨a, b⟩ ⟨d, e⟩ h; simpa [csig_inj] using h) (a, b) ⟨h1, h2⟩
theorem eqCSs_s : Sound Tryz.prog 179 mEqCS := by
  refine Sound.mdl Tryz.func179 rfl Tryz.ntmps179 ?_
  rintro ⟨a, b⟩ w ⟨ha, hb⟩
  refine ⟨by simp, ?_⟩
  dsimp only at ha hb
  have hΓ : GSound Tryz.prog (look [(223, mEqCs)]) := env_cons (has_of Tryz.func223 rfl rfl) eqCs_s env_nil
  simp only [initS, argPV, List.map_cons, List.map_nil, toPL, Nat.zero_add]
  by_cases hl : a.length = b.length
  · have hli : ((a.length : Nat) : Int) = ((b.length : Nat) : Int) := by omega
    repeat (first | refine zN ?_ | (refine zO ?_; (repeat (first | refine za hΓ ?_ | refine zb hΓ ?_ | refine zc ?_ | refine zd ?_)); refine zE ?_) | refine zT ?_ | refine zF ?_ | with_reducible apply At.blkX rfl)
    refine W.loopA (fun k => k ≤ a.length ∧ SameK a b k) (fun k : Nat => [.slot 5 (vI k), .slot 0 (vL cCSig a), .slot 1 (vL cCSig b)]) (fun k => a.length - k) 0 ⟨Nat.zero_le _, fun j hj => by omega⟩ (h := ?_)
    rintro k ⟨hk, hS⟩
    have hS := Lib.hid hS
    by_cases hlt : k < a.length
    · have hlb : k < b.length := by omega
      have hra := csig_row hlt
      have hrb := csig_row hlb
      have c := mEqCs_eq a[k] b[k]
      by_cases he : a[k] = b[k]
      · have hn := hS.out.next hlt hlb he
        have hn := Lib.hid hn
        rw [decide_eq_true he] at c
        clear he hS hl
        generalize a[k] = x at *
        generalize b[k] = y at *
        repeat (first | refine zN ?_ | (refine zO ?_; (repeat (first | refine za hΓ ?_ | refine zb hΓ ?_ | refine zc ?_ | refine zd ?_)); refine zE ?_) | refine zT ?_ | refine zF ?_ | with_reducible apply At.blkX rfl)
        refine W.drawB hΓ 10 [[], [], [0, 1], [0, 1, 2], [], [], [4, 5], [4, 5, 6], [0, 1, 2, 3, 4, 5, 6, 7], [0, 1, 2, 3, 4, 5, 6, 7, 8]] (Es := ?Es23) (rest := ?rest23) (st1 := ?st123) ?_
        (repeat (first | refine za hΓ ?_ | refine zb hΓ ?_ | refine zc ?_ | refine zd ?_))
        refine zE ?_
        repeat (first | refine zN ?_ | (refine zO ?_; (repeat (first | refine za hΓ ?_ | refine zb hΓ ?_ | refine zc ?_ | refine zd ?_)); refine zE ?_) | refine zT ?_ | refine zF ?_ | with_reducible apply At.blkX rfl)
        exact At.roundA (k + 1) ⟨by omega, hn.out⟩ (by omega)
      · have hne := decide_eq_false (ne_at hlt hlb he)
        rw [decide_eq_false he] at c
        clear he hS hl
        generalize a[k] = x at *
        generalize b[k] = y at *
        repeat (first | refine zN ?_ | (refine zO ?_; (repeat (first | refine za hΓ ?_ | refine zb hΓ ?_ | refine zc ?_ | refine zd ?_)); refine zE ?_) | refine zT ?_ | refine zF ?_ | with_reducible apply At.blkX rfl)
        refine W.drawB hΓ 10 [[], [], [0, 1], [0, 1, 2], [], [], [4, 5], [4, 5, 6], [0, 1, 2, 3, 4, 5, 6, 7], [0, 1, 2, 3, 4, 5, 6, 7, 8]] (Es := ?Es26) (rest := ?rest26) (st1 := ?st126) ?_
        (repeat (first | refine za hΓ ?_ | refine zb hΓ ?_ | refine zc ?_ | refine zd ?_))
        refine zE ?_
        repeat (first | refine zN ?_ | (refine zO ?_; (repeat (first | refine za hΓ ?_ | refine zb hΓ ?_ | refine zc ?_ | refine zd ?_)); refine zE ?_) | refine zT ?_ | refine zF ?_ | with_reducible apply At.blkX rfl)
        refine At.retA (by rw [Tryz.results179]) (he := ?_)
        simp only [hne]
    · have hke : k = a.length := by omega
      have hE : a = b := by rw [hke] at hS; exact hS.out.all hl
      have hE := Lib.hid (decide_eq_true hE)
      clear hl hli
      repeat (first | refine zN ?_ | (refine zO ?_; (repeat (first | refine za hΓ ?_ | refine zb hΓ ?_ | refine zc ?_ | refine zd ?_)); refine zE ?_) | refine zT ?_ | refine zF ?_ | with_reducible apply At.blkX rfl)
      refine At.retA (by rw [Tryz.results179]) (he := ?_)
      rw [hE.out]
  · have hli : ¬ ((a.length : Nat) : Int) = ((b.length : Nat) : Int) := by omega
    have hne : decide (a = b) = false := decide_eq_false fun h => hl (by rw [h])
    clear hl
    repeat (first | refine zN ?_ | (refine zO ?_; (repeat (first | refine za hΓ ?_ | refine zb hΓ ?_ | refine zc ?_ | refine zd ?_)); refine zE ?_) | refine zT ?_ | refine zF ?_ | with_reducible apply At.blkX rfl)
    refine At.retA (by rw [Tryz.results179]) (he := ?_)
    simp only [hne]
/-! measuring -/
def csSum (l : List TCSig) : Nat → Nat
  | 0 => 0
  | k + 1 => csSum l k + (l.getD k (0, ByteArray.empty)).2.size
theorem csSum_succ {l : List TCSig} {k : Nat} (h : k < l.length) : csSum l (k + 1) = csSum l k + l[k].2.size := by
  show csSum l k + (l.getD k (0, ByteArray.empty)).2.size = _
  rw [List.getD_eq_getElem?_getD, List.getElem?_eq_getElem h, Option.getD_some]
theorem csSum_mono (l : List TCSig) {i j : Nat} (h : i ≤ j) : csSum l i ≤ csSum l j := by
  induction h with
  | refl => exact Nat.le_refl _
  | @step m _ ih => exact Nat.le_trans ih (Nat.le_add_right _ _)
def totC (l : List TCSig) : Nat := l.length + csSum l l.length
abbrev okCz (l : List TCSig) : Prop := l.length ≤ 9223372036854775807 ∧ ∀ x ∈ l, x.2.size ≤ 9223372036854775807
noncomputable def mSzCs := mdl (fun x : TCSig × Int => x.1.2.size ≤ 9223372036854775807 ∧ leftE x.2) (fun x => [aCs x.1, aI x.2]) (fun x => rI (szE x.1.2.size x.2))
theorem mSzCs_eq (c : TCSig) (n : Int) (h1 : c.2.size ≤ 9223372036854775807) (h2 : leftE n) : mSzCs [aCs c, aI n] = some (rI (szE c.2.size n)) := mdl_eq (by
  rintro ⟨⟨a, b⟩, n⟩ ⟨⟨a', b'⟩, n'⟩ h
  simp at h
  simp [h]) (c, n) ⟨h1, h2⟩
theorem szCs_s : Sound Tryz.prog 221 mSzCs := by
  refine Sound.mdl Tryz.func221 rfl Tryz.ntmps221 ?_
  rintro ⟨⟨v, g⟩, n⟩ w ⟨hl, n1, n2⟩
  refine ⟨by simp, ?_⟩
  dsimp only at hl n1 n2
  have hΓ : GSound Tryz.prog (look []) := env_nil
  simp only [initS, argPV, List.map_cons, List.map_nil, toPL, Nat.zero_add]
  by_cases b1 : (g.size : Int) ≤ n
  · have hr : szE g.size n = n - g.size := if_pos b1
    repeat (first | refine zN ?_ | (refine zO ?_; (repeat (first | refine za hΓ ?_ | refine zb hΓ ?_ | refine zc ?_ | refine zd ?_)); refine zE ?_) | refine zT ?_ | refine zF ?_ | with_reducible apply At.blkX rfl)
    refine At.retA (by rw [Tryz.results221]) (he := ?_)
    rw [hr]
  · have hr : szE g.size n = -1 := if_neg b1
    repeat (first | refine zN ?_ | (refine zO ?_; (repeat (first | refine za hΓ ?_ | refine zb hΓ ?_ | refine zc ?_ | refine zd ?_)); refine zE ?_) | refine zT ?_ | refine zF ?_ | with_reducible apply At.blkX rfl)
    refine At.retA (by rw [Tryz.results221]) (he := ?_)
    rw [hr]
noncomputable def mSzCsS := mdl (fun x : List TCSig × Int => okCz x.1 ∧ leftE x.2) (fun x => [aL cCSig x.1, aI x.2]) (fun x => rI (szE (totC x.1) x.2))
theorem mSzCsS_eq (l : List TCSig) (n : Int) (h1 : okCz l) (h2 : leftE n) : mSzCsS [aL cCSig l, aI n] = some (rI (szE (totC l) n)) := mdl_eq (by rintro ⟨a, b⟩ ⟨d, e⟩ h; simpa [csig_inj] using h) (l, n) ⟨h1, h2⟩
theorem szCsS_s : Sound Tryz.prog 177 mSzCsS := by
  refine Sound.mdl Tryz.func177 rfl Tryz.ntmps177 ?_
  rintro ⟨l, n⟩ w ⟨⟨hl, hx⟩, n1, n2⟩
  refine ⟨by simp, ?_⟩
  dsimp only at hl hx n1 n2
  have hΓ : GSound Tryz.prog (look [(221, mSzCs)]) := env_cons (has_of Tryz.func221 rfl rfl) szCs_s env_nil
  have hlen := rowsF_len cCSig l
  have hx := Lib.hid hx
  simp only [initS, argPV, List.map_cons, List.map_nil, toPL, Nat.zero_add]
  by_cases b1 : (l.length : Int) ≤ n
  · repeat (first | refine zN ?_ | (refine zO ?_; (repeat (first | refine za hΓ ?_ | refine zb hΓ ?_ | refine zc ?_ | refine zd ?_)); refine zE ?_) | refine zT ?_ | refine zF ?_ | with_reducible apply At.blkX rfl)
    refine W.loopA (fun x : Nat × Int => x.1 ≤ l.length ∧ 0 ≤ x.2 ∧ x.2 = n - (l.length : Int) - ((csSum l x.1 : Nat) : Int)) (fun x => [.slot 0 (vL cCSig l), .slot 1 (vI x.2), .slot 5 (vI x.1)]) (fun x => l.length - x.1) (0, n - (l.length : Int)) ⟨Nat.zero_le _, by dsimp only; omega, by simp [csSum]⟩ (h := ?_)
    rintro ⟨k, m⟩ ⟨hk, hm0, hI⟩
    dsimp only at hk hm0 hI ⊢
    by_cases hlt : k < l.length
    · have hrow := csig_row hlt
      have hsz := hx.out l[k] (List.getElem_mem hlt)
      have hs := csSum_succ hlt
      have hm := csSum_mono l (Nat.succ_le_of_lt hlt)
      have c1 := mSzCs_eq l[k] m hsz ⟨by omega, by omega⟩
      dsimp only [aCs] at c1
      by_cases b2 : (l[k].2.size : Int) ≤ m
      · have hr : szE l[k].2.size m = m - l[k].2.size := if_pos b2
        rw [hr] at c1
        have hng : ¬ m - (l[k].2.size : Int) < 0 := by omega
        have hI2 : m - (l[k].2.size : Int) = n - (l.length : Int) - ((csSum l (k + 1) : Nat) : Int) := by omega
        have hI2 := Lib.hid hI2
        clear hr hsz hs hm hI
        repeat (first | refine zN ?_ | (refine zO ?_; (repeat (first | refine za hΓ ?_ | refine zb hΓ ?_ | refine zc ?_ | refine zd ?_)); refine zE ?_) | refine zT ?_ | refine zF ?_ | with_reducible apply At.blkX rfl)
        exact At.roundA (k + 1, m - (l[k].2.size : Int)) ⟨by dsimp only; omega, by dsimp only; omega, hI2.out⟩ (by dsimp only; omega)
      · have hr : szE l[k].2.size m = -1 := if_neg b2
        rw [hr] at c1
        have hr2 : szE (totC l) n = -1 := if_neg (by unfold totC; have hm : csSum l (k + 1) ≤ csSum l l.length := hm; omega)
        clear hr b2 hsz hs hm hI
        repeat (first | refine zN ?_ | (refine zO ?_; (repeat (first | refine za hΓ ?_ | refine zb hΓ ?_ | refine zc ?_ | refine zd ?_)); refine zE ?_) | refine zT ?_ | refine zF ?_ | with_reducible apply At.blkX rfl)
        refine At.retA (by rw [Tryz.results177]) (he := ?_)
        rw [hr2]
    · have hke : k = l.length := by omega
      subst hke
      have hr2 : szE (totC l) n = m := by unfold szE totC; rw [if_pos (by omega)]; omega
      clear hI
      repeat (first | refine zN ?_ | (refine zO ?_; (repeat (first | refine za hΓ ?_ | refine zb hΓ ?_ | refine zc ?_ | refine zd ?_)); refine zE ?_) | refine zT ?_ | refine zF ?_ | with_reducible apply At.blkX rfl)
      refine At.retA (by rw [Tryz.results177]) (he := ?_)
      rw [hr2]
  · have hr : szE (totC l) n = -1 := if_neg (by unfold totC; omega)
    repeat (first | refine zN ?_ | (refine zO ?_; (repeat (first | refine za hΓ ?_ | refine zb hΓ ?_ | refine zc ?_ | refine zd ?_)); refine zE ?_) | refine zT ?_ | refine zF ?_ | with_reducible apply At.blkX rfl)
    refine At.retA (by rw [Tryz.results177]) (he := ?_)
    rw [hr]
/-! commits -/
abbrev rowsCm (c : TCommit) : List RL := [.ro (.sc (.int .i64 c.1)), .ro (.sc (.int .i64 c.2.1)), .ro (.sc (.string c.2.2.1)), .own .ft 127 2 (rowsF cCSig c.2.2.2)]
abbrev okCmS (c : TCommit) : Prop := c.2.2.2.length ≤ 1048576
noncomputable def mToCm := mdl okCmS (fun c => [aCm c]) (fun c => .comp true (rowsCm c))
theorem mToCm_eq (c : TCommit) (h : okCmS c) : mToCm [aCm c] = some (.comp true (rowsCm c)) := mdl_eq aCm_inj c h
theorem toCm_s : Sound Tryz.prog 133 mToCm := by
  refine Sound.mdl Tryz.func133 rfl Tryz.ntmps133 ?_
  rintro ⟨h, r, id, l⟩ w hl
  refine ⟨by simp, ?_⟩
  replace hl : l.length ≤ 1048576 := hl
  have hΓ : GSound Tryz.prog (look [(178, mToCsS)]) := env_cons (has_of Tryz.func178 rfl rfl) toCsS_s env_nil
  have c1 := mToCsS_eq l hl
  simp only [initS, argPV, List.map_cons, List.map_nil, toPL, Nat.zero_add]
  repeat (first | refine zN ?_ | (refine zO ?_; (repeat (first | refine za hΓ ?_ | refine zb hΓ ?_ | refine zc ?_ | refine zd ?_)); refine zE ?_) | refine zT ?_ | refine zF ?_ | with_reducible apply At.blkX rfl)
  refine At.retA (by rw [Tryz.results133]) (he := rfl)
abbrev okCmZ (c : TCommit) : Prop := c.2.2.1.size ≤ 9223372036854775807 ∧ okCz c.2.2.2
def totCm (c : TCommit) : Nat := c.2.2.1.size + totC c.2.2.2
noncomputable def mSzCm := mdl (fun x : TCommit × Int => okCmZ x.1 ∧ leftE x.2) (fun x => [aCm x.1, aI x.2]) (fun x => rI (szE (totCm x.1) x.2))
theorem mSzCm_eq (c : TCommit) (n : Int) (h1 : okCmZ c) (h2 : leftE n) : mSzCm [aCm c, aI n] = some (rI (szE (totCm c) n)) := mdl_eq (fun x y h => aCmI_inj x y h) (c, n) ⟨h1, h2⟩
theorem szCm_s : Sound Tryz.prog 131 mSzCm := by
  refine Sound.mdl Tryz.func131 rfl Tryz.ntmps131 ?_
  rintro ⟨⟨h, r, id, l⟩, n⟩ w ⟨⟨hi, hz⟩, n1, n2⟩
  refine ⟨by simp, ?_⟩
  dsimp only at hi hz n1 n2
  have hΓ : GSound Tryz.prog (look [(177, mSzCsS)]) := env_cons (has_of Tryz.func177 rfl rfl) szCsS_s env_nil
  have ht : totCm (h, r, id, l) = id.size + totC l := rfl
  simp only [initS, argPV, List.map_cons, List.map_nil, toPL, Nat.zero_add]
  by_cases b1 : (id.size : Int) ≤ n
  · have c1 := mSzCsS_eq l (n - id.size) hz ⟨by omega, by omega⟩
    generalize totC l = T at *
    clear hz
    by_cases b2 : (T : Int) ≤ n - id.size
    · have hr : szE T (n - id.size) = n - id.size - T := if_pos b2
      have hr2 : szE (id.size + T) n = n - id.size - T := by unfold szE; rw [if_pos (by omega)]; omega
      rw [hr] at c1
      repeat (first | refine zN ?_ | (refine zO ?_; (repeat (first | refine za hΓ ?_ | refine zb hΓ ?_ | refine zc ?_ | refine zd ?_)); refine zE ?_) | refine zT ?_ | refine zF ?_ | with_reducible apply At.blkX rfl)
      refine At.retA (by rw [Tryz.results131]) (he := ?_)
      rw [ht, hr2]
    · have hr : szE T (n - id.size) = -1 := if_neg b2
      have hr2 : szE (id.size + T) n = -1 := if_neg (by omega)
      rw [hr] at c1
      repeat (first | refine zN ?_ | (refine zO ?_; (repeat (first | refine za hΓ ?_ | refine zb hΓ ?_ | refine zc ?_ | refine zd ?_)); refine zE ?_) | refine zT ?_ | refine zF ?_ | with_reducible apply At.blkX rfl)
      refine At.retA (by rw [Tryz.results131]) (he := ?_)
      rw [ht, hr2]
  · have hr2 : szE (id.size + totC l) n = -1 := if_neg (by omega)
    clear hz
    repeat (first | refine zN ?_ | (refine zO ?_; (repeat (first | refine za hΓ ?_ | refine zb hΓ ?_ | refine zc ?_ | refine zd ?_)); refine zE ?_) | refine zT ?_ | refine zF ?_ | with_reducible apply At.blkX rfl)
    refine At.retA (by rw [Tryz.results131]) (he := ?_)
    rw [ht, hr2]
noncomputable def mEqCm := mdl (fun x : TCommit × TCommit => okCm x.1 ∧ okCm x.2) (fun x => [aCm x.1, aCm x.2]) (fun x => rB (decide (x.1 = x.2)))
theorem mEqCm_eq (x y : TCommit) (h1 : okCm x) (h2 : okCm y) : mEqCm [aCm x, aCm y] = some (rB (decide (x = y))) := mdl_eq (by
  rintro ⟨⟨a, b, c, d⟩, a', b', c', d'⟩ ⟨⟨g, i, j, k⟩, g', i', j', k'⟩ h
  simp [csig_inj] at h
  simp [h]) (x, y) ⟨h1, h2⟩
theorem eqCm_s : Sound Tryz.prog 135 mEqCm := by
  refine Sound.mdl Tryz.func135 rfl Tryz.ntmps135 ?_
  rintro ⟨⟨a, b, c, d⟩, a', b', c', d'⟩ w ⟨h1, h2⟩
  refine ⟨by simp, ?_⟩
  replace h1 : d.length ≤ 8796093022207 := h1
  replace h2 : d'.length ≤ 8796093022207 := h2
  have hΓ : GSound Tryz.prog (look [(179, mEqCS)]) := env_cons (has_of Tryz.func179 rfl rfl) eqCSs_s env_nil
  have c1 := mEqCS_eq d d' h1 h2
  simp only [initS, argPV, List.map_cons, List.map_nil, toPL, Nat.zero_add]
  rcases cases3 (a = a') (b = b') (c = c') with ⟨rfl, rfl, rfl⟩ | h | h | h
  · have e : decide ((a, b, c, d) = (a, b, c, d')) = decide (d = d') := by simp
    cases hd : decide (d = d') with
    | true =>
      rw [hd] at c1 e
      clear hd
      repeat (first | refine zN ?_ | (refine zO ?_; (repeat (first | refine za hΓ ?_ | refine zb hΓ ?_ | refine zc ?_ | refine zd ?_)); refine zE ?_) | refine zT ?_ | refine zF ?_ | with_reducible apply At.blkX rfl)
      refine At.retA (by rw [Tryz.results135]) (he := ?_)
      rw [e]
    | false =>
      rw [hd] at c1 e
      clear hd
      repeat (first | refine zN ?_ | (refine zO ?_; (repeat (first | refine za hΓ ?_ | refine zb hΓ ?_ | refine zc ?_ | refine zd ?_)); refine zE ?_) | refine zT ?_ | refine zF ?_ | with_reducible apply At.blkX rfl)
      refine At.retA (by rw [Tryz.results135]) (he := ?_)
      rw [e]
  all_goals
    have e : decide ((a, b, c, d) = (a', b', c', d')) = false := by simp [h]
    repeat (first | refine zN ?_ | (refine zO ?_; (repeat (first | refine za hΓ ?_ | refine zb hΓ ?_ | refine zc ?_ | refine zd ?_)); refine zE ?_) | refine zT ?_ | refine zF ?_ | with_reducible apply At.blkX rfl)
    refine At.retA (by rw [Tryz.results135]) (he := ?_)
    rw [e]
/-! trust, anchors -/
noncomputable def mToTr := mdl (fun _ : TTrust => True) (fun t => [aTr t]) (fun t => .comp true [roI t.1, roI t.2])
theorem mToTr_eq (t : TTrust) : mToTr [aTr t] = some (.comp true [roI t.1, roI t.2]) := mdl_eq aTr_inj t trivial
theorem toTr_s : Sound Tryz.prog 28 mToTr := by
  refine Sound.mdl Tryz.func28 rfl Tryz.ntmps28 ?_
  rintro ⟨p, s⟩ w -
  refine ⟨by simp, ?_⟩
  have hΓ : GSound Tryz.prog (look []) := env_nil
  simp only [initS, argPV, List.map_cons, List.map_nil, toPL, Nat.zero_add]
  repeat (first | refine zN ?_ | (refine zO ?_; (repeat (first | refine za hΓ ?_ | refine zb hΓ ?_ | refine zc ?_ | refine zd ?_)); refine zE ?_) | refine zT ?_ | refine zF ?_ | with_reducible apply At.blkX rfl)
  refine At.retA (by rw [Tryz.results28]) (he := rfl)
noncomputable def mToAn := mdl okAn (fun a => [aAn a]) rAn
theorem mToAn_eq (a : TAnchor) (h : okAn a) : mToAn [aAn a] = some (rAn a) := mdl_eq aAn_inj a h
theorem toAn_s : Sound Tryz.prog 29 mToAn := by
  refine Sound.mdl Tryz.func29 rfl Tryz.ntmps29 ?_
  rintro ⟨⟨h, t, la, va, ne, da⟩, l⟩ w hl
  refine ⟨by simp, ?_⟩
  replace hl : l.length ≤ 1048576 := hl
  have hΓ : GSound Tryz.prog (look [(83, mToHd), (84, mToVlS)]) := env_cons (has_of Tryz.func83 rfl rfl) toHd_s (env_cons (has_of Tryz.func84 rfl rfl) toVlS_s env_nil)
  have c1 := mToHd_eq (h, t, la, va, ne, da)
  have c2 := mToVlS_eq l hl
  dsimp only [aHd] at c1
  simp only [initS, argPV, List.map_cons, List.map_nil, toPL, Nat.zero_add]
  repeat (first | refine zN ?_ | (refine zO ?_; (repeat (first | refine za hΓ ?_ | refine zb hΓ ?_ | refine zc ?_ | refine zd ?_)); refine zE ?_) | refine zT ?_ | refine zF ?_ | with_reducible apply At.blkX rfl)
  refine At.retA (by rw [Tryz.results29]) (he := rfl)
abbrev aAnI (x : TAnchor × Int) : List Arg := [aAn x.1, aI x.2]
theorem aAnI_inj : ∀ x y, aAnI x = aAnI y → x = y := by
  rintro ⟨⟨⟨a, b, c, d, e, f⟩, l⟩, n⟩ ⟨⟨⟨a', b', c', d', e', f'⟩, l'⟩, n'⟩ h
  simp [aAnI, aAn] at h
  simp [h]
def totAn (a : TAnchor) : Nat := totHeader a.1 + a.2.length
abbrev okAnZ (a : TAnchor) : Prop := okSz a.1 ∧ a.2.length ≤ 9223372036854775807
noncomputable def mSzVL := mdl (fun x : List TVal × Int => x.1.length ≤ 9223372036854775807 ∧ leftE x.2) (fun x => [aL cVal x.1, aI x.2]) (fun x => rI (szE x.1.length x.2))
theorem mSzVL_eq (l : List TVal) (n : Int) (h1 : l.length ≤ 9223372036854775807) (h2 : leftE n) : mSzVL [aL cVal l, aI n] = some (rI (szE l.length n)) := mdl_eq (by rintro ⟨a, b⟩ ⟨d, e⟩ h; simpa using h) (l, n) ⟨h1, h2⟩
theorem szVL_s : Sound Tryz.prog 81 mSzVL := by
  refine Sound.mdl Tryz.func81 rfl Tryz.ntmps81 ?_
  rintro ⟨l, n⟩ w ⟨hl, n1, n2⟩
  refine ⟨by simp, ?_⟩
  dsimp only at hl n1 n2
  have hΓ : GSound Tryz.prog (look []) := env_nil
  have hlen := rowsF_len cVal l
  simp only [initS, argPV, List.map_cons, List.map_nil, toPL, Nat.zero_add]
  by_cases b1 : (l.length : Int) ≤ n
  · have hr : szE l.length n = n - l.length := if_pos b1
    repeat (first | refine zN ?_ | (refine zO ?_; (repeat (first | refine za hΓ ?_ | refine zb hΓ ?_ | refine zc ?_ | refine zd ?_)); refine zE ?_) | refine zT ?_ | refine zF ?_ | with_reducible apply At.blkX rfl)
    refine At.retA (by rw [Tryz.results81]) (he := ?_)
    rw [hr]
  · have hr : szE l.length n = -1 := if_neg b1
    repeat (first | refine zN ?_ | (refine zO ?_; (repeat (first | refine za hΓ ?_ | refine zb hΓ ?_ | refine zc ?_ | refine zd ?_)); refine zE ?_) | refine zT ?_ | refine zF ?_ | with_reducible apply At.blkX rfl)
    refine At.retA (by rw [Tryz.results81]) (he := ?_)
    rw [hr]
theorem szE_add {a b : Nat} {n : Int} (h : (a : Int) ≤ n) : szE (a + b) n = szE b (n - a) := by
  unfold szE
  by_cases hb : (b : Int) ≤ n - a
  · rw [if_pos hb, if_pos (by omega)]; omega
  · rw [if_neg hb, if_neg (by omega)]
theorem szE_no {a b : Nat} {n : Int} (h : ¬ (a : Int) ≤ n) : szE (a + b) n = -1 := if_neg (by omega)
noncomputable def mSzAn := mdl (fun x : TAnchor × Int => okAnZ x.1 ∧ leftE x.2) aAnI (fun x => rI (szE (totAn x.1) x.2))
theorem mSzAn_eq (a : TAnchor) (n : Int) (h1 : okAnZ a) (h2 : leftE n) : mSzAn [aAn a, aI n] = some (rI (szE (totAn a) n)) := mdl_eq aAnI_inj (a, n) ⟨h1, h2⟩
theorem szAn_s : Sound Tryz.prog 26 mSzAn := by
  refine Sound.mdl Tryz.func26 rfl Tryz.ntmps26 ?_
  rintro ⟨⟨⟨h, t, la, va, ne, da⟩, l⟩, n⟩ w ⟨⟨hs, hl⟩, n1, n2⟩
  refine ⟨by simp, ?_⟩
  dsimp only at hl n1 n2
  have hΓ : GSound Tryz.prog (look [(80, mSzHd), (81, mSzVL)]) := env_cons (has_of Tryz.func80 rfl rfl) szHd_s (env_cons (has_of Tryz.func81 rfl rfl) szVL_s env_nil)
  have c1 := mSzHd_eq (h, t, la, va, ne, da) n hs ⟨n1, n2⟩
  have ht : totAn ((h, t, la, va, ne, da), l) = totHeader (h, t, la, va, ne, da) + l.length := rfl
  dsimp only [aHd] at c1
  generalize totHeader (h, t, la, va, ne, da) = T at *
  clear hs
  simp only [initS, argPV, List.map_cons, List.map_nil, toPL, Nat.zero_add]
  by_cases b1 : (T : Int) ≤ n
  · have hr : szR T n = n - T := if_pos b1
    have c2 := mSzVL_eq l (n - T) hl ⟨by omega, by omega⟩
    have hr2 := szE_add (b := l.length) b1
    rw [hr] at c1
    by_cases b2 : (l.length : Int) ≤ n - T
    · have hr3 : szE l.length (n - T) = n - T - l.length := if_pos b2
      rw [hr3] at c2 hr2
      repeat (first | refine zN ?_ | (refine zO ?_; (repeat (first | refine za hΓ ?_ | refine zb hΓ ?_ | refine zc ?_ | refine zd ?_)); refine zE ?_) | refine zT ?_ | refine zF ?_ | with_reducible apply At.blkX rfl)
      refine At.retA (by rw [Tryz.results26]) (he := ?_)
      rw [ht, hr2]
    · have hr3 : szE l.length (n - T) = -1 := if_neg b2
      rw [hr3] at c2 hr2
      repeat (first | refine zN ?_ | (refine zO ?_; (repeat (first | refine za hΓ ?_ | refine zb hΓ ?_ | refine zc ?_ | refine zd ?_)); refine zE ?_) | refine zT ?_ | refine zF ?_ | with_reducible apply At.blkX rfl)
      refine At.retA (by rw [Tryz.results26]) (he := ?_)
      rw [ht, hr2]
  · have hr : szR T n = -1 := if_neg b1
    have hr2 := szE_no (b := l.length) b1
    rw [hr] at c1
    repeat (first | refine zN ?_ | (refine zO ?_; (repeat (first | refine za hΓ ?_ | refine zb hΓ ?_ | refine zc ?_ | refine zd ?_)); refine zE ?_) | refine zT ?_ | refine zF ?_ | with_reducible apply At.blkX rfl)
    refine At.retA (by rw [Tryz.results26]) (he := ?_)
    rw [ht, hr2]
abbrev okAnC (a : TAnchor) : Prop := a.2.length ≤ 8796093022207
noncomputable def mEqAn := mdl (fun x : TAnchor × TAnchor => okAnC x.1 ∧ okAnC x.2) (fun x => [aAn x.1, aAn x.2]) (fun x => rB (decide (x.1 = x.2)))
theorem mEqAn_eq (x y : TAnchor) (h1 : okAnC x) (h2 : okAnC y) : mEqAn [aAn x, aAn y] = some (rB (decide (x = y))) := mdl_eq (by
  rintro ⟨⟨⟨a, b, c, d, e, f⟩, l⟩, ⟨⟨a', b', c', d', e', f'⟩, l'⟩⟩ ⟨⟨⟨g, i, j, k, m, n⟩, o⟩, ⟨⟨g', i', j', k', m', n'⟩, o'⟩⟩ h
  simp at h
  simp [h]) (x, y) ⟨h1, h2⟩
theorem eqAn_s : Sound Tryz.prog 31 mEqAn := by
  refine Sound.mdl Tryz.func31 rfl Tryz.ntmps31 ?_
  rintro ⟨⟨⟨a, b, c, d, e, f⟩, l⟩, ⟨⟨a', b', c', d', e', f'⟩, l'⟩⟩ w ⟨h1, h2⟩
  refine ⟨by simp, ?_⟩
  replace h1 : l.length ≤ 8796093022207 := h1
  replace h2 : l'.length ≤ 8796093022207 := h2
  have hΓ : GSound Tryz.prog (look [(86, mEqHd), (87, mEqVS)]) := env_cons (has_of Tryz.func86 rfl rfl) eqHd_s (env_cons (has_of Tryz.func87 rfl rfl) eqVS_s env_nil)
  have c1 := mEqHd_eq (a, b, c, d, e, f) (a', b', c', d', e', f')
  have c2 := mEqVS_eq l l' h1 h2
  have key : decide (((a, b, c, d, e, f), l) = ((a', b', c', d', e', f'), l')) = (decide ((a, b, c, d, e, f) = (a', b', c', d', e', f')) && decide (l = l')) := by
    rw [Bool.eq_iff_iff]
    simp only [Bool.and_eq_true, decide_eq_true_eq]
    exact Prod.mk.injEq .. |>.to_iff
  dsimp only [aHd] at c1
  generalize decide ((a, b, c, d, e, f) = (a', b', c', d', e', f')) = d1 at *
  generalize decide (l = l') = d2 at *
  simp only [initS, argPV, List.map_cons, List.map_nil, toPL, Nat.zero_add]
  cases d1 with
  | true =>
    cases d2 with
    | true =>
      repeat (first | refine zN ?_ | (refine zO ?_; (repeat (first | refine za hΓ ?_ | refine zb hΓ ?_ | refine zc ?_ | refine zd ?_)); refine zE ?_) | refine zT ?_ | refine zF ?_ | with_reducible apply At.blkX rfl)
      refine At.retA (by rw [Tryz.results31]) (he := ?_)
      rw [key]; rfl
    | false =>
      repeat (first | refine zN ?_ | (refine zO ?_; (repeat (first | refine za hΓ ?_ | refine zb hΓ ?_ | refine zc ?_ | refine zd ?_)); refine zE ?_) | refine zT ?_ | refine zF ?_ | with_reducible apply At.blkX rfl)
      refine At.retA (by rw [Tryz.results31]) (he := ?_)
      rw [key]; rfl
  | false =>
    repeat (first | refine zN ?_ | (refine zO ?_; (repeat (first | refine za hΓ ?_ | refine zb hΓ ?_ | refine zc ?_ | refine zd ?_)); refine zE ?_) | refine zT ?_ | refine zF ?_ | with_reducible apply At.blkX rfl)
    refine At.retA (by rw [Tryz.results31]) (he := ?_)
    rw [key]; rfl
/-! blocks -/
abbrev okBkS (b : TBlock) : Prop := b.2.1.length ≤ 1048576 ∧ b.2.2.1.length ≤ 1048576 ∧ b.2.2.2.2.2.2.length ≤ 1048576
abbrev rowsBk (b : TBlock) : List RL := [.ro (.sc (.int .i64 b.1.1)), .ro (.sc (.int .i64 b.1.2.1)), .ro (.sc (.string b.1.2.2.1)), .ro (.sc (.string b.1.2.2.2.1)), .ro (.sc (.string b.1.2.2.2.2.1)), .ro (.sc (.string b.1.2.2.2.2.2)), .own .ft 76 2 (rowsF cVal b.2.1), .own .ft 76 2 (rowsF cVal b.2.2.1), .ro (.sc (.int .i64 b.2.2.2.1)), .ro (.sc (.int .i64 b.2.2.2.2.1)), .ro (.sc (.string b.2.2.2.2.2.1)), .own .ft 127 2 (rowsF cCSig b.2.2.2.2.2.2)]
noncomputable def mToBk := mdl okBkS (fun b => [aBk b]) (fun b => .comp true (rowsBk b))
theorem mToBk_eq (b : TBlock) (h : okBkS b) : mToBk [aBk b] = some (.comp true (rowsBk b)) := mdl_eq aBk_inj b h
theorem toBk_s : Sound Tryz.prog 85 mToBk := by
  refine Sound.mdl Tryz.func85 rfl Tryz.ntmps85 ?_
  rintro ⟨⟨h, t, la, va, ne, da⟩, l, n, ⟨ch, cr, ci, cs⟩⟩ w ⟨hl, hn, hc⟩
  refine ⟨by simp, ?_⟩
  dsimp only at hl hn hc
  have hΓ : GSound Tryz.prog (look [(83, mToHd), (84, mToVlS), (133, mToCm)]) := env_cons (has_of Tryz.func83 rfl rfl) toHd_s (env_cons (has_of Tryz.func84 rfl rfl) toVlS_s (env_cons (has_of Tryz.func133 rfl rfl) toCm_s env_nil))
  have c1 := mToHd_eq (h, t, la, va, ne, da)
  have c2 := mToVlS_eq l hl
  have c3 := mToVlS_eq n hn
  have c4 := mToCm_eq (ch, cr, ci, cs) hc
  dsimp only [aHd, aCm, rowsCm] at c1 c4
  simp only [initS, argPV, List.map_cons, List.map_nil, toPL, Nat.zero_add]
  repeat (first | refine zN ?_ | (refine zO ?_; (repeat (first | refine za hΓ ?_ | refine zb hΓ ?_ | refine zc ?_ | refine zd ?_)); refine zE ?_) | refine zT ?_ | refine zF ?_ | with_reducible apply At.blkX rfl)
  refine At.retA (by rw [Tryz.results85]) (he := rfl)
abbrev aBkI (x : TBlock × Int) : List Arg := [aBk x.1, aI x.2]
theorem aBkI_inj : ∀ x y, aBkI x = aBkI y → x = y := by
  rintro ⟨⟨⟨a, b, c, d, e, f⟩, l, n, ⟨g, h, i, j⟩⟩, k⟩ ⟨⟨⟨a', b', c', d', e', f'⟩, l', n', ⟨g', h', i', j'⟩⟩, k'⟩ h
  simp [aBkI, aBk, csig_inj] at h
  simp [h]
def totBk (b : TBlock) : Nat := totHeader b.1 + (b.2.1.length + (b.2.2.1.length + totCm b.2.2.2))
abbrev okBkZ (b : TBlock) : Prop := okSz b.1 ∧ b.2.1.length ≤ 9223372036854775807 ∧ b.2.2.1.length ≤ 9223372036854775807 ∧ okCmZ b.2.2.2
noncomputable def mSzBk := mdl (fun x : TBlock × Int => okBkZ x.1 ∧ leftE x.2) aBkI (fun x => rI (szE (totBk x.1) x.2))
theorem mSzBk_eq (b : TBlock) (n : Int) (h1 : okBkZ b) (h2 : leftE n) : mSzBk [aBk b, aI n] = some (rI (szE (totBk b) n)) := mdl_eq aBkI_inj (b, n) ⟨h1, h2⟩
theorem szBk_s : Sound Tryz.prog 82 mSzBk := by
  refine Sound.mdl Tryz.func82 rfl Tryz.ntmps82 ?_
  rintro ⟨⟨⟨h, t, la, va, ne, da⟩, l, m, ⟨ch, cr, ci, cs⟩⟩, n⟩ w ⟨⟨hs, hl, hm, hc⟩, n1, n2⟩
  refine ⟨by simp, ?_⟩
  dsimp only at hl hm n1 n2
  have hΓ : GSound Tryz.prog (look [(80, mSzHd), (81, mSzVL), (131, mSzCm)]) := env_cons (has_of Tryz.func80 rfl rfl) szHd_s (env_cons (has_of Tryz.func81 rfl rfl) szVL_s (env_cons (has_of Tryz.func131 rfl rfl) szCm_s env_nil))
  have c1 := mSzHd_eq (h, t, la, va, ne, da) n hs ⟨n1, n2⟩
  have c4 := fun q hq => mSzCm_eq (ch, cr, ci, cs) q hc hq
  have ht : szE (totBk ((h, t, la, va, ne, da), l, m, (ch, cr, ci, cs))) n = szE (totHeader (h, t, la, va, ne, da) + (l.length + (m.length + totCm (ch, cr, ci, cs)))) n := rfl
  dsimp only [aHd, aCm] at c1 c4
  generalize totHeader (h, t, la, va, ne, da) = T at *
  generalize totCm (ch, cr, ci, cs) = U at *
  clear hs hc
  simp only [initS, argPV, List.map_cons, List.map_nil, toPL, Nat.zero_add]
  by_cases b1 : (T : Int) ≤ n
  · have hr : szR T n = n - T := if_pos b1
    have c2 := mSzVL_eq l (n - T) hl ⟨by omega, by omega⟩
    have h2 := szE_add (b := l.length + (m.length + U)) b1
    rw [hr] at c1
    rw [h2] at ht
    clear h2 hr
    by_cases b2 : (l.length : Int) ≤ n - T
    · have hr : szE l.length (n - T) = n - T - l.length := if_pos b2
      have c3 := mSzVL_eq m (n - T - l.length) hm ⟨by omega, by omega⟩
      have h2 := szE_add (b := m.length + U) b2
      rw [hr] at c2
      rw [h2] at ht
      clear h2 hr
      by_cases b3 : (m.length : Int) ≤ n - T - l.length
      · have hr : szE m.length (n - T - l.length) = n - T - l.length - m.length := if_pos b3
        have c4 := c4 (n - T - l.length - m.length) ⟨by omega, by omega⟩
        have h2 := szE_add (b := U) b3
        rw [hr] at c3
        rw [h2] at ht
        clear h2 hr
        by_cases b4 : (U : Int) ≤ n - T - l.length - m.length
        · have hr : szE U (n - T - l.length - m.length) = n - T - l.length - m.length - U := if_pos b4
          rw [hr] at c4 ht
          repeat (first | refine zN ?_ | (refine zO ?_; (repeat (first | refine za hΓ ?_ | refine zb hΓ ?_ | refine zc ?_ | refine zd ?_)); refine zE ?_) | refine zT ?_ | refine zF ?_ | with_reducible apply At.blkX rfl)
          refine At.retA (by rw [Tryz.results82]) (he := ?_)
          rw [ht]
        · have hr : szE U (n - T - l.length - m.length) = -1 := if_neg b4
          rw [hr] at c4 ht
          repeat (first | refine zN ?_ | (refine zO ?_; (repeat (first | refine za hΓ ?_ | refine zb hΓ ?_ | refine zc ?_ | refine zd ?_)); refine zE ?_) | refine zT ?_ | refine zF ?_ | with_reducible apply At.blkX rfl)
          refine At.retA (by rw [Tryz.results82]) (he := ?_)
          rw [ht]
      · have hr : szE m.length (n - T - l.length) = -1 := if_neg b3
        have h2 := szE_no (b := U) b3
        rw [hr] at c3
        rw [h2] at ht
        clear c4
        repeat (first | refine zN ?_ | (refine zO ?_; (repeat (first | refine za hΓ ?_ | refine zb hΓ ?_ | refine zc ?_ | refine zd ?_)); refine zE ?_) | refine zT ?_ | refine zF ?_ | with_reducible apply At.blkX rfl)
        refine At.retA (by rw [Tryz.results82]) (he := ?_)
        rw [ht]
    · have hr : szE l.length (n - T) = -1 := if_neg b2
      have h2 := szE_no (b := m.length + U) b2
      rw [hr] at c2
      rw [h2] at ht
      clear c4
      repeat (first | refine zN ?_ | (refine zO ?_; (repeat (first | refine za hΓ ?_ | refine zb hΓ ?_ | refine zc ?_ | refine zd ?_)); refine zE ?_) | refine zT ?_ | refine zF ?_ | with_reducible apply At.blkX rfl)
      refine At.retA (by rw [Tryz.results82]) (he := ?_)
      rw [ht]
  · have hr : szR T n = -1 := if_neg b1
    have h2 := szE_no (b := l.length + (m.length + U)) b1
    rw [hr] at c1
    rw [h2] at ht
    clear c4
    repeat (first | refine zN ?_ | (refine zO ?_; (repeat (first | refine za hΓ ?_ | refine zb hΓ ?_ | refine zc ?_ | refine zd ?_)); refine zE ?_) | refine zT ?_ | refine zF ?_ | with_reducible apply At.blkX rfl)
    refine At.retA (by rw [Tryz.results82]) (he := ?_)
    rw [ht]
noncomputable instance decBk : DecidableEq TBlock := fun a b => Classical.propDecidable (a = b)
noncomputable def mEqBk := mdl (fun x : TBlock × TBlock => okBk x.1 ∧ okBk x.2) (fun x => [aBk x.1, aBk x.2]) (fun x => rB (decide (x.1 = x.2)))
theorem mEqBk_eq (x y : TBlock) (h1 : okBk x) (h2 : okBk y) : mEqBk [aBk x, aBk y] = some (rB (decide (x = y))) := mdl_eq (by
  rintro ⟨⟨⟨a, b, c, d, e, f⟩, l, n, ⟨g, h, i, j⟩⟩, ⟨⟨a', b', c', d', e', f'⟩, l', n', ⟨g', h', i', j'⟩⟩⟩ ⟨⟨⟨a1, b1, c1, d1, e1, f1⟩, l1, n1, ⟨g1, h1, i1, j1⟩⟩, ⟨⟨a2, b2, c2, d2, e2, f2⟩, l2, n2, ⟨g2, h2, i2, j2⟩⟩⟩ h
  simp [csig_inj] at h
  simp [h]) (x, y) ⟨h1, h2⟩
theorem eqBk_s : Sound Tryz.prog 88 mEqBk := by
  refine Sound.mdl Tryz.func88 rfl Tryz.ntmps88 ?_
  rintro ⟨⟨⟨a, b, c, d, e, f⟩, l, n, ⟨g, h, i, j⟩⟩, ⟨⟨a', b', c', d', e', f'⟩, l', n', ⟨g', h', i', j'⟩⟩⟩ w ⟨⟨h1, h2, h3⟩, ⟨h4, h5, h6⟩⟩
  refine ⟨by simp, ?_⟩
  dsimp only at h1 h2 h3 h4 h5 h6
  have hΓ : GSound Tryz.prog (look [(86, mEqHd), (87, mEqVS), (135, mEqCm)]) := env_cons (has_of Tryz.func86 rfl rfl) eqHd_s (env_cons (has_of Tryz.func87 rfl rfl) eqVS_s (env_cons (has_of Tryz.func135 rfl rfl) eqCm_s env_nil))
  have c1 := mEqHd_eq (a, b, c, d, e, f) (a', b', c', d', e', f')
  have c2 := mEqVS_eq l l' h1 h4
  have c3 := mEqVS_eq n n' h2 h5
  have c4 := mEqCm_eq (g, h, i, j) (g', h', i', j') h3 h6
  have key : decide (((a, b, c, d, e, f), l, n, (g, h, i, j)) = ((a', b', c', d', e', f'), l', n', (g', h', i', j'))) = (decide ((a, b, c, d, e, f) = (a', b', c', d', e', f')) && (decide (l = l') && (decide (n = n') && decide ((g, h, i, j) = (g', h', i', j'))))) := by
    rw [Bool.eq_iff_iff]
    simp only [Bool.and_eq_true, decide_eq_true_eq]
    constructor
    · intro q; cases q; exact ⟨rfl, rfl, rfl, rfl⟩
    · rintro ⟨q1, q2, q3, q4⟩; cases q1; cases q2; cases q3; cases q4; rfl
  dsimp only [aHd, aCm] at c1 c4
  generalize decide ((a, b, c, d, e, f) = (a', b', c', d', e', f')) = d1 at *
  generalize decide (l = l') = d2 at *
  generalize decide (n = n') = d3 at *
  generalize decide ((g, h, i, j) = (g', h', i', j')) = d4 at *
  simp only [initS, argPV, List.map_cons, List.map_nil, toPL, Nat.zero_add]
  cases d1 with
  | false =>
    repeat (first | refine zN ?_ | (refine zO ?_; (repeat (first | refine za hΓ ?_ | refine zb hΓ ?_ | refine zc ?_ | refine zd ?_)); refine zE ?_) | refine zT ?_ | refine zF ?_ | with_reducible apply At.blkX rfl)
    refine At.retA (by rw [Tryz.results88]) (he := ?_)
    rw [key]; rfl
  | true =>
    cases d2 with
    | false =>
      repeat (first | refine zN ?_ | (refine zO ?_; (repeat (first | refine za hΓ ?_ | refine zb hΓ ?_ | refine zc ?_ | refine zd ?_)); refine zE ?_) | refine zT ?_ | refine zF ?_ | with_reducible apply At.blkX rfl)
      refine At.retA (by rw [Tryz.results88]) (he := ?_)
      rw [key]; rfl
    | true =>
      cases d3 with
      | false =>
        repeat (first | refine zN ?_ | (refine zO ?_; (repeat (first | refine za hΓ ?_ | refine zb hΓ ?_ | refine zc ?_ | refine zd ?_)); refine zE ?_) | refine zT ?_ | refine zF ?_ | with_reducible apply At.blkX rfl)
        refine At.retA (by rw [Tryz.results88]) (he := ?_)
        rw [key]; rfl
      | true =>
        cases d4 with
        | false =>
          repeat (first | refine zN ?_ | (refine zO ?_; (repeat (first | refine za hΓ ?_ | refine zb hΓ ?_ | refine zc ?_ | refine zd ?_)); refine zE ?_) | refine zT ?_ | refine zF ?_ | with_reducible apply At.blkX rfl)
          refine At.retA (by rw [Tryz.results88]) (he := ?_)
          rw [key]; rfl
        | true =>
          repeat (first | refine zN ?_ | (refine zO ?_; (repeat (first | refine za hΓ ?_ | refine zb hΓ ?_ | refine zc ?_ | refine zd ?_)); refine zE ?_) | refine zT ?_ | refine zF ?_ | with_reducible apply At.blkX rfl)
          refine At.retA (by rw [Tryz.results88]) (he := ?_)
          rw [key]; rfl
end Go.Proofs.YtfgkfcfplodaoaaGreatDoor
