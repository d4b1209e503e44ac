/-
  Put together: PEvChP PEvShHd PEvHdF PEvPeerA PEvShort.
-/
import Derived.Test.YtfgkfcfplodaoaaGreatDoorG28
import Derived.Test.YtfgkfcfplodaoaaGreatDoorG29
import Derived.Test.YtfgkfcfplodaoaaGreatDoorHPEvDelW
set_option linter.unusedSimpArgs false
set_option linter.unusedVariables false
set_option maxRecDepth 100000
section
namespace Go.Proofs.YtfgkfcfplodaoaaGreatDoor
open Go Go.RowKit
set_option maxHeartbeats 4000000
abbrev AscV (l : List TVal) : Prop := l.Pairwise fun a b => a.1 < b.1
theorem valsOk_asc {l : List TVal} (h : valsOk l) : AscV l := by
  have key : ∀ j k, (hk : k < l.length) → (hj : j < k) → (l[j]'(by omega)).1 < l[k].1 := by
    intro j k
    induction k with
    | zero => intro _ hj; omega
    | succ k ih =>
      intro hk hj
      have h1 := (h.2 (k + 1) hk).2.2.2.2 (by omega)
      rw [Nat.add_sub_cancel, List.getD_eq_getElem?_getD, List.getD_eq_getElem?_getD, List.getElem?_eq_getElem hk, List.getElem?_eq_getElem (show k < l.length by omega)] at h1
      simp only [Option.getD_some] at h1
      rcases Nat.lt_or_ge j k with h2 | h2
      · exact Int.lt_trans (ih (by omega) h2) h1
      · have : j = k := by omega
        subst this
        exact h1
  exact List.pairwise_iff_getElem.2 fun j k hj hk hjk => key j k hk hjk
def putF (x : TVal) : Bool → List TVal → List TVal
  | p, [] => if p = false then [x] else []
  | p, v :: r => (if p = false ∧ x.1 ≤ v.1 then [x] else []) ++ (if v.1 = x.1 then [] else [v]) ++ putF x (p || decide (x.1 ≤ v.1)) r
theorem putF_cons (x : TVal) (p : Bool) (v : TVal) (r : List TVal) : putF x p (v :: r) = (if p = false ∧ x.1 ≤ v.1 then [x] else []) ++ (if v.1 = x.1 then [] else [v]) ++ putF x (p || decide (x.1 ≤ v.1)) r := by rw [putF]
theorem chEnd_fold (x : TVal) : ∀ (l : List TVal) (o : List TVal) (p h : Bool), chEnd x (l.foldl (chS x) (o, p, h)) = o ++ putF x p l ∧ (l.foldl (chS x) (o, p, h)).2.2 = (h || l.any fun v => decide (v.1 = x.1))
  | [], o, p, h => by
    simp only [List.foldl_nil, chEnd, putF, List.any_nil, Bool.or_false, and_true]
    cases p <;> simp
  | v :: r, o, p, h => by
    rw [List.foldl_cons]
    obtain ⟨h1, h2⟩ := chEnd_fold x r ((if p = false ∧ x.1 ≤ v.1 then o ++ [x] else o) ++ (if v.1 = x.1 then [] else [v])) (p || decide (x.1 ≤ v.1)) (h || decide (v.1 = x.1))
    have e : chS x (o, p, h) v = ((if p = false ∧ x.1 ≤ v.1 then o ++ [x] else o) ++ (if v.1 = x.1 then [] else [v]), p || decide (x.1 ≤ v.1), h || decide (v.1 = x.1)) := rfl
    rw [e]
    refine ⟨h1.trans ?_, h2.trans ?_⟩
    · rw [putF_cons]
      split <;> simp
    · rw [List.any_cons, Bool.or_assoc]
abbrev noId (l : List TVal) (id : Int) : List TVal := l.filter fun v => !decide (v.1 = id)
theorem chg_put (l : List TVal) (x : TVal) : chg l x = putF x (decide (x.2 = 0)) l := by
  have h := (chEnd_fold x l [] (decide (x.2 = 0)) false).1
  unfold chg chK
  rw [List.take_length]
  simpa using h
theorem chgB_any (l : List TVal) (x : TVal) : chgB l x = ((l.any fun v => decide (v.1 = x.1)) || !decide (x.2 = 0)) := by
  have h := (chEnd_fold x l [] (decide (x.2 = 0)) false).2
  unfold chgB chK
  rw [List.take_length, h, Bool.false_or]
theorem putF_true (x : TVal) : ∀ l, putF x true l = noId l x.1
  | [] => rfl
  | v :: r => by
    rw [putF_cons]
    rw [Bool.true_or, putF_true x r]
    by_cases h : v.1 = x.1 <;> simp [h, noId]
theorem putF_perm (x : TVal) : ∀ l, (putF x false l).Perm (x :: noId l x.1)
  | [] => List.Perm.refl _
  | v :: r => by
    rw [putF_cons]
    by_cases h : x.1 ≤ v.1
    · rw [if_pos ⟨rfl, h⟩, decide_eq_true h, Bool.or_true, putF_true]
      by_cases h2 : v.1 = x.1 <;> simp [h2, noId]
    · rw [if_neg (fun q => h q.2), decide_eq_false h, Bool.or_false]
      have h2 : ¬ v.1 = x.1 := by omega
      have := putF_perm x r
      simp only [h2, if_false, List.nil_append, List.singleton_append]
      refine (List.Perm.cons v this).trans ?_
      have e : noId (v :: r) x.1 = v :: noId r x.1 := by simp [noId, h2]
      rw [e]
      exact List.Perm.swap x v _
theorem noId_asc {l : List TVal} (id : Int) (h : AscV l) : AscV (noId l id) := h.filter _
theorem putF_asc (x : TVal) : ∀ l, AscV l → AscV (putF x false l)
  | [], _ => by simp [putF]
  | v :: r, hl => by
    have hl' := List.pairwise_cons.1 hl
    rw [putF_cons]
    by_cases h : x.1 ≤ v.1
    · rw [if_pos ⟨rfl, h⟩, decide_eq_true h, Bool.or_true, putF_true]
      have e : [x] ++ (if v.1 = x.1 then [] else [v]) ++ noId r x.1 = x :: noId (v :: r) x.1 := by
        by_cases h2 : v.1 = x.1 <;> simp [h2, noId]
      rw [e]
      refine List.pairwise_cons.2 ⟨fun y hy => ?_, noId_asc _ hl⟩
      obtain ⟨h3, h4⟩ := List.mem_filter.1 hy
      have h5 : ¬ y.1 = x.1 := by simpa using h4
      rcases List.mem_cons.1 h3 with rfl | h3
      · omega
      · have := hl'.1 y h3
        omega
    · rw [if_neg (fun q => h q.2), decide_eq_false h, Bool.or_false]
      have h2 : ¬ v.1 = x.1 := by omega
      simp only [h2, if_false, List.nil_append, List.singleton_append]
      refine List.pairwise_cons.2 ⟨fun y hy => ?_, putF_asc x r hl'.2⟩
      have h3 := (putF_perm x r).mem_iff.1 hy
      rcases List.mem_cons.1 h3 with rfl | h3
      · omega
      · exact hl'.1 y (List.mem_filter.1 h3).1
theorem chg_asc {l : List TVal} (x : TVal) (h : AscV l) : AscV (chg l x) := by
  rw [chg_put]
  by_cases h0 : x.2 = 0
  · rw [decide_eq_true h0, putF_true]
    exact noId_asc _ h
  · rw [decide_eq_false h0]
    exact putF_asc x l h
theorem erase_noId {id : Int} : ∀ {l : List TVal} {k : Nat} (hk : k < l.length), AscV l → l[k].1 = id → l.eraseIdx k = noId l id
  | v :: r, 0, _, hl, h => by
    have hl' := List.pairwise_cons.1 hl
    have h : v.1 = id := h
    rw [List.eraseIdx_cons_zero]
    have e : noId (v :: r) id = noId r id := by simp [noId, h]
    rw [e]
    refine (List.filter_eq_self.2 fun y hy => ?_).symm
    have := hl'.1 y hy
    have : ¬ y.1 = id := by omega
    simpa using this
  | v :: r, k + 1, hk, hl, h => by
    have hl' := List.pairwise_cons.1 hl
    have hk' : k < r.length := by simpa using hk
    have h : r[k].1 = id := h
    have h1 := hl'.1 r[k] (List.getElem_mem hk')
    rw [List.eraseIdx_cons_succ, erase_noId hk' hl'.2 h]
    have h2 : ¬ v.1 = id := by omega
    simp [noId, h2]
theorem set_perm (x : TVal) : ∀ {l : List TVal} {k : Nat}, k < l.length → (l.set k x).Perm (x :: l.eraseIdx k)
  | v :: r, 0, _ => List.Perm.refl _
  | v :: r, k + 1, hk => by
    have hk' : k < r.length := by simpa using hk
    rw [List.set_cons_succ, List.eraseIdx_cons_succ]
    exact ((set_perm x hk').cons v).trans (List.Perm.swap x v _)
theorem noId_self {id : Int} {l : List TVal} (h : ∀ v ∈ l, ¬ v.1 = id) : noId l id = l := List.filter_eq_self.2 fun y hy => by simpa using h y hy
theorem asc_uni {l m : List TVal} (hp : l.Perm m) (h1 : l.Pairwise fun a b => ¬ b.1 < a.1) (h2 : AscV m) : l = m := by
  have key : ∀ (m : List TVal), AscV m → ∀ a b, a ∈ m → b ∈ m → a.1 = b.1 → a = b := by
    intro m
    induction m with
    | nil => intro _ a b h; cases h
    | cons v r ih =>
      intro hm a b ha hb e
      obtain ⟨h3, h4⟩ := List.pairwise_cons.1 hm
      rcases List.mem_cons.1 ha with e1 | ha' <;> rcases List.mem_cons.1 hb with e2 | hb'
      · rw [e1, e2]
      · have := h3 b hb'
        rw [e1] at e
        omega
      · have := h3 a ha'
        rw [e2] at e
        omega
      · exact ih h4 a b ha' hb' e
  refine List.Perm.eq_of_pairwise (le := fun a b : TVal => ¬ b.1 < a.1) (fun a b ha hb h3 h4 => key m h2 a b (hp.mem_iff.1 ha) hb (by omega)) h1 (h2.imp fun {a b} h => by omega) hp
theorem sort_erase {l l' : List TVal} {x : TVal} {k : Nat} (hl : AscV l) (hk : k < l.length) (hx : l[k].1 = x.1) (h0 : x.2 = 0) (hp : l'.Perm (l.eraseIdx k)) (hs : l'.Pairwise fun a b => ¬ b.1 < a.1) : l' = chg l x := by
  refine asc_uni (hp.trans ?_) hs (chg_asc x hl)
  rw [chg_put, decide_eq_true h0, putF_true, erase_noId hk hl hx]
theorem sort_set {l l' : List TVal} {x : TVal} {k : Nat} (hl : AscV l) (hk : k < l.length) (hx : l[k].1 = x.1) (h0 : ¬ x.2 = 0) (hp : l'.Perm (l.set k x)) (hs : l'.Pairwise fun a b => ¬ b.1 < a.1) : l' = chg l x := by
  refine asc_uni (hp.trans ?_) hs (chg_asc x hl)
  rw [chg_put, decide_eq_false h0]
  refine (set_perm x hk).trans ?_
  rw [erase_noId hk hl hx]
  exact (putF_perm x l).symm
theorem sort_app {l l' : List TVal} {x : TVal} (hl : AscV l) (hx : ∀ v ∈ l, ¬ v.1 = x.1) (h0 : ¬ x.2 = 0) (hp : l'.Perm (l ++ [x])) (hs : l'.Pairwise fun a b => ¬ b.1 < a.1) : l' = chg l x := by
  refine asc_uni (hp.trans ?_) hs (chg_asc x hl)
  rw [chg_put, decide_eq_false h0]
  have h1 := putF_perm x l
  rw [noId_self hx] at h1
  exact (List.perm_append_comm (l₁ := l) (l₂ := [x])).trans h1.symm
theorem chgB_at {l : List TVal} {x : TVal} {k : Nat} (hk : k < l.length) (hx : l[k].1 = x.1) : chgB l x = true := by
  rw [chgB_any]
  have : (l.any fun v => decide (v.1 = x.1)) = true := List.any_eq_true.2 ⟨l[k], List.getElem_mem hk, decide_eq_true hx⟩
  rw [this, Bool.true_or]
theorem chgB_no {l : List TVal} {x : TVal} (hx : ∀ v ∈ l, ¬ v.1 = x.1) : chgB l x = !decide (x.2 = 0) := by
  rw [chgB_any]
  have : (l.any fun v => decide (v.1 = x.1)) = false := List.any_eq_false.2 fun v hv => by simpa using hx v hv
  rw [this, Bool.false_or]
end Go.Proofs.YtfgkfcfplodaoaaGreatDoor

end
section
namespace Go.Proofs.YtfgkfcfplodaoaaGreatDoor
open Go Go.RowKit
set_option maxHeartbeats 4000000
def pieceS (s : ByteArray) : ByteArray := varS s.size ++ s
noncomputable def mPiece := mdl (fun s : ByteArray => s.size ≤ 1048576) (fun s => [aS s]) (fun s => rS (pieceS s))
theorem mPiece_eq (s : ByteArray) (h : s.size ≤ 1048576) : mPiece [aS s] = some (rS (pieceS s)) := mdl_eq (by intro a b h; simpa using h) s h
theorem pieceS_size (s : ByteArray) : (pieceS s).size ≤ 7 + s.size := by
  unfold pieceS
  rw [ByteArray.size_append]
  have := varS_size s.size
  omega
def showHead (h : THeader) : ByteArray := if headOk h then varS h.1 ++ varS h.2.1 ++ pieceS h.2.2.1 ++ pieceS h.2.2.2.1 ++ pieceS h.2.2.2.2.1 ++ pieceS h.2.2.2.2.2 else ByteArray.empty
theorem showHead_no {h : THeader} (ho : ¬ headOk h) : showHead h = ByteArray.empty := if_neg ho
theorem showHead_yes {h : THeader} (ho : headOk h) : showHead h = varS h.1 ++ varS h.2.1 ++ pieceS h.2.2.1 ++ pieceS h.2.2.2.1 ++ pieceS h.2.2.2.2.1 ++ pieceS h.2.2.2.2.2 := if_pos ho
theorem lastN_le (h : Int) : lastN h ≤ 8 := by unfold lastN; split <;> omega
theorem showHead_size (h : THeader) : (showHead h).size ≤ 100 := by
  by_cases ho : headOk h
  · have h1 := varS_size h.1
    have h2 := varS_size h.2.1
    have h3 := pieceS_size h.2.2.1
    have h4 := pieceS_size h.2.2.2.1
    have h5 := pieceS_size h.2.2.2.2.1
    have h6 := pieceS_size h.2.2.2.2.2
    have h7 := lastN_le h.1
    rw [showHead_yes ho]
    obtain ⟨_, _, a, b, c, d⟩ := ho
    simp only [ByteArray.size_append]
    omega
  · rw [showHead_no ho]; simp
noncomputable def mShowHd := mdl (fun _ : THeader => True) (fun h => [aHd h]) (fun h => rS (showHead h))
theorem mShowHd_eq (h : THeader) : mShowHd [aHd h] = some (rS (showHead h)) := mdl_eq aHd_inj h trivial
theorem pieceS_s : Sound Tryz.prog 107 mPiece := by
  refine Sound.mdl Tryz.func107 rfl Tryz.ntmps107 ?_
  rintro s w hl
  refine ⟨by simp, ?_⟩
  replace hl : s.size ≤ 1048576 := hl
  have hΓ : GSound Tryz.prog (look [(106, mVar)]) := env_cons (has_of Tryz.func106 rfl rfl) varSpec_s env_nil
  have c1 := mVar_eq s.size
  have s1 := varS_size s.size
  simp only [initS, argPV, List.map_cons, List.map_nil, toPL, Nat.zero_add]
  refine zR ?_
  refine At.retA (by rw [Tryz.results107]) (he := rfl)
def asEvShHd0 : List (List Nat) := [[], [0], [0, 1], [], [3], [0, 1, 2, 3, 4], [0, 1, 2, 3, 4, 5], [], [7], [0, 1, 2, 3, 4, 5, 7, 8], [0, 1, 2, 3, 4, 5, 6, 7, 8, 9], [], [11], [0, 1, 2, 3, 4, 5, 7, 8, 9, 11, 12], [0, 1, 2, 3, 4, 5, 6, 7, 8, 9, 10, 11, 12, 13], [], [15], [0, 1, 2, 3, 4, 5, 7, 8, 9, 11, 12, 13, 15, 16], [0, 1, 2, 3, 4, 5, 6, 7, 8, 9, 10, 11, 12, 13, 14, 15, 16, 17], [], [19], [0, 1, 2, 3, 4, 5, 7, 8, 9, 11, 12, 13, 15, 16, 17, 19, 20], [0, 1, 2, 3, 4, 5, 6, 7, 8, 9, 10, 11, 12, 13, 14, 15, 16, 17, 18, 19, 20, 21], [0, 1, 2, 3, 4, 5, 6, 7, 8, 9, 10, 11, 12, 13, 14, 15, 16, 17, 18, 19, 20, 21, 22]]
theorem showHdS_s : Sound Tryz.prog 52 mShowHd := by
  refine Sound.mdl Tryz.func52 rfl Tryz.ntmps52 ?_
  rintro ⟨h, t, la, va, ne, da⟩ w -
  refine ⟨by simp, ?_⟩
  have hΓ : GSound Tryz.prog (look [(50, mHead), (106, mVar), (107, mPiece)]) := env_cons (has_of Tryz.func50 rfl rfl) headS_s (env_cons (has_of Tryz.func106 rfl rfl) varSpec_s (env_cons (has_of Tryz.func107 rfl rfl) pieceS_s env_nil))
  have c1 := mHead_eq (h, t, la, va, ne, da)
  dsimp only [aHd] at c1
  simp only [initS, argPV, List.map_cons, List.map_nil, toPL, Nat.zero_add]
  by_cases ho : headOk (h, t, la, va, ne, da)
  · rw [decide_eq_true ho] at c1
    have hv := showHead_yes ho
    have h7 := lastN_le h
    obtain ⟨_, _, a, b, c, d⟩ := ho
    dsimp only at a b c d hv
    have p1 := mPiece_eq la (by omega)
    have p2 := mPiece_eq va (by omega)
    have p3 := mPiece_eq ne (by omega)
    have p4 := mPiece_eq da (by omega)
    have s1 := varS_size h
    have s2 := varS_size t
    have s3 := pieceS_size la
    have s4 := pieceS_size va
    have s5 := pieceS_size ne
    have s6 := pieceS_size da
    have v1 := mVar_eq h
    have v2 := mVar_eq t
    generalize varS h = x1 at *
    generalize varS t = x2 at *
    generalize pieceS la = x3 at *
    generalize pieceS va = x4 at *
    generalize pieceS ne = x5 at *
    generalize pieceS da = x6 at *
    have t3 : x3.size ≤ 15 := by omega
    have t4 : x4.size ≤ 15 := by omega
    have t5 : x5.size ≤ 15 := by omega
    have t6 : x6.size ≤ 27 := by omega
    clear a b c d h7 s3 s4 s5 s6
    have e1 := ByteArray.size_append (a := x1) (b := x2)
    have e2 := ByteArray.size_append (a := x1 ++ x2) (b := x3)
    have e3 := ByteArray.size_append (a := x1 ++ x2 ++ x3) (b := x4)
    have e4 := ByteArray.size_append (a := x1 ++ x2 ++ x3 ++ x4) (b := x5)
    refine zR ?_
    refine W.drawB hΓ 24 asEvShHd0 (Es := ?Es8) (rest := ?rest8) (st1 := ?st18) ?_
    refine zL ?_
    refine zE ?_
    refine zR ?_
    refine At.retA (by rw [Tryz.results52]) (he := ?_)
    rw [hv]
  · rw [decide_eq_false ho] at c1
    have hv := showHead_no ho
    clear ho
    refine zR ?_
    refine At.retA (by rw [Tryz.results52]) (he := ?_)
    rw [hv]
    rfl
theorem pieceI_s : Sound Tryz.prog 233 mPiece := by
  refine Sound.mdl Tryz.func233 rfl Tryz.ntmps233 ?_
  rintro s w hl
  refine ⟨by simp, ?_⟩
  replace hl : s.size ≤ 1048576 := hl
  have hΓ : GSound Tryz.prog (look [(232, mVar)]) := env_cons (has_of Tryz.func232 rfl rfl) varImpl_s env_nil
  have c1 := mVar_eq s.size
  have s1 := varS_size s.size
  simp only [initS, argPV, List.map_cons, List.map_nil, toPL, Nat.zero_add]
  refine zR ?_
  refine At.retA (by rw [Tryz.results233]) (he := rfl)
theorem showHdI_s : Sound Tryz.prog 188 mShowHd := by
  refine Sound.mdl Tryz.func188 rfl Tryz.ntmps188 ?_
  rintro ⟨h, t, la, va, ne, da⟩ w -
  refine ⟨by simp, ?_⟩
  have hΓ : GSound Tryz.prog (look [(165, mHead), (232, mVar), (233, mPiece)]) := env_cons (has_of Tryz.func165 rfl rfl) headI_s (env_cons (has_of Tryz.func232 rfl rfl) varImpl_s (env_cons (has_of Tryz.func233 rfl rfl) pieceI_s env_nil))
  have c1 := mHead_eq (h, t, la, va, ne, da)
  dsimp only [aHd] at c1
  simp only [initS, argPV, List.map_cons, List.map_nil, toPL, Nat.zero_add]
  by_cases ho : headOk (h, t, la, va, ne, da)
  · rw [decide_eq_true ho] at c1
    have hv := showHead_yes ho
    have h7 := lastN_le h
    obtain ⟨_, _, a, b, c, d⟩ := ho
    dsimp only at a b c d hv
    have p1 := mPiece_eq la (by omega)
    have p2 := mPiece_eq va (by omega)
    have p3 := mPiece_eq ne (by omega)
    have p4 := mPiece_eq da (by omega)
    have s1 := varS_size h
    have s2 := varS_size t
    have s3 := pieceS_size la
    have s4 := pieceS_size va
    have s5 := pieceS_size ne
    have s6 := pieceS_size da
    have v1 := mVar_eq h
    have v2 := mVar_eq t
    generalize varS h = x1 at *
    generalize varS t = x2 at *
    generalize pieceS la = x3 at *
    generalize pieceS va = x4 at *
    generalize pieceS ne = x5 at *
    generalize pieceS da = x6 at *
    have t3 : x3.size ≤ 15 := by omega
    have t4 : x4.size ≤ 15 := by omega
    have t5 : x5.size ≤ 15 := by omega
    have t6 : x6.size ≤ 27 := by omega
    clear a b c d h7 s3 s4 s5 s6
    have e1 := ByteArray.size_append (a := x1) (b := x2)
    have e2 := ByteArray.size_append (a := x1 ++ x2) (b := x3)
    have e3 := ByteArray.size_append (a := x1 ++ x2 ++ x3) (b := x4)
    have e4 := ByteArray.size_append (a := x1 ++ x2 ++ x3 ++ x4) (b := x5)
    refine zR ?_
    refine W.drawB hΓ 24 asEvShHd0 (Es := ?Es20) (rest := ?rest20) (st1 := ?st120) ?_
    refine zL ?_
    refine zE ?_
    refine zR ?_
    refine At.retA (by rw [Tryz.results188]) (he := ?_)
    rw [hv]
  · rw [decide_eq_false ho] at c1
    have hv := showHead_no ho
    clear ho
    refine zR ?_
    refine At.retA (by rw [Tryz.results188]) (he := ?_)
    rw [hv]
    rfl
end Go.Proofs.YtfgkfcfplodaoaaGreatDoor

end
section
namespace Go.Proofs.YtfgkfcfplodaoaaGreatDoor
open Go Go.RowKit
set_option maxHeartbeats 4000000
end Go.Proofs.YtfgkfcfplodaoaaGreatDoor

end
section
namespace Go.Proofs.YtfgkfcfplodaoaaGreatDoor
open Go Go.RowKit
set_option maxHeartbeats 8000000
def freeP (l : List TPeer) : Int := idxP (fun p => !p.2.1) l
def addT (t : TTab) (id : Int) (pin : Bool) : TTab × Bool :=
  if 0 ≤ atP t.1 id ∨ ¬ (1 ≤ id ∧ id ≤ 99) then (t, false)
  else if t.1.length < 6 then ((t.1 ++ [(id, pin, 0, 0)], t.2), true)
  else if freeP t.1 < 0 then (t, false)
  else ((t.1.eraseIdx (freeP t.1).toNat ++ [(id, pin, 0, 0)], t.2), true)
abbrev rAdd (y : TTab × Bool) : Res := rTabB y.1 y.2
noncomputable def mAddP := mdl (fun x : TTab × Int × Bool => tabOk x.1) (fun x => [aTab x.1, aI x.2.1, aB x.2.2]) (fun x => rAdd (addT x.1 x.2.1 x.2.2))
theorem mAddP_eq (t : TTab) (id : Int) (pin : Bool) (h : tabOk t) : mAddP [aTab t, aI id, aB pin] = some (rAdd (addT t id pin)) := mdl_eq (by
  rintro ⟨⟨a, b⟩, c, d⟩ ⟨⟨a', b'⟩, c', d'⟩ h
  simp at h
  simp [h]) (t, id, pin) h
theorem freeP_cases (l : List TPeer) : (∃ k, ∃ hk : k < l.length, freeP l = (k : Int) ∧ l[k].2.1 = false ∧ ∀ j, (hj : j < k) → l[j].2.1 = true) ∨ (freeP l = -1 ∧ ∀ j, (hj : j < l.length) → l[j].2.1 = true) := by
  rcases idxP_cases' (fun p : TPeer => !p.2.1) l with ⟨k, hk, h1, h2, h3⟩ | ⟨h1, h2⟩
  · exact .inl ⟨k, hk, h1, by simpa using h2, fun j hj => by simpa using h3 j hj⟩
  · exact .inr ⟨h1, fun j hj => by simpa using h2 j hj⟩
theorem addT_no {t : TTab} {id : Int} {pin : Bool} (h : 0 ≤ atP t.1 id ∨ ¬ (1 ≤ id ∧ id ≤ 99)) : addT t id pin = (t, false) := if_pos h
theorem addT_room {t : TTab} {id : Int} {pin : Bool} (h : atP t.1 id = -1) (hi : 1 ≤ id ∧ id ≤ 99) (hl : t.1.length < 6) : addT t id pin = ((t.1 ++ [(id, pin, 0, 0)], t.2), true) := by
  unfold addT
  rw [if_neg (fun q => by rcases q with q | q; · omega
                          · exact q hi), if_pos hl]
theorem addT_full {t : TTab} {id : Int} {pin : Bool} (h : atP t.1 id = -1) (hi : 1 ≤ id ∧ id ≤ 99) (hl : ¬ t.1.length < 6) (hf : freeP t.1 = -1) : addT t id pin = (t, false) := by
  unfold addT
  rw [if_neg (fun q => by rcases q with q | q; · omega
                          · exact q hi), if_neg hl, if_pos (by omega)]
theorem addT_swap {t : TTab} {id : Int} {pin : Bool} {k : Nat} (h : atP t.1 id = -1) (hi : 1 ≤ id ∧ id ≤ 99) (hl : ¬ t.1.length < 6) (hf : freeP t.1 = (k : Int)) : addT t id pin = ((t.1.eraseIdx k ++ [(id, pin, 0, 0)], t.2), true) := by
  unfold addT
  rw [if_neg (fun q => by rcases q with q | q; · omega
                          · exact q hi), if_neg hl, if_neg (by omega), hf]
  rfl
noncomputable def mPinP := mdl (fun _ : TPeer => True) (fun p => [aPeer p]) (fun p => rB (!p.2.1))
theorem mPinP_eq (p : TPeer) : mPinP [aPeer p] = some (rB (!p.2.1)) := mdl_eq (by
  rintro ⟨a, b, c, d⟩ ⟨a', b', c', d'⟩ h
  simp at h
  simp [h]) p trivial
theorem pinP_s : Sound Tryz.prog 192 mPinP := by
  refine Sound.mdl Tryz.func192 rfl Tryz.ntmps192 ?_
  rintro ⟨a, b, c, d⟩ w -
  refine ⟨by simp, ?_⟩
  have hΓ : GSound Tryz.prog (look []) := env_nil
  simp only [initS, argPV, List.map_cons, List.map_nil, toPL, Nat.zero_add]
  refine zR ?_
  refine At.retA (by rw [Tryz.results192]) (he := rfl)
theorem addPI_s : Sound Tryz.prog 147 mAddP := by
  refine Sound.mdl Tryz.func147 rfl Tryz.ntmps147 ?_
  rintro ⟨⟨l, n⟩, id, pin⟩ w ht
  refine ⟨by simp, ?_⟩
  replace ht : tabOk (l, n) := ht
  have hΓ : GSound Tryz.prog (look [(189, mTab), (190, mCopyT), (193, mAtP), (139, mWithin), (191, mIdxP 192 [] (fun p => !p.2.1))]) := env_cons (has_of Tryz.func189 rfl rfl) tabI_s (env_cons (has_of Tryz.func190 rfl rfl) copyTI_s (env_cons (has_of Tryz.func193 rfl rfl) atPI_s (env_cons (has_of Tryz.func139 rfl rfl) within_s (env_cons (has_of Tryz.func191 rfl rfl) (idxP_s (has_of Tryz.func192 rfl rfl) pinP_s (fun x => mPinP_eq x)) env_nil))))
  have hDl : Has Tryz.prog 194 := has_of Tryz.func194 rfl rfl
  have hl6 : l.length ≤ 6 := tabOk_len ht
  have c1 := mTab_eq (l, n) (show l.length ≤ _ by omega)
  rw [decide_eq_true ht] at c1
  have c2 := mCopyT_eq (l, n) (show l.length ≤ _ by omega)
  have c3 := mAtP_eq (l, n) id (show l.length ≤ _ by omega)
  dsimp only at c3
  have hlen := rowsF_len cPeer l
  have happ := fun q : List TPeer => cPeer_app q id pin 0 0
  clear ht
  have c4 := mIdxP_eq 192 [] (fun p => !p.2.1) l (by omega)
  have hfr : idxP (fun p : TPeer => !p.2.1) l = freeP l := rfl
  rw [hfr] at c4
  clear hfr
  have c5 := mWithin_eq id 1 99
  simp only [initS, argPV, List.map_cons, List.map_nil, toPL, Nat.zero_add]
  rcases atP_cases l id with ⟨k, hk, h1, -⟩ | h1
  · have hv := Lib.hid (addT_no (t := (l, n)) (id := id) (pin := pin) (.inl (by show 0 ≤ atP l id; omega)))
    rw [h1] at c3
    clear h1 happ
    have hfin : -1 ≤ freeP l ∧ freeP l ≤ 6 := by
      rcases freeP_cases l with ⟨j, hj, e, -⟩ | ⟨e, -⟩
      · rw [e]; omega
      · rw [e]; omega
    generalize freeP l = fp at *
    by_cases h2 : 1 ≤ id ∧ id ≤ 99
    · rw [decide_eq_true h2] at c5
      refine zR ?_
      refine At.retA (by rw [Tryz.results147]) (he := ?_)
      show rTabB (l, n) false = rAdd (addT (l, n) id pin)
      rw [hv.out]
    · rw [decide_eq_false h2] at c5
      refine zR ?_
      refine At.retA (by rw [Tryz.results147]) (he := ?_)
      show rTabB (l, n) false = rAdd (addT (l, n) id pin)
      rw [hv.out]
  · rw [h1] at c3
    by_cases h2 : 1 ≤ id ∧ id ≤ 99
    · have hroom := fun h => addT_room (t := (l, n)) (pin := pin) h1 h2 h
      have hfull := fun h hf => addT_full (t := (l, n)) (pin := pin) h1 h2 h hf
      have hswap := fun (k : Nat) h hf => addT_swap (t := (l, n)) (pin := pin) (k := k) h1 h2 h hf
      rw [decide_eq_true h2] at c5
      clear h1 h2
      by_cases h6 : l.length < 6
      · have hv := Lib.hid (hroom h6)
        have hne : ¬ l.length = 6 := by omega
        have hnz : ¬ (l.length : Int) = 6 := by omega
        clear hroom hfull hswap
        have e1 := happ l
        clear happ
        have hfin : -1 ≤ freeP l ∧ freeP l ≤ 6 := by
          rcases freeP_cases l with ⟨j, hj, e, -⟩ | ⟨e, -⟩
          · rw [e]; omega
          · rw [e]; omega
        generalize freeP l = fp at *
        refine zR ?_
        refine At.retA (by rw [Tryz.results147]) (he := ?_)
        show rTabB (l ++ [(id, pin, 0, 0)], n) true = rAdd (addT (l, n) id pin)
        rw [hv.out]
      · have he : (l.length : Int) = 6 := by omega
        rcases freeP_cases l with ⟨k, hk, hf, -⟩ | ⟨hf, -⟩
        · have hv := Lib.hid (hswap k h6 hf)
          rw [hf] at c4
          clear hroom hfull hswap hf h6
          have e1 := happ (l.eraseIdx k)
          clear happ
          have hel : (l.eraseIdx k).length = l.length - 1 := List.length_eraseIdx_of_lt hk
          have hell := rowsF_len cPeer (l.eraseIdx k)
          have hx5 : (l.eraseIdx k).length ≤ 5 := by omega
          refine zR ?_
          refine zO ?_
          refine zL ?_
          refine WL.opDel (n := 16) (enc := cPeer) (s := 4) (e := 209) (fl := .ft) hDl delPeer_s (fun _ => rfl) l k hk (by omega) (by decide) (by decide) (hp := ?q1) (h1 := ?q2) (h2 := ?q3) (hb := ?q4) ?_
          case q1 => exact evsP
          case q2 => exact evsP
          case q3 => exact evsP
          case q4 => exact evsP
          generalize l.eraseIdx k = q at *
          refine zL ?_
          refine zE ?_
          refine zR ?_
          refine At.retA (by rw [Tryz.results147]) (he := ?_)
          show rTabB (q ++ [(id, pin, 0, 0)], n) true = rAdd (addT (l, n) id pin)
          rw [hv.out]
        · have hv := Lib.hid (hfull h6 hf)
          rw [hf] at c4
          clear hroom hfull hswap hf h6 happ
          refine zR ?_
          refine At.retA (by rw [Tryz.results147]) (he := ?_)
          show rTabB (l, n) false = rAdd (addT (l, n) id pin)
          rw [hv.out]
    · have hv := Lib.hid (addT_no (t := (l, n)) (id := id) (pin := pin) (.inr h2))
      rw [decide_eq_false h2] at c5
      have hfin : -1 ≤ freeP l ∧ freeP l ≤ 6 := by
        rcases freeP_cases l with ⟨j, hj, e, -⟩ | ⟨e, -⟩
        · rw [e]; omega
        · rw [e]; omega
      generalize freeP l = fp at *
      clear h1 h2 happ
      refine zR ?_
      refine At.retA (by rw [Tryz.results147]) (he := ?_)
      show rTabB (l, n) false = rAdd (addT (l, n) id pin)
      rw [hv.out]
end Go.Proofs.YtfgkfcfplodaoaaGreatDoor

end
section
namespace Go.Proofs.YtfgkfcfplodaoaaGreatDoor
open Go Go.RowKit
set_option maxHeartbeats 8000000
def shortS (s : ByteArray) : ByteArray := (shaS s).extract 0 8
theorem shortS_size (s : ByteArray) : (shortS s).size = 8 := by unfold shortS; rw [ByteArray.size_extract, shaS_size]; rfl
noncomputable def mShort := mdl (fun s : ByteArray => s.size ≤ 16777216) (fun s => [aS s]) (fun s => rS (shortS s))
theorem mShort_eq (s : ByteArray) (h : s.size ≤ 16777216) : mShort [aS s] = some (rS (shortS s)) := mdl_eq (by intro a b h; simpa using h) s h
theorem short_s : Sound Tryz.prog 51 mShort := by
  refine Sound.mdl Tryz.func51 rfl Tryz.ntmps51 ?_
  rintro s w hs
  refine ⟨by simp, ?_⟩
  replace hs : s.size ≤ 16777216 := hs
  have hΓ : GSound Tryz.prog (look [(40, mSha)]) := env_cons (has_of Tryz.func40 rfl rfl) shaSpec_s env_nil
  have c1 := mSha_eq s hs
  have hz := shaS_size s
  simp only [initS, argPV, List.map_cons, List.map_nil, toPL, Nat.zero_add]
  refine zR ?_
  refine At.retA (by rw [Tryz.results51]) (he := rfl)
theorem shortI_s : Sound Tryz.prog 187 mShort := by
  refine Sound.mdl Tryz.func187 rfl Tryz.ntmps187 ?_
  rintro s w hs
  refine ⟨by simp, ?_⟩
  replace hs : s.size ≤ 16777216 := hs
  have hΓ : GSound Tryz.prog (look [(180, mSha)]) := env_cons (has_of Tryz.func180 rfl rfl) shaImpl_s env_nil
  have c1 := mSha_eq s hs
  have hz := shaS_size s
  simp only [initS, argPV, List.map_cons, List.map_nil, toPL, Nat.zero_add]
  refine zR ?_
  refine At.retA (by rw [Tryz.results187]) (he := rfl)
end Go.Proofs.YtfgkfcfplodaoaaGreatDoor

end
