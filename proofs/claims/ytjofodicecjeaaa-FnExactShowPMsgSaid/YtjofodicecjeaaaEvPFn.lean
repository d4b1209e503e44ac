/-
  The law's own functions for a PMsg: its size, copy, equality.
-/
import Derived.Test.YtjofodicecjeaaaEvPMsg
namespace Go.Proofs.Ytjofodicecjeaaa
set_option maxRecDepth 100000
set_option linter.unusedVariables false
set_option linter.unusedSimpArgs false
open Go Go.RowKit
set_option maxHeartbeats 4000000

def szR (tot : Nat) (left : Int) : Int := if (tot : Int) ≤ left then left - tot else -1
theorem szR_yes {tot : Nat} {left : Int} (h : (tot : Int) ≤ left) : szR tot left = left - tot := if_pos h
theorem szR_no {tot : Nat} {left : Int} (h : ¬ (tot : Int) ≤ left) : szR tot left = -1 := if_neg h
abbrev okSz (h : THeader) : Prop := h.2.2.1.size ≤ 9223372036854775807 ∧ h.2.2.2.1.size ≤ 9223372036854775807 ∧ h.2.2.2.2.1.size ≤ 9223372036854775807 ∧ h.2.2.2.2.2.size ≤ 9223372036854775807
abbrev leftOk (n : Int) : Prop := 0 ≤ n ∧ n ≤ 1048576

noncomputable def mSzHd := mdl (fun x : THeader × Int => okSz x.1 ∧ leftOk x.2) (fun x => [aHd x.1, aI x.2]) (fun x => rI (szR (totHeader x.1) x.2))
theorem mSzHd_eq (h : THeader) (n : Int) (h1 : okSz h) (h2 : leftOk n) : mSzHd [aHd h, aI n] = some (rI (szR (totHeader h) n)) := mdl_eq (by
  rintro ⟨⟨a, b, c, d, e, f⟩, n⟩ ⟨⟨a', b', c', d', e', f'⟩, n'⟩ h
  simp at h
  simp [h]) (h, n) ⟨h1, h2⟩
theorem szHd_s : Sound Try.prog 89 mSzHd := by
  refine Sound.mdl Try.func89 rfl Try.ntmps89 ?_
  rintro ⟨⟨h, t, la, va, ne, da⟩, n⟩ w ⟨⟨s1, s2, s3, s4⟩, n1, n2⟩
  refine ⟨by simp, ?_⟩
  dsimp only at s1 s2 s3 s4 n1 n2
  have hΓ : GSound Try.prog (look []) := env_nil
  simp only [initS, argPV, List.map_cons, List.map_nil, toPL, Nat.zero_add]
  have ht : totHeader (h, t, la, va, ne, da) = la.size + va.size + ne.size + da.size := rfl
  by_cases b1 : (la.size : Int) ≤ n
  · by_cases b2 : (la.size : Int) + va.size ≤ n
    · by_cases b3 : (la.size : Int) + va.size + ne.size ≤ n
      · by_cases b4 : (la.size : Int) + va.size + ne.size + da.size ≤ n
        · have hr := szR_yes (tot := la.size + va.size + ne.size + da.size) (left := n) (by omega)
          repeat (first | with_reducible apply W.seq | with_reducible apply W.block | with_reducible apply W.skip | with_reducible apply W.exit | with_reducible apply W.ret | with_reducible apply At.seqN | with_reducible apply At.blkN | with_reducible apply At.blkE | with_reducible apply At.blkR | with_reducible apply At.thenX | with_reducible apply At.thenR | with_reducible apply At.blkX rfl | ((with_reducible apply W.ops); (repeat (first | refine WL.opA hΓ (h := ?_) | refine WL.opX hΓ (h := ?_) | refine WL.opY (h := ?_) | refine WL.opZ (h := ?_))); with_reducible apply WL.nil) | refine W.condT (h := ?_) | refine W.condF (h := ?_))
          refine At.retA (by rw [Try.results89]) (he := ?_)
          rw [ht, hr]
          congr 5
          omega
        · have hr := szR_no (tot := la.size + va.size + ne.size + da.size) (left := n) (by omega)
          repeat (first | with_reducible apply W.seq | with_reducible apply W.block | with_reducible apply W.skip | with_reducible apply W.exit | with_reducible apply W.ret | with_reducible apply At.seqN | with_reducible apply At.blkN | with_reducible apply At.blkE | with_reducible apply At.blkR | with_reducible apply At.thenX | with_reducible apply At.thenR | with_reducible apply At.blkX rfl | ((with_reducible apply W.ops); (repeat (first | refine WL.opA hΓ (h := ?_) | refine WL.opX hΓ (h := ?_) | refine WL.opY (h := ?_) | refine WL.opZ (h := ?_))); with_reducible apply WL.nil) | refine W.condT (h := ?_) | refine W.condF (h := ?_))
          refine At.retA (by rw [Try.results89]) (he := ?_)
          rw [ht, hr]
      · have hr := szR_no (tot := la.size + va.size + ne.size + da.size) (left := n) (by omega)
        repeat (first | with_reducible apply W.seq | with_reducible apply W.block | with_reducible apply W.skip | with_reducible apply W.exit | with_reducible apply W.ret | with_reducible apply At.seqN | with_reducible apply At.blkN | with_reducible apply At.blkE | with_reducible apply At.blkR | with_reducible apply At.thenX | with_reducible apply At.thenR | with_reducible apply At.blkX rfl | ((with_reducible apply W.ops); (repeat (first | refine WL.opA hΓ (h := ?_) | refine WL.opX hΓ (h := ?_) | refine WL.opY (h := ?_) | refine WL.opZ (h := ?_))); with_reducible apply WL.nil) | refine W.condT (h := ?_) | refine W.condF (h := ?_))
        refine At.retA (by rw [Try.results89]) (he := ?_)
        rw [ht, hr]
    · have hr := szR_no (tot := la.size + va.size + ne.size + da.size) (left := n) (by omega)
      repeat (first | with_reducible apply W.seq | with_reducible apply W.block | with_reducible apply W.skip | with_reducible apply W.exit | with_reducible apply W.ret | with_reducible apply At.seqN | with_reducible apply At.blkN | with_reducible apply At.blkE | with_reducible apply At.blkR | with_reducible apply At.thenX | with_reducible apply At.thenR | with_reducible apply At.blkX rfl | ((with_reducible apply W.ops); (repeat (first | refine WL.opA hΓ (h := ?_) | refine WL.opX hΓ (h := ?_) | refine WL.opY (h := ?_) | refine WL.opZ (h := ?_))); with_reducible apply WL.nil) | refine W.condT (h := ?_) | refine W.condF (h := ?_))
      refine At.retA (by rw [Try.results89]) (he := ?_)
      rw [ht, hr]
  · have hr := szR_no (tot := la.size + va.size + ne.size + da.size) (left := n) (by omega)
    repeat (first | with_reducible apply W.seq | with_reducible apply W.block | with_reducible apply W.skip | with_reducible apply W.exit | with_reducible apply W.ret | with_reducible apply At.seqN | with_reducible apply At.blkN | with_reducible apply At.blkE | with_reducible apply At.blkR | with_reducible apply At.thenX | with_reducible apply At.thenR | with_reducible apply At.blkX rfl | ((with_reducible apply W.ops); (repeat (first | refine WL.opA hΓ (h := ?_) | refine WL.opX hΓ (h := ?_) | refine WL.opY (h := ?_) | refine WL.opZ (h := ?_))); with_reducible apply WL.nil) | refine W.condT (h := ?_) | refine W.condF (h := ?_))
    refine At.retA (by rw [Try.results89]) (he := ?_)
    rw [ht, hr]
noncomputable def mSzAd := mdl (fun x : List TAddr × Int => x.1.length ≤ 9223372036854775807 ∧ leftOk x.2) (fun x => [aL cAddr x.1, aI x.2]) (fun x => rI (szR x.1.length x.2))
theorem mSzAd_eq (l : List TAddr) (n : Int) (h1 : l.length ≤ 9223372036854775807) (h2 : leftOk n) : mSzAd [aL cAddr l, aI n] = some (rI (szR l.length n)) := mdl_eq (by rintro ⟨a, b⟩ ⟨d, e⟩ h; simpa using h) (l, n) ⟨h1, h2⟩
theorem szAd_s : Sound Try.prog 90 mSzAd := by
  refine Sound.mdl Try.func90 rfl Try.ntmps90 ?_
  rintro ⟨l, n⟩ w ⟨hl, n1, n2⟩
  refine ⟨by simp, ?_⟩
  dsimp only at hl n1 n2
  have hΓ : GSound Try.prog (look []) := env_nil
  have hlen := rowsF_len cAddr l
  simp only [initS, argPV, List.map_cons, List.map_nil, toPL, Nat.zero_add]
  by_cases b1 : (l.length : Int) ≤ n
  · have hr := szR_yes b1
    repeat (first | with_reducible apply W.seq | with_reducible apply W.block | with_reducible apply W.skip | with_reducible apply W.exit | with_reducible apply W.ret | with_reducible apply At.seqN | with_reducible apply At.blkN | with_reducible apply At.blkE | with_reducible apply At.blkR | with_reducible apply At.thenX | with_reducible apply At.thenR | with_reducible apply At.blkX rfl | ((with_reducible apply W.ops); (repeat (first | refine WL.opA hΓ (h := ?_) | refine WL.opX hΓ (h := ?_) | refine WL.opY (h := ?_) | refine WL.opZ (h := ?_))); with_reducible apply WL.nil) | refine W.condT (h := ?_) | refine W.condF (h := ?_))
    refine At.retA (by rw [Try.results90]) (he := ?_)
    rw [hr]
  · have hr := szR_no b1
    repeat (first | with_reducible apply W.seq | with_reducible apply W.block | with_reducible apply W.skip | with_reducible apply W.exit | with_reducible apply W.ret | with_reducible apply At.seqN | with_reducible apply At.blkN | with_reducible apply At.blkE | with_reducible apply At.blkR | with_reducible apply At.thenX | with_reducible apply At.thenR | with_reducible apply At.blkX rfl | ((with_reducible apply W.ops); (repeat (first | refine WL.opA hΓ (h := ?_) | refine WL.opX hΓ (h := ?_) | refine WL.opY (h := ?_) | refine WL.opZ (h := ?_))); with_reducible apply WL.nil) | refine W.condT (h := ?_) | refine W.condF (h := ?_))
    refine At.retA (by rw [Try.results90]) (he := ?_)
    rw [hr]
def totPM (m : TPMsg) : Nat := totHeader m.2.2.2.1 + m.2.2.2.2.length
abbrev okPZ (m : TPMsg) : Prop := m.2.2.2.2.length ≤ 9223372036854775807 ∧ okSz m.2.2.2.1
noncomputable def mSzPM := mdl (fun x : TPMsg × Int => okPZ x.1 ∧ leftOk x.2) (fun x => [aPM x.1, aI x.2]) (fun x => rI (szR (totPM x.1) x.2))
theorem mSzPM_eq (m : TPMsg) (n : Int) (h1 : okPZ m) (h2 : leftOk n) : mSzPM [aPM m, aI n] = some (rI (szR (totPM m) n)) := mdl_eq (by
  rintro ⟨x, n⟩ ⟨x', n'⟩ h
  simp only [List.cons.injEq, and_true] at h
  have h1 := aPM_inj x x' (by rw [h.1])
  have h2 : n = n' := by simpa using h.2
  rw [h1, h2]) (m, n) ⟨h1, h2⟩
theorem szPM_s : Sound Try.prog 37 mSzPM := by
  refine Sound.mdl Try.func37 rfl Try.ntmps37 ?_
  rintro ⟨⟨k, f, ⟨r1, r2, r3⟩, ⟨h1, h2, la, va, ne, da⟩, l⟩, n⟩ w ⟨⟨hl, hs⟩, hn⟩
  refine ⟨by simp, ?_⟩
  replace hl : l.length ≤ 9223372036854775807 := hl
  have hΓ : GSound Try.prog (look [(89, mSzHd), (90, mSzAd)]) := env_cons (has_of Try.func89 rfl rfl) szHd_s (env_cons (has_of Try.func90 rfl rfl) szAd_s env_nil)
  have c1 := mSzHd_eq (h1, h2, la, va, ne, da) n hs hn
  dsimp only [aHd] at c1
  have ht : totPM (k, f, (r1, r2, r3), (h1, h2, la, va, ne, da), l) = totHeader (h1, h2, la, va, ne, da) + l.length := rfl
  generalize totHeader (h1, h2, la, va, ne, da) = T at c1 ht
  obtain ⟨n1, n2⟩ := hn
  dsimp only at n1 n2 c1
  clear hs
  simp only [initS, argPV, List.map_cons, List.map_nil, toPL, Nat.zero_add]
  by_cases b1 : (T : Int) ≤ n
  · have hr := szR_yes b1
    have c2 := mSzAd_eq l (n - T) hl ⟨by omega, by omega⟩
    by_cases b2 : (l.length : Int) ≤ n - T
    · have hr2 := szR_yes b2
      have hr3 := szR_yes (tot := T + l.length) (left := n) (by omega)
      repeat (first | with_reducible apply W.seq | with_reducible apply W.block | with_reducible apply W.skip | with_reducible apply W.exit | with_reducible apply W.ret | with_reducible apply At.seqN | with_reducible apply At.blkN | with_reducible apply At.blkE | with_reducible apply At.blkR | with_reducible apply At.thenX | with_reducible apply At.thenR | with_reducible apply At.blkX rfl | ((with_reducible apply W.ops); (repeat (first | refine WL.opA hΓ (h := ?_) | refine WL.opX hΓ (h := ?_) | refine WL.opY (h := ?_) | refine WL.opZ (h := ?_))); with_reducible apply WL.nil) | refine W.condT (h := ?_) | refine W.condF (h := ?_))
      refine At.retA (by rw [Try.results37]) (he := ?_)
      rw [ht, hr3]
      congr 5
      omega
    · have hr2 := szR_no b2
      have hr3 := szR_no (tot := T + l.length) (left := n) (by omega)
      repeat (first | with_reducible apply W.seq | with_reducible apply W.block | with_reducible apply W.skip | with_reducible apply W.exit | with_reducible apply W.ret | with_reducible apply At.seqN | with_reducible apply At.blkN | with_reducible apply At.blkE | with_reducible apply At.blkR | with_reducible apply At.thenX | with_reducible apply At.thenR | with_reducible apply At.blkX rfl | ((with_reducible apply W.ops); (repeat (first | refine WL.opA hΓ (h := ?_) | refine WL.opX hΓ (h := ?_) | refine WL.opY (h := ?_) | refine WL.opZ (h := ?_))); with_reducible apply WL.nil) | refine W.condT (h := ?_) | refine W.condF (h := ?_))
      refine At.retA (by rw [Try.results37]) (he := ?_)
      rw [ht, hr3]
  · have hr := szR_no b1
    have hr3 := szR_no (tot := T + l.length) (left := n) (by omega)
    repeat (first | with_reducible apply W.seq | with_reducible apply W.block | with_reducible apply W.skip | with_reducible apply W.exit | with_reducible apply W.ret | with_reducible apply At.seqN | with_reducible apply At.blkN | with_reducible apply At.blkE | with_reducible apply At.blkR | with_reducible apply At.thenX | with_reducible apply At.thenR | with_reducible apply At.blkX rfl | ((with_reducible apply W.ops); (repeat (first | refine WL.opA hΓ (h := ?_) | refine WL.opX hΓ (h := ?_) | refine WL.opY (h := ?_) | refine WL.opZ (h := ?_))); with_reducible apply WL.nil) | refine W.condT (h := ?_) | refine W.condF (h := ?_))
    refine At.retA (by rw [Try.results37]) (he := ?_)
    rw [ht, hr3]
abbrev roI (n : Int) : RL := .ro (.sc (.int .i64 n))
abbrev roS (s : ByteArray) : RL := .ro (.sc (.string s))
abbrev rRq (r : TReq) : Res := .comp true [roI r.1, roI r.2.1, roI r.2.2]
abbrev rHd (h : THeader) : Res := .comp true [roI h.1, roI h.2.1, roS h.2.2.1, roS h.2.2.2.1, roS h.2.2.2.2.1, roS h.2.2.2.2.2]
noncomputable def mToRq := mdl (fun _ : TReq => True) (fun r => [aRq r]) (fun r => rRq r)
theorem mToRq_eq (r : TReq) : mToRq [aRq r] = some (rRq r) := mdl_eq aRq_inj r trivial
theorem toRq_s : Sound Try.prog 94 mToRq := by
  refine Sound.mdl Try.func94 rfl Try.ntmps94 ?_
  rintro ⟨a, b, c⟩ w -
  refine ⟨by simp, ?_⟩
  have hΓ : GSound Try.prog (look []) := env_nil
  simp only [initS, argPV, List.map_cons, List.map_nil, toPL, Nat.zero_add]
  repeat (first | with_reducible apply W.seq | with_reducible apply W.block | with_reducible apply W.skip | with_reducible apply W.exit | with_reducible apply W.ret | with_reducible apply At.seqN | with_reducible apply At.blkN | with_reducible apply At.blkE | with_reducible apply At.blkR | with_reducible apply At.thenX | with_reducible apply At.thenR | with_reducible apply At.blkX rfl | ((with_reducible apply W.ops); (repeat (first | refine WL.opA hΓ (h := ?_) | refine WL.opX hΓ (h := ?_) | refine WL.opY (h := ?_) | refine WL.opZ (h := ?_))); with_reducible apply WL.nil) | refine W.condT (h := ?_) | refine W.condF (h := ?_))
  refine At.retA (by rw [Try.results94]) (he := rfl)
noncomputable def mToHd := mdl (fun _ : THeader => True) (fun r => [aHd r]) (fun r => rHd r)
theorem mToHd_eq (r : THeader) : mToHd [aHd r] = some (rHd r) := mdl_eq aHd_inj r trivial
theorem toHd_s : Sound Try.prog 95 mToHd := by
  refine Sound.mdl Try.func95 rfl Try.ntmps95 ?_
  rintro ⟨a, b, c, d, e, f⟩ w -
  refine ⟨by simp, ?_⟩
  have hΓ : GSound Try.prog (look []) := env_nil
  simp only [initS, argPV, List.map_cons, List.map_nil, toPL, Nat.zero_add]
  repeat (first | with_reducible apply W.seq | with_reducible apply W.block | with_reducible apply W.skip | with_reducible apply W.exit | with_reducible apply W.ret | with_reducible apply At.seqN | with_reducible apply At.blkN | with_reducible apply At.blkE | with_reducible apply At.blkR | with_reducible apply At.thenX | with_reducible apply At.thenR | with_reducible apply At.blkX rfl | ((with_reducible apply W.ops); (repeat (first | refine WL.opA hΓ (h := ?_) | refine WL.opX hΓ (h := ?_) | refine WL.opY (h := ?_) | refine WL.opZ (h := ?_))); with_reducible apply WL.nil) | refine W.condT (h := ?_) | refine W.condF (h := ?_))
  refine At.retA (by rw [Try.results95]) (he := rfl)
abbrev aAd (a : TAddr) : Arg := .val true [.sc (.int .i64 a.1), .sc (.int .i64 a.2)]
abbrev rAd (a : TAddr) : Res := .comp true [roI a.1, roI a.2]
theorem aAd_inj : ∀ x y : TAddr, [aAd x] = [aAd y] → x = y := by
  rintro ⟨a, b⟩ ⟨a', b'⟩ h
  simpa [aAd] using h
noncomputable def mToAd := mdl (fun _ : TAddr => True) (fun r => [aAd r]) (fun r => rAd r)
theorem mToAd_eq (r : TAddr) : mToAd [aAd r] = some (rAd r) := mdl_eq aAd_inj r trivial
theorem toAd_s : Sound Try.prog 142 mToAd := by
  refine Sound.mdl Try.func142 rfl Try.ntmps142 ?_
  rintro ⟨a, b⟩ w -
  refine ⟨by simp, ?_⟩
  have hΓ : GSound Try.prog (look []) := env_nil
  simp only [initS, argPV, List.map_cons, List.map_nil, toPL, Nat.zero_add]
  repeat (first | with_reducible apply W.seq | with_reducible apply W.block | with_reducible apply W.skip | with_reducible apply W.exit | with_reducible apply W.ret | with_reducible apply At.seqN | with_reducible apply At.blkN | with_reducible apply At.blkE | with_reducible apply At.blkR | with_reducible apply At.thenX | with_reducible apply At.thenR | with_reducible apply At.blkX rfl | ((with_reducible apply W.ops); (repeat (first | refine WL.opA hΓ (h := ?_) | refine WL.opX hΓ (h := ?_) | refine WL.opY (h := ?_) | refine WL.opZ (h := ?_))); with_reducible apply WL.nil) | refine W.condT (h := ?_) | refine W.condF (h := ?_))
  refine At.retA (by rw [Try.results142]) (he := rfl)
def padK {α : Type} (z : α) (l : List α) (k : Nat) : List α := l.take k ++ List.replicate (l.length - k) z
theorem padK_len {α : Type} (z : α) (l : List α) {k : Nat} (h : k ≤ l.length) : (padK z l k).length = l.length := by simp [padK]; omega
theorem padK_all {α : Type} (z : α) (l : List α) : padK z l l.length = l := by simp [padK]
theorem padK_zero {α : Type} (z : α) (l : List α) : padK z l 0 = List.replicate l.length z := by simp [padK]
theorem padK_get {α : Type} (z : α) (l : List α) {k : Nat} (h : k < l.length) : (padK z l k)[k]? = some z := by
  unfold padK
  rw [List.getElem?_append_right (by simp; omega), List.length_take, Nat.min_eq_left (by omega), Nat.sub_self, List.getElem?_replicate, if_pos (by omega)]
theorem padK_set {α : Type} (z : α) (l : List α) {k : Nat} (h : k < l.length) : (padK z l k).set k l[k] = padK z l (k + 1) := by
  have hl : (l.take k).length = k := by rw [List.length_take]; omega
  have hr : l.length - k = (l.length - (k + 1)) + 1 := by omega
  unfold padK
  rw [List.set_append_right _ _ (by omega), hl, Nat.sub_self, hr, List.replicate_succ, List.set_cons_zero, List.take_succ_eq_append_getElem h, List.append_assoc]
  rfl
theorem rowsF_rep {α : Type} (f : α → List Value) (n : Nat) (x : α) : rowsF f (List.replicate n x) = List.replicate n ((f x).map Leaf.sc) := List.map_replicate
noncomputable def mToAdS := mdl (fun l : List TAddr => l.length ≤ 1048576) (fun l => [aL cAddr l]) (fun l => rL 135 2 cAddr l)
theorem mToAdS_eq (l : List TAddr) (h : l.length ≤ 1048576) : mToAdS [aL cAddr l] = some (rL 135 2 cAddr l) := mdl_eq (by intro a b h; simpa using h) l h
theorem toAdS_s : Sound Try.prog 96 mToAdS := by
  refine Sound.mdl Try.func96 rfl Try.ntmps96 ?_
  rintro l w hl
  refine ⟨by simp, ?_⟩
  replace hl : l.length ≤ 1048576 := hl
  have hΓ : GSound Try.prog (look [(142, mToAd)]) := env_cons (has_of Try.func142 rfl rfl) toAd_s env_nil
  have hlen := rowsF_len cAddr l
  have hz : List.replicate l.length [Leaf.sc (.int .i64 0), Leaf.sc (.int .i64 0)] = rowsF cAddr (padK (0, 0) l 0) := by rw [padK_zero, rowsF_rep]; rfl
  simp only [initS, argPV, List.map_cons, List.map_nil, toPL, Nat.zero_add]
  repeat (first | with_reducible apply W.seq | with_reducible apply W.block | with_reducible apply W.skip | with_reducible apply W.exit | with_reducible apply W.ret | with_reducible apply At.seqN | with_reducible apply At.blkN | with_reducible apply At.blkE | with_reducible apply At.blkR | with_reducible apply At.thenX | with_reducible apply At.thenR | with_reducible apply At.blkX rfl | ((with_reducible apply W.ops); (repeat (first | refine WL.opA hΓ (h := ?_) | refine WL.opX hΓ (h := ?_) | refine WL.opY (h := ?_) | refine WL.opZ (h := ?_))); with_reducible apply WL.nil) | refine W.condT (h := ?_) | refine W.condF (h := ?_))
  refine W.loopA (fun k => k ≤ l.length) (fun k : Nat => [.slot 4 (vI k), .slot 0 (vL cAddr l), .slot 3 (one (.all 7)), .blk 7 (.arr true 135 2 (rowsF cAddr (padK (0, 0) l k)))]) (fun k => l.length - k) 0 (Nat.zero_le _) (h := ?_)
  rintro k hk
  clear hz
  have hpl := padK_len (0, 0) l hk
  have hpr := rowsF_len cAddr (padK (0, 0) l k)
  by_cases hlt : k < l.length
  · have hrow := row_addr hlt
    have hset : (rowsF cAddr (padK (0, 0) l k)).set k [.sc (.int .i64 (l.getD k (0, 0)).1), .sc (.int .i64 (l.getD k (0, 0)).2)] = rowsF cAddr (padK (0, 0) l (k + 1)) := by
      rw [← padK_set (0, 0) l hlt, ← rowsF_set, List.getD_eq_getElem?_getD, List.getElem?_eq_getElem hlt]
      rfl
    have hold : (rowsF cAddr (padK (0, 0) l k))[k]? = some [.sc (.int .i64 0), .sc (.int .i64 0)] := by
      unfold rowsF
      rw [List.getElem?_map, padK_get (0, 0) l hlt]
      rfl
    have c1 := mToAd_eq (l.getD k (0, 0))
    generalize l.getD k (0, 0) = x at hrow hset c1
    repeat (first | with_reducible apply W.seq | with_reducible apply W.block | with_reducible apply W.skip | with_reducible apply W.exit | with_reducible apply W.ret | with_reducible apply At.seqN | with_reducible apply At.blkN | with_reducible apply At.blkE | with_reducible apply At.blkR | with_reducible apply At.thenX | with_reducible apply At.thenR | with_reducible apply At.blkX rfl | ((with_reducible apply W.ops); (repeat (first | refine WL.opA hΓ (h := ?_) | refine WL.opX hΓ (h := ?_) | refine WL.opY (h := ?_) | refine WL.opZ (h := ?_))); with_reducible apply WL.nil) | refine W.condT (h := ?_) | refine W.condF (h := ?_))
    exact At.roundA (k + 1) (by omega) (by omega)
  · have hke : k = l.length := by omega
    subst hke
    repeat (first | with_reducible apply W.seq | with_reducible apply W.block | with_reducible apply W.skip | with_reducible apply W.exit | with_reducible apply W.ret | with_reducible apply At.seqN | with_reducible apply At.blkN | with_reducible apply At.blkE | with_reducible apply At.blkR | with_reducible apply At.thenX | with_reducible apply At.thenR | with_reducible apply At.blkX rfl | ((with_reducible apply W.ops); (repeat (first | refine WL.opA hΓ (h := ?_) | refine WL.opX hΓ (h := ?_) | refine WL.opY (h := ?_) | refine WL.opZ (h := ?_))); with_reducible apply WL.nil) | refine W.condT (h := ?_) | refine W.condF (h := ?_))
    refine At.retA (by rw [Try.results96]) (he := ?_)
    rw [padK_all]
abbrev rPM (m : TPMsg) : Res := .comp true [roI m.1, roI m.2.1, roI m.2.2.1.1, roI m.2.2.1.2.1, roI m.2.2.1.2.2,
  roI m.2.2.2.1.1, roI m.2.2.2.1.2.1, roS m.2.2.2.1.2.2.1, roS m.2.2.2.1.2.2.2.1, roS m.2.2.2.1.2.2.2.2.1, roS m.2.2.2.1.2.2.2.2.2, .own true 135 2 (rowsF cAddr m.2.2.2.2)]
noncomputable def mToPM := mdl (fun m : TPMsg => m.2.2.2.2.length ≤ 1048576) (fun m => [aPM m]) (fun m => rPM m)
theorem mToPM_eq (m : TPMsg) (h : m.2.2.2.2.length ≤ 1048576) : mToPM [aPM m] = some (rPM m) := mdl_eq aPM_inj m h
theorem toPM_s : Sound Try.prog 39 mToPM := by
  refine Sound.mdl Try.func39 rfl Try.ntmps39 ?_
  rintro ⟨k, f, ⟨r1, r2, r3⟩, ⟨h1, h2, la, va, ne, da⟩, l⟩ w hl
  refine ⟨by simp, ?_⟩
  replace hl : l.length ≤ 1048576 := hl
  have hΓ : GSound Try.prog (look [(94, mToRq), (95, mToHd), (96, mToAdS)]) := env_cons (has_of Try.func94 rfl rfl) toRq_s (env_cons (has_of Try.func95 rfl rfl) toHd_s (env_cons (has_of Try.func96 rfl rfl) toAdS_s env_nil))
  have c1 := mToRq_eq (r1, r2, r3)
  have c2 := mToHd_eq (h1, h2, la, va, ne, da)
  have c3 := mToAdS_eq l hl
  dsimp only [aRq, aHd] at c1 c2
  simp only [initS, argPV, List.map_cons, List.map_nil, toPL, Nat.zero_add]
  repeat (first | with_reducible apply W.seq | with_reducible apply W.block | with_reducible apply W.skip | with_reducible apply W.exit | with_reducible apply W.ret | with_reducible apply At.seqN | with_reducible apply At.blkN | with_reducible apply At.blkE | with_reducible apply At.blkR | with_reducible apply At.thenX | with_reducible apply At.thenR | with_reducible apply At.blkX rfl | ((with_reducible apply W.ops); (repeat (first | refine WL.opA hΓ (h := ?_) | refine WL.opX hΓ (h := ?_) | refine WL.opY (h := ?_) | refine WL.opZ (h := ?_))); with_reducible apply WL.nil) | refine W.condT (h := ?_) | refine W.condF (h := ?_))
  refine At.retA (by rw [Try.results39]) (he := rfl)
noncomputable def mEqRq := mdl (fun _ : TReq × TReq => True) (fun x => [aRq x.1, aRq x.2]) (fun x => rB (decide (x.1 = x.2)))
theorem mEqRq_eq (x y : TReq) : mEqRq [aRq x, aRq y] = some (rB (decide (x = y))) := mdl_eq (by
  rintro ⟨⟨a, b, c⟩, a', b', c'⟩ ⟨⟨d, e, f⟩, d', e', f'⟩ h
  simp at h
  simp [h]) (x, y) trivial
theorem eqRq_s : Sound Try.prog 101 mEqRq := by
  refine Sound.mdl Try.func101 rfl Try.ntmps101 ?_
  rintro ⟨⟨a, b, c⟩, a', b', c'⟩ w -
  refine ⟨by simp, ?_⟩
  have hΓ : GSound Try.prog (look []) := env_nil
  simp only [initS, argPV, List.map_cons, List.map_nil, toPL, Nat.zero_add]
  rcases cases3 (a = a') (b = b') (c = c') with ⟨rfl, rfl, rfl⟩ | h | h | h
  · repeat (first | with_reducible apply W.seq | with_reducible apply W.block | with_reducible apply W.skip | with_reducible apply W.exit | with_reducible apply W.ret | with_reducible apply At.seqN | with_reducible apply At.blkN | with_reducible apply At.blkE | with_reducible apply At.blkR | with_reducible apply At.thenX | with_reducible apply At.thenR | with_reducible apply At.blkX rfl | ((with_reducible apply W.ops); (repeat (first | refine WL.opA hΓ (h := ?_) | refine WL.opX hΓ (h := ?_) | refine WL.opY (h := ?_) | refine WL.opZ (h := ?_))); with_reducible apply WL.nil) | refine W.condT (h := ?_) | refine W.condF (h := ?_))
    refine At.retA (by rw [Try.results101]) (he := ?_)
    simp
  all_goals
    repeat (first | with_reducible apply W.seq | with_reducible apply W.block | with_reducible apply W.skip | with_reducible apply W.exit | with_reducible apply W.ret | with_reducible apply At.seqN | with_reducible apply At.blkN | with_reducible apply At.blkE | with_reducible apply At.blkR | with_reducible apply At.thenX | with_reducible apply At.thenR | with_reducible apply At.blkX rfl | ((with_reducible apply W.ops); (repeat (first | refine WL.opA hΓ (h := ?_) | refine WL.opX hΓ (h := ?_) | refine WL.opY (h := ?_) | refine WL.opZ (h := ?_))); with_reducible apply WL.nil) | refine W.condT (h := ?_) | refine W.condF (h := ?_))
    refine At.retA (by rw [Try.results101]) (he := ?_)
    simp [h]
noncomputable def mEqHd := mdl (fun _ : THeader × THeader => True) (fun x => [aHd x.1, aHd x.2]) (fun x => rB (decide (x.1 = x.2)))
theorem mEqHd_eq (x y : THeader) : mEqHd [aHd x, aHd y] = some (rB (decide (x = y))) := mdl_eq (by
  rintro ⟨⟨a, b, c, d, e, f⟩, a', b', c', d', e', f'⟩ ⟨⟨g, i, j, k, l, m⟩, g', i', j', k', l', m'⟩ h
  simp at h
  simp [h]) (x, y) trivial
theorem eqHd_s : Sound Try.prog 102 mEqHd := by
  refine Sound.mdl Try.func102 rfl Try.ntmps102 ?_
  rintro ⟨⟨a, b, c, d, e, f⟩, a', b', c', d', e', f'⟩ w -
  refine ⟨by simp, ?_⟩
  have hΓ : GSound Try.prog (look []) := env_nil
  simp only [initS, argPV, List.map_cons, List.map_nil, toPL, Nat.zero_add]
  rcases cases6 (a = a') (b = b') (c = c') (d = d') (e = e') (f = f') with ⟨rfl, rfl, rfl, rfl, rfl, rfl⟩ | h | h | h | h | h | h
  · repeat (first | with_reducible apply W.seq | with_reducible apply W.block | with_reducible apply W.skip | with_reducible apply W.exit | with_reducible apply W.ret | with_reducible apply At.seqN | with_reducible apply At.blkN | with_reducible apply At.blkE | with_reducible apply At.blkR | with_reducible apply At.thenX | with_reducible apply At.thenR | with_reducible apply At.blkX rfl | ((with_reducible apply W.ops); (repeat (first | refine WL.opA hΓ (h := ?_) | refine WL.opX hΓ (h := ?_) | refine WL.opY (h := ?_) | refine WL.opZ (h := ?_))); with_reducible apply WL.nil) | refine W.condT (h := ?_) | refine W.condF (h := ?_))
    refine At.retA (by rw [Try.results102]) (he := ?_)
    simp
  all_goals
    repeat (first | with_reducible apply W.seq | with_reducible apply W.block | with_reducible apply W.skip | with_reducible apply W.exit | with_reducible apply W.ret | with_reducible apply At.seqN | with_reducible apply At.blkN | with_reducible apply At.blkE | with_reducible apply At.blkR | with_reducible apply At.thenX | with_reducible apply At.thenR | with_reducible apply At.blkX rfl | ((with_reducible apply W.ops); (repeat (first | refine WL.opA hΓ (h := ?_) | refine WL.opX hΓ (h := ?_) | refine WL.opY (h := ?_) | refine WL.opZ (h := ?_))); with_reducible apply WL.nil) | refine W.condT (h := ?_) | refine W.condF (h := ?_))
    refine At.retA (by rw [Try.results102]) (he := ?_)
    simp [h]
noncomputable def mEqAd := mdl (fun _ : TAddr × TAddr => True) (fun x => [aAd x.1, aAd x.2]) (fun x => rB (decide (x.1 = x.2)))
theorem mEqAd_eq (x y : TAddr) : mEqAd [aAd x, aAd y] = some (rB (decide (x = y))) := mdl_eq (by
  rintro ⟨⟨a, b⟩, a', b'⟩ ⟨⟨g, i⟩, g', i'⟩ h
  simp at h
  simp [h]) (x, y) trivial
theorem eqAd_s : Sound Try.prog 144 mEqAd := by
  refine Sound.mdl Try.func144 rfl Try.ntmps144 ?_
  rintro ⟨⟨a, b⟩, a', b'⟩ w -
  refine ⟨by simp, ?_⟩
  have hΓ : GSound Try.prog (look []) := env_nil
  simp only [initS, argPV, List.map_cons, List.map_nil, toPL, Nat.zero_add]
  by_cases h1 : a = a'
  · by_cases h2 : b = b'
    · subst h1; subst h2
      repeat (first | with_reducible apply W.seq | with_reducible apply W.block | with_reducible apply W.skip | with_reducible apply W.exit | with_reducible apply W.ret | with_reducible apply At.seqN | with_reducible apply At.blkN | with_reducible apply At.blkE | with_reducible apply At.blkR | with_reducible apply At.thenX | with_reducible apply At.thenR | with_reducible apply At.blkX rfl | ((with_reducible apply W.ops); (repeat (first | refine WL.opA hΓ (h := ?_) | refine WL.opX hΓ (h := ?_) | refine WL.opY (h := ?_) | refine WL.opZ (h := ?_))); with_reducible apply WL.nil) | refine W.condT (h := ?_) | refine W.condF (h := ?_))
      refine At.retA (by rw [Try.results144]) (he := ?_)
      simp
    · repeat (first | with_reducible apply W.seq | with_reducible apply W.block | with_reducible apply W.skip | with_reducible apply W.exit | with_reducible apply W.ret | with_reducible apply At.seqN | with_reducible apply At.blkN | with_reducible apply At.blkE | with_reducible apply At.blkR | with_reducible apply At.thenX | with_reducible apply At.thenR | with_reducible apply At.blkX rfl | ((with_reducible apply W.ops); (repeat (first | refine WL.opA hΓ (h := ?_) | refine WL.opX hΓ (h := ?_) | refine WL.opY (h := ?_) | refine WL.opZ (h := ?_))); with_reducible apply WL.nil) | refine W.condT (h := ?_) | refine W.condF (h := ?_))
      refine At.retA (by rw [Try.results144]) (he := ?_)
      simp [h2]
  · repeat (first | with_reducible apply W.seq | with_reducible apply W.block | with_reducible apply W.skip | with_reducible apply W.exit | with_reducible apply W.ret | with_reducible apply At.seqN | with_reducible apply At.blkN | with_reducible apply At.blkE | with_reducible apply At.blkR | with_reducible apply At.thenX | with_reducible apply At.thenR | with_reducible apply At.blkX rfl | ((with_reducible apply W.ops); (repeat (first | refine WL.opA hΓ (h := ?_) | refine WL.opX hΓ (h := ?_) | refine WL.opY (h := ?_) | refine WL.opZ (h := ?_))); with_reducible apply WL.nil) | refine W.condT (h := ?_) | refine W.condF (h := ?_))
    refine At.retA (by rw [Try.results144]) (he := ?_)
    simp [h1]
theorem list_eq_of {α : Type} (z : α) {a b : List α} (hl : a.length = b.length) (h : ∀ j, j < a.length → a.getD j z = b.getD j z) : a = b := by
  refine List.ext_getElem hl fun i h1 h2 => ?_
  have := h i h1
  rwa [List.getD_eq_getElem?_getD, List.getD_eq_getElem?_getD, List.getElem?_eq_getElem h1, List.getElem?_eq_getElem h2] at this
noncomputable def mEqAdS := mdl (fun x : List TAddr × List TAddr => x.1.length ≤ 8796093022207 ∧ x.2.length ≤ 8796093022207) (fun x => [aL cAddr x.1, aL cAddr x.2]) (fun x => rB (decide (x.1 = x.2)))
theorem mEqAdS_eq (a b : List TAddr) (h1 : a.length ≤ 8796093022207) (h2 : b.length ≤ 8796093022207) : mEqAdS [aL cAddr a, aL cAddr b] = some (rB (decide (a = b))) := mdl_eq (by rintro ⟨a, b⟩ ⟨d, e⟩ h; simpa using h) (a, b) ⟨h1, h2⟩
theorem eqAdS_s : Sound Try.prog 103 mEqAdS := by
  refine Sound.mdl Try.func103 rfl Try.ntmps103 ?_
  rintro ⟨a, b⟩ w ⟨ha, hb⟩
  refine ⟨by simp, ?_⟩
  dsimp only at ha hb
  have hΓ : GSound Try.prog (look [(144, mEqAd)]) := env_cons (has_of Try.func144 rfl rfl) eqAd_s env_nil
  have hl1 := rowsF_len cAddr a
  have hl2 := rowsF_len cAddr b
  simp only [initS, argPV, List.map_cons, List.map_nil, toPL, Nat.zero_add]
  by_cases hl : a.length = b.length
  · repeat (first | with_reducible apply W.seq | with_reducible apply W.block | with_reducible apply W.skip | with_reducible apply W.exit | with_reducible apply W.ret | with_reducible apply At.seqN | with_reducible apply At.blkN | with_reducible apply At.blkE | with_reducible apply At.blkR | with_reducible apply At.thenX | with_reducible apply At.thenR | with_reducible apply At.blkX rfl | ((with_reducible apply W.ops); (repeat (first | refine WL.opA hΓ (h := ?_) | refine WL.opX hΓ (h := ?_) | refine WL.opY (h := ?_) | refine WL.opZ (h := ?_))); with_reducible apply WL.nil) | refine W.condT (h := ?_) | refine W.condF (h := ?_))
    refine W.loopA (fun k => k ≤ a.length ∧ ∀ j, j < k → a.getD j (0, 0) = b.getD j (0, 0)) (fun k : Nat => [.slot 5 (vI k), .slot 0 (vL cAddr a), .slot 1 (vL cAddr b)]) (fun k => a.length - k) 0 ⟨Nat.zero_le _, fun j hj => by omega⟩ (h := ?_)
    rintro k ⟨hk, hI⟩
    by_cases hlt : k < a.length
    · have hr1 := row_addr hlt
      have hr2 := row_addr (l := b) (k := k) (by omega)
      have c1 := mEqAd_eq (a.getD k (0, 0)) (b.getD k (0, 0))
      by_cases he : a.getD k (0, 0) = b.getD k (0, 0)
      · have hnx : ∀ j, j < k + 1 → a.getD j (0, 0) = b.getD j (0, 0) := fun j hj => by
          rcases Nat.lt_succ_iff_lt_or_eq.1 hj with h1 | rfl
          · exact hI j h1
          · exact he
        clear hI
        generalize a.getD k (0, 0) = x at hr1 c1 he
        generalize b.getD k (0, 0) = y at hr2 c1 he
        subst he
        repeat (first | with_reducible apply W.seq | with_reducible apply W.block | with_reducible apply W.skip | with_reducible apply W.exit | with_reducible apply W.ret | with_reducible apply At.seqN | with_reducible apply At.blkN | with_reducible apply At.blkE | with_reducible apply At.blkR | with_reducible apply At.thenX | with_reducible apply At.thenR | with_reducible apply At.blkX rfl | ((with_reducible apply W.ops); (repeat (first | refine WL.opA hΓ (h := ?_) | refine WL.opX hΓ (h := ?_) | refine WL.opY (h := ?_) | refine WL.opZ (h := ?_))); with_reducible apply WL.nil) | refine W.condT (h := ?_) | refine W.condF (h := ?_))
        refine W.drawsA hΓ 10 [[], [], [0, 1], [0, 1, 2], [], [], [4, 5], [4, 5, 6], [0, 1, 2, 3, 4, 5, 6, 7], [0, 1, 2, 3, 4, 5, 6, 7, 8]] (rest := ?rest73) (Es := ?Es73) (st1 := ?st173) (h := ?h73) (hf := ?hf73) (hp := ?hp73) (hd := ?hd73) (hfr := ?hfr73) (hst := ?hst73) (hT := ?hT73)
        case h73 => kernel_rfl
        case hf73 =>
          repeat (first | refine FlowT.opA (h := ?_) | refine FlowT.opX (h := ?_) | refine FlowT.opY (h := ?_) | refine FlowT.opZ (h := ?_))
          exact FlowT.done
        case hp73 => rfl
        case hd73 => rfl
        case hfr73 => rfl
        case hst73 =>
          simp only [pick_nil, pick_all, List.cons_append, List.nil_append]
          rfl
        (repeat (first | refine WL.opA hΓ (h := ?_) | refine WL.opX hΓ (h := ?_) | refine WL.opY (h := ?_) | refine WL.opZ (h := ?_)))
        with_reducible apply WL.nil
        repeat (first | with_reducible apply W.seq | with_reducible apply W.block | with_reducible apply W.skip | with_reducible apply W.exit | with_reducible apply W.ret | with_reducible apply At.seqN | with_reducible apply At.blkN | with_reducible apply At.blkE | with_reducible apply At.blkR | with_reducible apply At.thenX | with_reducible apply At.thenR | with_reducible apply At.blkX rfl | ((with_reducible apply W.ops); (repeat (first | refine WL.opA hΓ (h := ?_) | refine WL.opX hΓ (h := ?_) | refine WL.opY (h := ?_) | refine WL.opZ (h := ?_))); with_reducible apply WL.nil) | refine W.condT (h := ?_) | refine W.condF (h := ?_))
        exact At.roundA (k + 1) ⟨by omega, hnx⟩ (by omega)
      · have hne : ¬ a = b := fun e => he (by rw [e])
        clear hI
        generalize a.getD k (0, 0) = x at hr1 c1 he
        generalize b.getD k (0, 0) = y at hr2 c1 he
        repeat (first | with_reducible apply W.seq | with_reducible apply W.block | with_reducible apply W.skip | with_reducible apply W.exit | with_reducible apply W.ret | with_reducible apply At.seqN | with_reducible apply At.blkN | with_reducible apply At.blkE | with_reducible apply At.blkR | with_reducible apply At.thenX | with_reducible apply At.thenR | with_reducible apply At.blkX rfl | ((with_reducible apply W.ops); (repeat (first | refine WL.opA hΓ (h := ?_) | refine WL.opX hΓ (h := ?_) | refine WL.opY (h := ?_) | refine WL.opZ (h := ?_))); with_reducible apply WL.nil) | refine W.condT (h := ?_) | refine W.condF (h := ?_))
        refine W.drawsA hΓ 10 [[], [], [0, 1], [0, 1, 2], [], [], [4, 5], [4, 5, 6], [0, 1, 2, 3, 4, 5, 6, 7], [0, 1, 2, 3, 4, 5, 6, 7, 8]] (rest := ?rest76) (Es := ?Es76) (st1 := ?st176) (h := ?h76) (hf := ?hf76) (hp := ?hp76) (hd := ?hd76) (hfr := ?hfr76) (hst := ?hst76) (hT := ?hT76)
        case h76 => kernel_rfl
        case hf76 =>
          repeat (first | refine FlowT.opA (h := ?_) | refine FlowT.opX (h := ?_) | refine FlowT.opY (h := ?_) | refine FlowT.opZ (h := ?_))
          exact FlowT.done
        case hp76 => rfl
        case hd76 => rfl
        case hfr76 => rfl
        case hst76 =>
          simp only [pick_nil, pick_all, List.cons_append, List.nil_append]
          rfl
        (repeat (first | refine WL.opA hΓ (h := ?_) | refine WL.opX hΓ (h := ?_) | refine WL.opY (h := ?_) | refine WL.opZ (h := ?_)))
        with_reducible apply WL.nil
        repeat (first | with_reducible apply W.seq | with_reducible apply W.block | with_reducible apply W.skip | with_reducible apply W.exit | with_reducible apply W.ret | with_reducible apply At.seqN | with_reducible apply At.blkN | with_reducible apply At.blkE | with_reducible apply At.blkR | with_reducible apply At.thenX | with_reducible apply At.thenR | with_reducible apply At.blkX rfl | ((with_reducible apply W.ops); (repeat (first | refine WL.opA hΓ (h := ?_) | refine WL.opX hΓ (h := ?_) | refine WL.opY (h := ?_) | refine WL.opZ (h := ?_))); with_reducible apply WL.nil) | refine W.condT (h := ?_) | refine W.condF (h := ?_))
        refine At.retA (by rw [Try.results103]) (he := ?_)
        simp [hne]
    · have he : a = b := list_eq_of (0, 0) hl (fun j hj => hI j (by omega))
      clear hI
      repeat (first | with_reducible apply W.seq | with_reducible apply W.block | with_reducible apply W.skip | with_reducible apply W.exit | with_reducible apply W.ret | with_reducible apply At.seqN | with_reducible apply At.blkN | with_reducible apply At.blkE | with_reducible apply At.blkR | with_reducible apply At.thenX | with_reducible apply At.thenR | with_reducible apply At.blkX rfl | ((with_reducible apply W.ops); (repeat (first | refine WL.opA hΓ (h := ?_) | refine WL.opX hΓ (h := ?_) | refine WL.opY (h := ?_) | refine WL.opZ (h := ?_))); with_reducible apply WL.nil) | refine W.condT (h := ?_) | refine W.condF (h := ?_))
      refine At.retA (by rw [Try.results103]) (he := ?_)
      simp [he]
  · have hne : ¬ a = b := fun e => hl (by rw [e])
    repeat (first | with_reducible apply W.seq | with_reducible apply W.block | with_reducible apply W.skip | with_reducible apply W.exit | with_reducible apply W.ret | with_reducible apply At.seqN | with_reducible apply At.blkN | with_reducible apply At.blkE | with_reducible apply At.blkR | with_reducible apply At.thenX | with_reducible apply At.thenR | with_reducible apply At.blkX rfl | ((with_reducible apply W.ops); (repeat (first | refine WL.opA hΓ (h := ?_) | refine WL.opX hΓ (h := ?_) | refine WL.opY (h := ?_) | refine WL.opZ (h := ?_))); with_reducible apply WL.nil) | refine W.condT (h := ?_) | refine W.condF (h := ?_))
    refine At.retA (by rw [Try.results103]) (he := ?_)
    simp [hne]
open Classical in
noncomputable def eqPB (x y : TPMsg) : Bool := decide (x = y)
open Classical in
theorem eqPB_self (x : TPMsg) : eqPB x x = true := by unfold eqPB; exact decide_eq_true rfl
open Classical in
theorem eqPB_no {x y : TPMsg} (h : ¬ x = y) : eqPB x y = false := by unfold eqPB; exact decide_eq_false h
noncomputable def mEqPM := mdl (fun x : TPMsg × TPMsg => okPM x.1 ∧ okPM x.2) (fun x => [aPM x.1, aPM x.2]) (fun x => rB (eqPB x.1 x.2))
theorem mEqPM_eq (x y : TPMsg) (h1 : okPM x) (h2 : okPM y) : mEqPM [aPM x, aPM y] = some (rB (eqPB x y)) := mdl_eq (by
  rintro ⟨a, b⟩ ⟨d, e⟩ h
  simp only [List.cons.injEq, and_true] at h
  have h1 := aPM_inj a d (by rw [h.1])
  have h2 := aPM_inj b e (by rw [h.2])
  rw [h1, h2]) (x, y) ⟨h1, h2⟩
theorem eqPM_s : Sound Try.prog 41 mEqPM := by
  refine Sound.mdl Try.func41 rfl Try.ntmps41 ?_
  rintro ⟨⟨k, f, ⟨r1, r2, r3⟩, ⟨h1, h2, la, va, ne, da⟩, l⟩, k', f', ⟨r1', r2', r3'⟩, ⟨h1', h2', la', va', ne', da'⟩, l'⟩ w ⟨hl, hl'⟩
  refine ⟨by simp, ?_⟩
  replace hl : l.length ≤ 8796093022207 := hl
  replace hl' : l'.length ≤ 8796093022207 := hl'
  have hΓ : GSound Try.prog (look [(101, mEqRq), (102, mEqHd), (103, mEqAdS)]) := env_cons (has_of Try.func101 rfl rfl) eqRq_s (env_cons (has_of Try.func102 rfl rfl) eqHd_s (env_cons (has_of Try.func103 rfl rfl) eqAdS_s env_nil))
  have c1 := mEqRq_eq (r1, r2, r3) (r1', r2', r3')
  have c2 := mEqHd_eq (h1, h2, la, va, ne, da) (h1', h2', la', va', ne', da')
  have c3 := mEqAdS_eq l l' hl hl'
  dsimp only [aRq, aHd] at c1 c2
  clear hl hl'
  generalize hx : eqPB (k, f, (r1, r2, r3), (h1, h2, la, va, ne, da), l) (k', f', (r1', r2', r3'), (h1', h2', la', va', ne', da'), l') = X
  have hno : (¬ (k, f, (r1, r2, r3), (h1, h2, la, va, ne, da), l) = (k', f', (r1', r2', r3'), (h1', h2', la', va', ne', da'), l')) → X = false := fun h => hx ▸ eqPB_no h
  have hyes : (k, f, (r1, r2, r3), (h1, h2, la, va, ne, da), l) = (k', f', (r1', r2', r3'), (h1', h2', la', va', ne', da'), l') → X = true := fun h => by rw [← hx, h]; exact eqPB_self _
  clear hx
  generalize g1 : decide ((r1, r2, r3) = (r1', r2', r3')) = b1 at c1
  generalize g2 : decide ((h1, h2, la, va, ne, da) = (h1', h2', la', va', ne', da')) = b2 at c2
  generalize g3 : decide (l = l') = b3 at c3
  simp only [Prod.mk.injEq] at hno hyes
  simp only [initS, argPV, List.map_cons, List.map_nil, toPL, Nat.zero_add]
  by_cases hk : k = k'
  · by_cases hf : f = f'
    · cases b1 with
      | false =>
        replace hno := hno (fun h => of_decide_eq_false g1 (by simp [h]))
        clear g1 g2 g3 hyes
        repeat (first | with_reducible apply W.seq | with_reducible apply W.block | with_reducible apply W.skip | with_reducible apply W.exit | with_reducible apply W.ret | with_reducible apply At.seqN | with_reducible apply At.blkN | with_reducible apply At.blkE | with_reducible apply At.blkR | with_reducible apply At.thenX | with_reducible apply At.thenR | with_reducible apply At.blkX rfl | ((with_reducible apply W.ops); (repeat (first | refine WL.opA hΓ (h := ?_) | refine WL.opX hΓ (h := ?_) | refine WL.opY (h := ?_) | refine WL.opZ (h := ?_))); with_reducible apply WL.nil) | refine W.condT (h := ?_) | refine W.condF (h := ?_))
        refine At.retA (by rw [Try.results41]) (he := ?_)
        rw [hno]
      | true =>
        cases b2 with
        | false =>
          replace hno := hno (fun h => of_decide_eq_false g2 (by simp [h]))
          clear g1 g2 g3 hyes
          repeat (first | with_reducible apply W.seq | with_reducible apply W.block | with_reducible apply W.skip | with_reducible apply W.exit | with_reducible apply W.ret | with_reducible apply At.seqN | with_reducible apply At.blkN | with_reducible apply At.blkE | with_reducible apply At.blkR | with_reducible apply At.thenX | with_reducible apply At.thenR | with_reducible apply At.blkX rfl | ((with_reducible apply W.ops); (repeat (first | refine WL.opA hΓ (h := ?_) | refine WL.opX hΓ (h := ?_) | refine WL.opY (h := ?_) | refine WL.opZ (h := ?_))); with_reducible apply WL.nil) | refine W.condT (h := ?_) | refine W.condF (h := ?_))
          refine At.retA (by rw [Try.results41]) (he := ?_)
          rw [hno]
        | true =>
          cases b3 with
          | false =>
            replace hno := hno (fun h => of_decide_eq_false g3 h.2.2.2.2)
            clear g1 g2 g3 hyes
            repeat (first | with_reducible apply W.seq | with_reducible apply W.block | with_reducible apply W.skip | with_reducible apply W.exit | with_reducible apply W.ret | with_reducible apply At.seqN | with_reducible apply At.blkN | with_reducible apply At.blkE | with_reducible apply At.blkR | with_reducible apply At.thenX | with_reducible apply At.thenR | with_reducible apply At.blkX rfl | ((with_reducible apply W.ops); (repeat (first | refine WL.opA hΓ (h := ?_) | refine WL.opX hΓ (h := ?_) | refine WL.opY (h := ?_) | refine WL.opZ (h := ?_))); with_reducible apply WL.nil) | refine W.condT (h := ?_) | refine W.condF (h := ?_))
            refine At.retA (by rw [Try.results41]) (he := ?_)
            rw [hno]
          | true =>
            replace hyes := hyes ⟨hk, hf, by simpa using of_decide_eq_true g1, by simpa using of_decide_eq_true g2, of_decide_eq_true g3⟩
            clear g1 g2 g3 hno
            repeat (first | with_reducible apply W.seq | with_reducible apply W.block | with_reducible apply W.skip | with_reducible apply W.exit | with_reducible apply W.ret | with_reducible apply At.seqN | with_reducible apply At.blkN | with_reducible apply At.blkE | with_reducible apply At.blkR | with_reducible apply At.thenX | with_reducible apply At.thenR | with_reducible apply At.blkX rfl | ((with_reducible apply W.ops); (repeat (first | refine WL.opA hΓ (h := ?_) | refine WL.opX hΓ (h := ?_) | refine WL.opY (h := ?_) | refine WL.opZ (h := ?_))); with_reducible apply WL.nil) | refine W.condT (h := ?_) | refine W.condF (h := ?_))
            refine At.retA (by rw [Try.results41]) (he := ?_)
            rw [hyes]
    · replace hno := hno (fun h => hf h.2.1)
      clear g1 g2 g3 hyes
      repeat (first | with_reducible apply W.seq | with_reducible apply W.block | with_reducible apply W.skip | with_reducible apply W.exit | with_reducible apply W.ret | with_reducible apply At.seqN | with_reducible apply At.blkN | with_reducible apply At.blkE | with_reducible apply At.blkR | with_reducible apply At.thenX | with_reducible apply At.thenR | with_reducible apply At.blkX rfl | ((with_reducible apply W.ops); (repeat (first | refine WL.opA hΓ (h := ?_) | refine WL.opX hΓ (h := ?_) | refine WL.opY (h := ?_) | refine WL.opZ (h := ?_))); with_reducible apply WL.nil) | refine W.condT (h := ?_) | refine W.condF (h := ?_))
      refine At.retA (by rw [Try.results41]) (he := ?_)
      rw [hno]
  · replace hno := hno (fun h => hk h.1)
    clear g1 g2 g3 hyes
    repeat (first | with_reducible apply W.seq | with_reducible apply W.block | with_reducible apply W.skip | with_reducible apply W.exit | with_reducible apply W.ret | with_reducible apply At.seqN | with_reducible apply At.blkN | with_reducible apply At.blkE | with_reducible apply At.blkR | with_reducible apply At.thenX | with_reducible apply At.thenR | with_reducible apply At.blkX rfl | ((with_reducible apply W.ops); (repeat (first | refine WL.opA hΓ (h := ?_) | refine WL.opX hΓ (h := ?_) | refine WL.opY (h := ?_) | refine WL.opZ (h := ?_))); with_reducible apply WL.nil) | refine W.condT (h := ?_) | refine W.condF (h := ?_))
    refine At.retA (by rw [Try.results41]) (he := ?_)
    rw [hno]

theorem msg_arg {w : World} {k f : Int} {q : TReq} {hd : THeader} {vl : Value} {l : List TAddr} (h : RdS w w.heap.size 2 cAddr vl l) :
    RepA w (aPM (k, f, q, hd, l)) (.agg #[.int .i64 k, .int .i64 f, .int .i64 q.1, .int .i64 q.2.1, .int .i64 q.2.2, .int .i64 hd.1, .int .i64 hd.2.1, .string hd.2.2.1, .string hd.2.2.2.1, .string hd.2.2.2.2.1, .string hd.2.2.2.2.2, vl]) := by
  refine ⟨[.int .i64 k, .int .i64 f, .int .i64 q.1, .int .i64 q.2.1, .int .i64 q.2.2, .int .i64 hd.1, .int .i64 hd.2.1, .string hd.2.2.1, .string hd.2.2.2.1, .string hd.2.2.2.2.1, .string hd.2.2.2.2.2, vl], rfl, rfl, fun j x hj => ?_⟩
  match j, hj with
  | 0, hj => cases hj; exact ⟨_, rfl, .sc rfl⟩
  | 1, hj => cases hj; exact ⟨_, rfl, .sc rfl⟩
  | 2, hj => cases hj; exact ⟨_, rfl, .sc rfl⟩
  | 3, hj => cases hj; exact ⟨_, rfl, .sc rfl⟩
  | 4, hj => cases hj; exact ⟨_, rfl, .sc rfl⟩
  | 5, hj => cases hj; exact ⟨_, rfl, .sc rfl⟩
  | 6, hj => cases hj; exact ⟨_, rfl, .sc rfl⟩
  | 7, hj => cases hj; exact ⟨_, rfl, .sc rfl⟩
  | 8, hj => cases hj; exact ⟨_, rfl, .sc rfl⟩
  | 9, hj => cases hj; exact ⟨_, rfl, .sc rfl⟩
  | 10, hj => cases hj; exact ⟨_, rfl, .sc rfl⟩
  | 11, hj => cases hj; exact ⟨_, rfl, h.rep (fun _ => rfl) (fun x u hu => by simp [cAddr] at hu; rcases hu with rfl | rfl <;> rfl)⟩
  | j + 12, hj => simp at hj
theorem law_of {F : FuncId} (hs : Sound Try.prog F (mdl okPZ (fun m => [aPM m]) fun _ => rB true)) (k f : Int) (q : TReq) (hd : THeader) (vl : Value) (l : List TAddr) (W : World) (h1 : RdS W W.heap.size 2 cAddr vl l) (h2 : okHeader hd) (h3 : l.length ≤ 9223372036854775807) :
    Calls Try.prog F #[.agg #[.int .i64 k, .int .i64 f, .int .i64 q.1, .int .i64 q.2.1, .int .i64 q.2.2, .int .i64 hd.1, .int .i64 hd.2.1, .string hd.2.2.1, .string hd.2.2.2.1, .string hd.2.2.2.2.1, .string hd.2.2.2.2.2, vl]] W fun e w' => e = .returned (.bool true) ∧ Below W.heap.size W w' :=
  calls_says (args := [aPM (k, f, q, hd, l)]) (vs := [_]) hs (mdl_eq aPM_inj (k, f, q, hd, l) ⟨h3, by unfold okHeader maxLen at h2; exact h2⟩) (RepAs.mk1 (msg_arg h1))

end Go.Proofs.Ytjofodicecjeaaa
