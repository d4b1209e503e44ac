/-
  The law FnEras.
-/
import Derived.Test.YtimnogjgokljbaaEvEraF
namespace Go.Proofs.Ytimnogjgokljbaa
set_option maxRecDepth 100000
set_option linter.unusedVariables false
set_option linter.unusedSimpArgs false
open Go Go.RowKit
set_option maxHeartbeats 16000000
set_option linter.unusedVariables false
set_option linter.unusedSimpArgs false

theorem eraD_app_left {l m : List TEra} {i : Nat} (h : i < l.length) : eraD (l ++ m) i = eraD l i := by
  simp only [eraD, List.getD_eq_getElem?_getD, List.getElem?_append_left h]
theorem eraD_app_last (l : List TEra) (e : TEra) : eraD (l ++ [e]) l.length = e := by
  simp only [eraD, List.getD_eq_getElem?_getD]
  rw [List.getElem?_append_right (Nat.le_refl _), Nat.sub_self]
  rfl
theorem eraD_drop (l : List TEra) (j i : Nat) : eraD (l.drop j) i = eraD l (j + i) := by
  simp only [eraD, List.getD_eq_getElem?_getD, List.getElem?_drop]
theorem addL_good {l : List TEra} {f : Int} {v : List TVal} (h : erasOk l) : erasOk (addL l f v) := by
  unfold addL
  rw [if_pos h]
  split
  · exact h
  · split
    · assumption
    · exact h
theorem addL_bad {l : List TEra} {f : Int} {v : List TVal} (h : ¬ erasOk l) : addL l f v = [] := if_neg h
theorem add_at {l : List TEra} {f : Int} {v : List TVal} (h : erasOk l) (hb : addB l f v = true) : atOk (addL l f v) f = true ∧ atV (addL l f v) f = v := by
  unfold addB at hb
  have hx := addL_good (f := f) (v := v) h
  rw [decide_eq_true h, Bool.true_and] at hb
  unfold addL at hx ⊢
  rw [if_pos h] at hx ⊢
  by_cases ht : tops l v
  · rw [if_pos ht] at hb hx ⊢
    simp only [Bool.and_eq_true, decide_eq_true_eq] at hb
    obtain ⟨n, hn⟩ : ∃ n, l.length = n + 1 := ⟨l.length - 1, by have := ht.1; omega⟩
    have hl : lastE l f l.length = n := by
      rw [hn]
      show (if (eraD l n).1 ≤ f then (n : Int) else lastE l f n) = n
      have : lastOf l = eraD l n := by unfold lastOf; rw [hn]; rfl
      rw [this] at hb
      rw [if_pos (by omega)]
    refine ⟨?_, ?_⟩
    · unfold atOk
      rw [decide_eq_true h, hl]
      simp
    · unfold atV
      rw [hl]
      have : lastOf l = eraD l n := by unfold lastOf; rw [hn]; rfl
      have h2 := ht.2
      rw [this] at h2
      exact h2
  · rw [if_neg ht] at hb hx ⊢
    simp only [decide_eq_true_eq] at hb
    rw [if_pos hb]
    have hl : lastE (l ++ [(f, v)]) f (l ++ [(f, v)]).length = l.length := by
      rw [List.length_append, List.length_singleton]
      show (if (eraD (l ++ [(f, v)]) l.length).1 ≤ f then (l.length : Int) else _) = _
      rw [eraD_app_last, if_pos (Int.le_refl _)]
    refine ⟨?_, ?_⟩
    · unfold atOk
      rw [decide_eq_true hb, hl]
      simp
    · unfold atV
      rw [hl]
      show (eraD (l ++ [(f, v)]) l.length).2 = v
      rw [eraD_app_last]
theorem add_not {l : List TEra} {f : Int} {v : List TVal} (h : erasOk l) (hb : addB l f v = false) : addL l f v = l := by
  unfold addB at hb
  rw [decide_eq_true h, Bool.true_and] at hb
  unfold addL
  rw [if_pos h]
  by_cases ht : tops l v
  · rw [if_pos ht]
  · rw [if_neg ht] at hb ⊢
    rw [if_neg (of_decide_eq_false hb)]
theorem lastE_mono (l : List TEra) {h h' : Int} (hh : h ≤ h') : ∀ n : Nat, lastE l h n ≤ lastE l h' n
  | 0 => Int.le_refl _
  | n + 1 => by
    have ih := lastE_mono l hh n
    have hb := lastE_le l h n
    have hb' := lastE_le l h' n
    unfold lastE
    split <;> split <;> omega
theorem lastE_drop (l : List TEra) (h : Int) (j : Nat) : ∀ i : Nat, lastE (l.drop j) h i = if lastE l h (j + i) < j then -1 else lastE l h (j + i) - j
  | 0 => by
    have := lastE_le l h j
    rw [Nat.add_zero, if_pos (by omega)]
    rfl
  | i + 1 => by
    have ih := lastE_drop l h j i
    show (if (eraD (l.drop j) i).1 ≤ h then (i : Int) else lastE (l.drop j) h i) = if (if (eraD l (j + i)).1 ≤ h then ((j + i : Nat) : Int) else lastE l h (j + i)) < j then -1 else (if (eraD l (j + i)).1 ≤ h then ((j + i : Nat) : Int) else lastE l h (j + i)) - j
    rw [eraD_drop, ih]
    by_cases hc : (eraD l (j + i)).1 ≤ h
    · rw [if_pos hc, if_pos hc, if_neg (by omega)]
      omega
    · rw [if_neg hc, if_neg hc]
theorem erasOk_drop {l : List TEra} (h : erasOk l) (j : Nat) : erasOk (l.drop j) := by
  refine ⟨by have := h.1; rw [List.length_drop]; omega, fun i hi => ?_⟩
  rw [List.length_drop] at hi
  have := h.2 (j + i) (by omega)
  unfold eraAt at this ⊢
  rw [eraD_drop]
  refine ⟨this.1, this.2.1, fun hp => ?_⟩
  rw [eraD_drop]
  have := this.2.2 (by omega)
  rwa [show j + i - 1 = j + (i - 1) by omega] at this
theorem cut_at (m : List TEra) {h h' : Int} (hh : h ≤ h') : atOk (cutL m h) h' = atOk m h' ∧ (atOk m h' = true → atV (cutL m h) h' = atV m h') := by
  by_cases ho : erasOk m
  · have hc : cutL m h = m.drop (cutK m h) := if_pos ho
    rw [hc]
    have hm := lastE_mono m hh m.length
    have hb := lastE_le m h m.length
    have hb' := lastE_le m h' m.length
    have hl : lastE (m.drop (cutK m h)) h' (m.drop (cutK m h)).length = if lastE m h' m.length < cutK m h then -1 else lastE m h' m.length - cutK m h := by
      rw [lastE_drop, List.length_drop]
      have : cutK m h + (m.length - cutK m h) = m.length := by unfold cutK; omega
      rw [this]
    have hk : (cutK m h : Int) ≤ lastE m h' m.length ∨ (cutK m h = 0 ∧ lastE m h' m.length = -1) := by unfold cutK; omega
    unfold atOk
    rw [decide_eq_true ho, decide_eq_true (erasOk_drop ho _), hl, Bool.true_and, Bool.true_and]
    rcases hk with hk | ⟨hk1, hk2⟩
    · rw [if_neg (by omega)]
      refine ⟨?_, fun hq => ?_⟩
      · rw [decide_eq_true (show 0 ≤ lastE m h' m.length - (cutK m h : Int) by omega), decide_eq_true (show 0 ≤ lastE m h' m.length by omega)]
      · unfold atV
        rw [hl, if_neg (by omega), eraD_drop]
        congr 2
        omega
    · rw [hk2, if_pos (by omega)]
      exact ⟨rfl, fun hq => by simp at hq⟩
  · have hc : cutL m h = [] := if_neg ho
    rw [hc]
    unfold atOk
    rw [decide_eq_false ho, Bool.false_and]
    exact ⟨by simp [lastE], fun hq => by cases hq⟩
theorem cutL_len (m : List TEra) (h : Int) : (cutL m h).length ≤ m.length := by
  unfold cutL
  split
  · rw [List.length_drop]; omega
  · simp
theorem okEc.cut {m : List TEra} (hm : okEc m) (h : Int) : okEc (cutL m h) := by
  unfold cutL
  split
  · exact hm.drop _
  · exact ⟨by simp, by simp⟩
theorem okEc.add {l : List TEra} {f : Int} {v : List TVal} (h1 : l.length ≤ 9) (h2 : ∀ e ∈ l, e.2.length ≤ 8) (h3 : v.length ≤ 8) : okEc (addL l f v) := by
  refine ⟨by have := addL_len l f v; omega, fun e he => ?_⟩
  rcases addL_mem he with h | rfl
  · have := h2 e h; omega
  · show v.length ≤ _; omega
theorem lawFnEras_s : Sound Try.prog 6 (mdl (fun bs : List Nat => bs.length ≤ 9223372036854775807 ∧ ∀ n ∈ bs, n < 256) (fun bs => [aL cU8 bs]) fun _ => rB true) := by
  refine Sound.mdl Try.func6 rfl Try.ntmps6 ?_
  rintro bs w ⟨hlen, hbs⟩
  refine ⟨by simp, ?_⟩
  have hΓ : GSound Try.prog (look [(23, mBig), (17, mAddS), (19, mAddI), (25, mEras), (10, mAtI), (8, mAtS), (22, mCutI), (26, mEqVS)]) := env_cons (has_of Try.func23 rfl rfl) big_s (env_cons (has_of Try.func17 rfl rfl) addS_s (env_cons (has_of Try.func19 rfl rfl) addI_s (env_cons (has_of Try.func25 rfl rfl) erasS_s (env_cons (has_of Try.func10 rfl rfl) atI_s (env_cons (has_of Try.func8 rfl rfl) atS_s (env_cons (has_of Try.func22 rfl rfl) cutI_s (env_cons (has_of Try.func26 rfl rfl) sameVL_s env_nil)))))))
  have hDA : Has Try.prog 24 := has_of Try.func24 rfl rfl
  have hDC : Has Try.prog 27 := has_of Try.func27 rfl rfl
  have c0 := mBig_eq bs hlen
  simp only [initS, argPV, List.map_cons, List.map_nil, toPL, Nat.zero_add]
  by_cases hb : 1048576 < bs.length
  · repeat (first | with_reducible apply W.seq | with_reducible apply W.block | with_reducible apply W.skip | with_reducible apply W.exit | with_reducible apply W.ret | with_reducible apply At.seqN | with_reducible apply At.blkN | with_reducible apply At.blkE | with_reducible apply At.blkR | with_reducible apply At.thenX | with_reducible apply At.thenR | with_reducible apply At.blkX rfl | ((with_reducible apply W.ops); (repeat (first | refine WL.opA hΓ (h := ?_) | refine WL.opX hΓ (h := ?_) | refine WL.opY (h := ?_) | refine WL.opZ (h := ?_))); with_reducible apply WL.nil) | refine W.condT (h := ?_) | refine W.condF (h := ?_))
    refine At.retA (by rw [Try.results6]) (he := rfl)
  · have hcode := CodeOk.le (bs := bs) (by omega) hbs
    repeat (first | with_reducible apply W.seq | with_reducible apply W.block | with_reducible apply W.skip | with_reducible apply W.exit | with_reducible apply W.ret | with_reducible apply At.seqN | with_reducible apply At.blkN | with_reducible apply At.blkE | with_reducible apply At.blkR | with_reducible apply At.thenX | with_reducible apply At.thenR | with_reducible apply At.blkX rfl | ((with_reducible apply W.ops); (repeat (first | refine WL.opA hΓ (h := ?_) | refine WL.opX hΓ (h := ?_) | refine WL.opY (h := ?_) | refine WL.opZ (h := ?_))); with_reducible apply WL.nil) | refine W.condT (h := ?_) | refine W.condF (h := ?_))
    with_reducible apply W.ops
    repeat (first | refine WL.opA hΓ (h := ?_) | refine WL.opX hΓ (h := ?_) | refine WL.opY (h := ?_) | refine WL.opZ (h := ?_))
    refine WL.opNRA hDA DrawEraAdd_s bs hcode (h := ?_)
    rintro ⟨l, fr, v⟩ ⟨⟨hl1, hl2⟩, hv⟩
    dsimp only at hl1 hl2 hv ⊢
    refine (fun (key : W Try.prog none0 w 126 [.slot 0 (one (.sl (rowsF cU8 bs)))] ?codeE ?postE) => ?mainE) ?partE
    case mainE =>
      have hok : okEc l := ⟨by omega, fun e he => by have := hl2 e he; omega⟩
      have c1 := mAddI_eq l fr v hok (by omega)
      have c2 := mAddS_eq l fr v hok (by omega)
      have c3 := mEras_eq l hok.es
      have hll := eraRows_len l
      (repeat (first | refine WL.opA hΓ (h := ?_) | refine WL.opX hΓ (h := ?_) | refine WL.opY (h := ?_) | refine WL.opZ (h := ?_)))
      with_reducible apply WL.nil
      have hbb : ∀ b : Bool, (b == b) = true := fun b => by cases b <;> rfl
      by_cases h1 : erasOk l
      · rw [decide_eq_true h1] at c1 c3
        have hx := okEc.add (f := fr) hl1 hl2 hv
        have c4 := mAtI_eq (addL l fr v) fr hx
        have c5 := mEras_eq (addL l fr v) hx.es
        rw [decide_eq_true (addL_good h1)] at c5
        have hxl := eraRows_len (addL l fr v)
        cases hbo : addB l fr v with
        | true =>
          obtain ⟨ha1, ha2⟩ := add_at h1 hbo
          rw [ha1, ha2] at c4
          rw [hbo] at c1 c2
          have c6 := mEqVS_eq v v (by omega) (by omega)
          rw [decide_eq_true rfl] at c6
          clear h1 hbo ha1 ha2 hx hok
          repeat (first | with_reducible apply W.seq | with_reducible apply W.block | with_reducible apply W.skip | with_reducible apply W.exit | with_reducible apply W.ret | with_reducible apply At.seqN | with_reducible apply At.blkN | with_reducible apply At.blkE | with_reducible apply At.blkR | with_reducible apply At.thenX | with_reducible apply At.thenR | with_reducible apply At.blkX rfl | ((with_reducible apply W.ops); (repeat (first | refine WL.opA hΓ (h := ?_) | refine WL.opX hΓ (h := ?_) | refine WL.opY (h := ?_) | refine WL.opZ (h := ?_))); with_reducible apply WL.nil) | refine W.condT (h := ?_) | refine W.condF (h := ?_))
          refine W.subA [.slot 0 (one (.sl (rowsF cU8 bs)))] (h := ?_)
          exact key
        | false =>
          have hxe := add_not h1 hbo
          rw [hbo] at c1 c2
          rw [hxe] at c1 c2 c4 c5 hxl
          clear hx hbo hxe
          cases hat : atOk l fr with
          | true =>
            rw [hat] at c4
            clear h1 hat hok
            repeat (first | with_reducible apply W.seq | with_reducible apply W.block | with_reducible apply W.skip | with_reducible apply W.exit | with_reducible apply W.ret | with_reducible apply At.seqN | with_reducible apply At.blkN | with_reducible apply At.blkE | with_reducible apply At.blkR | with_reducible apply At.thenX | with_reducible apply At.thenR | with_reducible apply At.blkX rfl | ((with_reducible apply W.ops); (repeat (first | refine WL.opA hΓ (h := ?_) | refine WL.opX hΓ (h := ?_) | refine WL.opY (h := ?_) | refine WL.opZ (h := ?_))); with_reducible apply WL.nil) | refine W.condT (h := ?_) | refine W.condF (h := ?_))
            refine W.subA [.slot 0 (one (.sl (rowsF cU8 bs)))] (h := ?_)
            exact key
          | false =>
            rw [hat] at c4
            clear h1 hat hok
            repeat (first | with_reducible apply W.seq | with_reducible apply W.block | with_reducible apply W.skip | with_reducible apply W.exit | with_reducible apply W.ret | with_reducible apply At.seqN | with_reducible apply At.blkN | with_reducible apply At.blkE | with_reducible apply At.blkR | with_reducible apply At.thenX | with_reducible apply At.thenR | with_reducible apply At.blkX rfl | ((with_reducible apply W.ops); (repeat (first | refine WL.opA hΓ (h := ?_) | refine WL.opX hΓ (h := ?_) | refine WL.opY (h := ?_) | refine WL.opZ (h := ?_))); with_reducible apply WL.nil) | refine W.condT (h := ?_) | refine W.condF (h := ?_))
            refine W.subA [.slot 0 (one (.sl (rowsF cU8 bs)))] (h := ?_)
            exact key
      · have hxe := addL_bad (f := fr) (v := v) h1
        rw [decide_eq_false h1] at c1 c3
        have e1 : rES (addL l fr v) (addB l fr v) = .tup [(false, [.own .nd 52 2 []]), (false, [.ro (.sc (.bool (addB l fr v)))])] := by rw [hxe]; rfl
        rw [e1] at c2
        have hb3 := hbb (addB l fr v)
        clear h1 hxe e1 hok key
        repeat (first | with_reducible apply W.seq | with_reducible apply W.block | with_reducible apply W.skip | with_reducible apply W.exit | with_reducible apply W.ret | with_reducible apply At.seqN | with_reducible apply At.blkN | with_reducible apply At.blkE | with_reducible apply At.blkR | with_reducible apply At.thenX | with_reducible apply At.thenR | with_reducible apply At.blkX rfl | ((with_reducible apply W.ops); (repeat (first | refine WL.opA hΓ (h := ?_) | refine WL.opX hΓ (h := ?_) | refine WL.opY (h := ?_) | refine WL.opZ (h := ?_))); with_reducible apply WL.nil) | refine W.condT (h := ?_) | refine W.condF (h := ?_))
        refine At.retA (by rw [Try.results6]) (he := rfl)
    case partE =>
      repeat (first | with_reducible apply W.seq | with_reducible apply W.block | with_reducible apply W.skip | with_reducible apply W.exit | with_reducible apply W.ret | with_reducible apply At.seqN | with_reducible apply At.blkN | with_reducible apply At.blkE | with_reducible apply At.blkR | with_reducible apply At.thenX | with_reducible apply At.thenR | with_reducible apply At.blkX rfl | ((with_reducible apply W.ops); (repeat (first | refine WL.opA hΓ (h := ?_) | refine WL.opX hΓ (h := ?_) | refine WL.opY (h := ?_) | refine WL.opZ (h := ?_))); with_reducible apply WL.nil) | refine W.condT (h := ?_) | refine W.condF (h := ?_))
      with_reducible apply W.ops
      repeat (first | refine WL.opA hΓ (h := ?_) | refine WL.opX hΓ (h := ?_) | refine WL.opY (h := ?_) | refine WL.opZ (h := ?_))
      refine WL.opNRA hDC DrawEraCut_s bs hcode (h := ?_)
      rintro ⟨m, h⟩ ⟨⟨hm1, hm2⟩, h0, h1⟩
      dsimp only at hm1 hm2 h0 h1 ⊢
      have hokm : okEc m := ⟨by omega, fun e he => by have := hm2 e he; omega⟩
      have c7 := mCutI_eq m h hokm
      have hlm := eraRows_len m
      have hlc := eraRows_len (cutL m h)
      have hcl := cutL_len m h
      have hokc := hokm.cut h
      (repeat (first | refine WL.opA hΓ (h := ?_) | refine WL.opX hΓ (h := ?_) | refine WL.opY (h := ?_) | refine WL.opZ (h := ?_)))
      with_reducible apply WL.nil
      have hbt : (true == true) = true := rfl
      have c11 := mEqVS_eq [] [] (by simp) (by simp)
      rw [decide_eq_true rfl] at c11
      have e3 : rowsF cVal [] = [] := rfl
      dsimp only [aL] at c11
      rw [e3] at c11
      clear e3
      by_cases ho : erasOk m
      · rw [decide_eq_true ho] at c7
        have hcli : ((cutL m h).length : Int) ≤ m.length := by omega
        have hat : ∀ k : Nat, atOk (cutL m h) (h + k) = atOk m (h + k) ∧ (atOk m (h + k) = true → atV (cutL m h) (h + k) = atV m (h + k)) := fun k => cut_at m (by omega)
        have hav : ∀ k : Nat, (atV m (h + k)).length ≤ 1048576 := fun k => atV_ok _ hokm
        have c8 : ∀ k : Nat, mAtS [aES m, aI (h + k)] = some (rAs (atOk m (h + k)) (atV m (h + k))) := fun k => mAtS_eq m (h + k) hokm
        have c9 : ∀ k : Nat, mAtI [aES (cutL m h), aI (h + k)] = some (rAt (atOk (cutL m h) (h + k)) (atV (cutL m h) (h + k))) := fun k => mAtI_eq (cutL m h) (h + k) hokc
        generalize cutL m h = c at *
        clear ho hokc hokm hm2 hcl
        repeat (first | with_reducible apply W.seq | with_reducible apply W.block | with_reducible apply W.skip | with_reducible apply W.exit | with_reducible apply W.ret | with_reducible apply At.seqN | with_reducible apply At.blkN | with_reducible apply At.blkE | with_reducible apply At.blkR | with_reducible apply At.thenX | with_reducible apply At.thenR | with_reducible apply At.blkX rfl | ((with_reducible apply W.ops); (repeat (first | refine WL.opA hΓ (h := ?_) | refine WL.opX hΓ (h := ?_) | refine WL.opY (h := ?_) | refine WL.opZ (h := ?_))); with_reducible apply WL.nil) | refine W.condT (h := ?_) | refine W.condF (h := ?_))
        refine W.loopA (fun k => k ≤ 6) (fun k : Nat => [.slot 12 (one (.sl (eraRows m))), .slot 13 (vI h), .slot 14 (one (.all 91)), .blk 91 (.arr .nd 52 2 (eraRows c)), .slot 15 (vI k)]) (fun k => 6 - k) 0 (by omega) (h := ?_)
        rintro k hk
        replace hat := hat k
        replace hav := hav k
        replace c8 := c8 k
        replace c9 := c9 k
        by_cases hlt : k < 6
        · cases hq : atOk m (h + k) with
          | true =>
            have h5 := hat.2 hq
            rw [hat.1, hq, h5] at c9
            rw [hq] at c8
            generalize atV m (h + k) = q at *
            have c10 := mEqVS_eq q q (by omega) (by omega)
            rw [decide_eq_true rfl] at c10
            have e1 : rAs true q = .tup [(false, [.own .ft 57 2 (rowsF cVal q)]), (false, [.ro (.sc (.bool true))])] := rfl
            rw [e1] at c8
            clear hat hq h5 e1 hav
            repeat (first | with_reducible apply W.seq | with_reducible apply W.block | with_reducible apply W.skip | with_reducible apply W.exit | with_reducible apply W.ret | with_reducible apply At.seqN | with_reducible apply At.blkN | with_reducible apply At.blkE | with_reducible apply At.blkR | with_reducible apply At.thenX | with_reducible apply At.thenR | with_reducible apply At.blkX rfl | ((with_reducible apply W.ops); (repeat (first | refine WL.opA hΓ (h := ?_) | refine WL.opX hΓ (h := ?_) | refine WL.opY (h := ?_) | refine WL.opZ (h := ?_))); with_reducible apply WL.nil) | refine W.condT (h := ?_) | refine W.condF (h := ?_))
            exact At.roundA (k + 1) (by omega) (by omega)
          | false =>
            rw [hat.1, hq] at c9
            rw [hq] at c8
            generalize atV m (h + k) = q at *
            have e1 : rAs false q = .tup [(false, [.own .ft 57 2 []]), (false, [.ro (.sc (.bool false))])] := rfl
            rw [e1] at c8
            clear hat hq e1 hav
            repeat (first | with_reducible apply W.seq | with_reducible apply W.block | with_reducible apply W.skip | with_reducible apply W.exit | with_reducible apply W.ret | with_reducible apply At.seqN | with_reducible apply At.blkN | with_reducible apply At.blkE | with_reducible apply At.blkR | with_reducible apply At.thenX | with_reducible apply At.thenR | with_reducible apply At.blkX rfl | ((with_reducible apply W.ops); (repeat (first | refine WL.opA hΓ (h := ?_) | refine WL.opX hΓ (h := ?_) | refine WL.opY (h := ?_) | refine WL.opZ (h := ?_))); with_reducible apply WL.nil) | refine W.condT (h := ?_) | refine W.condF (h := ?_))
            exact At.roundA (k + 1) (by omega) (by omega)
        · have hk6 : k = 6 := by omega
          subst hk6
          clear hat hav c8 c9
          repeat (first | with_reducible apply W.seq | with_reducible apply W.block | with_reducible apply W.skip | with_reducible apply W.exit | with_reducible apply W.ret | with_reducible apply At.seqN | with_reducible apply At.blkN | with_reducible apply At.blkE | with_reducible apply At.blkR | with_reducible apply At.thenX | with_reducible apply At.thenR | with_reducible apply At.blkX rfl | ((with_reducible apply W.ops); (repeat (first | refine WL.opA hΓ (h := ?_) | refine WL.opX hΓ (h := ?_) | refine WL.opY (h := ?_) | refine WL.opZ (h := ?_))); with_reducible apply WL.nil) | refine W.condT (h := ?_) | refine W.condF (h := ?_))
          refine At.retA (by rw [Try.results6]) (he := rfl)
      · rw [decide_eq_false ho] at c7
        have hce : cutL m h = [] := if_neg ho
        have hab : ∀ k : Nat, atOk m (h + k) = false := fun k => by unfold atOk; rw [decide_eq_false ho]; rfl
        have hcb : ∀ k : Nat, atOk [] (h + k) = false := fun k => by simp [atOk, lastE]
        have c8 : ∀ k : Nat, mAtS [aES m, aI (h + k)] = some (rAs (atOk m (h + k)) (atV m (h + k))) := fun k => mAtS_eq m (h + k) hokm
        have c9 : ∀ k : Nat, mAtI [.val false [.sl []], aI (h + k)] = some (rAt (atOk [] (h + k)) (atV [] (h + k))) := fun k => mAtI_eq [] (h + k) ⟨by simp, by simp⟩
        clear ho hokc hokm hm2 hcl hce hlc
        repeat (first | with_reducible apply W.seq | with_reducible apply W.block | with_reducible apply W.skip | with_reducible apply W.exit | with_reducible apply W.ret | with_reducible apply At.seqN | with_reducible apply At.blkN | with_reducible apply At.blkE | with_reducible apply At.blkR | with_reducible apply At.thenX | with_reducible apply At.thenR | with_reducible apply At.blkX rfl | ((with_reducible apply W.ops); (repeat (first | refine WL.opA hΓ (h := ?_) | refine WL.opX hΓ (h := ?_) | refine WL.opY (h := ?_) | refine WL.opZ (h := ?_))); with_reducible apply WL.nil) | refine W.condT (h := ?_) | refine W.condF (h := ?_))
        refine W.loopA (fun k => k ≤ 6) (fun k : Nat => [.slot 12 (one (.sl (eraRows m))), .slot 13 (vI h), .slot 14 (one (.sl [])), .slot 15 (vI k)]) (fun k => 6 - k) 0 (by omega) (h := ?_)
        rintro k hk
        replace hab := hab k
        replace hcb := hcb k
        replace c8 := c8 k
        replace c9 := c9 k
        rw [hab] at c8
        rw [hcb] at c9
        generalize atV m (h + k) = q at *
        have e1 : rAs false q = .tup [(false, [.own .ft 57 2 []]), (false, [.ro (.sc (.bool false))])] := rfl
        rw [e1] at c8
        clear e1 hab hcb
        by_cases hlt : k < 6
        · repeat (first | with_reducible apply W.seq | with_reducible apply W.block | with_reducible apply W.skip | with_reducible apply W.exit | with_reducible apply W.ret | with_reducible apply At.seqN | with_reducible apply At.blkN | with_reducible apply At.blkE | with_reducible apply At.blkR | with_reducible apply At.thenX | with_reducible apply At.thenR | with_reducible apply At.blkX rfl | ((with_reducible apply W.ops); (repeat (first | refine WL.opA hΓ (h := ?_) | refine WL.opX hΓ (h := ?_) | refine WL.opY (h := ?_) | refine WL.opZ (h := ?_))); with_reducible apply WL.nil) | refine W.condT (h := ?_) | refine W.condF (h := ?_))
          exact At.roundA (k + 1) (by omega) (by omega)
        · have hk6 : k = 6 := by omega
          subst hk6
          clear c8 c9
          repeat (first | with_reducible apply W.seq | with_reducible apply W.block | with_reducible apply W.skip | with_reducible apply W.exit | with_reducible apply W.ret | with_reducible apply At.seqN | with_reducible apply At.blkN | with_reducible apply At.blkE | with_reducible apply At.blkR | with_reducible apply At.thenX | with_reducible apply At.thenR | with_reducible apply At.blkX rfl | ((with_reducible apply W.ops); (repeat (first | refine WL.opA hΓ (h := ?_) | refine WL.opX hΓ (h := ?_) | refine WL.opY (h := ?_) | refine WL.opZ (h := ?_))); with_reducible apply WL.nil) | refine W.condT (h := ?_) | refine W.condF (h := ?_))
          refine At.retA (by rw [Try.results6]) (he := rfl)
end Go.Proofs.Ytimnogjgokljbaa
