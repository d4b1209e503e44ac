/-
  Eras added and cut.
-/
import Derived.Test.YtimnogjgokljbaaEvEraN
namespace Go.Proofs.Ytimnogjgokljbaa
set_option maxRecDepth 100000
set_option linter.unusedVariables false
set_option linter.unusedSimpArgs false
open Go Go.RowKit
set_option maxHeartbeats 8000000
set_option linter.unusedVariables false
set_option linter.unusedSimpArgs false

def lastOf (l : List TEra) : TEra := eraD l (l.length - 1)
/-- does the last era hold these validators? -/
def tops (l : List TEra) (v : List TVal) : Prop := 0 < l.length ∧ (lastOf l).2 = v
instance (l : List TEra) (v : List TVal) : Decidable (tops l v) := by unfold tops; infer_instance
def addB (l : List TEra) (f : Int) (v : List TVal) : Bool := decide (erasOk l) && (if tops l v then decide ((lastOf l).1 < f) && decide (f ≤ 1000000) else decide (erasOk (l ++ [(f, v)])))
def addL (l : List TEra) (f : Int) (v : List TVal) : List TEra := if erasOk l then (if tops l v then l else if erasOk (l ++ [(f, v)]) then l ++ [(f, v)] else l) else []
abbrev rES (l : List TEra) (b : Bool) : Res := .tup [(false, [.own .nd 52 2 (eraRows l)]), (false, [.ro (.sc (.bool b))])]
abbrev rEI (ok : Bool) (l : List TEra) (b : Bool) : Res := match ok with
  | true => rES l b
  | false => .tup [(false, [.ro (.sl [])]), (false, [.ro (.sc (.bool b))])]
abbrev TAdd := List TEra × Int × List TVal
abbrev okAd (x : TAdd) : Prop := okEc x.1 ∧ x.2.2.length ≤ 1048576
theorem aAd_inj : ∀ x y : TAdd, [aES x.1, aI x.2.1, aL cVal x.2.2] = [aES y.1, aI y.2.1, aL cVal y.2.2] → x = y := by
  rintro ⟨a, b, c⟩ ⟨a', b', c'⟩ h
  simp at h
  obtain ⟨h1, h2, h3⟩ := h
  simp only [Prod.mk.injEq]
  exact ⟨eraRows_inj h1, h2, h3⟩
noncomputable def mAddS := mdl okAd (fun x => [aES x.1, aI x.2.1, aL cVal x.2.2]) (fun x => rES (addL x.1 x.2.1 x.2.2) (addB x.1 x.2.1 x.2.2))
noncomputable def mAddI := mdl okAd (fun x => [aES x.1, aI x.2.1, aL cVal x.2.2]) (fun x => rEI (decide (erasOk x.1)) (addL x.1 x.2.1 x.2.2) (addB x.1 x.2.1 x.2.2))
theorem mAddS_eq (l : List TEra) (f : Int) (v : List TVal) (h1 : okEc l) (h2 : v.length ≤ 1048576) : mAddS [aES l, aI f, aL cVal v] = some (rES (addL l f v) (addB l f v)) := mdl_eq aAd_inj (l, f, v) ⟨h1, h2⟩
theorem mAddI_eq (l : List TEra) (f : Int) (v : List TVal) (h1 : okEc l) (h2 : v.length ≤ 1048576) : mAddI [aES l, aI f, aL cVal v] = some (rEI (decide (erasOk l)) (addL l f v) (addB l f v)) := mdl_eq aAd_inj (l, f, v) ⟨h1, h2⟩
theorem lastOf_ok {l : List TEra} (h : okEc l) : (lastOf l).2.length ≤ 1048576 := by
  unfold lastOf eraD
  rw [List.getD_eq_getElem?_getD]
  by_cases hk : l.length - 1 < l.length
  · rw [List.getElem?_eq_getElem hk]; exact h.2 _ (List.getElem_mem hk)
  · rw [List.getElem?_eq_none (by omega)]; simp
theorem eraRows_snoc (l : List TEra) (f : Int) (v : List TVal) : eraRows l ++ [[.sc (.int .i64 f), .sl (rowsF cVal v)]] = eraRows (l ++ [(f, v)]) := by
  unfold eraRows
  rw [List.map_append]
  rfl
theorem snoc_ok {l : List TEra} {f : Int} {v : List TVal} (h1 : okEc l) (h2 : v.length ≤ 1048576) : okES (l ++ [(f, v)]) := by
  refine ⟨by have := h1.1; rw [List.length_append, List.length_singleton]; omega, fun e he => ?_⟩
  rcases List.mem_append.1 he with he | he
  · exact h1.es.2 e he
  · rw [List.mem_singleton.1 he]
    show v.length ≤ _
    omega
theorem addS_s : Sound Try.prog 17 mAddS := by
  refine Sound.mdl Try.func17 rfl Try.ntmps17 ?_
  rintro ⟨l, f, v⟩ w ⟨hl, hv⟩
  refine ⟨by simp, ?_⟩
  dsimp only at hl hv
  have hΓ : GSound Try.prog (look [(25, mEras), (36, mEqVS), (37, mCopyE)]) := env_cons (has_of Try.func25 rfl rfl) erasS_s (env_cons (has_of Try.func36 rfl rfl) sameVS_s (env_cons (has_of Try.func37 rfl rfl) copyS_s env_nil))
  have hlen := eraRows_len l
  have hll := hl.1
  have hvl := rowsF_len cVal v
  have hvw : wid 2 (rowsF cVal v) := rowsF_wid (f := cVal) (s := 2) (fun _ => rfl) _
  have c1 := mEras_eq l hl.es
  have c2 := mCopyE_eq l hl
  have c3 := mEras_eq (l ++ [(f, v)]) (snoc_ok hl hv)
  have c4 := mEqVS_eq (lastOf l).2 v (by have := lastOf_ok hl; omega) (by omega)
  have hsn := eraRows_snoc l f v
  have hrow : 0 < l.length → (eraRows l)[l.length - 1]? = some [.sc (.int .i64 (lastOf l).1), .sl (rowsF cVal (lastOf l).2)] := fun h => eraD_row (by omega)
  have hL : addL l f v = if erasOk l then (if tops l v then l else if erasOk (l ++ [(f, v)]) then l ++ [(f, v)] else l) else [] := rfl
  have hB : addB l f v = (decide (erasOk l) && (if tops l v then decide ((lastOf l).1 < f) && decide (f ≤ 1000000) else decide (erasOk (l ++ [(f, v)])))) := rfl
  have ht : tops l v ↔ 0 < l.length ∧ (lastOf l).2 = v := Iff.rfl
  generalize addL l f v = r at *
  generalize addB l f v = b at *
  generalize lastOf l = x at *
  obtain ⟨x1, x2⟩ := x
  dsimp only at c4 hrow hB ht
  have ek : ((l.length : Int) - 1).toNat = l.length - 1 := by omega
  have hok2 : decide (erasOk (l ++ [(f, v)])) = true ↔ erasOk (l ++ [(f, v)]) := decide_eq_true_iff
  generalize decide (erasOk (l ++ [(f, v)])) = ok2 at *
  by_cases h1 : erasOk l
  · rw [decide_eq_true h1, Bool.true_and] at hB
    rw [if_pos h1] at hL
    rw [decide_eq_true h1] at c1
    clear h1
    by_cases h2 : 0 < l.length
    · replace hrow := hrow h2
      by_cases h3 : x2 = v
      · rw [if_pos (ht.2 ⟨h2, h3⟩)] at hB hL
        rw [decide_eq_true h3] at c4
        clear ht c3 h3 hsn
        have hL := Lib.hid hL
        have hB := Lib.hid hB
        simp only [initS, argPV, List.map_cons, List.map_nil, toPL, Nat.zero_add]
        by_cases h4 : x1 < f
        · have h4' : (f > x1) = True := eq_true h4
          by_cases h5 : f ≤ 1000000
          · have hr := Lib.hid (hB.out.trans (by simp [h4, h5] : _ = true))
            clear hB
            repeat (first | with_reducible apply W.seq | with_reducible apply W.block | with_reducible apply W.skip | with_reducible apply W.exit | with_reducible apply W.ret | with_reducible apply At.seqN | with_reducible apply At.blkN | with_reducible apply At.blkE | with_reducible apply At.blkR | with_reducible apply At.thenX | with_reducible apply At.thenR | with_reducible apply At.blkX rfl | ((with_reducible apply W.ops); (repeat (first | refine WL.opA hΓ (h := ?_) | refine WL.opX hΓ (h := ?_) | refine WL.opY (h := ?_) | refine WL.opZ (h := ?_))); with_reducible apply WL.nil) | refine W.condT (h := ?_) | refine W.condF (h := ?_))
            refine W.drawsA hΓ 16 [[], [0], [], [], [], [4], [3, 4, 5], [3, 4, 5, 6], [3, 4, 5, 6, 7], [2, 3, 4, 5, 6, 7, 8], [0, 1, 2, 3, 4, 5, 6, 7, 8, 9], [0, 1, 2, 3, 4, 5, 6, 7, 8, 9, 10], [0, 1, 2, 3, 4, 5, 6, 7, 8, 9, 10, 11], [0, 1, 2, 3, 4, 5, 6, 7, 8, 9, 10, 11, 12], [0, 1, 2, 3, 4, 5, 6, 7, 8, 9, 10], [0, 1, 2, 3, 4, 5, 6, 7, 8, 9, 10, 11, 12, 13, 14]] (rest := ?rest4) (Es := ?Es4) (st1 := ?st14) (h := ?h4) (hf := ?hf4) (hp := ?hp4) (hd := ?hd4) (hfr := ?hfr4) (hst := ?hst4) (hT := ?hT4)
            case h4 => kernel_rfl
            case hf4 =>
              repeat (first | refine FlowT.opA (h := ?_) | refine FlowT.opX (h := ?_) | refine FlowT.opY (h := ?_) | refine FlowT.opZ (h := ?_))
              exact FlowT.done
            case hp4 => rfl
            case hd4 => rfl
            case hfr4 => rfl
            case hst4 =>
              simp only [pick_nil, pick_all, List.cons_append, List.nil_append]
              rfl
            (repeat (first | refine WL.opA hΓ (h := ?_) | refine WL.opX hΓ (h := ?_) | refine WL.opY (h := ?_) | refine WL.opZ (h := ?_)))
            with_reducible apply WL.nil
            repeat (first | with_reducible apply W.seq | with_reducible apply W.block | with_reducible apply W.skip | with_reducible apply W.exit | with_reducible apply W.ret | with_reducible apply At.seqN | with_reducible apply At.blkN | with_reducible apply At.blkE | with_reducible apply At.blkR | with_reducible apply At.thenX | with_reducible apply At.thenR | with_reducible apply At.blkX rfl | ((with_reducible apply W.ops); (repeat (first | refine WL.opA hΓ (h := ?_) | refine WL.opX hΓ (h := ?_) | refine WL.opY (h := ?_) | refine WL.opZ (h := ?_))); with_reducible apply WL.nil) | refine W.condT (h := ?_) | refine W.condF (h := ?_))
            refine At.retA (by rw [Try.results17]) (he := ?_)
            rw [hL.out, hr.out]
          · have hr := Lib.hid (hB.out.trans (by simp [h4, h5] : _ = false))
            clear hB
            repeat (first | with_reducible apply W.seq | with_reducible apply W.block | with_reducible apply W.skip | with_reducible apply W.exit | with_reducible apply W.ret | with_reducible apply At.seqN | with_reducible apply At.blkN | with_reducible apply At.blkE | with_reducible apply At.blkR | with_reducible apply At.thenX | with_reducible apply At.thenR | with_reducible apply At.blkX rfl | ((with_reducible apply W.ops); (repeat (first | refine WL.opA hΓ (h := ?_) | refine WL.opX hΓ (h := ?_) | refine WL.opY (h := ?_) | refine WL.opZ (h := ?_))); with_reducible apply WL.nil) | refine W.condT (h := ?_) | refine W.condF (h := ?_))
            refine W.drawsA hΓ 16 [[], [0], [], [], [], [4], [3, 4, 5], [3, 4, 5, 6], [3, 4, 5, 6, 7], [2, 3, 4, 5, 6, 7, 8], [0, 1, 2, 3, 4, 5, 6, 7, 8, 9], [0, 1, 2, 3, 4, 5, 6, 7, 8, 9, 10], [0, 1, 2, 3, 4, 5, 6, 7, 8, 9, 10, 11], [0, 1, 2, 3, 4, 5, 6, 7, 8, 9, 10, 11, 12], [0, 1, 2, 3, 4, 5, 6, 7, 8, 9, 10], [0, 1, 2, 3, 4, 5, 6, 7, 8, 9, 10, 11, 12, 13, 14]] (rest := ?rest8) (Es := ?Es8) (st1 := ?st18) (h := ?h8) (hf := ?hf8) (hp := ?hp8) (hd := ?hd8) (hfr := ?hfr8) (hst := ?hst8) (hT := ?hT8)
            case h8 => kernel_rfl
            case hf8 =>
              repeat (first | refine FlowT.opA (h := ?_) | refine FlowT.opX (h := ?_) | refine FlowT.opY (h := ?_) | refine FlowT.opZ (h := ?_))
              exact FlowT.done
            case hp8 => rfl
            case hd8 => rfl
            case hfr8 => rfl
            case hst8 =>
              simp only [pick_nil, pick_all, List.cons_append, List.nil_append]
              rfl
            (repeat (first | refine WL.opA hΓ (h := ?_) | refine WL.opX hΓ (h := ?_) | refine WL.opY (h := ?_) | refine WL.opZ (h := ?_)))
            with_reducible apply WL.nil
            repeat (first | with_reducible apply W.seq | with_reducible apply W.block | with_reducible apply W.skip | with_reducible apply W.exit | with_reducible apply W.ret | with_reducible apply At.seqN | with_reducible apply At.blkN | with_reducible apply At.blkE | with_reducible apply At.blkR | with_reducible apply At.thenX | with_reducible apply At.thenR | with_reducible apply At.blkX rfl | ((with_reducible apply W.ops); (repeat (first | refine WL.opA hΓ (h := ?_) | refine WL.opX hΓ (h := ?_) | refine WL.opY (h := ?_) | refine WL.opZ (h := ?_))); with_reducible apply WL.nil) | refine W.condT (h := ?_) | refine W.condF (h := ?_))
            refine At.retA (by rw [Try.results17]) (he := ?_)
            rw [hL.out, hr.out]
        · have hr := Lib.hid (hB.out.trans (by simp [h4] : _ = false))
          clear hB
          repeat (first | with_reducible apply W.seq | with_reducible apply W.block | with_reducible apply W.skip | with_reducible apply W.exit | with_reducible apply W.ret | with_reducible apply At.seqN | with_reducible apply At.blkN | with_reducible apply At.blkE | with_reducible apply At.blkR | with_reducible apply At.thenX | with_reducible apply At.thenR | with_reducible apply At.blkX rfl | ((with_reducible apply W.ops); (repeat (first | refine WL.opA hΓ (h := ?_) | refine WL.opX hΓ (h := ?_) | refine WL.opY (h := ?_) | refine WL.opZ (h := ?_))); with_reducible apply WL.nil) | refine W.condT (h := ?_) | refine W.condF (h := ?_))
          refine W.drawsA hΓ 16 [[], [0], [], [], [], [4], [3, 4, 5], [3, 4, 5, 6], [3, 4, 5, 6, 7], [2, 3, 4, 5, 6, 7, 8], [0, 1, 2, 3, 4, 5, 6, 7, 8, 9], [0, 1, 2, 3, 4, 5, 6, 7, 8, 9, 10], [0, 1, 2, 3, 4, 5, 6, 7, 8, 9, 10, 11], [0, 1, 2, 3, 4, 5, 6, 7, 8, 9, 10, 11, 12], [0, 1, 2, 3, 4, 5, 6, 7, 8, 9, 10], [0, 1, 2, 3, 4, 5, 6, 7, 8, 9, 10, 11, 12, 13, 14]] (rest := ?rest12) (Es := ?Es12) (st1 := ?st112) (h := ?h12) (hf := ?hf12) (hp := ?hp12) (hd := ?hd12) (hfr := ?hfr12) (hst := ?hst12) (hT := ?hT12)
          case h12 => kernel_rfl
          case hf12 =>
            repeat (first | refine FlowT.opA (h := ?_) | refine FlowT.opX (h := ?_) | refine FlowT.opY (h := ?_) | refine FlowT.opZ (h := ?_))
            exact FlowT.done
          case hp12 => rfl
          case hd12 => rfl
          case hfr12 => rfl
          case hst12 =>
            simp only [pick_nil, pick_all, List.cons_append, List.nil_append]
            rfl
          (repeat (first | refine WL.opA hΓ (h := ?_) | refine WL.opX hΓ (h := ?_) | refine WL.opY (h := ?_) | refine WL.opZ (h := ?_)))
          with_reducible apply WL.nil
          repeat (first | with_reducible apply W.seq | with_reducible apply W.block | with_reducible apply W.skip | with_reducible apply W.exit | with_reducible apply W.ret | with_reducible apply At.seqN | with_reducible apply At.blkN | with_reducible apply At.blkE | with_reducible apply At.blkR | with_reducible apply At.thenX | with_reducible apply At.thenR | with_reducible apply At.blkX rfl | ((with_reducible apply W.ops); (repeat (first | refine WL.opA hΓ (h := ?_) | refine WL.opX hΓ (h := ?_) | refine WL.opY (h := ?_) | refine WL.opZ (h := ?_))); with_reducible apply WL.nil) | refine W.condT (h := ?_) | refine W.condF (h := ?_))
          refine At.retA (by rw [Try.results17]) (he := ?_)
          rw [hL.out, hr.out]
      · rw [if_neg (fun h => h3 (ht.1 h).2)] at hB hL
        rw [decide_eq_false h3] at c4
        clear ht h3
        have hB := Lib.hid hB
        cases hk2 : ok2 with
        | true =>
          rw [hk2] at c3 hB
          have hL := Lib.hid (hL.trans (if_pos (hok2.1 hk2)))
          clear hk2 hok2
          simp only [initS, argPV, List.map_cons, List.map_nil, toPL, Nat.zero_add]
          repeat (first | with_reducible apply W.seq | with_reducible apply W.block | with_reducible apply W.skip | with_reducible apply W.exit | with_reducible apply W.ret | with_reducible apply At.seqN | with_reducible apply At.blkN | with_reducible apply At.blkE | with_reducible apply At.blkR | with_reducible apply At.thenX | with_reducible apply At.thenR | with_reducible apply At.blkX rfl | ((with_reducible apply W.ops); (repeat (first | refine WL.opA hΓ (h := ?_) | refine WL.opX hΓ (h := ?_) | refine WL.opY (h := ?_) | refine WL.opZ (h := ?_))); with_reducible apply WL.nil) | refine W.condT (h := ?_) | refine W.condF (h := ?_))
          refine At.retA (by rw [Try.results17]) (he := ?_)
          rw [hL.out, hB.out]
        | false =>
          rw [hk2] at c3 hB
          have hL := Lib.hid (hL.trans (if_neg (fun h => by rw [hok2.2 h] at hk2; cases hk2)))
          clear hk2 hok2
          simp only [initS, argPV, List.map_cons, List.map_nil, toPL, Nat.zero_add]
          repeat (first | with_reducible apply W.seq | with_reducible apply W.block | with_reducible apply W.skip | with_reducible apply W.exit | with_reducible apply W.ret | with_reducible apply At.seqN | with_reducible apply At.blkN | with_reducible apply At.blkE | with_reducible apply At.blkR | with_reducible apply At.thenX | with_reducible apply At.thenR | with_reducible apply At.blkX rfl | ((with_reducible apply W.ops); (repeat (first | refine WL.opA hΓ (h := ?_) | refine WL.opX hΓ (h := ?_) | refine WL.opY (h := ?_) | refine WL.opZ (h := ?_))); with_reducible apply WL.nil) | refine W.condT (h := ?_) | refine W.condF (h := ?_))
          refine At.retA (by rw [Try.results17]) (he := ?_)
          rw [hL.out, hB.out]
    · rw [if_neg (fun h => h2 (ht.1 h).1)] at hB hL
      clear ht hrow
      have hB := Lib.hid hB
      cases hk2 : ok2 with
      | true =>
        rw [hk2] at c3 hB
        have hL := Lib.hid (hL.trans (if_pos (hok2.1 hk2)))
        clear hk2 hok2
        simp only [initS, argPV, List.map_cons, List.map_nil, toPL, Nat.zero_add]
        repeat (first | with_reducible apply W.seq | with_reducible apply W.block | with_reducible apply W.skip | with_reducible apply W.exit | with_reducible apply W.ret | with_reducible apply At.seqN | with_reducible apply At.blkN | with_reducible apply At.blkE | with_reducible apply At.blkR | with_reducible apply At.thenX | with_reducible apply At.thenR | with_reducible apply At.blkX rfl | ((with_reducible apply W.ops); (repeat (first | refine WL.opA hΓ (h := ?_) | refine WL.opX hΓ (h := ?_) | refine WL.opY (h := ?_) | refine WL.opZ (h := ?_))); with_reducible apply WL.nil) | refine W.condT (h := ?_) | refine W.condF (h := ?_))
        refine At.retA (by rw [Try.results17]) (he := ?_)
        rw [hL.out, hB.out]
      | false =>
        rw [hk2] at c3 hB
        have hL := Lib.hid (hL.trans (if_neg (fun h => by rw [hok2.2 h] at hk2; cases hk2)))
        clear hk2 hok2
        simp only [initS, argPV, List.map_cons, List.map_nil, toPL, Nat.zero_add]
        repeat (first | with_reducible apply W.seq | with_reducible apply W.block | with_reducible apply W.skip | with_reducible apply W.exit | with_reducible apply W.ret | with_reducible apply At.seqN | with_reducible apply At.blkN | with_reducible apply At.blkE | with_reducible apply At.blkR | with_reducible apply At.thenX | with_reducible apply At.thenR | with_reducible apply At.blkX rfl | ((with_reducible apply W.ops); (repeat (first | refine WL.opA hΓ (h := ?_) | refine WL.opX hΓ (h := ?_) | refine WL.opY (h := ?_) | refine WL.opZ (h := ?_))); with_reducible apply WL.nil) | refine W.condT (h := ?_) | refine W.condF (h := ?_))
        refine At.retA (by rw [Try.results17]) (he := ?_)
        rw [hL.out, hB.out]
  · rw [decide_eq_false h1, Bool.false_and] at hB
    rw [if_neg h1] at hL
    rw [decide_eq_false h1] at c1
    have hr1 := Lib.hid hL
    have hr2 := Lib.hid hB
    clear h1 hL hB ht hrow hsn c3
    simp only [initS, argPV, List.map_cons, List.map_nil, toPL, Nat.zero_add]
    repeat (first | with_reducible apply W.seq | with_reducible apply W.block | with_reducible apply W.skip | with_reducible apply W.exit | with_reducible apply W.ret | with_reducible apply At.seqN | with_reducible apply At.blkN | with_reducible apply At.blkE | with_reducible apply At.blkR | with_reducible apply At.thenX | with_reducible apply At.thenR | with_reducible apply At.blkX rfl | ((with_reducible apply W.ops); (repeat (first | refine WL.opA hΓ (h := ?_) | refine WL.opX hΓ (h := ?_) | refine WL.opY (h := ?_) | refine WL.opZ (h := ?_))); with_reducible apply WL.nil) | refine W.condT (h := ?_) | refine W.condF (h := ?_))
    refine At.toNd 13 (h := ?_)
    refine At.retA (by rw [Try.results17]) (he := ?_)
    rw [hr1.out, hr2.out]
    rfl
theorem addI_s : Sound Try.prog 19 mAddI := by
  refine Sound.mdl Try.func19 rfl Try.ntmps19 ?_
  rintro ⟨l, f, v⟩ w ⟨hl, hv⟩
  refine ⟨by simp, ?_⟩
  dsimp only at hl hv
  have hΓ : GSound Try.prog (look [(32, mEras), (39, mEqVS), (40, mCopyE), (33, mCopyV)]) := env_cons (has_of Try.func32 rfl rfl) erasI_s (env_cons (has_of Try.func39 rfl rfl) eqSl_s (env_cons (has_of Try.func40 rfl rfl) copyE_s (env_cons (has_of Try.func33 rfl rfl) copyV_s env_nil)))
  have hlen := eraRows_len l
  have hll := hl.1
  have hvl := rowsF_len cVal v
  have hvw : wid 2 (rowsF cVal v) := rowsF_wid (f := cVal) (s := 2) (fun _ => rfl) _
  have c1 := mEras_eq l hl.es
  have c2 := mCopyE_eq l hl
  have c3 := mEras_eq (l ++ [(f, v)]) (snoc_ok hl hv)
  have c4 := mEqVS_eq (lastOf l).2 v (by have := lastOf_ok hl; omega) (by omega)
  have c5 := mCopyV_eq v hv
  have hsn := eraRows_snoc l f v
  have hrow : 0 < l.length → (eraRows l)[l.length - 1]? = some [.sc (.int .i64 (lastOf l).1), .sl (rowsF cVal (lastOf l).2)] := fun h => eraD_row (by omega)
  have hL : addL l f v = if erasOk l then (if tops l v then l else if erasOk (l ++ [(f, v)]) then l ++ [(f, v)] else l) else [] := rfl
  have hB : addB l f v = (decide (erasOk l) && (if tops l v then decide ((lastOf l).1 < f) && decide (f ≤ 1000000) else decide (erasOk (l ++ [(f, v)])))) := rfl
  have ht : tops l v ↔ 0 < l.length ∧ (lastOf l).2 = v := Iff.rfl
  generalize addL l f v = r at *
  generalize addB l f v = b at *
  generalize lastOf l = x at *
  obtain ⟨x1, x2⟩ := x
  dsimp only at c4 hrow hB ht
  have ek : ((l.length : Int) - 1).toNat = l.length - 1 := by omega
  have hok2 : decide (erasOk (l ++ [(f, v)])) = true ↔ erasOk (l ++ [(f, v)]) := decide_eq_true_iff
  generalize decide (erasOk (l ++ [(f, v)])) = ok2 at *
  by_cases h1 : erasOk l
  · rw [decide_eq_true h1, Bool.true_and] at hB
    rw [if_pos h1] at hL
    rw [decide_eq_true h1] at c1
    rw [decide_eq_true h1]
    clear h1
    by_cases h2 : 0 < l.length
    · replace hrow := hrow h2
      by_cases h3 : x2 = v
      · rw [if_pos (ht.2 ⟨h2, h3⟩)] at hB hL
        rw [decide_eq_true h3] at c4
        clear ht c3 h3 hsn
        have hL := Lib.hid hL
        have hB := Lib.hid hB
        simp only [initS, argPV, List.map_cons, List.map_nil, toPL, Nat.zero_add]
        by_cases h4 : x1 < f
        · have h4' : (f > x1) = True := eq_true h4
          by_cases h5 : f ≤ 1000000
          · have hr := Lib.hid (hB.out.trans (by simp [h4, h5] : _ = true))
            clear hB
            repeat (first | with_reducible apply W.seq | with_reducible apply W.block | with_reducible apply W.skip | with_reducible apply W.exit | with_reducible apply W.ret | with_reducible apply At.seqN | with_reducible apply At.blkN | with_reducible apply At.blkE | with_reducible apply At.blkR | with_reducible apply At.thenX | with_reducible apply At.thenR | with_reducible apply At.blkX rfl | ((with_reducible apply W.ops); (repeat (first | refine WL.opA hΓ (h := ?_) | refine WL.opX hΓ (h := ?_) | refine WL.opY (h := ?_) | refine WL.opZ (h := ?_))); with_reducible apply WL.nil) | refine W.condT (h := ?_) | refine W.condF (h := ?_))
            refine W.drawsA hΓ 16 [[], [0], [], [], [], [4], [3, 4, 5], [3, 4, 5, 6], [3, 4, 5, 6, 7], [2, 3, 4, 5, 6, 7, 8], [0, 1, 2, 3, 4, 5, 6, 7, 8, 9], [0, 1, 2, 3, 4, 5, 6, 7, 8, 9, 10], [0, 1, 2, 3, 4, 5, 6, 7, 8, 9, 10, 11], [0, 1, 2, 3, 4, 5, 6, 7, 8, 9, 10, 11, 12], [0, 1, 2, 3, 4, 5, 6, 7, 8, 9, 10], [0, 1, 2, 3, 4, 5, 6, 7, 8, 9, 10, 11, 12, 13, 14]] (rest := ?rest33) (Es := ?Es33) (st1 := ?st133) (h := ?h33) (hf := ?hf33) (hp := ?hp33) (hd := ?hd33) (hfr := ?hfr33) (hst := ?hst33) (hT := ?hT33)
            case h33 => kernel_rfl
            case hf33 =>
              repeat (first | refine FlowT.opA (h := ?_) | refine FlowT.opX (h := ?_) | refine FlowT.opY (h := ?_) | refine FlowT.opZ (h := ?_))
              exact FlowT.done
            case hp33 => rfl
            case hd33 => rfl
            case hfr33 => rfl
            case hst33 =>
              simp only [pick_nil, pick_all, List.cons_append, List.nil_append]
              rfl
            (repeat (first | refine WL.opA hΓ (h := ?_) | refine WL.opX hΓ (h := ?_) | refine WL.opY (h := ?_) | refine WL.opZ (h := ?_)))
            with_reducible apply WL.nil
            repeat (first | with_reducible apply W.seq | with_reducible apply W.block | with_reducible apply W.skip | with_reducible apply W.exit | with_reducible apply W.ret | with_reducible apply At.seqN | with_reducible apply At.blkN | with_reducible apply At.blkE | with_reducible apply At.blkR | with_reducible apply At.thenX | with_reducible apply At.thenR | with_reducible apply At.blkX rfl | ((with_reducible apply W.ops); (repeat (first | refine WL.opA hΓ (h := ?_) | refine WL.opX hΓ (h := ?_) | refine WL.opY (h := ?_) | refine WL.opZ (h := ?_))); with_reducible apply WL.nil) | refine W.condT (h := ?_) | refine W.condF (h := ?_))
            refine At.retA (by rw [Try.results19]) (he := ?_)
            rw [hL.out, hr.out]
          · have hr := Lib.hid (hB.out.trans (by simp [h4, h5] : _ = false))
            clear hB
            repeat (first | with_reducible apply W.seq | with_reducible apply W.block | with_reducible apply W.skip | with_reducible apply W.exit | with_reducible apply W.ret | with_reducible apply At.seqN | with_reducible apply At.blkN | with_reducible apply At.blkE | with_reducible apply At.blkR | with_reducible apply At.thenX | with_reducible apply At.thenR | with_reducible apply At.blkX rfl | ((with_reducible apply W.ops); (repeat (first | refine WL.opA hΓ (h := ?_) | refine WL.opX hΓ (h := ?_) | refine WL.opY (h := ?_) | refine WL.opZ (h := ?_))); with_reducible apply WL.nil) | refine W.condT (h := ?_) | refine W.condF (h := ?_))
            refine W.drawsA hΓ 16 [[], [0], [], [], [], [4], [3, 4, 5], [3, 4, 5, 6], [3, 4, 5, 6, 7], [2, 3, 4, 5, 6, 7, 8], [0, 1, 2, 3, 4, 5, 6, 7, 8, 9], [0, 1, 2, 3, 4, 5, 6, 7, 8, 9, 10], [0, 1, 2, 3, 4, 5, 6, 7, 8, 9, 10, 11], [0, 1, 2, 3, 4, 5, 6, 7, 8, 9, 10, 11, 12], [0, 1, 2, 3, 4, 5, 6, 7, 8, 9, 10], [0, 1, 2, 3, 4, 5, 6, 7, 8, 9, 10, 11, 12, 13, 14]] (rest := ?rest37) (Es := ?Es37) (st1 := ?st137) (h := ?h37) (hf := ?hf37) (hp := ?hp37) (hd := ?hd37) (hfr := ?hfr37) (hst := ?hst37) (hT := ?hT37)
            case h37 => kernel_rfl
            case hf37 =>
              repeat (first | refine FlowT.opA (h := ?_) | refine FlowT.opX (h := ?_) | refine FlowT.opY (h := ?_) | refine FlowT.opZ (h := ?_))
              exact FlowT.done
            case hp37 => rfl
            case hd37 => rfl
            case hfr37 => rfl
            case hst37 =>
              simp only [pick_nil, pick_all, List.cons_append, List.nil_append]
              rfl
            (repeat (first | refine WL.opA hΓ (h := ?_) | refine WL.opX hΓ (h := ?_) | refine WL.opY (h := ?_) | refine WL.opZ (h := ?_)))
            with_reducible apply WL.nil
            repeat (first | with_reducible apply W.seq | with_reducible apply W.block | with_reducible apply W.skip | with_reducible apply W.exit | with_reducible apply W.ret | with_reducible apply At.seqN | with_reducible apply At.blkN | with_reducible apply At.blkE | with_reducible apply At.blkR | with_reducible apply At.thenX | with_reducible apply At.thenR | with_reducible apply At.blkX rfl | ((with_reducible apply W.ops); (repeat (first | refine WL.opA hΓ (h := ?_) | refine WL.opX hΓ (h := ?_) | refine WL.opY (h := ?_) | refine WL.opZ (h := ?_))); with_reducible apply WL.nil) | refine W.condT (h := ?_) | refine W.condF (h := ?_))
            refine At.retA (by rw [Try.results19]) (he := ?_)
            rw [hL.out, hr.out]
        · have hr := Lib.hid (hB.out.trans (by simp [h4] : _ = false))
          clear hB
          repeat (first | with_reducible apply W.seq | with_reducible apply W.block | with_reducible apply W.skip | with_reducible apply W.exit | with_reducible apply W.ret | with_reducible apply At.seqN | with_reducible apply At.blkN | with_reducible apply At.blkE | with_reducible apply At.blkR | with_reducible apply At.thenX | with_reducible apply At.thenR | with_reducible apply At.blkX rfl | ((with_reducible apply W.ops); (repeat (first | refine WL.opA hΓ (h := ?_) | refine WL.opX hΓ (h := ?_) | refine WL.opY (h := ?_) | refine WL.opZ (h := ?_))); with_reducible apply WL.nil) | refine W.condT (h := ?_) | refine W.condF (h := ?_))
          refine W.drawsA hΓ 16 [[], [0], [], [], [], [4], [3, 4, 5], [3, 4, 5, 6], [3, 4, 5, 6, 7], [2, 3, 4, 5, 6, 7, 8], [0, 1, 2, 3, 4, 5, 6, 7, 8, 9], [0, 1, 2, 3, 4, 5, 6, 7, 8, 9, 10], [0, 1, 2, 3, 4, 5, 6, 7, 8, 9, 10, 11], [0, 1, 2, 3, 4, 5, 6, 7, 8, 9, 10, 11, 12], [0, 1, 2, 3, 4, 5, 6, 7, 8, 9, 10], [0, 1, 2, 3, 4, 5, 6, 7, 8, 9, 10, 11, 12, 13, 14]] (rest := ?rest41) (Es := ?Es41) (st1 := ?st141) (h := ?h41) (hf := ?hf41) (hp := ?hp41) (hd := ?hd41) (hfr := ?hfr41) (hst := ?hst41) (hT := ?hT41)
          case h41 => kernel_rfl
          case hf41 =>
            repeat (first | refine FlowT.opA (h := ?_) | refine FlowT.opX (h := ?_) | refine FlowT.opY (h := ?_) | refine FlowT.opZ (h := ?_))
            exact FlowT.done
          case hp41 => rfl
          case hd41 => rfl
          case hfr41 => rfl
          case hst41 =>
            simp only [pick_nil, pick_all, List.cons_append, List.nil_append]
            rfl
          (repeat (first | refine WL.opA hΓ (h := ?_) | refine WL.opX hΓ (h := ?_) | refine WL.opY (h := ?_) | refine WL.opZ (h := ?_)))
          with_reducible apply WL.nil
          repeat (first | with_reducible apply W.seq | with_reducible apply W.block | with_reducible apply W.skip | with_reducible apply W.exit | with_reducible apply W.ret | with_reducible apply At.seqN | with_reducible apply At.blkN | with_reducible apply At.blkE | with_reducible apply At.blkR | with_reducible apply At.thenX | with_reducible apply At.thenR | with_reducible apply At.blkX rfl | ((with_reducible apply W.ops); (repeat (first | refine WL.opA hΓ (h := ?_) | refine WL.opX hΓ (h := ?_) | refine WL.opY (h := ?_) | refine WL.opZ (h := ?_))); with_reducible apply WL.nil) | refine W.condT (h := ?_) | refine W.condF (h := ?_))
          refine At.retA (by rw [Try.results19]) (he := ?_)
          rw [hL.out, hr.out]
      · rw [if_neg (fun h => h3 (ht.1 h).2)] at hB hL
        rw [decide_eq_false h3] at c4
        clear ht h3
        have hB := Lib.hid hB
        cases hk2 : ok2 with
        | true =>
          rw [hk2] at c3 hB
          have hL := Lib.hid (hL.trans (if_pos (hok2.1 hk2)))
          clear hk2 hok2
          simp only [initS, argPV, List.map_cons, List.map_nil, toPL, Nat.zero_add]
          repeat (first | with_reducible apply W.seq | with_reducible apply W.block | with_reducible apply W.skip | with_reducible apply W.exit | with_reducible apply W.ret | with_reducible apply At.seqN | with_reducible apply At.blkN | with_reducible apply At.blkE | with_reducible apply At.blkR | with_reducible apply At.thenX | with_reducible apply At.thenR | with_reducible apply At.blkX rfl | ((with_reducible apply W.ops); (repeat (first | refine WL.opA hΓ (h := ?_) | refine WL.opX hΓ (h := ?_) | refine WL.opY (h := ?_) | refine WL.opZ (h := ?_))); with_reducible apply WL.nil) | refine W.condT (h := ?_) | refine W.condF (h := ?_))
          refine At.retA (by rw [Try.results19]) (he := ?_)
          rw [hL.out, hB.out]
        | false =>
          rw [hk2] at c3 hB
          have hL := Lib.hid (hL.trans (if_neg (fun h => by rw [hok2.2 h] at hk2; cases hk2)))
          clear hk2 hok2
          simp only [initS, argPV, List.map_cons, List.map_nil, toPL, Nat.zero_add]
          repeat (first | with_reducible apply W.seq | with_reducible apply W.block | with_reducible apply W.skip | with_reducible apply W.exit | with_reducible apply W.ret | with_reducible apply At.seqN | with_reducible apply At.blkN | with_reducible apply At.blkE | with_reducible apply At.blkR | with_reducible apply At.thenX | with_reducible apply At.thenR | with_reducible apply At.blkX rfl | ((with_reducible apply W.ops); (repeat (first | refine WL.opA hΓ (h := ?_) | refine WL.opX hΓ (h := ?_) | refine WL.opY (h := ?_) | refine WL.opZ (h := ?_))); with_reducible apply WL.nil) | refine W.condT (h := ?_) | refine W.condF (h := ?_))
          refine At.retA (by rw [Try.results19]) (he := ?_)
          rw [hL.out, hB.out]
    · rw [if_neg (fun h => h2 (ht.1 h).1)] at hB hL
      clear ht hrow
      have hB := Lib.hid hB
      cases hk2 : ok2 with
      | true =>
        rw [hk2] at c3 hB
        have hL := Lib.hid (hL.trans (if_pos (hok2.1 hk2)))
        clear hk2 hok2
        simp only [initS, argPV, List.map_cons, List.map_nil, toPL, Nat.zero_add]
        repeat (first | with_reducible apply W.seq | with_reducible apply W.block | with_reducible apply W.skip | with_reducible apply W.exit | with_reducible apply W.ret | with_reducible apply At.seqN | with_reducible apply At.blkN | with_reducible apply At.blkE | with_reducible apply At.blkR | with_reducible apply At.thenX | with_reducible apply At.thenR | with_reducible apply At.blkX rfl | ((with_reducible apply W.ops); (repeat (first | refine WL.opA hΓ (h := ?_) | refine WL.opX hΓ (h := ?_) | refine WL.opY (h := ?_) | refine WL.opZ (h := ?_))); with_reducible apply WL.nil) | refine W.condT (h := ?_) | refine W.condF (h := ?_))
        refine At.retA (by rw [Try.results19]) (he := ?_)
        rw [hL.out, hB.out]
      | false =>
        rw [hk2] at c3 hB
        have hL := Lib.hid (hL.trans (if_neg (fun h => by rw [hok2.2 h] at hk2; cases hk2)))
        clear hk2 hok2
        simp only [initS, argPV, List.map_cons, List.map_nil, toPL, Nat.zero_add]
        repeat (first | with_reducible apply W.seq | with_reducible apply W.block | with_reducible apply W.skip | with_reducible apply W.exit | with_reducible apply W.ret | with_reducible apply At.seqN | with_reducible apply At.blkN | with_reducible apply At.blkE | with_reducible apply At.blkR | with_reducible apply At.thenX | with_reducible apply At.thenR | with_reducible apply At.blkX rfl | ((with_reducible apply W.ops); (repeat (first | refine WL.opA hΓ (h := ?_) | refine WL.opX hΓ (h := ?_) | refine WL.opY (h := ?_) | refine WL.opZ (h := ?_))); with_reducible apply WL.nil) | refine W.condT (h := ?_) | refine W.condF (h := ?_))
        refine At.retA (by rw [Try.results19]) (he := ?_)
        rw [hL.out, hB.out]
  · rw [decide_eq_false h1, Bool.false_and] at hB
    rw [if_neg h1] at hL
    rw [decide_eq_false h1] at c1
    rw [decide_eq_false h1]
    have hr1 := Lib.hid hL
    have hr2 := Lib.hid hB
    clear h1 hL hB ht hrow hsn c3
    simp only [initS, argPV, List.map_cons, List.map_nil, toPL, Nat.zero_add]
    repeat (first | with_reducible apply W.seq | with_reducible apply W.block | with_reducible apply W.skip | with_reducible apply W.exit | with_reducible apply W.ret | with_reducible apply At.seqN | with_reducible apply At.blkN | with_reducible apply At.blkE | with_reducible apply At.blkR | with_reducible apply At.thenX | with_reducible apply At.thenR | with_reducible apply At.blkX rfl | ((with_reducible apply W.ops); (repeat (first | refine WL.opA hΓ (h := ?_) | refine WL.opX hΓ (h := ?_) | refine WL.opY (h := ?_) | refine WL.opZ (h := ?_))); with_reducible apply WL.nil) | refine W.condT (h := ?_) | refine W.condF (h := ?_))
    refine At.retA (by rw [Try.results19]) (he := ?_)
    rw [hr2.out]
end Go.Proofs.Ytimnogjgokljbaa
