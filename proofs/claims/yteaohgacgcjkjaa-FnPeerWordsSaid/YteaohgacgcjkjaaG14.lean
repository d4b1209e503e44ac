/-
  Put together: FlatHeader FlatReq FlatAddr EvHead.
-/
import Derived.Test.YteaohgacgcjkjaaG7
import Derived.Test.YteaohgacgcjkjaaHEvVar
section
/-!
  Header: its size, copy, equality, mark and held functions, by contracts.
-/
namespace Go.Proofs.Yteaohgacgcjkjaa
set_option maxRecDepth 100000
set_option linter.unusedVariables false
set_option linter.unusedSimpArgs false
open Go.RowKit

abbrev THeader := Int × Int × ByteArray × ByteArray × ByteArray × ByteArray
def cHeader (x : THeader) : List Value := [.int .i64 x.1, .int .i64 x.2.1, .string x.2.2.1, .string x.2.2.2.1, .string x.2.2.2.2.1, .string x.2.2.2.2.2]
def zHeader : List Value := [.int .i64 0, .int .i64 0, .string ByteArray.empty, .string ByteArray.empty, .string ByteArray.empty, .string ByteArray.empty]
def totHeader (x : THeader) : Nat := x.2.2.1.size + x.2.2.2.1.size + x.2.2.2.2.1.size + x.2.2.2.2.2.size
def okHeader (x : THeader) : Prop := x.2.2.1.size ≤ maxLen ∧ x.2.2.2.1.size ≤ maxLen ∧ x.2.2.2.2.1.size ≤ maxLen ∧ x.2.2.2.2.2.size ≤ maxLen




set_option maxHeartbeats 1000000 in
theorem eqHeader_any (x y : THeader) (w : World) :
    Calls Try.prog 60 #[.agg #[.int .i64 x.1, .int .i64 x.2.1, .string x.2.2.1, .string x.2.2.2.1, .string x.2.2.2.2.1, .string x.2.2.2.2.2], .agg #[.int .i64 y.1, .int .i64 y.2.1, .string y.2.2.1, .string y.2.2.2.1, .string y.2.2.2.2.1, .string y.2.2.2.2.2]] w (SaysB (decide (x = y)) w) := by
  go_enter Try.func60, Try.ntmps60
  go_wp2
  all_goals go_ret
  · have h : (x.1 != y.1) = true := by assumption
    exact ⟨ret_bool (Eq.symm (decide_eq_false fun e => by subst e; simp at h)), by go_grown⟩
  · have h : (x.2.1 != y.2.1) = true := by assumption
    exact ⟨ret_bool (Eq.symm (decide_eq_false fun e => by subst e; simp at h)), by go_grown⟩
  · have h : (!x.2.2.1.toList == y.2.2.1.toList) = true := by assumption
    exact ⟨ret_bool (Eq.symm (decide_eq_false fun e => by subst e; simp at h)), by go_grown⟩
  · have h : (!x.2.2.2.1.toList == y.2.2.2.1.toList) = true := by assumption
    exact ⟨ret_bool (Eq.symm (decide_eq_false fun e => by subst e; simp at h)), by go_grown⟩
  · have h : (!x.2.2.2.2.1.toList == y.2.2.2.2.1.toList) = true := by assumption
    exact ⟨ret_bool (Eq.symm (decide_eq_false fun e => by subst e; simp at h)), by go_grown⟩
  · have h : (!x.2.2.2.2.2.toList == y.2.2.2.2.2.toList) = true := by assumption
    exact ⟨ret_bool (Eq.symm (decide_eq_false fun e => by subst e; simp at h)), by go_grown⟩
  · have h0 : (x.1 != y.1) = false := by assumption
    have h1 : (x.2.1 != y.2.1) = false := by assumption
    have h2 : (!x.2.2.1.toList == y.2.2.1.toList) = false := by assumption
    have h3 : (!x.2.2.2.1.toList == y.2.2.2.1.toList) = false := by assumption
    have h4 : (!x.2.2.2.2.1.toList == y.2.2.2.2.1.toList) = false := by assumption
    have h5 : (!x.2.2.2.2.2.toList == y.2.2.2.2.2.toList) = false := by assumption
    have e0 : x.1 = y.1 := by simpa using h0
    have e1 : x.2.1 = y.2.1 := by simpa using h1
    have e2 : x.2.2.1 = y.2.2.1 := ba_inj (by simpa using h2)
    have e3 : x.2.2.2.1 = y.2.2.2.1 := ba_inj (by simpa using h3)
    have e4 : x.2.2.2.2.1 = y.2.2.2.2.1 := ba_inj (by simpa using h4)
    have e5 : x.2.2.2.2.2 = y.2.2.2.2.2 := ba_inj (by simpa using h5)
    exact ⟨ret_bool (Eq.symm (decide_eq_true (Prod.ext e0 (Prod.ext e1 (Prod.ext e2 (Prod.ext e3 (Prod.ext e4 e5))))))), by go_grown⟩



end Go.Proofs.Yteaohgacgcjkjaa

end
section
/-!
  Req: its size, copy, equality, mark and held functions, by contracts.
-/
namespace Go.Proofs.Yteaohgacgcjkjaa
set_option maxRecDepth 100000
set_option linter.unusedVariables false
set_option linter.unusedSimpArgs false
open Go.RowKit

abbrev TReq := Int × Int × Int
def cReq (x : TReq) : List Value := [.int .i64 x.1, .int .i64 x.2.1, .int .i64 x.2.2]
def zReq : List Value := [.int .i64 0, .int .i64 0, .int .i64 0]
def okReq (_ : TReq) : Prop := True



set_option maxHeartbeats 1000000 in
theorem eqReq_any (x y : TReq) (w : World) :
    Calls Try.prog 59 #[.agg #[.int .i64 x.1, .int .i64 x.2.1, .int .i64 x.2.2], .agg #[.int .i64 y.1, .int .i64 y.2.1, .int .i64 y.2.2]] w (SaysB (decide (x = y)) w) := by
  go_enter Try.func59, Try.ntmps59
  go_wp2
  all_goals go_ret
  · have h : (x.1 != y.1) = true := by assumption
    exact ⟨ret_bool (Eq.symm (decide_eq_false fun e => by subst e; simp at h)), by go_grown⟩
  · have h : (x.2.1 != y.2.1) = true := by assumption
    exact ⟨ret_bool (Eq.symm (decide_eq_false fun e => by subst e; simp at h)), by go_grown⟩
  · have h : (x.2.2 != y.2.2) = true := by assumption
    exact ⟨ret_bool (Eq.symm (decide_eq_false fun e => by subst e; simp at h)), by go_grown⟩
  · have h0 : (x.1 != y.1) = false := by assumption
    have h1 : (x.2.1 != y.2.1) = false := by assumption
    have h2 : (x.2.2 != y.2.2) = false := by assumption
    have e0 : x.1 = y.1 := by simpa using h0
    have e1 : x.2.1 = y.2.1 := by simpa using h1
    have e2 : x.2.2 = y.2.2 := by simpa using h2
    exact ⟨ret_bool (Eq.symm (decide_eq_true (Prod.ext e0 (Prod.ext e1 e2)))), by go_grown⟩



end Go.Proofs.Yteaohgacgcjkjaa

end
section
/-!
  Addr: its size, copy, equality, mark and held functions, by contracts.
-/
namespace Go.Proofs.Yteaohgacgcjkjaa
set_option maxRecDepth 100000
set_option linter.unusedVariables false
set_option linter.unusedSimpArgs false
open Go.RowKit

abbrev TAddr := Int × Int
def cAddr (x : TAddr) : List Value := [.int .i64 x.1, .int .i64 x.2]
def zAddr : List Value := [.int .i64 0, .int .i64 0]
def okAddr (_ : TAddr) : Prop := True



set_option maxHeartbeats 1000000 in
theorem eqAddr_any (x y : TAddr) (w : World) :
    Calls Try.prog 85 #[.agg #[.int .i64 x.1, .int .i64 x.2], .agg #[.int .i64 y.1, .int .i64 y.2]] w (SaysB (decide (x = y)) w) := by
  go_enter Try.func85, Try.ntmps85
  go_wp2
  all_goals go_ret
  · have h : (x.1 != y.1) = true := by assumption
    exact ⟨ret_bool (Eq.symm (decide_eq_false fun e => by subst e; simp at h)), by go_grown⟩
  · have h : (x.2 != y.2) = true := by assumption
    exact ⟨ret_bool (Eq.symm (decide_eq_false fun e => by subst e; simp at h)), by go_grown⟩
  · have h0 : (x.1 != y.1) = false := by assumption
    have h1 : (x.2 != y.2) = false := by assumption
    have e0 : x.1 = y.1 := by simpa using h0
    have e1 : x.2 = y.2 := by simpa using h1
    exact ⟨ret_bool (Eq.symm (decide_eq_true (Prod.ext e0 e1))), by go_grown⟩


set_option maxHeartbeats 1000000 in
theorem eqAddrS_any (v1 v2 : Value) (xs ys : List TAddr) (w : World) (h1 : RdS w w.heap.size 2 cAddr v1 xs) (h2 : RdS w w.heap.size 2 cAddr v2 ys) (hn : xs.length ≤ 8796093022207) (hn2 : ys.length ≤ 8796093022207) :
    Calls Try.prog 61 #[v1, v2] w (SaysB (decide (xs = ys)) w) := by
  obtain ⟨A1, c1, rfl, hlc1, hcm1, hcell1⟩ := h1
  obtain ⟨A2, c2, rfl, hlc2, hcm2, hcell2⟩ := h2
  by_cases hl : xs.length = ys.length
  case neg =>
    have hne : decide (xs = ys) = false := by
      simp only [decide_eq_false_iff_not]
      intro e; exact hl (by rw [e])
    rw [hne]
    go_enter Try.func61, Try.ntmps61
    go_wp2
    go_ret
    exact ⟨rfl, Below.refl _ _⟩
  have hl1 : xs.length ≤ ys.length := by omega
  have hl2 : ys.length ≤ xs.length := by omega
  have hb0 : ((xs.length : Int) != ys.length) = false := by simp [hl]
  clear hl
  go_enter Try.func61, Try.ntmps61
  go_wp2
  go_loopw [5] (fun i wr => ∃ k : Nat, k ≤ xs.length ∧ i = .int .i64 k ∧ Below w.heap.size w wr ∧ xs.take k = ys.take k) (fun i _ => xs.length - (intOf i).toNat)
  case atStart => exact ⟨0, Nat.zero_le _, rfl, Below.refl _ _, by simp⟩
  case round =>
    obtain ⟨k, hk, rfl, hb, heq⟩ := hrel
    have HE := Lib.hid heq
    clear heq
    by_cases hlt : k < xs.length
    · obtain ⟨b1, o1, rfl, hbA, hcA⟩ := hcell1 (by intro e; simp [e] at hlt)
      obtain ⟨b2, o2, rfl, hbB, hcB⟩ := hcell2 (by intro e; simp [e] at hl1; simp [hl1] at hlt)
      have hlt2 : k < ys.length := by omega
      have hx0 := (hb.cell (p := ⟨b1, o1 + k * 2 + 0, none⟩) hbA).trans (hcA k _ (List.getElem?_eq_getElem hlt) 0 _ rfl)
      have hy0 := (hb.cell (p := ⟨b2, o2 + k * 2 + 0, none⟩) hbB).trans (hcB k _ (List.getElem?_eq_getElem hlt2) 0 _ rfl)
      have hx1 := (hb.cell (p := ⟨b1, o1 + k * 2 + 1, none⟩) hbA).trans (hcA k _ (List.getElem?_eq_getElem hlt) 1 _ rfl)
      have hy1 := (hb.cell (p := ⟨b2, o2 + k * 2 + 1, none⟩) hbB).trans (hcB k _ (List.getElem?_eq_getElem hlt2) 1 _ rfl)
      simp only [Nat.add_zero] at hx0 hy0
      clear hcA hcB hcell1 hcell2
      go_wp2
      go_still_tail 8, (by kernel_rfl)
      change wpList _ _ _ _ _ wr.drew
      go_wp2_with fail
      refine (eqAddr_any xs[k] ys[k] _).mono ?_
      rintro e w1 ⟨rfl, hb1⟩
      have hb2 := hb.drew.trans (hb1.mono hb.size)
      clear hx0 hy0 hx1 hy1 hb hb1
      by_cases hxy : xs[k] = ys[k]
      · have hd : decide (xs[k] = ys[k]) = true := decide_eq_true hxy
        have HX := Lib.hid hxy
        clear hxy
        rw [hd]
        clear hd
        go_wp2_with fail
        go_roundw
        case rel => exact ⟨k + 1, by omega, by go_num, hb2, by rw [List.take_succ_eq_append_getElem hlt, List.take_succ_eq_append_getElem hlt2, HE.out, HX.out]⟩
        case measure => simp [intOf]; omega
      · have hd : decide (xs[k] = ys[k]) = false := decide_eq_false hxy
        have hne : decide (xs = ys) = false := by
          simp only [decide_eq_false_iff_not]
          intro e; subst e; exact hxy rfl
        have HN := Lib.hid hne
        clear hne hxy
        rw [hd]
        clear hd
        go_wp2_with fail
        go_ret
        exact ⟨ret_bool HN.out.symm, hb2⟩
    · have hall : decide (xs = ys) = true := by
        simp only [decide_eq_true_eq]
        have := HE.out
        rwa [List.take_of_length_le (by omega), List.take_of_length_le (by omega)] at this
      have HN := Lib.hid hall
      clear hall
      go_wp2
      go_ret
      exact ⟨ret_bool HN.out.symm, hb⟩

end Go.Proofs.Yteaohgacgcjkjaa

end
section
/-!
  HeaderOk, ShowHeader, ShowReq, AddrsOk of spec and impl.
-/
namespace Go.Proofs.Yteaohgacgcjkjaa
set_option maxRecDepth 100000
set_option linter.unusedVariables false
set_option linter.unusedSimpArgs false
open Go Go.RowKit
set_option maxHeartbeats 4000000

abbrev aHd (h : THeader) : Arg := .val true [.sc (.int .i64 h.1), .sc (.int .i64 h.2.1), .sc (.string h.2.2.1), .sc (.string h.2.2.2.1), .sc (.string h.2.2.2.2.1), .sc (.string h.2.2.2.2.2)]
abbrev aRq (r : TReq) : Arg := .val true [.sc (.int .i64 r.1), .sc (.int .i64 r.2.1), .sc (.int .i64 r.2.2)]
theorem aHd_inj : ∀ x y : THeader, [aHd x] = [aHd y] → x = y := by
  rintro ⟨a, b, c, d, e, f⟩ ⟨a', b', c', d', e', f'⟩ h
  simpa [aHd] using h
theorem aRq_inj : ∀ x y : TReq, [aRq x] = [aRq y] → x = y := by
  rintro ⟨a, b, c⟩ ⟨a', b', c'⟩ h
  simpa [aRq] using h
def lastN (h : Int) : Int := if h = 1 then 0 else 8
def headOk (h : THeader) : Prop := (1 ≤ h.1 ∧ h.1 ≤ 1000000) ∧ (0 ≤ h.2.1 ∧ h.2.1 ≤ 1000000) ∧ (h.2.2.2.1.size : Int) = 8 ∧ (h.2.2.2.2.1.size : Int) = 8 ∧ (h.2.2.1.size : Int) = lastN h.1 ∧ (h.2.2.2.2.2.size : Int) ≤ 20
instance (h : THeader) : Decidable (headOk h) := by unfold headOk; infer_instance
theorem cases6 (a b c d e f : Prop) : (a ∧ b ∧ c ∧ d ∧ e ∧ f) ∨ ¬ a ∨ (a ∧ ¬ b) ∨ (a ∧ b ∧ ¬ c) ∨ (a ∧ b ∧ c ∧ ¬ d) ∨ (a ∧ b ∧ c ∧ d ∧ ¬ e) ∨ (a ∧ b ∧ c ∧ d ∧ e ∧ ¬ f) := by
  by_cases ha : a <;> by_cases hb : b <;> by_cases hc : c <;> by_cases hd : d <;> by_cases he : e <;> by_cases hf : f <;> simp_all
theorem cases5 (a b c d e : Prop) : (a ∧ b ∧ c ∧ d ∧ e) ∨ ¬ a ∨ (a ∧ ¬ b) ∨ (a ∧ b ∧ ¬ c) ∨ (a ∧ b ∧ c ∧ ¬ d) ∨ (a ∧ b ∧ c ∧ d ∧ ¬ e) := by
  by_cases ha : a <;> by_cases hb : b <;> by_cases hc : c <;> by_cases hd : d <;> by_cases he : e <;> simp_all
theorem cases3 (a b c : Prop) : (a ∧ b ∧ c) ∨ ¬ a ∨ (a ∧ ¬ b) ∨ (a ∧ b ∧ ¬ c) := by
  by_cases ha : a <;> by_cases hb : b <;> by_cases hc : c <;> simp_all
noncomputable def mHead := mdl (fun _ : THeader => True) (fun h => [aHd h]) (fun h => rB (decide (headOk h)))
theorem mHead_eq (h : THeader) : mHead [aHd h] = some (rB (decide (headOk h))) := mdl_eq aHd_inj h trivial
noncomputable def mTime := mdl (fun _ : Int => True) (fun n => [aI n]) (fun n => rB (decide (0 ≤ n ∧ n ≤ 1000000)))
theorem mTime_eq (n : Int) : mTime [aI n] = some (rB (decide (0 ≤ n ∧ n ≤ 1000000))) := mdl_eq (by intro a b h; simpa using h) n trivial
noncomputable def mHeight := mdl (fun _ : Int => True) (fun n => [aI n]) (fun n => rB (decide (1 ≤ n ∧ n ≤ 1000000)))
theorem mHeight_eq (n : Int) : mHeight [aI n] = some (rB (decide (1 ≤ n ∧ n ≤ 1000000))) := mdl_eq (by intro a b h; simpa using h) n trivial
theorem isTime_s : Sound Try.prog 100 mTime := by
  refine Sound.mdl Try.func100 rfl Try.ntmps100 ?_
  rintro n w -
  refine ⟨by simp, ?_⟩
  have hΓ : GSound Try.prog (look [(77, mWithin)]) := env_cons (has_of Try.func77 rfl rfl) within_s env_nil
  have c1 := mWithin_eq n 0 1000000
  simp only [initS, argPV, List.map_cons, List.map_nil, toPL, Nat.zero_add]
  repeat (first | with_reducible (first | apply W.seq | apply W.block | apply W.skip | apply W.exit | apply W.ret | apply At.seqN | apply At.blkN | apply At.blkE | apply At.blkR | apply At.thenX | apply At.thenR | apply At.blkX rfl) | ((with_reducible apply W.ops); (repeat (first | refine WL.opA hΓ (h := ?_) | refine WL.opX hΓ (h := ?_) | refine WL.opY (h := ?_) | refine WL.opZ (h := ?_))); with_reducible apply WL.nil) | refine W.condT (h := ?_) | refine W.condF (h := ?_))
  refine At.retA (by rw [Try.results100]) (he := rfl)
theorem isHeight_s : Sound Try.prog 38 mHeight := by
  refine Sound.mdl Try.func38 rfl Try.ntmps38 ?_
  rintro n w -
  refine ⟨by simp, ?_⟩
  have hΓ : GSound Try.prog (look [(77, mWithin)]) := env_cons (has_of Try.func77 rfl rfl) within_s env_nil
  have c1 := mWithin_eq n 1 1000000
  simp only [initS, argPV, List.map_cons, List.map_nil, toPL, Nat.zero_add]
  repeat (first | with_reducible (first | apply W.seq | apply W.block | apply W.skip | apply W.exit | apply W.ret | apply At.seqN | apply At.blkN | apply At.blkE | apply At.blkR | apply At.thenX | apply At.thenR | apply At.blkX rfl) | ((with_reducible apply W.ops); (repeat (first | refine WL.opA hΓ (h := ?_) | refine WL.opX hΓ (h := ?_) | refine WL.opY (h := ?_) | refine WL.opZ (h := ?_))); with_reducible apply WL.nil) | refine W.condT (h := ?_) | refine W.condF (h := ?_))
  refine At.retA (by rw [Try.results38]) (he := rfl)
theorem l10Time_s : Sound Try.prog 95 mTime := by
  refine Sound.mdl Try.func95 rfl Try.ntmps95 ?_
  rintro n w -
  refine ⟨by simp, ?_⟩
  have hΓ : GSound Try.prog (look [(34, mIn)]) := env_cons (has_of Try.func34 rfl rfl) l1In_s env_nil
  have c1 := mIn_eq n 0 1000000
  simp only [initS, argPV, List.map_cons, List.map_nil, toPL, Nat.zero_add]
  repeat (first | with_reducible (first | apply W.seq | apply W.block | apply W.skip | apply W.exit | apply W.ret | apply At.seqN | apply At.blkN | apply At.blkE | apply At.blkR | apply At.thenX | apply At.thenR | apply At.blkX rfl) | ((with_reducible apply W.ops); (repeat (first | refine WL.opA hΓ (h := ?_) | refine WL.opX hΓ (h := ?_) | refine WL.opY (h := ?_) | refine WL.opZ (h := ?_))); with_reducible apply WL.nil) | refine W.condT (h := ?_) | refine W.condF (h := ?_))
  refine At.retA (by rw [Try.results95]) (he := rfl)

end Go.Proofs.Yteaohgacgcjkjaa

end
