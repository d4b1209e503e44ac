/-
  Put together: PEvVar PFlatHeader PFlatReq PFlatAddr PEvHead PEvHdOk.
-/
import Derived.Test.YtfgkfcfplodaoaaGreatDoorG8
section
/-!
  Var of spec and impl: a number's bytes.
-/
namespace Go.Proofs.YtfgkfcfplodaoaaGreatDoor
set_option maxRecDepth 100000
set_option linter.unusedVariables false
set_option linter.unusedSimpArgs false
open Go Go.RowKit
set_option maxHeartbeats 4000000

/-- the bytes of a number, seven bits each -/
def varF : Nat → Nat → List Nat
  | 0, n => [n]
  | k + 1, n => if n < 128 then [n] else (n % 128 + 128) :: varF k (n / 128)
def varL (n : Nat) : List Nat := varF 6 n
theorem varF_lo (k : Nat) {n : Nat} (h : n < 128) : varF k n = [n] := by
  cases k with
  | zero => rfl
  | succ k => simp [varF, h]
theorem varF_hi (k : Nat) {n : Nat} (h : ¬ n < 128) : varF (k + 1) n = (n % 128 + 128) :: varF k (n / 128) := by simp [varF, h]
theorem varF_len : ∀ k n, (varF k n).length ≤ k + 1
  | 0, n => by simp [varF]
  | k + 1, n => by
    unfold varF
    split
    · simp
    · have := varF_len k (n / 128)
      simp; omega
def bsS (l : List Nat) : ByteArray := ⟨(l.map UInt8.ofNat).toArray⟩
def cU8 (n : Nat) : List Value := [.int .u8 (n : Int)]
theorem bytes_rows (l : List Nat) : bytesE (rowsF cU8 l) = some (l.map UInt8.ofNat) := by
  induction l with
  | nil => rfl
  | cons x l ih =>
    unfold bytesE rowsF at *
    simp only [cU8] at ih
    simp only [List.map_cons, List.mapM_cons, cU8, List.map_nil, Option.bind_eq_bind, Option.bind_some, Int.toNat_natCast, Option.pure_def]
    simp only [List.map_cons, List.map_nil] at ih
    rw [ih]
    rfl
def varS (n : Int) : ByteArray := if 0 ≤ n ∧ n ≤ 562949953421311 then bsS (varL n.toNat) else ByteArray.empty
theorem bsS_size (l : List Nat) : (bsS l).size = l.length := by simp [bsS, ByteArray.size]
theorem varS_size (n : Int) : (varS n).size ≤ 7 := by
  unfold varS
  split
  · rw [bsS_size]; exact varF_len 6 _
  · simp
theorem cU8_app (l : List Nat) (x : Nat) : rowsF cU8 l ++ [[.sc (.int .u8 (x : Int))]] = rowsF cU8 (l ++ [x]) := by rw [← rowsF_app]; rfl
theorem wrap_u8n {n : Nat} (h : n < 256) : IntKind.u8.wrap (n : Int) = (n : Int) := by
  have : IntKind.u8.wrap (n : Int) = (n : Int) % 256 := by simp [IntKind.wrap, IntKind.bits, IntKind.signed]
  rw [this]; omega
/-- how far a number's bytes are written: (written, left to write, at most so many more) -/
def VarI (n : Nat) (x : List Nat × Nat × Nat) : Prop := x.1 ++ varF x.2.1 x.2.2 = varL n ∧ x.2.2 < 128 ^ (x.2.1 + 1) ∧ x.2.2 ≤ 562949953421311
theorem VarI.lt {n : Nat} {x : List Nat × Nat × Nat} (h : VarI n x) (hk : ¬ x.2.2 < 128) : ∃ k, x.2.1 = k + 1 := by
  obtain ⟨l, k, m⟩ := x
  cases k with
  | zero => exact absurd h.2.1 (by simpa using hk)
  | succ k => exact ⟨k, rfl⟩
theorem VarI.len {n : Nat} {x : List Nat × Nat × Nat} (h : VarI n x) : x.1.length ≤ 7 := by
  have h1 := congrArg List.length h.1
  have h2 : (varL n).length ≤ 7 := varF_len 6 n
  rw [List.length_append] at h1
  omega
theorem VarI.next {n k m : Nat} {l : List Nat} (h : VarI n (l, k + 1, m)) (hk : ¬ m < 128) : VarI n (l ++ [m % 128 + 128], k, m / 128) := by
  obtain ⟨h1, h2, h3⟩ := h
  dsimp only at h1 h2 h3
  refine ⟨?_, ?_, by dsimp only; omega⟩
  · dsimp only
    rw [varF_hi _ hk] at h1
    rw [List.append_assoc]
    exact h1
  · dsimp only
    rw [Nat.pow_succ] at h2
    omega
theorem VarI.last {n k m : Nat} {l : List Nat} (h : VarI n (l, k, m)) (hk : m < 128) : l ++ [m] = varL n := by
  have := h.1
  dsimp only at this
  rw [varF_lo _ hk] at this
  exact this
theorem varS_of {n : Nat} (h : n ≤ 562949953421311) : varS n = bsS (varL n) := by
  unfold varS
  rw [if_pos ⟨by omega, by omega⟩, Int.toNat_natCast]
noncomputable def mVar := mdl (fun _ : Int => True) (fun n => [aI n]) (fun n => rS (varS n))
theorem mVar_eq (n : Int) : mVar [aI n] = some (rS (varS n)) := mdl_eq (by intro a b h; simpa using h) n trivial
theorem varS_no {n : Int} (h : ¬ (0 ≤ n ∧ n ≤ 562949953421311)) : varS n = ByteArray.empty := if_neg h

theorem varSpec_s : Sound Tryz.prog 106 mVar := by
  refine Sound.mdl Tryz.func106 rfl Tryz.ntmps106 ?_
  rintro n w -
  refine ⟨by simp, ?_⟩
  have hΓ : GSound Tryz.prog (look [(39, mIn)]) := env_cons (has_of Tryz.func39 rfl rfl) l1In_s env_nil
  have c1 := mIn_eq n 0 562949953421311
  simp only [initS, argPV, List.map_cons, List.map_nil, toPL, Nat.zero_add]
  by_cases hn : 0 ≤ n ∧ n ≤ 562949953421311
  · obtain ⟨m0, rfl⟩ := Int.eq_ofNat_of_zero_le hn.1
    have hnil : rowsF cU8 [] = [] := rfl
    repeat (first | refine zN ?_ | (refine zO ?_; (repeat (first | refine za hΓ ?_ | refine zb hΓ ?_ | refine zc ?_ | refine zd ?_)); refine zE ?_) | refine zT ?_ | refine zF ?_ | with_reducible apply At.blkX rfl)
    refine W.loopA (VarI m0) (fun x => [.slot 0 (vI x.2.2), .slot 3 (one (.all 7)), .blk 7 (.arr .ft 5 1 (rowsF cU8 x.1))]) (fun x => x.2.2) ([], 6, m0) ⟨rfl, by simp; omega, by dsimp only; omega⟩ (h := ?_)
    rintro ⟨l, k, m⟩ hI
    have hln : l.length ≤ 7 := hI.len
    dsimp only
    by_cases hm : m < 128
    · have hl : varS (m0 : Int) = bsS (l ++ [m]) := by rw [varS_of (by omega), hI.last hm]
      have e := cU8_app l m
      have hw := wrap_u8n (n := m) (by omega)
      have hb := bytes_rows (l ++ [m])
      clear hI
      repeat (first | refine zN ?_ | (refine zO ?_; (repeat (first | refine za hΓ ?_ | refine zb hΓ ?_ | refine zc ?_ | refine zd ?_)); refine zE ?_) | refine zT ?_ | refine zF ?_ | with_reducible apply At.blkX rfl)
      refine At.retA (by rw [Tryz.results106]) (he := ?_)
      rw [hl]
      rfl
    · obtain ⟨k, rfl⟩ : ∃ k', k = k' + 1 := hI.lt hm
      have hnx := hI.next hm
      have hle : m ≤ 9223372036854775807 := by
        have h2 : m ≤ 562949953421311 := hI.2.2
        omega
      have t1 : (m : Int).tmod 128 = ((m % 128 : Nat) : Int) := by rw [Int.tmod_eq_emod_of_nonneg (by omega)]; omega
      have t2 : (m : Int).tdiv 128 = ((m / 128 : Nat) : Int) := by rw [Int.tdiv_eq_ediv_of_nonneg (by omega)]; omega
      have hw : IntKind.u8.wrap (128 + ((m % 128 : Nat) : Int)) = ((m % 128 + 128 : Nat) : Int) := by
        rw [show 128 + ((m % 128 : Nat) : Int) = ((m % 128 + 128 : Nat) : Int) by omega]
        exact wrap_u8n (by omega)
      have e := cU8_app l (m % 128 + 128)
      clear hI
      repeat (first | refine zN ?_ | (refine zO ?_; (repeat (first | refine za hΓ ?_ | refine zb hΓ ?_ | refine zc ?_ | refine zd ?_)); refine zE ?_) | refine zT ?_ | refine zF ?_ | with_reducible apply At.blkX rfl)
      exact At.roundA (l ++ [m % 128 + 128], k, m / 128) hnx (by dsimp only; omega)
  · have hv := varS_no hn
    repeat (first | refine zN ?_ | (refine zO ?_; (repeat (first | refine za hΓ ?_ | refine zb hΓ ?_ | refine zc ?_ | refine zd ?_)); refine zE ?_) | refine zT ?_ | refine zF ?_ | with_reducible apply At.blkX rfl)
    refine At.retA (by rw [Tryz.results106]) (he := ?_)
    rw [hv]
    rfl
theorem varImpl_s : Sound Tryz.prog 232 mVar := by
  refine Sound.mdl Tryz.func232 rfl Tryz.ntmps232 ?_
  rintro n w -
  refine ⟨by simp, ?_⟩
  have hΓ : GSound Tryz.prog (look [(139, mWithin)]) := env_cons (has_of Tryz.func139 rfl rfl) within_s env_nil
  have c1 := mWithin_eq n 0 562949953421311
  simp only [initS, argPV, List.map_cons, List.map_nil, toPL, Nat.zero_add]
  by_cases hn : 0 ≤ n ∧ n ≤ 562949953421311
  · obtain ⟨m0, rfl⟩ := Int.eq_ofNat_of_zero_le hn.1
    have hnil : rowsF cU8 [] = [] := rfl
    repeat (first | refine zN ?_ | (refine zO ?_; (repeat (first | refine za hΓ ?_ | refine zb hΓ ?_ | refine zc ?_ | refine zd ?_)); refine zE ?_) | refine zT ?_ | refine zF ?_ | with_reducible apply At.blkX rfl)
    refine W.loopA (VarI m0) (fun x => [.slot 0 (vI x.2.2), .slot 3 (one (.all 7)), .blk 7 (.arr .ft 5 1 (rowsF cU8 x.1))]) (fun x => x.2.2) ([], 6, m0) ⟨rfl, by simp; omega, by dsimp only; omega⟩ (h := ?_)
    rintro ⟨l, k, m⟩ hI
    have hln : l.length ≤ 7 := hI.len
    dsimp only
    by_cases hm : m < 128
    · have hl : varS (m0 : Int) = bsS (l ++ [m]) := by rw [varS_of (by omega), hI.last hm]
      have e := cU8_app l m
      have hw := wrap_u8n (n := m) (by omega)
      have hb := bytes_rows (l ++ [m])
      clear hI
      repeat (first | refine zN ?_ | (refine zO ?_; (repeat (first | refine za hΓ ?_ | refine zb hΓ ?_ | refine zc ?_ | refine zd ?_)); refine zE ?_) | refine zT ?_ | refine zF ?_ | with_reducible apply At.blkX rfl)
      refine At.retA (by rw [Tryz.results232]) (he := ?_)
      rw [hl]
      rfl
    · obtain ⟨k, rfl⟩ : ∃ k', k = k' + 1 := hI.lt hm
      have hnx := hI.next hm
      have hle : m < 9223372036854775808 := by
        have h2 : m ≤ 562949953421311 := hI.2.2
        omega
      have t1 : bits .and .i64 (m : Int) 127 = ((m % 128 : Nat) : Int) := by
        have := and_i64 (a := m) (b := 127) hle (by omega)
        rw [show (127 : Nat) = 2 ^ 7 - 1 from rfl, Nat.and_two_pow_sub_one_eq_mod] at this
        exact this
      have t3 : bits .or .i64 ((m % 128 : Nat) : Int) 128 = ((m % 128 + 128 : Nat) : Int) := by
        have := or_i64 (a := m % 128) (b := 128) (by omega) (by omega)
        rw [show m % 128 ||| 128 = m % 128 + 128 from by
          have h : 128 + m % 128 = 128 ||| m % 128 := Nat.two_pow_add_eq_or_of_lt (i := 7) (b := m % 128) (by omega) 1
          rw [Nat.or_comm, ← h]
          omega] at this
        exact this
      have m7 : min 7 IntKind.i64.bits = 7 := rfl
      have t2 : (m : Int).fdiv (2 ^ 7) = ((m / 128 : Nat) : Int) := fdiv_nat m 7
      have hw := wrap_u8n (n := m % 128 + 128) (by omega)
      have e := cU8_app l (m % 128 + 128)
      clear hI
      repeat (first | refine zN ?_ | (refine zO ?_; (repeat (first | refine za hΓ ?_ | refine zb hΓ ?_ | refine zc ?_ | refine zd ?_)); refine zE ?_) | refine zT ?_ | refine zF ?_ | with_reducible apply At.blkX rfl)
      exact At.roundA (l ++ [m % 128 + 128], k, m / 128) hnx (by dsimp only; omega)
  · have hv := varS_no hn
    repeat (first | refine zN ?_ | (refine zO ?_; (repeat (first | refine za hΓ ?_ | refine zb hΓ ?_ | refine zc ?_ | refine zd ?_)); refine zE ?_) | refine zT ?_ | refine zF ?_ | with_reducible apply At.blkX rfl)
    refine At.retA (by rw [Tryz.results232]) (he := ?_)
    rw [hv]
    rfl

end Go.Proofs.YtfgkfcfplodaoaaGreatDoor

end
section
/-!
  Header: its size, copy, equality, mark and held functions, by contracts.
-/
namespace Go.Proofs.YtfgkfcfplodaoaaGreatDoor
set_option maxRecDepth 100000
set_option linter.unusedVariables false
set_option linter.unusedSimpArgs false
open Go.RowKit

abbrev THeader := Int × Int × ByteArray × ByteArray × ByteArray × ByteArray
def cHeader (x : THeader) : List Value := [.int .i64 x.1, .int .i64 x.2.1, .string x.2.2.1, .string x.2.2.2.1, .string x.2.2.2.2.1, .string x.2.2.2.2.2]
def totHeader (x : THeader) : Nat := x.2.2.1.size + x.2.2.2.1.size + x.2.2.2.2.1.size + x.2.2.2.2.2.size
def okHeader (x : THeader) : Prop := x.2.2.1.size ≤ maxLen ∧ x.2.2.2.1.size ≤ maxLen ∧ x.2.2.2.2.1.size ≤ maxLen ∧ x.2.2.2.2.2.size ≤ maxLen

end Go.Proofs.YtfgkfcfplodaoaaGreatDoor

end
section
/-!
  Req: its size, copy, equality, mark and held functions, by contracts.
-/
namespace Go.Proofs.YtfgkfcfplodaoaaGreatDoor
set_option maxRecDepth 100000
set_option linter.unusedVariables false
set_option linter.unusedSimpArgs false
open Go.RowKit

end Go.Proofs.YtfgkfcfplodaoaaGreatDoor

end
section
/-!
  Addr: its size, copy, equality, mark and held functions, by contracts.
-/
namespace Go.Proofs.YtfgkfcfplodaoaaGreatDoor
set_option maxRecDepth 100000
set_option linter.unusedVariables false
set_option linter.unusedSimpArgs false
open Go.RowKit

end Go.Proofs.YtfgkfcfplodaoaaGreatDoor

end
section
/-!
  HeaderOk, ShowHeader, ShowReq, AddrsOk of spec and impl.
-/
namespace Go.Proofs.YtfgkfcfplodaoaaGreatDoor
set_option maxRecDepth 100000
set_option linter.unusedVariables false
set_option linter.unusedSimpArgs false
open Go Go.RowKit
set_option maxHeartbeats 4000000

abbrev aHd (h : THeader) : Arg := .val true [.sc (.int .i64 h.1), .sc (.int .i64 h.2.1), .sc (.string h.2.2.1), .sc (.string h.2.2.2.1), .sc (.string h.2.2.2.2.1), .sc (.string h.2.2.2.2.2)]
theorem aHd_inj : ∀ x y : THeader, [aHd x] = [aHd y] → x = y := by
  rintro ⟨a, b, c, d, e, f⟩ ⟨a', b', c', d', e', f'⟩ h
  simpa [aHd] using h
def lastN (h : Int) : Int := if h = 1 then 0 else 8
def headOk (h : THeader) : Prop := (1 ≤ h.1 ∧ h.1 ≤ 1000000) ∧ (0 ≤ h.2.1 ∧ h.2.1 ≤ 1000000) ∧ (h.2.2.2.1.size : Int) = 8 ∧ (h.2.2.2.2.1.size : Int) = 8 ∧ (h.2.2.1.size : Int) = lastN h.1 ∧ (h.2.2.2.2.2.size : Int) ≤ 20
instance (h : THeader) : Decidable (headOk h) := by unfold headOk; infer_instance
theorem cases6 (a b c d e f : Prop) : (a ∧ b ∧ c ∧ d ∧ e ∧ f) ∨ ¬ a ∨ (a ∧ ¬ b) ∨ (a ∧ b ∧ ¬ c) ∨ (a ∧ b ∧ c ∧ ¬ d) ∨ (a ∧ b ∧ c ∧ d ∧ ¬ e) ∨ (a ∧ b ∧ c ∧ d ∧ e ∧ ¬ f) := by
  by_cases ha : a <;> by_cases hb : b <;> by_cases hc : c <;> by_cases hd : d <;> by_cases he : e <;> by_cases hf : f <;> simp_all
theorem cases5 (a b c d e : Prop) : (a ∧ b ∧ c ∧ d ∧ e) ∨ ¬ a ∨ (a ∧ ¬ b) ∨ (a ∧ b ∧ ¬ c) ∨ (a ∧ b ∧ c ∧ ¬ d) ∨ (a ∧ b ∧ c ∧ d ∧ ¬ e) := by
  by_cases ha : a <;> by_cases hb : b <;> by_cases hc : c <;> by_cases hd : d <;> by_cases he : e <;> simp_all
theorem cases3 (a b c : Prop) : (a ∧ b ∧ c) ∨ ¬ a ∨ (a ∧ ¬ b) ∨ (a ∧ b ∧ ¬ c) := by
  by_cases ha : a <;> by_cases hb : b <;> by_cases hc : c <;> simp_all
noncomputable def mHead := mdl (fun _ : THeader => True) (fun h => [aHd h]) (fun h => rB (decide (headOk h)))
theorem mHead_eq (h : THeader) : mHead [aHd h] = some (rB (decide (headOk h))) := mdl_eq aHd_inj h trivial
noncomputable def mTime := mdl (fun _ : Int => True) (fun n => [aI n]) (fun n => rB (decide (0 ≤ n ∧ n ≤ 1000000)))
theorem mTime_eq (n : Int) : mTime [aI n] = some (rB (decide (0 ≤ n ∧ n ≤ 1000000))) := mdl_eq (by intro a b h; simpa using h) n trivial
noncomputable def mHeight := mdl (fun _ : Int => True) (fun n => [aI n]) (fun n => rB (decide (1 ≤ n ∧ n ≤ 1000000)))
theorem mHeight_eq (n : Int) : mHeight [aI n] = some (rB (decide (1 ≤ n ∧ n ≤ 1000000))) := mdl_eq (by intro a b h; simpa using h) n trivial
theorem isTime_s : Sound Tryz.prog 125 mTime := by
  refine Sound.mdl Tryz.func125 rfl Tryz.ntmps125 ?_
  rintro n w -
  refine ⟨by simp, ?_⟩
  have hΓ : GSound Tryz.prog (look [(139, mWithin)]) := env_cons (has_of Tryz.func139 rfl rfl) within_s env_nil
  have c1 := mWithin_eq n 0 1000000
  simp only [initS, argPV, List.map_cons, List.map_nil, toPL, Nat.zero_add]
  repeat (first | refine zN ?_ | (refine zO ?_; (repeat (first | refine za hΓ ?_ | refine zb hΓ ?_ | refine zc ?_ | refine zd ?_)); refine zE ?_) | refine zT ?_ | refine zF ?_ | with_reducible apply At.blkX rfl)
  refine At.retA (by rw [Tryz.results125]) (he := rfl)
theorem isHeight_s : Sound Tryz.prog 213 mHeight := by
  refine Sound.mdl Tryz.func213 rfl Tryz.ntmps213 ?_
  rintro n w -
  refine ⟨by simp, ?_⟩
  have hΓ : GSound Tryz.prog (look [(139, mWithin)]) := env_cons (has_of Tryz.func139 rfl rfl) within_s env_nil
  have c1 := mWithin_eq n 1 1000000
  simp only [initS, argPV, List.map_cons, List.map_nil, toPL, Nat.zero_add]
  repeat (first | refine zN ?_ | (refine zO ?_; (repeat (first | refine za hΓ ?_ | refine zb hΓ ?_ | refine zc ?_ | refine zd ?_)); refine zE ?_) | refine zT ?_ | refine zF ?_ | with_reducible apply At.blkX rfl)
  refine At.retA (by rw [Tryz.results213]) (he := rfl)
theorem l10Time_s : Sound Tryz.prog 74 mTime := by
  refine Sound.mdl Tryz.func74 rfl Tryz.ntmps74 ?_
  rintro n w -
  refine ⟨by simp, ?_⟩
  have hΓ : GSound Tryz.prog (look [(39, mIn)]) := env_cons (has_of Tryz.func39 rfl rfl) l1In_s env_nil
  have c1 := mIn_eq n 0 1000000
  simp only [initS, argPV, List.map_cons, List.map_nil, toPL, Nat.zero_add]
  repeat (first | refine zN ?_ | (refine zO ?_; (repeat (first | refine za hΓ ?_ | refine zb hΓ ?_ | refine zc ?_ | refine zd ?_)); refine zE ?_) | refine zT ?_ | refine zF ?_ | with_reducible apply At.blkX rfl)
  refine At.retA (by rw [Tryz.results74]) (he := rfl)

end Go.Proofs.YtfgkfcfplodaoaaGreatDoor

end
section
/-!
  HeaderOk of spec and impl.
-/
namespace Go.Proofs.YtfgkfcfplodaoaaGreatDoor
set_option maxRecDepth 100000
set_option linter.unusedVariables false
set_option linter.unusedSimpArgs false
open Go Go.RowKit
set_option maxHeartbeats 4000000

theorem headS_s : Sound Tryz.prog 50 mHead := by
  refine Sound.mdl Tryz.func50 rfl Tryz.ntmps50 ?_
  rintro ⟨h, t, la, va, ne, da⟩ w -
  refine ⟨by simp, ?_⟩
  have hΓ : GSound Tryz.prog (look [(39, mIn)]) := env_cons (has_of Tryz.func39 rfl rfl) l1In_s env_nil
  have c1 := mIn_eq h 1 1000000
  have c2 := mIn_eq t 0 1000000
  simp only [initS, argPV, List.map_cons, List.map_nil, toPL, Nat.zero_add]
  by_cases e1 : h = 1
  · subst e1
    rcases cases5 ((0 : Int) ≤ t ∧ t ≤ 1000000) ((va.size : Int) = 8) ((ne.size : Int) = 8) ((la.size : Int) = 0) ((da.size : Int) ≤ 20) with h | h | h | h | h | h
    all_goals
      repeat (first | refine zN ?_ | (refine zO ?_; (repeat (first | refine za hΓ ?_ | refine zb hΓ ?_ | refine zc ?_ | refine zd ?_)); refine zE ?_) | refine zT ?_ | refine zF ?_ | with_reducible apply At.blkX rfl)
      refine At.retA (by rw [Tryz.results50]) (he := ?_)
      first
        | (simp [headOk, lastN, h]; done)
        | (simp [headOk, lastN, h]; intro e; subst e; simp at h)
  · rcases cases6 ((1 : Int) ≤ h ∧ h ≤ 1000000) ((0 : Int) ≤ t ∧ t ≤ 1000000) ((va.size : Int) = 8) ((ne.size : Int) = 8) ((la.size : Int) = 8) ((da.size : Int) ≤ 20) with h | h | h | h | h | h | h
    all_goals
      repeat (first | refine zN ?_ | (refine zO ?_; (repeat (first | refine za hΓ ?_ | refine zb hΓ ?_ | refine zc ?_ | refine zd ?_)); refine zE ?_) | refine zT ?_ | refine zF ?_ | with_reducible apply At.blkX rfl)
      refine At.retA (by rw [Tryz.results50]) (he := ?_)
      simp [headOk, lastN, h, e1]
theorem headI_s : Sound Tryz.prog 165 mHead := by
  refine Sound.mdl Tryz.func165 rfl Tryz.ntmps165 ?_
  rintro ⟨h, t, la, va, ne, da⟩ w -
  refine ⟨by simp, ?_⟩
  have hΓ : GSound Tryz.prog (look [(213, mHeight), (125, mTime)]) := env_cons (has_of Tryz.func213 rfl rfl) isHeight_s (env_cons (has_of Tryz.func125 rfl rfl) isTime_s env_nil)
  have c1 := mHeight_eq h
  have c2 := mTime_eq t
  simp only [initS, argPV, List.map_cons, List.map_nil, toPL, Nat.zero_add]
  by_cases e1 : h = 1
  · subst e1
    rcases cases5 ((0 : Int) ≤ t ∧ t ≤ 1000000) ((va.size : Int) = 8) ((ne.size : Int) = 8) ((la.size : Int) = 0) ((da.size : Int) ≤ 20) with h | h | h | h | h | h
    all_goals
      repeat (first | refine zN ?_ | (refine zO ?_; (repeat (first | refine za hΓ ?_ | refine zb hΓ ?_ | refine zc ?_ | refine zd ?_)); refine zE ?_) | refine zT ?_ | refine zF ?_ | with_reducible apply At.blkX rfl)
      refine At.retA (by rw [Tryz.results165]) (he := ?_)
      first
        | (simp [headOk, lastN, h]; done)
        | (simp [headOk, lastN, h]; intro e; subst e; simp at h)
  · rcases cases6 ((1 : Int) ≤ h ∧ h ≤ 1000000) ((0 : Int) ≤ t ∧ t ≤ 1000000) ((va.size : Int) = 8) ((ne.size : Int) = 8) ((la.size : Int) = 8) ((da.size : Int) ≤ 20) with h | h | h | h | h | h | h
    all_goals
      repeat (first | refine zN ?_ | (refine zO ?_; (repeat (first | refine za hΓ ?_ | refine zb hΓ ?_ | refine zc ?_ | refine zd ?_)); refine zE ?_) | refine zT ?_ | refine zF ?_ | with_reducible apply At.blkX rfl)
      refine At.retA (by rw [Tryz.results165]) (he := ?_)
      simp [headOk, lastN, h, e1]


end Go.Proofs.YtfgkfcfplodaoaaGreatDoor

end
