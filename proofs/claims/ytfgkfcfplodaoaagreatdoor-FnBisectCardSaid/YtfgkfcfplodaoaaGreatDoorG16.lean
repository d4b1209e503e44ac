/-
  Put together: PEvShHd PEvSha PEvShaM.
-/
import Derived.Test.YtfgkfcfplodaoaaGreatDoorG15
import Derived.Test.YtfgkfcfplodaoaaGreatDoorG9
section
/-!
  ShowHeader of both programs.
-/
namespace Go.Proofs.YtfgkfcfplodaoaaGreatDoor
set_option maxRecDepth 100000
set_option linter.unusedVariables false
set_option linter.unusedSimpArgs false
open Go Go.RowKit
set_option maxHeartbeats 4000000

def pieceS (s : ByteArray) : ByteArray := varS s.size ++ s
noncomputable def mPiece := mdl (fun s : ByteArray => s.size ≤ 1048576) (fun s => [aS s]) (fun s => rS (pieceS s))
theorem mPiece_eq (s : ByteArray) (h : s.size ≤ 1048576) : mPiece [aS s] = some (rS (pieceS s)) := mdl_eq (by intro a b h; simpa using h) s h
theorem pieceS_size (s : ByteArray) : (pieceS s).size ≤ 7 + s.size := by
  unfold pieceS
  rw [ByteArray.size_append]
  have := varS_size s.size
  omega
def showHead (h : THeader) : ByteArray := if headOk h then varS h.1 ++ varS h.2.1 ++ pieceS h.2.2.1 ++ pieceS h.2.2.2.1 ++ pieceS h.2.2.2.2.1 ++ pieceS h.2.2.2.2.2 else ByteArray.empty
theorem showHead_no {h : THeader} (ho : ¬ headOk h) : showHead h = ByteArray.empty := if_neg ho
theorem showHead_yes {h : THeader} (ho : headOk h) : showHead h = varS h.1 ++ varS h.2.1 ++ pieceS h.2.2.1 ++ pieceS h.2.2.2.1 ++ pieceS h.2.2.2.2.1 ++ pieceS h.2.2.2.2.2 := if_pos ho
theorem lastN_le (h : Int) : lastN h ≤ 8 := by unfold lastN; split <;> omega
theorem showHead_size (h : THeader) : (showHead h).size ≤ 100 := by
  by_cases ho : headOk h
  · have h1 := varS_size h.1
    have h2 := varS_size h.2.1
    have h3 := pieceS_size h.2.2.1
    have h4 := pieceS_size h.2.2.2.1
    have h5 := pieceS_size h.2.2.2.2.1
    have h6 := pieceS_size h.2.2.2.2.2
    have h7 := lastN_le h.1
    rw [showHead_yes ho]
    obtain ⟨_, _, a, b, c, d⟩ := ho
    simp only [ByteArray.size_append]
    omega
  · rw [showHead_no ho]; simp
noncomputable def mShowHd := mdl (fun _ : THeader => True) (fun h => [aHd h]) (fun h => rS (showHead h))
theorem mShowHd_eq (h : THeader) : mShowHd [aHd h] = some (rS (showHead h)) := mdl_eq aHd_inj h trivial
theorem pieceS_s : Sound Tryz.prog 107 mPiece := by
  refine Sound.mdl Tryz.func107 rfl Tryz.ntmps107 ?_
  rintro s w hl
  refine ⟨by simp, ?_⟩
  replace hl : s.size ≤ 1048576 := hl
  have hΓ : GSound Tryz.prog (look [(106, mVar)]) := env_cons (has_of Tryz.func106 rfl rfl) varSpec_s env_nil
  have c1 := mVar_eq s.size
  have s1 := varS_size s.size
  simp only [initS, argPV, List.map_cons, List.map_nil, toPL, Nat.zero_add]
  refine zR ?_
  refine At.retA (by rw [Tryz.results107]) (he := rfl)
def asEvShHd0 : List (List Nat) := [[], [0], [0, 1], [], [3], [0, 1, 2, 3, 4], [0, 1, 2, 3, 4, 5], [], [7], [0, 1, 2, 3, 4, 5, 7, 8], [0, 1, 2, 3, 4, 5, 6, 7, 8, 9], [], [11], [0, 1, 2, 3, 4, 5, 7, 8, 9, 11, 12], [0, 1, 2, 3, 4, 5, 6, 7, 8, 9, 10, 11, 12, 13], [], [15], [0, 1, 2, 3, 4, 5, 7, 8, 9, 11, 12, 13, 15, 16], [0, 1, 2, 3, 4, 5, 6, 7, 8, 9, 10, 11, 12, 13, 14, 15, 16, 17], [], [19], [0, 1, 2, 3, 4, 5, 7, 8, 9, 11, 12, 13, 15, 16, 17, 19, 20], [0, 1, 2, 3, 4, 5, 6, 7, 8, 9, 10, 11, 12, 13, 14, 15, 16, 17, 18, 19, 20, 21], [0, 1, 2, 3, 4, 5, 6, 7, 8, 9, 10, 11, 12, 13, 14, 15, 16, 17, 18, 19, 20, 21, 22]]
theorem showHdS_s : Sound Tryz.prog 52 mShowHd := by
  refine Sound.mdl Tryz.func52 rfl Tryz.ntmps52 ?_
  rintro ⟨h, t, la, va, ne, da⟩ w -
  refine ⟨by simp, ?_⟩
  have hΓ : GSound Tryz.prog (look [(50, mHead), (106, mVar), (107, mPiece)]) := env_cons (has_of Tryz.func50 rfl rfl) headS_s (env_cons (has_of Tryz.func106 rfl rfl) varSpec_s (env_cons (has_of Tryz.func107 rfl rfl) pieceS_s env_nil))
  have c1 := mHead_eq (h, t, la, va, ne, da)
  dsimp only [aHd] at c1
  simp only [initS, argPV, List.map_cons, List.map_nil, toPL, Nat.zero_add]
  by_cases ho : headOk (h, t, la, va, ne, da)
  · rw [decide_eq_true ho] at c1
    have hv := showHead_yes ho
    have h7 := lastN_le h
    obtain ⟨_, _, a, b, c, d⟩ := ho
    dsimp only at a b c d hv
    have p1 := mPiece_eq la (by omega)
    have p2 := mPiece_eq va (by omega)
    have p3 := mPiece_eq ne (by omega)
    have p4 := mPiece_eq da (by omega)
    have s1 := varS_size h
    have s2 := varS_size t
    have s3 := pieceS_size la
    have s4 := pieceS_size va
    have s5 := pieceS_size ne
    have s6 := pieceS_size da
    have v1 := mVar_eq h
    have v2 := mVar_eq t
    generalize varS h = x1 at *
    generalize varS t = x2 at *
    generalize pieceS la = x3 at *
    generalize pieceS va = x4 at *
    generalize pieceS ne = x5 at *
    generalize pieceS da = x6 at *
    have t3 : x3.size ≤ 15 := by omega
    have t4 : x4.size ≤ 15 := by omega
    have t5 : x5.size ≤ 15 := by omega
    have t6 : x6.size ≤ 27 := by omega
    clear a b c d h7 s3 s4 s5 s6
    have e1 := ByteArray.size_append (a := x1) (b := x2)
    have e2 := ByteArray.size_append (a := x1 ++ x2) (b := x3)
    have e3 := ByteArray.size_append (a := x1 ++ x2 ++ x3) (b := x4)
    have e4 := ByteArray.size_append (a := x1 ++ x2 ++ x3 ++ x4) (b := x5)
    refine zR ?_
    refine W.drawB hΓ 24 asEvShHd0 (Es := ?Es8) (rest := ?rest8) (st1 := ?st18) ?_
    refine zL ?_
    refine zE ?_
    refine zR ?_
    refine At.retA (by rw [Tryz.results52]) (he := ?_)
    rw [hv]
  · rw [decide_eq_false ho] at c1
    have hv := showHead_no ho
    clear ho
    refine zR ?_
    refine At.retA (by rw [Tryz.results52]) (he := ?_)
    rw [hv]
    rfl
theorem pieceI_s : Sound Tryz.prog 233 mPiece := by
  refine Sound.mdl Tryz.func233 rfl Tryz.ntmps233 ?_
  rintro s w hl
  refine ⟨by simp, ?_⟩
  replace hl : s.size ≤ 1048576 := hl
  have hΓ : GSound Tryz.prog (look [(232, mVar)]) := env_cons (has_of Tryz.func232 rfl rfl) varImpl_s env_nil
  have c1 := mVar_eq s.size
  have s1 := varS_size s.size
  simp only [initS, argPV, List.map_cons, List.map_nil, toPL, Nat.zero_add]
  refine zR ?_
  refine At.retA (by rw [Tryz.results233]) (he := rfl)
theorem showHdI_s : Sound Tryz.prog 188 mShowHd := by
  refine Sound.mdl Tryz.func188 rfl Tryz.ntmps188 ?_
  rintro ⟨h, t, la, va, ne, da⟩ w -
  refine ⟨by simp, ?_⟩
  have hΓ : GSound Tryz.prog (look [(165, mHead), (232, mVar), (233, mPiece)]) := env_cons (has_of Tryz.func165 rfl rfl) headI_s (env_cons (has_of Tryz.func232 rfl rfl) varImpl_s (env_cons (has_of Tryz.func233 rfl rfl) pieceI_s env_nil))
  have c1 := mHead_eq (h, t, la, va, ne, da)
  dsimp only [aHd] at c1
  simp only [initS, argPV, List.map_cons, List.map_nil, toPL, Nat.zero_add]
  by_cases ho : headOk (h, t, la, va, ne, da)
  · rw [decide_eq_true ho] at c1
    have hv := showHead_yes ho
    have h7 := lastN_le h
    obtain ⟨_, _, a, b, c, d⟩ := ho
    dsimp only at a b c d hv
    have p1 := mPiece_eq la (by omega)
    have p2 := mPiece_eq va (by omega)
    have p3 := mPiece_eq ne (by omega)
    have p4 := mPiece_eq da (by omega)
    have s1 := varS_size h
    have s2 := varS_size t
    have s3 := pieceS_size la
    have s4 := pieceS_size va
    have s5 := pieceS_size ne
    have s6 := pieceS_size da
    have v1 := mVar_eq h
    have v2 := mVar_eq t
    generalize varS h = x1 at *
    generalize varS t = x2 at *
    generalize pieceS la = x3 at *
    generalize pieceS va = x4 at *
    generalize pieceS ne = x5 at *
    generalize pieceS da = x6 at *
    have t3 : x3.size ≤ 15 := by omega
    have t4 : x4.size ≤ 15 := by omega
    have t5 : x5.size ≤ 15 := by omega
    have t6 : x6.size ≤ 27 := by omega
    clear a b c d h7 s3 s4 s5 s6
    have e1 := ByteArray.size_append (a := x1) (b := x2)
    have e2 := ByteArray.size_append (a := x1 ++ x2) (b := x3)
    have e3 := ByteArray.size_append (a := x1 ++ x2 ++ x3) (b := x4)
    have e4 := ByteArray.size_append (a := x1 ++ x2 ++ x3 ++ x4) (b := x5)
    refine zR ?_
    refine W.drawB hΓ 24 asEvShHd0 (Es := ?Es20) (rest := ?rest20) (st1 := ?st120) ?_
    refine zL ?_
    refine zE ?_
    refine zR ?_
    refine At.retA (by rw [Tryz.results188]) (he := ?_)
    rw [hv]
  · rw [decide_eq_false ho] at c1
    have hv := showHead_no ho
    clear ho
    refine zR ?_
    refine At.retA (by rw [Tryz.results188]) (he := ?_)
    rw [hv]
    rfl

end Go.Proofs.YtfgkfcfplodaoaaGreatDoor

end
section
/-!
  Sha of both programs: the small functions.
-/
namespace Go.Proofs.YtfgkfcfplodaoaaGreatDoor
set_option maxRecDepth 100000
set_option linter.unusedVariables false
set_option linter.unusedSimpArgs false
open Go Go.RowKit
set_option maxHeartbeats 4000000

abbrev aV (n : Nat) : Arg := .val false [.sc (.int .u64 (n : Int))]
theorem and_maskI (x : Int) : bits .and .i64 x 4294967295 = (((x % 4294967296).toNat : Nat) : Int) := by
  show IntKind.i64.wrap ((BitVec.ofInt 64 x &&& BitVec.ofInt 64 4294967295).toNat : Int) = _
  have h1 : (BitVec.ofInt 64 4294967295).toNat = 2 ^ 32 - 1 := rfl
  rw [BitVec.toNat_and, h1, Nat.and_two_pow_sub_one_eq_mod, BitVec.toNat_ofInt, wrap_i64n (by omega)]
  have h2 : ((2 ^ 64 : Nat) : Int) = 18446744073709551616 := rfl
  rw [h2]
  omega
theorem not_xor {e : Nat} (h : e < 4294967296) : 4294967295 ^^^ e = 4294967295 - e := by
  have h1 : (BitVec.allOnes 32 ^^^ BitVec.ofNat 32 e).toNat = 4294967295 ^^^ e := by
    rw [BitVec.toNat_xor, BitVec.toNat_ofNat, Nat.mod_eq_of_lt h]
    rfl
  rw [← h1, BitVec.allOnes_xor, BitVec.toNat_not, BitVec.toNat_ofNat, Nat.mod_eq_of_lt h]
theorem not_i64 {e : Nat} (h : e < 4294967296) : bits .xor .i64 (if IntKind.i64.signed = true then -1 else IntKind.i64.max) (e : Int) = -(e : Int) - 1 := by
  show IntKind.i64.wrap ((BitVec.ofInt 64 (-1) ^^^ BitVec.ofInt 64 (e : Int)).toNat : Int) = _
  have h1 : BitVec.ofInt 64 (-1) = BitVec.allOnes 64 := by decide
  rw [h1, BitVec.allOnes_xor, BitVec.toNat_not, ofInt_nat (by omega)]
  have h3 : IntKind.i64.wrap (((2 ^ 64 - 1 - e : Nat)) : Int) = ((2 ^ 64 - 1 - e : Nat) : Int) - 18446744073709551616 := by
    simp only [IntKind.wrap, IntKind.bits, IntKind.signed]
    simp
    omega
  rw [h3]
  omega
noncomputable def mWd := mdl (fun _ : Int => True) (fun x => [aI x]) (fun x => rNat ((x % 4294967296).toNat))
theorem mWd_any (x : Int) : mWd [aI x] = some (rNat ((x % 4294967296).toNat)) := mdl_eq (by intro a b h; simpa using h) x trivial
theorem mWd_eq (x : Nat) (h : x < 9223372036854775808) : mWd [aI (x : Int)] = some (rNat (x % 4294967296)) := by
  rw [mWd_any]
  congr 6
theorem mWd_neg {e : Nat} (h : e < 4294967296) : mWd [aI (-(e : Int) - 1)] = some (rNat (4294967295 ^^^ e)) := by
  rw [mWd_any, not_xor h]
  congr 6
  omega
theorem l3Word_s : Sound Tryz.prog 137 mWd := by
  refine Sound.mdl Tryz.func137 rfl Tryz.ntmps137 ?_
  rintro x w -
  refine ⟨by simp, ?_⟩
  have hΓ : GSound Tryz.prog (look []) := env_nil
  have e := and_maskI x
  simp only [initS, argPV, List.map_cons, List.map_nil, toPL, Nat.zero_add]
  refine zR ?_
  refine At.retA (by rw [Tryz.results137]) (he := rfl)
noncomputable def mRight := mdl (fun x : Nat × Nat => x.1 < 4294967296 ∧ 2 ≤ x.2 ∧ x.2 ≤ 31) (fun x => [aI (x.1 : Int), aV x.2]) (fun x => rNat (rotr x.1 x.2))
theorem mRight_eq (x n : Nat) (h : x < 4294967296) (h1 : 2 ≤ n) (h2 : n ≤ 31) : mRight [aI (x : Int), aV n] = some (rNat (rotr x n)) := mdl_eq (by rintro ⟨a, b⟩ ⟨d, e⟩ h; simp at h; simp; omega) (x, n) ⟨h, h1, h2⟩
theorem l3Right_s : Sound Tryz.prog 136 mRight := by
  refine Sound.mdl Tryz.func136 rfl Tryz.ntmps136 ?_
  rintro ⟨x, n⟩ w ⟨hx, h1, h2⟩
  refine ⟨by simp, ?_⟩
  dsimp only at hx h1 h2
  have hΓ : GSound Tryz.prog (look [(137, mWd)]) := env_cons (has_of Tryz.func137 rfl rfl) l3Word_s env_nil
  have e1 : IntKind.u64.wrap (32 - (n : Int)) = ((32 - n : Nat) : Int) := by
    rw [IntKind.wrap_u64]
    omega
  have m1 : min n IntKind.i64.bits = n := by show min n 64 = _; omega
  have m2 : min (32 - n) IntKind.i64.bits = 32 - n := by show min (32 - n) 64 = _; omega
  have hb : x * 2 ^ (32 - n) < 9223372036854775808 := by
    have h3 : 2 ^ (32 - n) ≤ 2 ^ 30 := Nat.pow_le_pow_right (by omega) (by omega)
    have h4 : x * 2 ^ (32 - n) ≤ x * 2 ^ 30 := Nat.mul_le_mul_left _ h3
    omega
  have e2 : ar .i64 ((x : Int) * 2 ^ (32 - n)) = some (.int .i64 ((x * 2 ^ (32 - n) : Nat) : Int)) := by
    rw [mul_pow_nat]
    exact ar_in (by omega) (by omega)
  have e3 := fdiv_nat x n
  have hd : x / 2 ^ n < 9223372036854775808 := Nat.lt_of_le_of_lt (Nat.div_le_self _ _) (by omega)
  have e4 := or_i64 hd hb
  have ho : x / 2 ^ n ||| x * 2 ^ (32 - n) < 9223372036854775808 := by
    have := Nat.or_lt_two_pow (n := 63) (x := x / 2 ^ n) (y := x * 2 ^ (32 - n)) (by omega) (by omega)
    omega
  have c1 := mWd_eq _ ho
  clear hb hd ho
  simp only [initS, argPV, List.map_cons, List.map_nil, toPL, Nat.zero_add]
  refine zR ?_
  refine At.retA (by rw [Tryz.results136]) (he := rfl)

/-- four bytes as a word -/
def be4 (a b c d : Nat) : Nat := ((a * 2 ^ 24 ||| b * 2 ^ 16) ||| c * 2 ^ 8) ||| d
theorem be4_lt {a b c d : Nat} (ha : a < 256) (hb : b < 256) (hc : c < 256) (hd : d < 256) : be4 a b c d < 4294967296 := by
  unfold be4
  have h1 := Nat.or_lt_two_pow (n := 32) (x := a * 2 ^ 24) (y := b * 2 ^ 16) (by omega) (by omega)
  have h2 := Nat.or_lt_two_pow (n := 32) (y := c * 2 ^ 8) h1 (by omega)
  have h3 := Nat.or_lt_two_pow (n := 32) (y := d) h2 (by omega)
  omega
/-- byte i of a text -/
def byteU (s : ByteArray) (i : Nat) : UInt8 := s.data.toList.getD i 0
def byteN (s : ByteArray) (i : Nat) : Nat := (byteU s i).toNat
theorem byteN_lt (s : ByteArray) (i : Nat) : byteN s i < 256 := UInt8.toNat_lt _
theorem byteN_eq (s : ByteArray) (i : Nat) : (byteU s i).toNat = byteN s i := rfl
theorem byte_at {s : ByteArray} {i : Nat} (h : i < s.size) : s.data.toList[i]? = some (byteU s i) := by
  unfold byteU
  have hl : i < s.data.toList.length := by simpa using h
  rw [List.getElem?_eq_getElem hl, List.getD_eq_getElem?_getD, List.getElem?_eq_getElem hl]
  rfl
theorem wrap_u32i {n : Nat} (h : n < 4294967296) : IntKind.u32.wrap (n : Int) = (n : Int) := by rw [wrap_u32n, Nat.mod_eq_of_lt h]
theorem shl_u32 {a n : Nat} (h : a * 2 ^ n < 4294967296) : IntKind.u32.wrap ((a : Int) * 2 ^ n) = ((a * 2 ^ n : Nat) : Int) := by rw [mul_pow_nat, wrap_u32i h]
noncomputable def mWord := mdl (fun s : ByteArray => 4 ≤ s.size) (fun s => [aS s]) (fun s => rU (be4 (byteN s 0) (byteN s 1) (byteN s 2) (byteN s 3)))
theorem mWord_eq (s : ByteArray) (h : 4 ≤ s.size) : mWord [aS s] = some (rU (be4 (byteN s 0) (byteN s 1) (byteN s 2) (byteN s 3))) := mdl_eq (by intro a b h; simpa using h) s h
theorem word_s : Sound Tryz.prog 253 mWord := by
  refine Sound.mdl Tryz.func253 rfl Tryz.ntmps253 ?_
  rintro s w hs
  refine ⟨by simp, ?_⟩
  replace hs : 4 ≤ s.size := hs
  have hΓ : GSound Tryz.prog (look []) := env_nil
  have i0 := byte_at (s := s) (i := 0) (by omega)
  have i1 := byte_at (s := s) (i := 1) (by omega)
  have i2 := byte_at (s := s) (i := 2) (by omega)
  have i3 := byte_at (s := s) (i := 3) (by omega)
  have hN := byteN_eq s
  have b0 := byteN_lt s 0
  have b1 := byteN_lt s 1
  have b2 := byteN_lt s 2
  have b3 := byteN_lt s 3
  have w0 := wrap_u32i (n := byteN s 0) (by omega)
  have w1 := wrap_u32i (n := byteN s 1) (by omega)
  have w2 := wrap_u32i (n := byteN s 2) (by omega)
  have w3 := wrap_u32i (n := byteN s 3) (by omega)
  have m1 : min 24 IntKind.u32.bits = 24 := rfl
  have m2 : min 16 IntKind.u32.bits = 16 := rfl
  have m3 : min 8 IntKind.u32.bits = 8 := rfl
  have s0 := shl_u32 (a := byteN s 0) (n := 24) (by omega)
  have s1 := shl_u32 (a := byteN s 1) (n := 16) (by omega)
  have s2 := shl_u32 (a := byteN s 2) (n := 8) (by omega)
  have o1 := or_u32 (a := byteN s 0 * 2 ^ 24) (b := byteN s 1 * 2 ^ 16) (by omega) (by omega)
  have l1 := Nat.or_lt_two_pow (n := 32) (x := byteN s 0 * 2 ^ 24) (y := byteN s 1 * 2 ^ 16) (by omega) (by omega)
  have o2 := or_u32 (a := byteN s 0 * 2 ^ 24 ||| byteN s 1 * 2 ^ 16) (b := byteN s 2 * 2 ^ 8) (by omega) (by omega)
  have l2 := Nat.or_lt_two_pow (n := 32) (y := byteN s 2 * 2 ^ 8) l1 (by omega)
  have o3 := or_u32 (a := (byteN s 0 * 2 ^ 24 ||| byteN s 1 * 2 ^ 16) ||| byteN s 2 * 2 ^ 8) (b := byteN s 3) (by omega) (by omega)
  clear l1 l2 b0 b1 b2 b3
  simp only [initS, argPV, List.map_cons, List.map_nil, toPL, Nat.zero_add]
  refine zR ?_
  refine W.drawB hΓ 19 [[], [0], [0, 1], [0, 1, 2], [], [4], [4, 5], [4, 5, 6], [0, 1, 2, 3, 4, 5, 6, 7], [], [9], [9, 10], [9, 10, 11], [0, 1, 2, 3, 4, 5, 6, 7, 8, 9, 10, 11, 12], [], [14], [14, 15], [0, 1, 2, 3, 4, 5, 6, 7, 8, 9, 10, 11, 12, 13, 14, 15, 16], [0, 1, 2, 3, 4, 5, 6, 7, 8, 9, 10, 11, 12, 13, 14, 15, 16, 17]] (Es := ?Es12) (rest := ?rest12) (st1 := ?st112) ?_
  refine zL ?_
  refine zE ?_
  refine zR ?_
  refine At.retA (by rw [Tryz.results253]) (he := rfl)

end Go.Proofs.YtfgkfcfplodaoaaGreatDoor

end
section
/-!
  Sha: one block, as a function of words.
-/
namespace Go.Proofs.YtfgkfcfplodaoaaGreatDoor
set_option maxRecDepth 100000
set_option linter.unusedVariables false
set_option linter.unusedSimpArgs false
open Go Go.RowKit
set_option maxHeartbeats 4000000

/-- word i of a block -/
def wAt (s : ByteArray) (i : Nat) : Nat := be4 (byteN s (4 * i)) (byteN s (4 * i + 1)) (byteN s (4 * i + 2)) (byteN s (4 * i + 3))
theorem wAt_lt (s : ByteArray) (i : Nat) : wAt s i < 4294967296 := be4_lt (byteN_lt _ _) (byteN_lt _ _) (byteN_lt _ _) (byteN_lt _ _)
def sig0 (a : Nat) : Nat := rotr a 7 ^^^ rotr a 18 ^^^ a / 2 ^ 3
def sig1 (a : Nat) : Nat := rotr a 17 ^^^ rotr a 19 ^^^ a / 2 ^ 10
theorem xor3_lt {a b c : Nat} (ha : a < 4294967296) (hb : b < 4294967296) (hc : c < 4294967296) : a ^^^ b ^^^ c < 4294967296 := by
  have h1 := Nat.xor_lt_two_pow (n := 32) (x := a) (y := b) (by omega) (by omega)
  have h2 := Nat.xor_lt_two_pow (n := 32) (y := c) h1 (by omega)
  omega
theorem sig0_lt {a : Nat} (h : a < 4294967296) : sig0 a < 4294967296 := xor3_lt (rotr_lt _ _) (rotr_lt _ _) (by omega)
theorem sig1_lt {a : Nat} (h : a < 4294967296) : sig1 a < 4294967296 := xor3_lt (rotr_lt _ _) (rotr_lt _ _) (by omega)
/-- the first k words of the schedule -/
def sch (s : ByteArray) : Nat → List Nat
  | 0 => []
  | k + 1 => sch s k ++ [if k < 16 then wAt s k else ((sch s k).getD (k - 16) 0 + sig0 ((sch s k).getD (k - 15) 0) + (sch s k).getD (k - 7) 0 + sig1 ((sch s k).getD (k - 2) 0)) % 4294967296]
theorem sch_len (s : ByteArray) : ∀ k, (sch s k).length = k
  | 0 => rfl
  | k + 1 => by simp [sch, sch_len s k]
theorem sch_lt (s : ByteArray) : ∀ k x, x ∈ sch s k → x < 4294967296
  | 0, x, h => by cases h
  | k + 1, x, h => by
    unfold sch at h
    rcases List.mem_append.1 h with h | h
    · exact sch_lt s k x h
    · rw [List.mem_singleton.1 h]
      split
      · exact wAt_lt _ _
      · exact Nat.mod_lt _ (by omega)
theorem schD_lt (s : ByteArray) (k j : Nat) : (sch s k).getD j 0 < 4294967296 := by
  by_cases h : j < (sch s k).length
  · rw [List.getD_eq_getElem?_getD, List.getElem?_eq_getElem h]
    exact sch_lt s k _ (List.getElem_mem h)
  · rw [List.getD_eq_getElem?_getD, List.getElem?_eq_none (by omega)]
    simp
/-- the array that the schedule is laid in -/
def mem (s : ByteArray) (k : Nat) : List Nat := sch s k ++ List.replicate (64 - k) 0
theorem mem_len (s : ByteArray) {k : Nat} (h : k ≤ 64) : (mem s k).length = 64 := by simp [mem, sch_len]; omega
theorem mem_get (s : ByteArray) {k j : Nat} (h : j < k) : (mem s k)[j]? = some ((sch s k).getD j 0) := by
  unfold mem
  have hl : j < (sch s k).length := by rw [sch_len]; exact h
  rw [List.getElem?_append_left hl, List.getD_eq_getElem?_getD, List.getElem?_eq_getElem hl]
  rfl
theorem mem_set (s : ByteArray) {k v : Nat} (h : k < 64) (hv : sch s (k + 1) = sch s k ++ [v]) : (mem s k).set k v = mem s (k + 1) := by
  unfold mem
  have hr : 64 - k = (64 - (k + 1)) + 1 := by omega
  rw [List.set_append_right _ _ (by rw [sch_len]; exact Nat.le_refl _), sch_len, Nat.sub_self, hr, List.replicate_succ, List.set_cons_zero, hv, List.append_assoc]
  rfl
theorem mem_zero (s : ByteArray) : mem s 0 = List.replicate 64 0 := by simp [mem, sch]

abbrev pU (n : Nat) : PL := .sc (.int .u32 (n : Int))
theorem boxU_set (xs : List Nat) {i : Nat} (h : i < xs.length) (v : Nat) : (xs.map pU).take i ++ [pU v] ++ (xs.map pU).drop (i + 1) = (xs.set i v).map pU := by
  rw [List.map_set, List.set_eq_take_append_cons_drop, if_pos (by simpa using h), List.append_assoc]
  rfl
theorem boxU_get {xs : List Nat} {i v : Nat} (h : xs[i]? = some v) : (xs.map pU)[i]? = some (pU v) := by rw [List.getElem?_map, h]; rfl
theorem lsNms_pU (xs : List Nat) : lsNms (xs.map pU) = [] := by
  induction xs with
  | nil => rfl
  | cons x r ih => show PL.nms (pU x) ++ lsNms (r.map pU) = []; rw [ih]; rfl
theorem kill_pU (n : Nat) (xs : List Nat) : List.map (PL.kill n) (List.map pU xs) = List.map pU xs := by
  rw [List.map_map]
  rfl

structure W8 where
  (a b c d e f g h : Nat)
def W8.ok (v : W8) : Prop := (v.a < 4294967296 ∧ v.b < 4294967296 ∧ v.c < 4294967296 ∧ v.d < 4294967296) ∧ v.e < 4294967296 ∧ v.f < 4294967296 ∧ v.g < 4294967296 ∧ v.h < 4294967296
abbrev W8.pl (v : W8) : List PL := [pU v.a, pU v.b, pU v.c, pU v.d, pU v.e, pU v.f, pU v.g, pU v.h]
def big1 (e : Nat) : Nat := rotr e 6 ^^^ rotr e 11 ^^^ rotr e 25
def big0 (a : Nat) : Nat := rotr a 2 ^^^ rotr a 13 ^^^ rotr a 22
def chs (e f g : Nat) : Nat := (e &&& f) ^^^ ((4294967295 ^^^ e) &&& g)
def maj (a b c : Nat) : Nat := (a &&& b) ^^^ (a &&& c) ^^^ (b &&& c)
/-- one round -/
def rnd (v : W8) (kw : Nat) : W8 :=
  { a := (v.h + big1 v.e + chs v.e v.f v.g + kw + (big0 v.a + maj v.a v.b v.c)) % 4294967296, b := v.a, c := v.b, d := v.c,
    e := (v.d + (v.h + big1 v.e + chs v.e v.f v.g + kw)) % 4294967296, f := v.e, g := v.f, h := v.g }
def shaK (k : Nat) : Nat := shaW.getD k 0
def rnds (s : ByteArray) (h : W8) : Nat → W8
  | 0 => h
  | k + 1 => rnd (rnds s h k) (shaK k + (sch s 64).getD k 0)
theorem rnds_ok (s : ByteArray) {h : W8} (hh : h.ok) : ∀ k, (rnds s h k).ok
  | 0 => hh
  | k + 1 => by
    obtain ⟨⟨h1, h2, h3, h4⟩, h5, h6, h7, h8⟩ := rnds_ok s hh k
    exact ⟨⟨Nat.mod_lt _ (by omega), h1, h2, h3⟩, Nat.mod_lt _ (by omega), h5, h6, h7⟩
def addW (h v : W8) : W8 := ⟨(h.a + v.a) % 4294967296, (h.b + v.b) % 4294967296, (h.c + v.c) % 4294967296, (h.d + v.d) % 4294967296, (h.e + v.e) % 4294967296, (h.f + v.f) % 4294967296, (h.g + v.g) % 4294967296, (h.h + v.h) % 4294967296⟩
def block (h : W8) (s : ByteArray) : W8 := addW h (rnds s h 64)

def W8.lst (v : W8) : List Nat := [v.a, v.b, v.c, v.d, v.e, v.f, v.g, v.h]
/-- the first k words added -/
def mixL (h v : W8) (k : Nat) : List Nat := (List.range 8).map fun i => if i < k then (h.lst.getD i 0 + v.lst.getD i 0) % 4294967296 else h.lst.getD i 0
theorem mixL_len (h v : W8) (k : Nat) : (mixL h v k).length = 8 := by simp [mixL]
theorem mixL_all (h v : W8) : mixL h v 8 = (addW h v).lst := rfl
theorem mixL_get (h v : W8) {k : Nat} (hk : k < 8) : (mixL h v k)[k]? = some (h.lst.getD k 0) := by simp [mixL, hk]
theorem W8.lst_get (v : W8) {k : Nat} (hk : k < 8) : v.lst[k]? = some (v.lst.getD k 0) := by
  have : k < v.lst.length := hk
  simp [List.getD_eq_getElem?_getD, List.getElem?_eq_getElem this]
theorem mixL_set (h v : W8) {k : Nat} (hk : k < 8) : (mixL h v k).set k ((h.lst.getD k 0 + v.lst.getD k 0) % 4294967296) = mixL h v (k + 1) := by
  refine List.ext_getElem (by simp [mixL]) fun i h1 h2 => ?_
  simp only [mixL, List.getElem_set, List.getElem_map, List.getElem_range]
  by_cases e : k = i
  · subst e; simp
  · rw [if_neg e]
    by_cases hl : i < k
    · rw [if_pos hl, if_pos (by omega)]
    · rw [if_neg hl, if_neg (by omega)]
theorem W8.lst_lt {v : W8} (h : v.ok) (k : Nat) : v.lst.getD k 0 < 4294967296 := by
  obtain ⟨⟨h1, h2, h3, h4⟩, h5, h6, h7, h8⟩ := h
  match k with
  | 0 => exact h1
  | 1 => exact h2
  | 2 => exact h3
  | 3 => exact h4
  | 4 => exact h5
  | 5 => exact h6
  | 6 => exact h7
  | 7 => exact h8
  | k + 8 => exact (by omega : (0 : Nat) < 4294967296)
theorem addW_ok (h v : W8) : (addW h v).ok := ⟨⟨Nat.mod_lt _ (by omega), Nat.mod_lt _ (by omega), Nat.mod_lt _ (by omega), Nat.mod_lt _ (by omega)⟩, Nat.mod_lt _ (by omega), Nat.mod_lt _ (by omega), Nat.mod_lt _ (by omega), Nat.mod_lt _ (by omega)⟩

theorem sch_lo (s : ByteArray) {k : Nat} (h : k < 16) : sch s (k + 1) = sch s k ++ [wAt s k] := by rw [sch, if_pos h]
theorem sch_hi (s : ByteArray) {k : Nat} (h : ¬ k < 16) : sch s (k + 1) = sch s k ++ [((sch s k).getD (k - 16) 0 + sig0 ((sch s k).getD (k - 15) 0) + (sch s k).getD (k - 7) 0 + sig1 ((sch s k).getD (k - 2) 0)) % 4294967296] := by rw [sch, if_neg h]

end Go.Proofs.YtfgkfcfplodaoaaGreatDoor

end
