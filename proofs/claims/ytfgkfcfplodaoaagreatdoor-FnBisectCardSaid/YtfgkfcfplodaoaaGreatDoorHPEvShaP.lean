/-
  Sha: padding, all blocks, the words' bytes, as functions; Fixed of impl.
-/
import Derived.Test.YtfgkfcfplodaoaaGreatDoorG16
import Derived.Test.YtfgkfcfplodaoaaGreatDoorG9
import Derived.Test.YtfgkfcfplodaoaaGreatDoorG11
namespace Go.Proofs.YtfgkfcfplodaoaaGreatDoor
set_option maxRecDepth 100000
set_option linter.unusedVariables false
set_option linter.unusedSimpArgs false
open Go Go.RowKit
set_option maxHeartbeats 4000000

/-- the last k bytes of a number, the greatest first -/
def fixB : Nat → Nat → List Nat
  | 0, _ => []
  | k + 1, n => (n / 256 ^ k % 256) :: fixB k n
theorem fixB_len : ∀ k n, (fixB k n).length = k
  | 0, _ => rfl
  | k + 1, n => by simp [fixB, fixB_len k n]
theorem fixB_get (n : Nat) : ∀ k i, i < k → (fixB k n)[i]? = some (n / 256 ^ (k - 1 - i) % 256)
  | 0, i, h => by omega
  | k + 1, 0, _ => by simp [fixB]
  | k + 1, i + 1, h => by
    have := fixB_get n k i (by omega)
    simp only [fixB, List.getElem?_cons_succ, this]
    congr 4
    omega
theorem bsS_app (a b : List Nat) : bsS a ++ bsS b = bsS (a ++ b) := by
  unfold bsS
  apply ByteArray.ext
  simp
theorem fixB_top {n : Nat} (h : n < 72057594037927936) : fixB 8 n = 0 :: fixB 7 n := by
  show (n / 256 ^ 7 % 256) :: fixB 7 n = _
  have : n / 256 ^ 7 = 0 := Nat.div_eq_of_lt (by omega)
  rw [this]
def zPd (n : Nat) : Nat := (64 - (n + 9) % 64) % 64
def padZ (i : Nat) : List Nat := 128 :: List.replicate i 0
theorem padZ_len (i : Nat) : (padZ i).length = i + 1 := by simp [padZ]
theorem padZ_succ (i : Nat) : padZ i ++ [0] = padZ (i + 1) := by
  unfold padZ
  rw [List.replicate_succ', List.cons_append]
def padS (s : ByteArray) : ByteArray := s ++ bsS (padZ (zPd s.size) ++ fixB 8 (8 * s.size))
theorem padS_size (s : ByteArray) : (padS s).size = s.size + 9 + zPd s.size := by
  unfold padS
  rw [ByteArray.size_append, bsS_size, List.length_append, padZ_len, fixB_len]
  omega
theorem padS_64 (s : ByteArray) : ∃ q, (padS s).size = 64 * q ∧ q ≤ s.size + 2 := by
  refine ⟨(padS s).size / 64, ?_, ?_⟩
  · rw [padS_size]; unfold zPd; omega
  · rw [padS_size]; unfold zPd; omega
theorem padS_impl {s : ByteArray} (h : s.size ≤ 16777216) : s ++ (⟨#[128]⟩ : ByteArray) ++ bsS (List.replicate (zPd s.size + 1) 0) ++ bsS (fixB 7 (8 * s.size)) = padS s := by
  have e : (⟨#[128]⟩ : ByteArray) = bsS [128] := rfl
  rw [e, ByteArray.append_assoc, ByteArray.append_assoc, bsS_app, bsS_app]
  unfold padS
  rw [fixB_top (by omega)]
  congr 2
  unfold padZ
  rw [List.replicate_succ']
  simp
theorem rowsF_repU (n x : Nat) : rowsF cU8 (List.replicate n x) = List.replicate n [Leaf.sc (.int .u8 (x : Int))] := List.map_replicate
def H0 : W8 := ⟨0x6a09e667, 0xbb67ae85, 0x3c6ef372, 0xa54ff53a, 0x510e527f, 0x9b05688c, 0x1f83d9ab, 0x5be0cd19⟩
theorem H0_ok : H0.ok := by unfold W8.ok H0; decide
/-- the words behind the first j blocks -/
def foldK (t : ByteArray) : Nat → W8
  | 0 => H0
  | j + 1 => block (foldK t j) (t.extract (64 * j) (64 * j + 64))
theorem foldK_ok (t : ByteArray) : ∀ j, (foldK t j).ok
  | 0 => H0_ok
  | j + 1 => addW_ok _ _
def outL (v : W8) (k : Nat) : List Nat := (v.lst.take k).flatMap (fixB 4)
theorem outL_succ (v : W8) {k : Nat} (hk : k < 8) : outL v (k + 1) = outL v k ++ fixB 4 (v.lst.getD k 0) := by
  have hl : k < v.lst.length := hk
  unfold outL
  rw [List.take_succ_eq_append_getElem hl, List.flatMap_append, List.getD_eq_getElem?_getD, List.getElem?_eq_getElem hl]
  simp
theorem outL_len (v : W8) : ∀ k, k ≤ 8 → (outL v k).length = 4 * k
  | 0, _ => rfl
  | k + 1, hk => by rw [outL_succ v (by omega), List.length_append, outL_len v k (by omega), fixB_len]; omega
def shaW8 (s : ByteArray) : W8 := foldK (padS s) ((padS s).size / 64)
def shaS (s : ByteArray) : ByteArray := bsS (outL (shaW8 s) 8)
theorem shaS_size (s : ByteArray) : (shaS s).size = 32 := by unfold shaS; rw [bsS_size, outL_len _ _ (Nat.le_refl _)]
noncomputable def mSha := mdl (fun s : ByteArray => s.size ≤ 16777216) (fun s => [aS s]) (fun s => rS (shaS s))
theorem mSha_eq (s : ByteArray) (h : s.size ≤ 16777216) : mSha [aS s] = some (rS (shaS s)) := mdl_eq (by intro a b h; simpa using h) s h

def fixP (w n j : Nat) : List Nat := List.replicate (w - j) 0 ++ fixB j n
theorem fixP_len {w n j : Nat} (h : j ≤ w) : (fixP w n j).length = w := by simp [fixP, fixB_len]; omega
theorem fixP_set {w n j : Nat} (h : j < w) : (fixP w n j).set (w - 1 - j) (n / 256 ^ j % 256) = fixP w n (j + 1) := by
  unfold fixP
  have e : w - j = (w - (j + 1)) + 1 := by omega
  have e2 : w - 1 - j = w - (j + 1) := by omega
  rw [e, e2, List.replicate_succ', List.append_assoc, List.set_append_right _ _ (by simp), List.length_replicate, Nat.sub_self]
  rfl
theorem fixP_old {w n j : Nat} (h : j < w) : (fixP w n j)[w - 1 - j]? = some 0 := by
  unfold fixP
  rw [List.getElem?_append_left (by simp; omega), List.getElem?_replicate, if_pos (by omega)]
theorem rowU {l : List Nat} {k v : Nat} (h : l[k]? = some v) : (rowsF cU8 l)[k]? = some [.sc (.int .u8 (v : Int))] := by
  unfold rowsF
  rw [List.getElem?_map, h]
  rfl
noncomputable def mFixed := mdl (fun x : Nat × Nat => (x.2 = 4 ∨ x.2 = 7) ∧ x.1 < 256 ^ x.2) (fun x => [aI (x.1 : Int), aI (x.2 : Int)]) (fun x => rS (bsS (fixB x.2 x.1)))
theorem mFixed4 (n : Nat) (h : n < 4294967296) : mFixed [aI (n : Int), aI 4] = some (rS (bsS (fixB 4 n))) := mdl_eq (by rintro ⟨a, b⟩ ⟨d, e⟩ h; simp at h; simp; omega) (n, 4) ⟨.inl rfl, h⟩
theorem mFixed7 (n : Nat) (h : n < 72057594037927936) : mFixed [aI (n : Int), aI 7] = some (rS (bsS (fixB 7 n))) := mdl_eq (by rintro ⟨a, b⟩ ⟨d, e⟩ h; simp at h; simp; omega) (n, 7) ⟨.inr rfl, h⟩
theorem and255 {m : Nat} (h : m < 9223372036854775808) : bits .and .i64 (m : Int) 255 = ((m % 256 : Nat) : Int) := by
  have := and_i64 (a := m) (b := 255) h (by omega)
  rw [show (255 : Nat) = 2 ^ 8 - 1 from rfl, Nat.and_two_pow_sub_one_eq_mod] at this
  exact this
theorem fixed_s : Sound Tryz.prog 224 mFixed := by
  refine Sound.mdl Tryz.func224 rfl Tryz.ntmps224 ?_
  rintro ⟨n, wd⟩ w ⟨hw, hn⟩
  refine ⟨by simp, ?_⟩
  dsimp only at hw hn
  have hΓ : GSound Tryz.prog (look [(139, mWithin)]) := env_cons (has_of Tryz.func139 rfl rfl) within_s env_nil
  rcases hw with rfl | rfl
  · have hn : n < 4294967296 := hn
    have c1 : mWithin [aI ((4 : Nat) : Int), aI 1, aI 7] = some (rB (decide ((1 : Int) ≤ ((4 : Nat) : Int) ∧ ((4 : Nat) : Int) ≤ 7))) := mWithin_eq _ 1 7
    have e84 : (8 : Int) * 4 = 32 := rfl
    have e32 : min 32 IntKind.i64.bits = 32 := rfl
    have n4 : ((4 : Nat) : Int) = 4 := rfl
    have ha : ar .i64 (1 * 2 ^ 32) = some (.int .i64 4294967296) := rfl
    have hz : List.replicate 4 [Leaf.sc (.int .u8 0)] = rowsF cU8 (fixP 4 n 0) := rfl
    rw [n4] at c1
    simp only [initS, argPV, List.map_cons, List.map_nil, toPL, Nat.zero_add]
    rw [n4]
    refine zR ?_
    refine W.loopA (fun j => j ≤ 4) (fun j : Nat => [.slot 6 (vI (3 - (j : Int))), .slot 0 (vI ((n / 256 ^ j : Nat) : Int)), .slot 5 (one (.all 22)), .blk 22 (.arr .ft 5 1 (rowsF cU8 (fixP 4 n j)))]) (fun j => 4 - j) 0 (Nat.zero_le _) (by simp only [Nat.pow_zero, Nat.div_one]; exact subP) (h := ?_)
    clear hz c1 e32 ha e84
    rintro j hj
    have hpl := fixP_len (n := n) hj
    have hpr := rowsF_len cU8 (fixP 4 n j)
    by_cases hlt : j < 4
    · have hold := rowU (fixP_old (n := n) hlt)
      have hset : (rowsF cU8 (fixP 4 n j)).set (4 - 1 - j) [.sc (.int .u8 ((n / 256 ^ j % 256 : Nat) : Int))] = rowsF cU8 (fixP 4 n (j + 1)) := by rw [← fixP_set (n := n) hlt]; exact rowsF_set cU8 _ _ _
      have hnx : n / 256 ^ j / 256 = n / 256 ^ (j + 1) := by rw [Nat.div_div_eq_div_mul, Nat.pow_succ]
      have hm : n / 256 ^ j < 9223372036854775808 := Nat.lt_of_le_of_lt (Nat.div_le_self _ _) (by omega)
      have ei : ((3 : Int) - (j : Int)).toNat = 4 - 1 - j := by omega
      generalize n / 256 ^ j = m at *
      have t1 := and255 hm
      have hw := wrap_u8n (n := m % 256) (by omega)
      have m8 : min 8 IntKind.i64.bits = 8 := rfl
      have t2 : (m : Int).fdiv (2 ^ 8) = ((m / 256 : Nat) : Int) := fdiv_nat m 8
      have t3 : (3 : Int) - (j : Int) - 1 = 3 - ((j + 1 : Nat) : Int) := by omega
      refine zR ?_
      exact At.roundA (j + 1) (by omega) (by omega)
    · have hj4 : j = 4 := by omega
      subst hj4
      have hb := bytes_rows (fixP 4 n 4)
      refine zR ?_
      refine At.retA (by rw [Tryz.results224]) (he := rfl)
  · have hn : n < 72057594037927936 := hn
    have c1 : mWithin [aI ((7 : Nat) : Int), aI 1, aI 7] = some (rB (decide ((1 : Int) ≤ ((7 : Nat) : Int) ∧ ((7 : Nat) : Int) ≤ 7))) := mWithin_eq _ 1 7
    have e84 : (8 : Int) * 7 = 56 := rfl
    have e32 : min 56 IntKind.i64.bits = 56 := rfl
    have n4 : ((7 : Nat) : Int) = 7 := rfl
    have ha : ar .i64 (1 * 2 ^ 56) = some (.int .i64 72057594037927936) := rfl
    have hz : List.replicate 7 [Leaf.sc (.int .u8 0)] = rowsF cU8 (fixP 7 n 0) := rfl
    rw [n4] at c1
    simp only [initS, argPV, List.map_cons, List.map_nil, toPL, Nat.zero_add]
    rw [n4]
    refine zR ?_
    refine W.loopA (fun j => j ≤ 7) (fun j : Nat => [.slot 6 (vI (6 - (j : Int))), .slot 0 (vI ((n / 256 ^ j : Nat) : Int)), .slot 5 (one (.all 22)), .blk 22 (.arr .ft 5 1 (rowsF cU8 (fixP 7 n j)))]) (fun j => 7 - j) 0 (Nat.zero_le _) (by simp only [Nat.pow_zero, Nat.div_one]; exact subP) (h := ?_)
    clear hz c1 e32 ha e84
    rintro j hj
    have hpl := fixP_len (n := n) hj
    have hpr := rowsF_len cU8 (fixP 7 n j)
    by_cases hlt : j < 7
    · have hold := rowU (fixP_old (n := n) hlt)
      have hset : (rowsF cU8 (fixP 7 n j)).set (7 - 1 - j) [.sc (.int .u8 ((n / 256 ^ j % 256 : Nat) : Int))] = rowsF cU8 (fixP 7 n (j + 1)) := by rw [← fixP_set (n := n) hlt]; exact rowsF_set cU8 _ _ _
      have hnx : n / 256 ^ j / 256 = n / 256 ^ (j + 1) := by rw [Nat.div_div_eq_div_mul, Nat.pow_succ]
      have hm : n / 256 ^ j < 9223372036854775808 := Nat.lt_of_le_of_lt (Nat.div_le_self _ _) (by omega)
      have ei : ((6 : Int) - (j : Int)).toNat = 7 - 1 - j := by omega
      generalize n / 256 ^ j = m at *
      have t1 := and255 hm
      have hw := wrap_u8n (n := m % 256) (by omega)
      have m8 : min 8 IntKind.i64.bits = 8 := rfl
      have t2 : (m : Int).fdiv (2 ^ 8) = ((m / 256 : Nat) : Int) := fdiv_nat m 8
      have t3 : (6 : Int) - (j : Int) - 1 = 6 - ((j + 1 : Nat) : Int) := by omega
      refine zR ?_
      exact At.roundA (j + 1) (by omega) (by omega)
    · have hj4 : j = 7 := by omega
      subst hj4
      have hb := bytes_rows (fixP 7 n 7)
      refine zR ?_
      refine At.retA (by rw [Tryz.results224]) (he := rfl)

end Go.Proofs.YtfgkfcfplodaoaaGreatDoor
