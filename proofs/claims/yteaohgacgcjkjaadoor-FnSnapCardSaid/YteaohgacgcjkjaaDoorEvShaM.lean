/-
  Sha: one block, as a function of words.
-/
import Derived.Test.YteaohgacgcjkjaaDoorEvSha
namespace Go.Proofs.YteaohgacgcjkjaaDoor
set_option maxRecDepth 100000
set_option linter.unusedVariables false
set_option linter.unusedSimpArgs false
open Go Go.RowKit
set_option maxHeartbeats 4000000

/-- word i of a block -/
def wAt (s : ByteArray) (i : Nat) : Nat := be4 (byteN s (4 * i)) (byteN s (4 * i + 1)) (byteN s (4 * i + 2)) (byteN s (4 * i + 3))
theorem wAt_lt (s : ByteArray) (i : Nat) : wAt s i < 4294967296 := be4_lt (byteN_lt _ _) (byteN_lt _ _) (byteN_lt _ _) (byteN_lt _ _)
def sig0 (a : Nat) : Nat := rotr a 7 ^^^ rotr a 18 ^^^ a / 2 ^ 3
def sig1 (a : Nat) : Nat := rotr a 17 ^^^ rotr a 19 ^^^ a / 2 ^ 10
theorem xor3_lt {a b c : Nat} (ha : a < 4294967296) (hb : b < 4294967296) (hc : c < 4294967296) : a ^^^ b ^^^ c < 4294967296 := by
  have h1 := Nat.xor_lt_two_pow (n := 32) (x := a) (y := b) (by omega) (by omega)
  have h2 := Nat.xor_lt_two_pow (n := 32) (y := c) h1 (by omega)
  omega
theorem sig0_lt {a : Nat} (h : a < 4294967296) : sig0 a < 4294967296 := xor3_lt (rotr_lt _ _) (rotr_lt _ _) (by omega)
theorem sig1_lt {a : Nat} (h : a < 4294967296) : sig1 a < 4294967296 := xor3_lt (rotr_lt _ _) (rotr_lt _ _) (by omega)
/-- the first k words of the schedule -/
def sch (s : ByteArray) : Nat → List Nat
  | 0 => []
  | k + 1 => sch s k ++ [if k < 16 then wAt s k else ((sch s k).getD (k - 16) 0 + sig0 ((sch s k).getD (k - 15) 0) + (sch s k).getD (k - 7) 0 + sig1 ((sch s k).getD (k - 2) 0)) % 4294967296]
theorem sch_len (s : ByteArray) : ∀ k, (sch s k).length = k
  | 0 => rfl
  | k + 1 => by simp [sch, sch_len s k]
theorem sch_lt (s : ByteArray) : ∀ k x, x ∈ sch s k → x < 4294967296
  | 0, x, h => by cases h
  | k + 1, x, h => by
    unfold sch at h
    rcases List.mem_append.1 h with h | h
    · exact sch_lt s k x h
    · rw [List.mem_singleton.1 h]
      split
      · exact wAt_lt _ _
      · exact Nat.mod_lt _ (by omega)
theorem schD_lt (s : ByteArray) (k j : Nat) : (sch s k).getD j 0 < 4294967296 := by
  by_cases h : j < (sch s k).length
  · rw [List.getD_eq_getElem?_getD, List.getElem?_eq_getElem h]
    exact sch_lt s k _ (List.getElem_mem h)
  · rw [List.getD_eq_getElem?_getD, List.getElem?_eq_none (by omega)]
    simp
/-- the array that the schedule is laid in -/
def mem (s : ByteArray) (k : Nat) : List Nat := sch s k ++ List.replicate (64 - k) 0
theorem mem_len (s : ByteArray) {k : Nat} (h : k ≤ 64) : (mem s k).length = 64 := by simp [mem, sch_len]; omega
theorem mem_get (s : ByteArray) {k j : Nat} (h : j < k) : (mem s k)[j]? = some ((sch s k).getD j 0) := by
  unfold mem
  have hl : j < (sch s k).length := by rw [sch_len]; exact h
  rw [List.getElem?_append_left hl, List.getD_eq_getElem?_getD, List.getElem?_eq_getElem hl]
  rfl
theorem mem_set (s : ByteArray) {k v : Nat} (h : k < 64) (hv : sch s (k + 1) = sch s k ++ [v]) : (mem s k).set k v = mem s (k + 1) := by
  unfold mem
  have hr : 64 - k = (64 - (k + 1)) + 1 := by omega
  rw [List.set_append_right _ _ (by rw [sch_len]; exact Nat.le_refl _), sch_len, Nat.sub_self, hr, List.replicate_succ, List.set_cons_zero, hv, List.append_assoc]
  rfl
theorem mem_zero (s : ByteArray) : mem s 0 = List.replicate 64 0 := by simp [mem, sch]

abbrev pU (n : Nat) : PL := .sc (.int .u32 (n : Int))
theorem boxU_set (xs : List Nat) {i : Nat} (h : i < xs.length) (v : Nat) : (xs.map pU).take i ++ [pU v] ++ (xs.map pU).drop (i + 1) = (xs.set i v).map pU := by
  rw [List.map_set, List.set_eq_take_append_cons_drop, if_pos (by simpa using h), List.append_assoc]
  rfl
theorem boxU_get {xs : List Nat} {i v : Nat} (h : xs[i]? = some v) : (xs.map pU)[i]? = some (pU v) := by rw [List.getElem?_map, h]; rfl
theorem lsNms_pU (xs : List Nat) : lsNms (xs.map pU) = [] := by
  induction xs with
  | nil => rfl
  | cons x r ih => show PL.nms (pU x) ++ lsNms (r.map pU) = []; rw [ih]; rfl
theorem kill_pU (n : Nat) (xs : List Nat) : List.map (PL.kill n) (List.map pU xs) = List.map pU xs := by
  rw [List.map_map]
  rfl

structure W8 where
  (a b c d e f g h : Nat)
def W8.ok (v : W8) : Prop := (v.a < 4294967296 ∧ v.b < 4294967296 ∧ v.c < 4294967296 ∧ v.d < 4294967296) ∧ v.e < 4294967296 ∧ v.f < 4294967296 ∧ v.g < 4294967296 ∧ v.h < 4294967296
abbrev W8.pl (v : W8) : List PL := [pU v.a, pU v.b, pU v.c, pU v.d, pU v.e, pU v.f, pU v.g, pU v.h]
def big1 (e : Nat) : Nat := rotr e 6 ^^^ rotr e 11 ^^^ rotr e 25
def big0 (a : Nat) : Nat := rotr a 2 ^^^ rotr a 13 ^^^ rotr a 22
def chs (e f g : Nat) : Nat := (e &&& f) ^^^ ((4294967295 ^^^ e) &&& g)
def maj (a b c : Nat) : Nat := (a &&& b) ^^^ (a &&& c) ^^^ (b &&& c)
/-- one round -/
def rnd (v : W8) (kw : Nat) : W8 :=
  { a := (v.h + big1 v.e + chs v.e v.f v.g + kw + (big0 v.a + maj v.a v.b v.c)) % 4294967296, b := v.a, c := v.b, d := v.c,
    e := (v.d + (v.h + big1 v.e + chs v.e v.f v.g + kw)) % 4294967296, f := v.e, g := v.f, h := v.g }
def shaK (k : Nat) : Nat := shaW.getD k 0
def rnds (s : ByteArray) (h : W8) : Nat → W8
  | 0 => h
  | k + 1 => rnd (rnds s h k) (shaK k + (sch s 64).getD k 0)
theorem rnds_ok (s : ByteArray) {h : W8} (hh : h.ok) : ∀ k, (rnds s h k).ok
  | 0 => hh
  | k + 1 => by
    obtain ⟨⟨h1, h2, h3, h4⟩, h5, h6, h7, h8⟩ := rnds_ok s hh k
    exact ⟨⟨Nat.mod_lt _ (by omega), h1, h2, h3⟩, Nat.mod_lt _ (by omega), h5, h6, h7⟩
def addW (h v : W8) : W8 := ⟨(h.a + v.a) % 4294967296, (h.b + v.b) % 4294967296, (h.c + v.c) % 4294967296, (h.d + v.d) % 4294967296, (h.e + v.e) % 4294967296, (h.f + v.f) % 4294967296, (h.g + v.g) % 4294967296, (h.h + v.h) % 4294967296⟩
def block (h : W8) (s : ByteArray) : W8 := addW h (rnds s h 64)

def W8.lst (v : W8) : List Nat := [v.a, v.b, v.c, v.d, v.e, v.f, v.g, v.h]
theorem W8.lst_len (v : W8) : v.lst.length = 8 := rfl
theorem W8.lst_pl (v : W8) : v.lst.map pU = v.pl := rfl
/-- the first k words added -/
def mixL (h v : W8) (k : Nat) : List Nat := (List.range 8).map fun i => if i < k then (h.lst.getD i 0 + v.lst.getD i 0) % 4294967296 else h.lst.getD i 0
theorem mixL_len (h v : W8) (k : Nat) : (mixL h v k).length = 8 := by simp [mixL]
theorem mixL_zero (h v : W8) : mixL h v 0 = h.lst := rfl
theorem mixL_all (h v : W8) : mixL h v 8 = (addW h v).lst := rfl
theorem mixL_get (h v : W8) {k : Nat} (hk : k < 8) : (mixL h v k)[k]? = some (h.lst.getD k 0) := by simp [mixL, hk]
theorem W8.lst_get (v : W8) {k : Nat} (hk : k < 8) : v.lst[k]? = some (v.lst.getD k 0) := by
  have : k < v.lst.length := hk
  simp [List.getD_eq_getElem?_getD, List.getElem?_eq_getElem this]
theorem mixL_set (h v : W8) {k : Nat} (hk : k < 8) : (mixL h v k).set k ((h.lst.getD k 0 + v.lst.getD k 0) % 4294967296) = mixL h v (k + 1) := by
  refine List.ext_getElem (by simp [mixL]) fun i h1 h2 => ?_
  simp only [mixL, List.getElem_set, List.getElem_map, List.getElem_range]
  by_cases e : k = i
  · subst e; simp
  · rw [if_neg e]
    by_cases hl : i < k
    · rw [if_pos hl, if_pos (by omega)]
    · rw [if_neg hl, if_neg (by omega)]
theorem W8.lst_lt {v : W8} (h : v.ok) (k : Nat) : v.lst.getD k 0 < 4294967296 := by
  obtain ⟨⟨h1, h2, h3, h4⟩, h5, h6, h7, h8⟩ := h
  match k with
  | 0 => exact h1
  | 1 => exact h2
  | 2 => exact h3
  | 3 => exact h4
  | 4 => exact h5
  | 5 => exact h6
  | 6 => exact h7
  | 7 => exact h8
  | k + 8 => exact (by omega : (0 : Nat) < 4294967296)
theorem addW_ok (h v : W8) : (addW h v).ok := ⟨⟨Nat.mod_lt _ (by omega), Nat.mod_lt _ (by omega), Nat.mod_lt _ (by omega), Nat.mod_lt _ (by omega)⟩, Nat.mod_lt _ (by omega), Nat.mod_lt _ (by omega), Nat.mod_lt _ (by omega), Nat.mod_lt _ (by omega)⟩

theorem sch_lo (s : ByteArray) {k : Nat} (h : k < 16) : sch s (k + 1) = sch s k ++ [wAt s k] := by rw [sch, if_pos h]
theorem sch_hi (s : ByteArray) {k : Nat} (h : ¬ k < 16) : sch s (k + 1) = sch s k ++ [((sch s k).getD (k - 16) 0 + sig0 ((sch s k).getD (k - 15) 0) + (sch s k).getD (k - 7) 0 + sig1 ((sch s k).getD (k - 2) 0)) % 4294967296] := by rw [sch, if_neg h]

end Go.Proofs.YteaohgacgcjkjaaDoor
