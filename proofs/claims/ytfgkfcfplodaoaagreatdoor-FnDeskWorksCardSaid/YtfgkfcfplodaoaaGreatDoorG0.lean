/-
  Put together: PBase SortI POpen PEvGl PIval PStr.
-/
import Derived.WalkKit
import Derived.WalkSpells
import Derived.WalkLawsBesides
import Derived.Lib.Hide
import Derived.Deep.QuietTactic
import Derived.Deep.Draws
import Derived.BigQuiet
import Derived.Outline
import Derived.Handy
import Derived.StillTailTactics
import Derived.Deep.RegionLaw
import Derived.Shelf.Sort.Plain
import Derived.Shelf.Slices.CompactI
import Derived.Test.YtfgkfcfplodaoaaGreatDoorProg
import Derived.Test.YtfgkfcfplodaoaaGreatDoorRows
import Derived.ProofKit
import Derived.SizedLaws
import Derived.JoinedCond
import Derived.Deep.Slices
import Derived.Deep.CondSized
set_option linter.unusedSimpArgs false
set_option linter.unusedVariables false
set_option maxRecDepth 100000
section
namespace Go.Proofs.YtfgkfcfplodaoaaGreatDoor
open Go.RowKit
def RdS {α : Type} (w : World) (B s : Nat) (f : α → List Value) (v : Value) (l : List α) : Prop :=
  ∃ A c, v = .slice A l.length c ∧ l.length ≤ c ∧ c ≤ maxLen ∧
    (l ≠ [] → ∃ b off, A = some ⟨b, off, none⟩ ∧ b < B ∧ ∀ i x, l[i]? = some x → ∀ j u, (f x)[j]? = some u → w.cell? ⟨b, off + i * s + j, none⟩ = some u)
section
variable {α : Type} {w w' : World} {B B' s : Nat} {f : α → List Value} {v : Value} {l : List α}
theorem RdS.keep (h : RdS w B s f v l) (hk : ∀ b o, b < B → w'.cell? ⟨b, o, none⟩ = w.cell? ⟨b, o, none⟩) : RdS w' B s f v l := by
  obtain ⟨A, c, hv, hlc, hcm, hn⟩ := h
  refine ⟨A, c, hv, hlc, hcm, fun hne => ?_⟩
  obtain ⟨b, off, hA, hb, hc⟩ := hn hne
  exact ⟨b, off, hA, hb, fun i x hx j u hu => (hk _ _ hb).trans (hc i x hx j u hu)⟩
theorem RdS.more (h : RdS w B s f v l) (hB : B ≤ B') : RdS w B' s f v l := by
  obtain ⟨A, c, hv, hlc, hcm, hn⟩ := h
  refine ⟨A, c, hv, hlc, hcm, fun hne => ?_⟩
  obtain ⟨b, off, hA, hb, hc⟩ := hn hne
  exact ⟨b, off, hA, by omega, hc⟩
theorem RdS.below (h : RdS w B s f v l) (hb : Below B w w') : RdS w' B s f v l :=
  h.keep fun b o hlt => hb.cell (p := ⟨b, o, none⟩) hlt
theorem RdS.drewN (h : RdS w B s f v l) (n : Nat) : RdS (w.drewN n) B s f v l :=
  h.keep fun b o _ => by simp
theorem RdS.drew (h : RdS w B s f v l) : RdS w.drew B s f v l :=
  h.keep fun b o _ => by simp
end
def cStr (s : ByteArray) : List Value := [.string s]
def cInt (n : Int) : List Value := [.int .i64 n]
def cBool (b : Bool) : List Value := [.bool b]
theorem below_drewN {B : Nat} {a w : World} (h : Below B a w) (n : Nat) : Below B a (w.drewN n) := ⟨h.os, h.tape, h.output, h.size, h.block⟩
def Row (w : World) (g : Nat) (t : TypeId) (cs : List Value) : Prop := w.heap[g]? = some (.cells cs.toArray t (0, 0))
section
variable {w w' : World} {g : Nat} {t : TypeId} {cs : List Value}
theorem Row.lt (h : Row w g t cs) : g < w.heap.size := by
  rcases Nat.lt_or_ge g w.heap.size with hlt | hge
  · exact hlt
  · unfold Row at h; rw [Array.getElem?_eq_none hge] at h; cases h
theorem Row.cell (h : Row w g t cs) (i : Nat) : w.cell? ⟨g, i, none⟩ = cs[i]? := by
  unfold Row at h
  simp [World.cell?, h]
theorem Row.frozen (h : Row w g t cs) (i : Nat) : w.frozen? ⟨g, i, none⟩ = false := by
  unfold Row at h
  simp [World.frozen?, h]
theorem Row.set (h : Row w g t cs) (i : Nat) (u : Value) : Row (w.setCell ⟨g, i, none⟩ u) g t (cs.set i u) := by
  unfold Row at h ⊢
  simp [World.setCell, Array.getElem?_modify, h]
theorem Row.below {B : Nat} (h : Row w g t cs) (hb : Below B w w') (hg : g < B) : Row w' g t cs := (hb.block g hg).trans h
theorem Row.alloc (h : Row w g t cs) (o : Obj) : Row (w.alloc o) g t cs := (Below.heap_alloc w o g h.lt).trans h
theorem Row.drew (h : Row w g t cs) : Row w.drew g t cs := h
theorem Row.drewN (h : Row w g t cs) (n : Nat) : Row (w.drewN n) g t cs := h
theorem Row.new (w : World) (t : TypeId) (cs : List Value) : Row (w.alloc (.cells cs.toArray t)) w.heap.size t cs := by
  unfold Row
  show (w.heap.push _)[w.heap.size]? = _
  simp
end
def OwnS {α : Type} (w : World) (B0 s : Nat) (f : α → List Value) (v : Value) (l : List α) : Prop :=
  ∃ A c, v = .slice A l.length c ∧ l.length ≤ c ∧ c ≤ maxLen ∧
    (l ≠ [] → ∃ b off, A = some ⟨b, off, none⟩ ∧ B0 ≤ b ∧ b < w.heap.size ∧ (∀ o, w.frozen? ⟨b, o, none⟩ = false) ∧
      ∀ i x, l[i]? = some x → ∀ j u, (f x)[j]? = some u → w.cell? ⟨b, off + i * s + j, none⟩ = some u)
section
variable {α : Type} {w w' : World} {B0 s : Nat} {f : α → List Value} {v : Value} {l : List α}
theorem OwnS.below (h : OwnS w B0 s f v l) (hb : Below w.heap.size w w') : OwnS w' B0 s f v l := by
  obtain ⟨A, c, hv, hlc, hcm, hn⟩ := h
  refine ⟨A, c, hv, hlc, hcm, fun hne => ?_⟩
  obtain ⟨b, off, hA, hB, hlt, hf, hc⟩ := hn hne
  exact ⟨b, off, hA, hB, Nat.lt_of_lt_of_le hlt hb.size, fun o => (hb.frozen (p := ⟨b, o, none⟩) hlt).trans (hf o), fun i x hx j u hu => (hb.cell (p := ⟨b, _, none⟩) hlt).trans (hc i x hx j u hu)⟩
theorem OwnS.low (h : OwnS w B0 s f v l) {B1 : Nat} (hB : B1 ≤ B0) : OwnS w B1 s f v l := by
  obtain ⟨A, c, hv, hlc, hcm, hn⟩ := h
  refine ⟨A, c, hv, hlc, hcm, fun hne => ?_⟩
  obtain ⟨b, off, hA, h1, h2⟩ := hn hne
  exact ⟨b, off, hA, by omega, h2⟩
end
def NewS {α : Type} (W : World) (s : Nat) (f : α → List Value) (l : List α) (e : Ending) (w' : World) : Prop :=
  ∃ v, e = .returned v ∧ OwnS w' W.heap.size s f v l ∧ Below W.heap.size W w'
def zeros (zs : List Value) (n : Nat) : List Value := (List.replicate n zs).flatten
theorem length_zeros (zs : List Value) (n : Nat) : (zeros zs n).length = n * zs.length := by simp [zeros]
theorem madeCells_eq (zs : List Value) (n : Nat) : madeCells zs.toArray (n * zs.length) = (zeros zs n).toArray := by
  apply Array.ext
  · simp [madeCells, length_zeros]
  · intro i h1 h2
    have hi : i < n * zs.length := by simpa [madeCells] using h1
    have hz : 0 < zs.length := by
      rcases Nat.eq_zero_or_pos zs.length with h | h
      · rw [h, Nat.mul_zero] at hi; omega
      · exact h
    simp only [madeCells, Array.getElem_map, Array.getElem_range, List.size_toArray, List.getElem_toArray]
    have key : ∀ (n i : Nat), i < n * zs.length → (zeros zs n)[i]? = zs[i % zs.length]? := by
      intro n
      induction n with
      | zero => intro i h; omega
      | succ n ih =>
        intro i h
        have e : zeros zs (n + 1) = zs ++ zeros zs n := by simp [zeros, List.replicate_succ]
        rw [e]
        by_cases hlt : i < zs.length
        · rw [List.getElem?_append_left hlt, Nat.mod_eq_of_lt hlt]
        · rw [List.getElem?_append_right (by omega), ih (i - zs.length) (by rw [Nat.succ_mul] at h; omega), Nat.mod_eq_sub_mod (a := i) (by omega)]
    have hk := key n i hi
    have hm : i % zs.length < zs.length := Nat.mod_lt _ hz
    rw [List.getElem?_eq_getElem (by simpa using h2), List.getElem?_eq_getElem hm] at hk
    injection hk with hk
    rw [hk]
    simp [hm]
theorem run_mk {P : Program} (t e : TypeId) (z : Value) (zs : List Value) (s bytes : Nat) (ht : P.underlying t = some (.slice e)) (hinfo : (P.info? e).map (fun i => (i.zero, i.size, i.bytes)) = some (some z, s, bytes))
    (hz1 : z.cells = zs.toArray) (hs : zs.length = s) (kl kc : IntKind) (n : Nat) (hbytes : bytes * n ≤ 281474976710656) (h63 : n ≤ 9223372036854775807) (w : World) :
    (Instr.makeSlice t (.int kl (n : Int)) (.int kc (n : Int))).run P w = .ok (.slice (some ⟨w.heap.size, 0, none⟩) n n) (w.alloc (.cells (zeros zs n).toArray e)) := by
  obtain ⟨i, hi, hzz⟩ := Option.map_eq_some_iff.1 hinfo
  simp only [Prod.mk.injEq] at hzz
  obtain ⟨hz, hs', hb⟩ := hzz
  have hb' : (i.bytes : Int) * (n : Int) ≤ 281474976710656 := by
    have h : ((i.bytes * n : Nat) : Int) ≤ 281474976710656 := by rw [hb]; omega
    rwa [Int.natCast_mul] at h
  have hr := run_make (P := P) t e i z ht hi hz kl kc n n (by omega) (Int.le_refl _) hb' (by omega) (w := w)
  simp only [Int.toNat_natCast, hz1, hs'] at hr
  rw [← hs, madeCells_eq] at hr
  exact hr
theorem ba_inj {a b : ByteArray} (h : a.toList = b.toList) : a = b := by
  rw [ByteArray.toList_eq, ByteArray.toList_eq] at h
  cases a; cases b
  simp only [ByteArray.mk.injEq]
  exact Array.toList_inj.1 h
theorem ba_beq (a b : ByteArray) : (a.toList == b.toList) = decide (a = b) := by
  by_cases h : a = b
  · subst h; simp
  · rw [decide_eq_false h]
    exact beq_eq_false_iff_ne.2 fun e => h (ba_inj e)
def QW (w wr : World) : Prop := ∃ n, wr = w.drewN n
theorem QW.refl (w : World) : QW w w := ⟨0, rfl⟩
theorem QW.drewN {w wr : World} (h : QW w wr) (n : Nat) : QW w (wr.drewN n) := by
  obtain ⟨m, rfl⟩ := h
  exact ⟨m + n, World.drewN_drewN _ _ _⟩
theorem QW.drew {w wr : World} (h : QW w wr) : QW w wr.drew := h.drewN 1
theorem QW.trans {a b c : World} (h : QW a b) (k : QW b c) : QW a c := by
  obtain ⟨m, rfl⟩ := k
  exact h.drewN m
theorem QW.cell {w wr : World} (h : QW w wr) (p : Addr) : wr.cell? p = w.cell? p := by
  obtain ⟨m, rfl⟩ := h
  rfl
theorem QW.below {w wr : World} (h : QW w wr) (B : Nat) : Below B w wr := by
  obtain ⟨m, rfl⟩ := h
  exact below_drewN (Below.refl _ _) m
theorem QW.size {w wr : World} (h : QW w wr) : wr.heap.size = w.heap.size := by
  obtain ⟨m, rfl⟩ := h
  rfl
def Quiet (v : Value) (w : World) (e : Ending) (w' : World) : Prop := e = .returned v ∧ ∃ n, w' = w.drewN n
def SaysB (b : Bool) (W : World) (e : Ending) (w' : World) : Prop := e = .returned (.bool b) ∧ Below W.heap.size W w'
def Keeps (w w' : World) : Prop := Below w.heap.size w w'
theorem Keeps.refl (w : World) : Keeps w w := Below.refl _ _
theorem Keeps.tr {a b c : World} (h : Keeps a b) (k : Keeps b c) : Keeps a c := Below.trans h (Below.mono k (Below.size h))
theorem QW.keeps {w w' : World} (h : QW w w') : Keeps w w' := h.below _
theorem RdS.keeps {α : Type} {w w' : World} {s : Nat} {f : α → List Value} {v : Value} {l : List α} (h : RdS w w.heap.size s f v l) (k : Keeps w w') : RdS w' w'.heap.size s f v l :=
  (h.below k).more (Below.size k)
theorem OwnS.keeps {α : Type} {w w' : World} {B0 s : Nat} {f : α → List Value} {v : Value} {l : List α} (h : OwnS w B0 s f v l) (k : Keeps w w') : OwnS w' B0 s f v l := h.below k
theorem Quiet.says {b : Bool} {w : World} {e : Ending} {w' : World} (h : Quiet (.bool b) w e w') : SaysB b w e w' := ⟨h.1, QW.keeps h.2⟩
theorem ret_bool {a b : Bool} (h : a = b) : Ending.returned (.bool a) = .returned (.bool b) := by rw [h]
end Go.Proofs.YtfgkfcfplodaoaaGreatDoor

end
section
/-!
  slices.Sort and slices.Compact at []int: the numbers and bodies by which the library's contracts lie. Printed by a tool of the kit.
-/
namespace Go.Proofs
open Go.Shelf
def Tryz.sortI_ren : Go.Shelf.Ren := ⟨fun | 189 => 174 | 125 => 220 | 257 => 219 | 128 => 251 | 129 => 252 | 294 => 242 | 295 => 243 | 296 => 244 | 297 => 245 | 298 => 246 | 299 => 247 | 216 => 248 | 300 => 249 | 301 => 250 | 328 => 256 | 329 => 257 | 330 => 258 | 331 => 259 | 332 => 260 | 215 => 261 | 343 => 270 | n => n, fun | 28 => 42 | 3 => 3 | 46 => 148 | 0 => 0 | 51 => 231 | 53 => 251 | 4 => 4 | 183 => 243 | 182 => 242 | 131 => 154 | 5 => 5 | 9 => 9 | 218 => 256 | 222 => 260 | 228 => 267 | 229 => 268 | n => n, fun | n => n⟩
theorem Tryz.sortI : Go.Proofs.Lays.n189 Tryz.prog Tryz.sortI_ren := {
  mixed := by kernel_rfl
  f125 := Tryz.func220.trans (congrArg some (by kernel_rfl))
  f128 := Tryz.func251.trans (congrArg some (by kernel_rfl))
  f129 := Tryz.func252.trans (congrArg some (by kernel_rfl))
  f189 := Tryz.func174.trans (congrArg some (by kernel_rfl))
  f215 := Tryz.func261.trans (congrArg some (by kernel_rfl))
  f216 := Tryz.func248.trans (congrArg some (by kernel_rfl))
  f257 := Tryz.func219.trans (congrArg some (by kernel_rfl))
  f294 := Tryz.func242.trans (congrArg some (by kernel_rfl))
  f295 := Tryz.func243.trans (congrArg some (by kernel_rfl))
  f296 := Tryz.func244.trans (congrArg some (by kernel_rfl))
  f297 := Tryz.func245.trans (congrArg some (by kernel_rfl))
  f298 := Tryz.func246.trans (congrArg some (by kernel_rfl))
  f299 := Tryz.func247.trans (congrArg some (by kernel_rfl))
  f300 := Tryz.func249.trans (congrArg some (by kernel_rfl))
  f301 := Tryz.func250.trans (congrArg some (by kernel_rfl))
  f328 := Tryz.func256.trans (congrArg some (by kernel_rfl))
  f329 := Tryz.func257.trans (congrArg some (by kernel_rfl))
  f330 := Tryz.func258.trans (congrArg some (by kernel_rfl))
  f331 := Tryz.func259.trans (congrArg some (by kernel_rfl))
  f332 := Tryz.func260.trans (congrArg some (by kernel_rfl))
  f343 := Tryz.func270.trans (congrArg some (by kernel_rfl))
  t0 := Tryz.underlying0
  a0 := Tryz.isAgg0
  z0 := Tryz.sizeOf0
  v0 := Tryz.zeroValue0
  t3 := Tryz.underlying3
  a3 := Tryz.isAgg3
  z3 := Tryz.sizeOf3
  v3 := Tryz.zeroValue3
  t4 := Tryz.underlying4
  a4 := Tryz.isAgg4
  z4 := Tryz.sizeOf4
  v4 := Tryz.zeroValue4
  t5 := Tryz.underlying5
  a5 := Tryz.isAgg5
  z5 := Tryz.sizeOf5
  v5 := Tryz.zeroValue5
  t9 := Tryz.underlying9
  a9 := Tryz.isAgg9
  z9 := Tryz.sizeOf9
  v9 := Tryz.zeroValue9
  t28 := Tryz.underlying42
  a28 := Tryz.isAgg42
  z28 := Tryz.sizeOf42
  v28 := Tryz.zeroValue42
  t46 := Tryz.underlying148
  a46 := Tryz.isAgg148
  z46 := Tryz.sizeOf148
  v46 := Tryz.zeroValue148
  t51 := Tryz.underlying231
  a51 := Tryz.isAgg231
  z51 := Tryz.sizeOf231
  v51 := Tryz.zeroValue231
  t53 := Tryz.underlying251
  a53 := Tryz.isAgg251
  z53 := Tryz.sizeOf251
  v53 := Tryz.zeroValue251
  t131 := Tryz.underlying154
  a131 := Tryz.isAgg154
  z131 := Tryz.sizeOf154
  v131 := Tryz.zeroValue154
  t182 := Tryz.underlying242
  a182 := Tryz.isAgg242
  z182 := Tryz.sizeOf242
  v182 := Tryz.zeroValue242
  t183 := Tryz.underlying243
  a183 := Tryz.isAgg243
  z183 := Tryz.sizeOf243
  v183 := Tryz.zeroValue243
  t218 := Tryz.underlying256
  a218 := Tryz.isAgg256
  z218 := Tryz.sizeOf256
  v218 := Tryz.zeroValue256
  t222 := Tryz.underlying260
  a222 := Tryz.isAgg260
  z222 := Tryz.sizeOf260
  v222 := Tryz.zeroValue260
  t228 := Tryz.underlying267
  a228 := Tryz.isAgg267
  z228 := Tryz.sizeOf267
  v228 := Tryz.zeroValue267
  t229 := Tryz.underlying268
  a229 := Tryz.isAgg268
  z229 := Tryz.sizeOf268
  v229 := Tryz.zeroValue268 }
def Tryz.compI_ren : Go.Shelf.Ren := ⟨fun | 20 => 175 | n => n, fun | 22 => 42 | 3 => 3 | 4 => 4 | 0 => 0 | n => n, fun | n => n⟩
theorem Tryz.compI : Go.Proofs.Lays2.n20 Tryz.prog Tryz.compI_ren := {
  mixed := by kernel_rfl
  f20 := Tryz.func175.trans (congrArg some (by kernel_rfl))
  t0 := Tryz.underlying0
  a0 := Tryz.isAgg0
  z0 := Tryz.sizeOf0
  v0 := Tryz.zeroValue0
  t3 := Tryz.underlying3
  a3 := Tryz.isAgg3
  z3 := Tryz.sizeOf3
  v3 := Tryz.zeroValue3
  t4 := Tryz.underlying4
  a4 := Tryz.isAgg4
  z4 := Tryz.sizeOf4
  v4 := Tryz.zeroValue4
  t22 := Tryz.underlying42
  a22 := Tryz.isAgg42
  z22 := Tryz.sizeOf42
  v22 := Tryz.zeroValue42
  i3 := by kernel_rfl }
end Go.Proofs

end
section
namespace Go.Proofs.YtfgkfcfplodaoaaGreatDoor
open Go.RowKit Go.ChangeShapes Go.WideShapes Go.ChangeAt Go.Deep
def RdR {α : Type} (w : World) (B s : Nat) (E : List Value → α → Prop) (v : Value) (l : List α) : Prop :=
  ∃ A c, v = .slice A l.length c ∧ l.length ≤ c ∧ c ≤ maxLen ∧
    (l ≠ [] → ∃ b off, A = some ⟨b, off, none⟩ ∧ b < B ∧ ∀ i x, l[i]? = some x → ∃ cs, cs.length = s ∧ E cs x ∧ ∀ j u, cs[j]? = some u → w.cell? ⟨b, off + i * s + j, none⟩ = some u)
section
variable {H : Type} {enc : TypeId × Value → H} {P : Program} {w : World} {base : Nat} {spare : Nat → Bool} {held : Bool}
theorem list_of_exists {α : Type} {R : Nat → α → Prop} (n : Nat) (h : ∀ i, i < n → ∃ x, R i x) : ∃ l : List α, l.length = n ∧ ∀ i x, l[i]? = some x → R i x := by
  induction n with
  | zero => exact ⟨[], rfl, fun i x hx => by simp at hx⟩
  | succ n ih =>
    obtain ⟨l, hl, hr⟩ := ih (fun i hi => h i (by omega))
    obtain ⟨y, hy⟩ := h n (by omega)
    refine ⟨l ++ [y], by simp [hl], fun i x hx => ?_⟩
    by_cases hi : i < n
    · rw [List.getElem?_append_left (by omega)] at hx
      exact hr i x hx
    · have hlt := (List.getElem?_eq_some_iff.1 hx).1
      simp only [List.length_append, List.length_cons, List.length_nil] at hlt
      have : i = n := by omega
      subst this
      rw [List.getElem?_append_right (by omega), hl] at hx
      simp at hx
      subst hx
      exact hy
theorem open_rows {α : Type} {t e : TypeId} {s B fuel : Nat} {cs : List Value} {d : DataW H} {ps : List MemPlace} {E : List Value → α → Prop} (ht : P.underlying t = some (.slice e)) (hs : P.cellsOf e = s) (hs0 : 0 < s)
    (h : DataW.trod enc P w base spare held fuel t cs = some (d, ps)) (hB : ∀ p ∈ ps, p.block < B)
    (hE : ∀ n cs y, cs.length = s → DataW.trod enc P w base spare held n e cs = some y → (∀ p ∈ y.2, p.block < B) → ∃ x, E cs x) :
    ∃ (v : Value) (l : List α), cs = [v] ∧ RdR w B s E v l ∧ (d = .nil ∧ l = [] ∨ ∃ el sp, d = .slice el sp ∧ el.length = l.length) := by
  rcases open_slice ht h with ⟨rfl, hx⟩ | ⟨a, len, cap, m, n, D, Pl, hcs, hb, hl, hm, hmm, hx, hi⟩
  · simp only [Prod.mk.injEq] at hx
    exact ⟨_, [], rfl, ⟨none, 0, rfl, Nat.le_refl _, by simp [maxLen], fun hne => absurd rfl hne⟩, .inl ⟨hx.1, rfl⟩⟩
  · simp only [Prod.mk.injEq] at hx
    obtain ⟨rfl, rfl⟩ := hx
    have hlm : len ≤ m := by rw [hmm]; split <;> omega
    rw [hs] at hi hB
    obtain ⟨l, hll, hR⟩ := list_of_exists (α := α) (R := fun i x => ∃ cs, cs.length = s ∧ E cs x ∧ ∀ j u, cs[j]? = some u → w.cell? ((a.add (i * s)).add j) = some u) len (fun i hil => by
      obtain ⟨cs', hc, htr⟩ := hi i (by omega)
      obtain ⟨_, hlen, hcell⟩ := World.cells?_some hc
      obtain ⟨x, hx⟩ := hE n cs' _ hlen htr (fun p hp => hB p (List.mem_append_right _ (List.mem_flatMap.2 ⟨i, by simp; omega, hp⟩)))
      refine ⟨x, cs', hlen, hx, fun j u hu => ?_⟩
      have hj : j < s := by
        have := (List.getElem?_eq_some_iff.1 hu).1
        omega
      rw [hcell j hj]; exact hu)
    refine ⟨_, l, hcs, ⟨some a, cap, by rw [hll], by omega, hm, fun hne => ?_⟩, .inr ⟨_, _, rfl, by simp [hll]⟩⟩
    have hlpos : 0 < len := by
      rw [← hll]
      exact List.length_pos_iff.2 hne
    obtain ⟨b, off, spot⟩ := a
    obtain ⟨cs0, hlen0, _, hc0⟩ := hR 0 l[0] (List.getElem?_eq_getElem (by omega))
    have hcell0 := hc0 0 cs0[0] (List.getElem?_eq_getElem (by omega))
    have hspot : spot = none := by simpa [Addr.add] using World.cell?_spot hcell0
    subst hspot
    have hms : 0 < m * s := Nat.mul_pos (by omega) hs0
    refine ⟨b, off, rfl, hB (.cell b off) (List.mem_append_left _ (MemPlace.mem_row.2 ⟨0, by omega, by simp⟩)), fun i x hx => ?_⟩
    obtain ⟨cs1, h1, h2, h3⟩ := hR i x hx
    refine ⟨cs1, h1, h2, fun j u hu => ?_⟩
    have := h3 j u hu
    rwa [add_plain, add_plain] at this
theorem RdR.flat {α : Type} {s B : Nat} {f : α → List Value} {ok : α → Prop} {v : Value} {l : List α} (h : RdR w B s (fun cs x => cs = f x ∧ ok x) v l) : RdS w B s f v l ∧ ∀ x ∈ l, ok x := by
  obtain ⟨A, c, hv, hlc, hcm, hn⟩ := h
  constructor
  · refine ⟨A, c, hv, hlc, hcm, fun hne => ?_⟩
    obtain ⟨b, off, hA, hb, hc⟩ := hn hne
    refine ⟨b, off, hA, hb, fun i x hx j u hu => ?_⟩
    obtain ⟨cs, _, ⟨rfl, _⟩, h3⟩ := hc i x hx
    exact h3 j u hu
  · intro x hx
    obtain ⟨b, off, hA, hb, hc⟩ := hn (by intro e; subst e; simp at hx)
    obtain ⟨i, hi, rfl⟩ := List.getElem_of_mem hx
    obtain ⟨cs, _, ⟨_, h2⟩, _⟩ := hc i _ (List.getElem?_eq_getElem hi)
    exact h2
theorem arg_rows {α : Type} {t e : TypeId} {s B : Nat} {v : Value} {d : DataW H} {ps : List MemPlace} {E : List Value → α → Prop} {r : Reach} {b0 : Nat} (ht : P.underlying t = some (.slice e)) (hs : P.cellsOf e = s) (hs0 : 0 < s)
    (hv : Value.okWide P w r b0 t v) (h : DataW.Trod enc P w base spare held t v d ps) (hB : ∀ p ∈ ps, p.block < B)
    (hE : ∀ n cs y, cs.length = s → DataW.trod enc P w base spare held n e cs = some y → (∀ p ∈ y.2, p.block < B) → ∃ x, E cs x) :
    ∃ l : List α, RdR w B s E v l ∧ (d = .nil ∧ l = [] ∨ ∃ el sp, d = .slice el sp ∧ el.length = l.length) := by
  obtain ⟨a0, len, cap, rfl⟩ := okWide_slice ht hv
  obtain ⟨fuel, hf⟩ := h
  obtain ⟨v', l, hcs, h1, h2⟩ := open_rows ht hs hs0 hf hB hE
  simp [Value.cells] at hcs
  subst hcs
  exact ⟨l, h1, h2⟩
theorem arg_reach {α : Type} {ts : List TypeId} {ds : List (DataW H)} {j : Nat} {t e : TypeId} {d : DataW H} {l : List α} (hsz : (DataW.weightsEach P ts ds).all (· ≤ reachBytes) = true) (ht : ts[j]? = some t) (hd : ds[j]? = some d)
    (hu : P.underlying t = some (.slice e)) (h : d = .nil ∧ l = [] ∨ ∃ el sp, d = .slice el sp ∧ el.length = l.length) : l.length * P.bytesOf e ≤ 140737488351232 := by
  rcases h with ⟨_, rfl⟩ | ⟨el, sp, rfl, hl⟩
  · simp
  · have := sized_slice hsz ht hd hu
    simp only [reachBytes] at this
    rw [← hl]
    exact Nat.le_trans (Nat.mul_le_mul_right _ (by omega)) this
theorem below_trodAll (hl : laidOutB P = true) {W W' : World} (hb : Below W.heap.size W W') : ∀ (ts : List TypeId) (vs : List Value) (ds : List (DataW H)) (ps : List MemPlace),
    (∀ t ∈ ts, P.readableRec t = true ∧ t < P.types.size) → DataW.TrodAll enc P W 0 (fun _ => true) true ts vs ds ps → (∀ x ∈ ps, x.block < W.heap.size) →
    DataW.TrodAll enc P W' 0 (fun b => decide (b < W.heap.size)) true ts vs ds ps
  | [], [], [], _, _, h, _ => h
  | t :: ts, v :: vs, d :: ds, ps, hr, h, hlt => by
    obtain ⟨p, q, h1, h2, rfl⟩ := h
    obtain ⟨hr1, hr2⟩ := hr t (by simp)
    exact ⟨p, q, Below.trod hl hr1 hr2 h1 hb (fun x hx => hlt x (List.mem_append_left _ hx)), below_trodAll hl hb ts vs ds q (fun t ht => hr t (by simp [ht])) h2 (fun x hx => hlt x (List.mem_append_right _ hx)), rfl⟩
  | [], [], _ :: _, _, _, h, _ => h.elim
  | [], _ :: _, [], _, _, h, _ => h.elim
  | [], _ :: _, _ :: _, _, _, h, _ => h.elim
  | _ :: _, [], [], _, _, h, _ => h.elim
  | _ :: _, [], _ :: _, _, _, h, _ => h.elim
  | _ :: _, _ :: _, [], _, _, h, _ => h.elim
end
end Go.Proofs.YtfgkfcfplodaoaaGreatDoor

end
section
namespace Go.Proofs.YtfgkfcfplodaoaaGreatDoor
open Go Go.RowKit
def shaW : List Nat := [1116352408, 1899447441, 3049323471, 3921009573, 961987163, 1508970993, 2453635748, 2870763221, 3624381080, 310598401, 607225278, 1426881987, 1925078388, 2162078206, 2614888103, 3248222580, 3835390401, 4022224774, 264347078, 604807628, 770255983, 1249150122, 1555081692, 1996064986, 2554220882, 2821834349, 2952996808, 3210313671, 3336571891, 3584528711, 113926993, 338241895, 666307205, 773529912, 1294757372, 1396182291, 1695183700, 1986661051, 2177026350, 2456956037, 2730485921, 2820302411, 3259730800, 3345764771, 3516065817, 3600352804, 4094571909, 275423344, 430227734, 506948616, 659060556, 883997877, 958139571, 1322822218, 1537002063, 1747873779, 1955562222, 2024104815, 2227730452, 2361852424, 2428436474, 2756734187, 3204031479, 3329325298]
def globs : Nat → Option (List Value) := fun g => if g = 0 then some (shaW.map fun (n : Nat) => Value.int .u32 (n : Int)) else none
def GlobOk (γ0 : Nat → Option Nat) (w : World) : Prop := ∀ g cs, globs g = some cs → γ0 g = none ∧ g < w.heap.size ∧ ∀ (j : Nat) (v : Value), cs[j]? = some v → v.oneCell' = true ∧ w.cell? ⟨g, j, none⟩ = some v
end Go.Proofs.YtfgkfcfplodaoaaGreatDoor

end
section
namespace Go.Proofs.YtfgkfcfplodaoaaGreatDoor
open Go.RowKit
def OwnAt {α : Type} (w : World) (B0 s : Nat) (f : α → List Value) (b off : Nat) (l : List α) : Prop :=
  B0 ≤ b ∧ b < w.heap.size ∧ (∀ o, w.frozen? ⟨b, o, none⟩ = false) ∧ ∀ i x, l[i]? = some x → ∀ j u, (f x)[j]? = some u → w.cell? ⟨b, off + i * s + j, none⟩ = some u
section
variable {α : Type} {w w' : World} {B0 s b off : Nat} {f : α → List Value} {l : List α}
theorem OwnS.at_ {v : Value} (h : OwnS w B0 s f v l) (hne : l ≠ []) : ∃ b off c, v = .slice (some ⟨b, off, none⟩) l.length c ∧ l.length ≤ c ∧ c ≤ maxLen ∧ OwnAt w B0 s f b off l := by
  obtain ⟨A, c, hv, h1, h2, hn⟩ := h
  obtain ⟨b, off, rfl, h3⟩ := hn hne
  exact ⟨b, off, c, hv, h1, h2, h3⟩
theorem OwnAt.slice {c : Nat} (h : OwnAt w B0 s f b off l) (h1 : l.length ≤ c) (h2 : c ≤ maxLen) : OwnS w B0 s f (.slice (some ⟨b, off, none⟩) l.length c) l :=
  ⟨_, c, rfl, h1, h2, fun _ => ⟨b, off, rfl, h⟩⟩
theorem OwnAt.cell (h : OwnAt w B0 s f b off l) {i : Nat} (hi : i < l.length) {j : Nat} {u : Value} (hu : (f l[i])[j]? = some u) : w.cell? ⟨b, off + i * s + j, none⟩ = some u :=
  h.2.2.2 i _ (List.getElem?_eq_getElem hi) j u hu
theorem OwnAt.below (h : OwnAt w B0 s f b off l) (hb : Below w.heap.size w w') : OwnAt w' B0 s f b off l :=
  ⟨h.1, Nat.lt_of_lt_of_le h.2.1 hb.size, fun o => (hb.frozen (p := ⟨b, o, none⟩) h.2.1).trans (h.2.2.1 o), fun i x hx j u hu => (hb.cell (p := ⟨b, _, none⟩) h.2.1).trans (h.2.2.2 i x hx j u hu)⟩
theorem OwnAt.drewN (h : OwnAt w B0 s f b off l) (n : Nat) : OwnAt (w.drewN n) B0 s f b off l := h.below (below_drewN (Below.refl _ _) n)
theorem OwnAt.old (h : OwnAt w B0 s f b off l) (hf : ∀ x, (f x).length = s) {i : Nat} (hi : i < l.length) {j : Nat} (hj : j < s) : ∃ u, w.cell? ⟨b, off + i * s + j, none⟩ = some u :=
  ⟨_, h.2.2.2 i _ (List.getElem?_eq_getElem hi) j _ (List.getElem?_eq_getElem (by rw [hf]; exact hj))⟩
end
structure Only (lo hi : Nat) (w w' : World) : Prop where
  os : w'.os = w.os
  tape : w'.tape = w.tape
  output : w'.output = w.output
  size : w.heap.size ≤ w'.heap.size
  block : ∀ k, k < w.heap.size → k < lo ∨ hi ≤ k → w'.heap[k]? = w.heap[k]?
theorem Only.below {lo hi B : Nat} {w w' : World} (h : Only lo hi w w') (hB : B ≤ lo) (hs : B ≤ w.heap.size) : Below B w w' :=
  ⟨h.os, h.tape, h.output, h.size, fun k hk => h.block k (by omega) (.inl (by omega))⟩
theorem Only.set (w : World) (b o : Nat) (u : Value) : Only b (b + 1) w (w.setCell ⟨b, o, none⟩ u) :=
  ⟨rfl, rfl, rfl, by simp [World.setCell], fun k _ hd => Below.heap_setCell w _ u k (by simp; omega)⟩
section
variable {α : Type} {w w' : World} {lo hi lo' hi' s B : Nat} {f : α → List Value} {v : Value} {l : List α}
def OwnI {α : Type} (w : World) (lo hi s : Nat) (f : α → List Value) (v : Value) (l : List α) : Prop :=
  OwnS w lo s f v l ∧ ∀ g, l ≠ [] → v.ownBlock = some g → g < hi
theorem OwnI.kp (h : OwnI w lo hi s f v l) (k : Keeps w w') : OwnI w' lo hi s f v l := ⟨h.1.keeps k, h.2⟩
theorem OwnI.on (h : OwnI w lo hi s f v l) (k : Only lo' hi' w w') (hd : hi ≤ lo' ∨ hi' ≤ lo) : OwnI w' lo hi s f v l := by
  obtain ⟨⟨A, c, rfl, h1, h2, hn⟩, hb⟩ := h
  refine ⟨⟨A, c, rfl, h1, h2, fun hne => ?_⟩, hb⟩
  obtain ⟨b, off, rfl, hlo, hlt, hf, hc⟩ := hn hne
  have hbh := hb b hne rfl
  have hk := k.block b hlt (by rcases hd with hd | hd; exact .inl (by omega); exact .inr (by omega))
  exact ⟨b, off, rfl, hlo, Nat.lt_of_lt_of_le hlt k.size, fun o => (World.frozen?_of_block (a := ⟨b, o, none⟩) hk).trans (hf o), fun i x hx j u hu => (World.cell?_of_block (a := ⟨b, _, none⟩) hk).trans (hc i x hx j u hu)⟩
theorem RdS.kp (h : RdS w B s f v l) (k : Keeps w w') (hB : B ≤ w.heap.size) : RdS w' B s f v l := h.below (Below.mono k hB)
theorem RdS.on (h : RdS w B s f v l) (k : Only lo' hi' w w') (hB : B ≤ lo') (hs : B ≤ w.heap.size) : RdS w' B s f v l := h.below (k.below hB hs)
end
def BoxAt (w : World) (b : Nat) (cs : List Value) : Prop := b < w.heap.size ∧ ∀ j u, cs[j]? = some u → w.cell? ⟨b, j, none⟩ = some u
theorem BoxAt.new (w : World) (t : TypeId) (cs : List Value) : BoxAt (w.alloc (.cells cs.toArray t)) w.heap.size cs :=
  ⟨by simp, fun j u h => by rw [World.cell?_alloc_at _ _ _ _ rfl]; simpa using h⟩
theorem BoxAt.kp {w w' : World} {b : Nat} {cs : List Value} (h : BoxAt w b cs) (k : Keeps w w') : BoxAt w' b cs :=
  ⟨Nat.lt_of_lt_of_le h.1 (Below.size k), fun j u hu => (Below.cell k (p := ⟨b, j, none⟩) h.1).trans (h.2 j u hu)⟩
theorem BoxAt.on {w w' : World} {b lo hi : Nat} {cs : List Value} (h : BoxAt w b cs) (k : Only lo hi w w') (hd : b < lo ∨ hi ≤ b) : BoxAt w' b cs :=
  ⟨Nat.lt_of_lt_of_le h.1 k.size, fun j u hu => (World.cell?_of_block (a := ⟨b, j, none⟩) (k.block b h.1 hd)).trans (h.2 j u hu)⟩
end Go.Proofs.YtfgkfcfplodaoaaGreatDoor

end
section
namespace Go.Proofs.YtfgkfcfplodaoaaGreatDoor
open Go.RowKit
end Go.Proofs.YtfgkfcfplodaoaaGreatDoor

end
