/-
  BookDo of spec: what it computes.
-/
import Derived.Test.YtlogbmdfjnldlaaEvBookS
namespace Go.Proofs.Ytlogbmdfjnldlaa
set_option maxRecDepth 100000
set_option linter.unusedVariables false
set_option linter.unusedSimpArgs false
open Go Go.RowKit
set_option maxHeartbeats 4000000
set_option linter.unusedVariables false

noncomputable def keyZ (line : ByteArray) : ByteArray := (cutZ line).1
noncomputable def sigZ (line : ByteArray) : Nat := (cutZ line).2.1
noncomputable def resZ (line : ByteArray) : ByteArray := (cutZ line).2.2
noncomputable def blaZ (line : ByteArray) : Nat := byI isSp (resZ line)
noncomputable def toZ (line : ByteArray) : ByteArray := if sigZ line = 62 then (resZ line).extract 0 (blaZ line) else ByteArray.empty
noncomputable def numZ (line : ByteArray) : ByteArray := if sigZ line = 62 then (resZ line).extract (blaZ line + 1) (resZ line).size else resZ line
noncomputable def amtZ (line : ByteArray) : Int := (readZ (numZ line)).1
noncomputable def goodZ (l : List TItem) (line : ByteArray) : Prop := ¬ (sigZ line = 62 ∧ blaZ line = (resZ line).size) ∧ sigZ line ≠ 0 ∧ (readZ (numZ line)).2 = true ∧ keyOk (keyZ line) ∧ (sigZ line = 62 → keyOk (toZ line) ∧ amtZ line ≤ balI (keyZ line) l) ∧ amtZ line ≤ 1000000
noncomputable def outZ (l : List TItem) (line : ByteArray) : List TItem :=
  if sigZ line = 61 then setI (keyZ line) (amtZ line) l else if sigZ line = 43 then setI (keyZ line) (balI (keyZ line) l + amtZ line) l
  else setI (toZ line) (balI (toZ line) (setI (keyZ line) (balI (keyZ line) l - amtZ line) l) + amtZ line) (setI (keyZ line) (balI (keyZ line) l - amtZ line) l)
open Classical in
noncomputable def bdB (l : List TItem) (line : ByteArray) : Bool := decide (bookOk l) && decide (goodZ l line) && decide (bookOk (outZ l line))
open Classical in
noncomputable def bdL (l : List TItem) (line : ByteArray) : List TItem := if bdB l line = true then outZ l line else if bookOk l then l else []
theorem ext_size (s : ByteArray) (a b : Nat) : (s.extract a b).size ≤ s.size := by
  rw [ByteArray.size_extract]
  omega
theorem byI_le (p : Nat → Bool) (s : ByteArray) : byI p s ≤ s.size := by
  rw [← bl_len]
  exact List.findIdx_le_length
theorem keyZ_size (line : ByteArray) : (keyZ line).size ≤ line.size := by
  unfold keyZ cutZ
  split
  · exact ext_size _ _ _
  · exact Nat.le_refl _
theorem resZ_size (line : ByteArray) : (resZ line).size ≤ line.size := by
  unfold resZ cutZ
  split
  · exact ext_size _ _ _
  · exact Nat.zero_le _
theorem toZ_size (line : ByteArray) : (toZ line).size ≤ line.size := by
  unfold toZ
  split
  · exact Nat.le_trans (ext_size _ _ _) (resZ_size line)
  · exact Nat.zero_le _
theorem numZ_size (line : ByteArray) : (numZ line).size ≤ line.size := by
  unfold numZ
  split
  · exact Nat.le_trans (ext_size _ _ _) (resZ_size line)
  · exact resZ_size line
theorem sigZ_in (line : ByteArray) : sigZ line = 0 ∨ sigZ line = 61 ∨ sigZ line = 43 ∨ sigZ line = 62 := by
  unfold sigZ cutZ
  split
  · rename_i h
    have h2 : isSg (bl line)[byI isSg line] = true := List.findIdx_getElem (w := h)
    simp only [isSg, Bool.or_eq_true, decide_eq_true_eq] at h2
    dsimp only
    omega
  · exact .inl rfl
theorem amtZ_in (line : ByteArray) (h : (readZ (numZ line)).2 = true) : -999999999 ≤ amtZ line ∧ amtZ line ≤ 999999999 := by
  unfold amtZ
  unfold readZ at h ⊢
  split at h
  · rename_i hex
    obtain ⟨n, h1, h2⟩ := hex
    have := readZ_yes h1 h2
    unfold readZ at this
    rw [if_pos ⟨n, h1, h2⟩] at this ⊢
    rw [this]
    exact h1
  · cases h
theorem book_at {l : List TItem} (h : bookOk l) {k : Nat} (hk : k < l.length) : keyOk l[k].1 ∧ 1 ≤ l[k].2 ∧ l[k].2 ≤ 1000000 := by
  have := h.2 k hk
  unfold itemAt at this
  simp only [List.getD_eq_getElem?_getD, List.getElem?_eq_getElem hk, Option.getD_some] at this
  exact ⟨this.1, this.2.1, this.2.2.1⟩
theorem book_asc {l : List TItem} (h : bookOk l) : AscI l := by
  show l.Pairwise _
  rw [List.pairwise_iff_getElem]
  have one : ∀ i, (hi : i + 1 < l.length) → klt l[i].1 l[i + 1].1 = true := fun i hi => by
    have := h.2 (i + 1) hi
    unfold itemAt at this
    simp only [List.getD_eq_getElem?_getD, List.getElem?_eq_getElem hi, List.getElem?_eq_getElem (show i < l.length by omega), Option.getD_some, Nat.add_sub_cancel] at this
    exact this.2.2.2 (by omega)
  have key : ∀ d i, (hd : i + d + 1 < l.length) → klt l[i].1 l[i + d + 1].1 = true := by
    intro d
    induction d with
    | zero => exact fun i hd => one i hd
    | succ d ih => exact fun i hd => klt_trans (ih i (by omega)) (one (i + d + 1) hd)
  intro i j hi hj hij
  have := key (j - i - 1) i (by omega)
  have e : i + (j - i - 1) + 1 = j := by omega
  simp only [e] at this
  exact this
theorem bal_in {key : ByteArray} {m : Int} (hm : 0 ≤ m) : ∀ {l : List TItem} (_ : ∀ x ∈ l, -m ≤ x.2 ∧ x.2 ≤ m), -m ≤ balI key l ∧ balI key l ≤ m
  | [], _ => by unfold balI; omega
  | x :: r, h => by
    unfold balI
    split
    · exact h x List.mem_cons_self
    · exact bal_in hm fun y hy => h y (List.mem_cons_of_mem _ hy)
end Go.Proofs.Ytlogbmdfjnldlaa
