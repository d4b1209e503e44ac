/-
  Put together: PEvFresh PEvTexts PCodeArg PEvReadZ PEvDk PEvNr PEvLateF.
-/
import Derived.Test.YtfgkfcfplodaoaaGreatDoorG24
import Derived.Test.YtfgkfcfplodaoaaGreatDoorHPEvOne
set_option linter.unusedSimpArgs false
set_option linter.unusedVariables false
set_option maxRecDepth 100000
section
namespace Go.Proofs.YtfgkfcfplodaoaaGreatDoor
open Go Go.RowKit
set_option maxHeartbeats 4000000
theorem CodeOk.le {bs : List Nat} (h : bs.length ≤ 1048576) (hb : ∀ n ∈ bs, n < 256) : CodeOk bs := ⟨hb, by omega⟩
noncomputable def mBig := mdl (fun bs : List Nat => bs.length ≤ 9223372036854775807) (fun bs => [aL cU8 bs]) (fun bs => rB (decide (1048576 < bs.length)))
theorem rowsF_U8 {a b : List Nat} : rowsF cU8 a = rowsF cU8 b ↔ a = b := rowsF_iff fun x y h => by
  simp only [cU8, List.cons.injEq, Value.int.injEq, and_true, true_and] at h
  omega
theorem mBig_eq (bs : List Nat) (h : bs.length ≤ 9223372036854775807) : mBig [aL cU8 bs] = some (rB (decide (1048576 < bs.length))) := mdl_eq (by intro a b h; simpa [rowsF_U8] using h) bs h
theorem big_s : Sound Tryz.prog 8 mBig := by
  refine Sound.mdl Tryz.func8 rfl Tryz.ntmps8 ?_
  rintro bs w hl
  refine ⟨by simp, ?_⟩
  replace hl : bs.length ≤ 9223372036854775807 := hl
  have hΓ : GSound Tryz.prog (look []) := env_nil
  simp only [initS, argPV, List.map_cons, List.map_nil, toPL, Nat.zero_add]
  refine zR ?_
  refine At.retA (by rw [Tryz.results8]) (he := ?_)
  by_cases h : 1048576 < bs.length
  · have h2 : (1048576 : Int) < bs.length := by omega
    simp [h, h2]
  · have h2 : ¬ (1048576 : Int) < bs.length := by omega
    simp [h, h2]
end Go.Proofs.YtfgkfcfplodaoaaGreatDoor

end
section
namespace Go.Proofs.YtfgkfcfplodaoaaGreatDoor
open Go Go.RowKit
set_option maxHeartbeats 4000000
theorem cStr_appT (l : List ByteArray) (x : ByteArray) : rowsF cStr l ++ [[.sc (.string x)]] = rowsF cStr (l ++ [x]) := by rw [← rowsF_app]; rfl
end Go.Proofs.YtfgkfcfplodaoaaGreatDoor

end
section
namespace Go.Proofs.YtfgkfcfplodaoaaGreatDoor
open Go Go.RowKit Go.ChangeShapes Go.WideShapes Go.ChangeAt Go.Deep
theorem cellsU8 : Tryz.prog.cellsOf 5 = 1 := by kernel_rfl
theorem bytesU8 : Tryz.prog.bytesOf 5 = 1 := by kernel_rfl
theorem elem_u8 {P : Program} {H : Type} {enc : TypeId × Value → H} {w : World} {base : Nat} {spare : Nat → Bool} {held : Bool} {e : TypeId} (he : P.underlying e = some (.int .u8)) {B : Nat} : ∀ n cs y, cs.length = 1 → DataW.trod enc P w base spare held n e cs = some y → (∀ p ∈ y.2, p.block < B) → ∃ x : Nat, cs = cU8 x ∧ x < 256 := by
  intro n cs y _ h _
  obtain ⟨s, rfl, _, hs⟩ := DataW.trod_int he h
  have h1 : 0 ≤ s ∧ s ≤ 255 := by
    simpa [Lit.wf, IntKind.min, IntKind.max, IntKind.signed, IntKind.bits] using hs
  refine ⟨s.toNat, ?_, by omega⟩
  have : ((s.toNat : Nat) : Int) = s := by omega
  unfold cU8
  rw [this]
theorem law_code {f : FuncId} {v : Value} {bs : List Nat} {w : World} (hs : Sound Tryz.prog f (mdl (fun bs : List Nat => bs.length ≤ 9223372036854775807 ∧ ∀ n ∈ bs, n < 256) (fun bs => [aL cU8 bs]) fun _ => rB true)) (h : RdS w w.heap.size 1 cU8 v bs) (hb : ∀ n ∈ bs, n < 256) (hl : bs.length ≤ 9223372036854775807) (hg : GlobOk none0 w := by first | exact glob_triv | assumption) :
    Calls Tryz.prog f #[v] w fun e w' => e = .returned (.bool true) ∧ Below w.heap.size w w' :=
  calls_says hs (mdl_eq (by intro a b h; simpa [rowsF_U8] using h) bs ⟨hl, hb⟩) (RepAs.cons (aL_rep (fun _ => rfl) (fun x u hu => by simp only [cU8, List.mem_singleton] at hu; rw [hu]; rfl) h) RepAs.nil) hg
end Go.Proofs.YtfgkfcfplodaoaaGreatDoor

end
section
namespace Go.Proofs.YtfgkfcfplodaoaaGreatDoor
open Go Go.RowKit
set_option maxHeartbeats 4000000
def bl (s : ByteArray) : List Nat := s.data.toList.map UInt8.toNat
theorem bl_len (s : ByteArray) : (bl s).length = s.size := by unfold bl; rw [List.length_map, Array.length_toList]; rfl
theorem bl_bsS {l : List Nat} (h : ∀ d ∈ l, d < 256) : bl (bsS l) = l := by
  unfold bl bsS
  simp only [List.map_map]
  conv => rhs; rw [← List.map_id l]
  refine List.map_congr_left fun d hd => ?_
  have := h d hd
  simp only [Function.comp_apply, UInt8.toNat_ofNat', id_eq]
  omega
theorem bl_at {s : ByteArray} {i : Nat} (h : i < (bl s).length) : ∃ b : UInt8, s.data.toList[i]? = some b ∧ b.toNat = (bl s)[i] := by
  have hi : i < s.data.toList.length := by
    have := h
    unfold bl at this
    rwa [List.length_map] at this
  have h2 : (bl s)[i]? = some (s.data.toList[i]).toNat := by unfold bl; rw [List.getElem?_map, List.getElem?_eq_getElem hi]; rfl
  exact ⟨s.data.toList[i], List.getElem?_eq_getElem hi, (List.getElem?_eq_some_iff.1 h2).2.symm⟩
def isDg (d : Nat) : Prop := 48 ≤ d ∧ d ≤ 57
instance (d : Nat) : Decidable (isDg d) := by unfold isDg; infer_instance
def valD (a : Nat) (l : List Nat) : Nat := l.foldl (fun a d => a * 10 + (d - 48)) a
theorem digF_dg : ∀ k n, ∀ d ∈ digF k n, isDg d
  | 0, n, d, h => by
    have h1 : d = 48 + n % 10 := List.mem_singleton.1 h
    rw [h1]
    unfold isDg; omega
  | k + 1, n, d, h => by
    unfold digF at h
    split at h
    · rw [List.mem_singleton.1 h]
      unfold isDg; omega
    · rcases List.mem_append.1 h with h | h
      · exact digF_dg k _ d h
      · rw [List.mem_singleton.1 h]
        unfold isDg; omega
theorem digF_val : ∀ k n, n < 10 ^ (k + 1) → valD 0 (digF k n) = n
  | 0, n, h => by
    simp [digF, valD]
    simp at h
    omega
  | k + 1, n, h => by
    unfold digF
    split
    · simp [valD]; omega
    · rename_i hn
      have ih := digF_val k (n / 10) (by rw [Nat.pow_succ] at h; omega)
      unfold valD at ih ⊢
      rw [List.foldl_append, ih]
      simp
      omega
theorem digF_max : ∀ k n j, n < 10 ^ (j + 1) → (digF k n).length ≤ j + 1
  | 0, n, j, _ => by simp [digF]
  | k + 1, n, j, h => by
    unfold digF
    split
    · simp
    · rename_i hn
      cases j with
      | zero => simp at h; omega
      | succ j =>
        have := digF_max k (n / 10) j (by rw [Nat.pow_succ] at h; omega)
        simp
        omega
theorem valD_lt : ∀ (l : List Nat) (a : Nat), (∀ d ∈ l, isDg d) → valD a l < (a + 1) * 10 ^ l.length
  | [], a, _ => by simp [valD]
  | d :: l, a, h => by
    have hd := h d List.mem_cons_self
    have ih := valD_lt l (a * 10 + (d - 48)) (fun x hx => h x (List.mem_cons_of_mem _ hx))
    have e : valD a (d :: l) = valD (a * 10 + (d - 48)) l := rfl
    rw [e]
    refine Nat.lt_of_lt_of_le ih ?_
    rw [List.length_cons, Nat.pow_succ]
    unfold isDg at hd
    have : a * 10 + (d - 48) + 1 ≤ (a + 1) * 10 := by omega
    calc (a * 10 + (d - 48) + 1) * 10 ^ l.length ≤ ((a + 1) * 10) * 10 ^ l.length := Nat.mul_le_mul_right _ this
      _ = (a + 1) * (10 ^ l.length * 10) := by rw [Nat.mul_assoc, Nat.mul_comm 10]
theorem valD_snoc (a : Nat) (l : List Nat) (d : Nat) : valD a (l ++ [d]) = valD a l * 10 + (d - 48) := by
  unfold valD
  rw [List.foldl_append]
  rfl
theorem digL_props {n : Nat} (h : n ≤ 999999999) : (∀ d ∈ digL n, isDg d) ∧ valD 0 (digL n) = n ∧ (digL n).length ≤ 9 ∧ 0 < (digL n).length :=
  ⟨digF_dg 9 n, digF_val 9 n (by omega), digF_max 9 n 8 (by omega), digF_pos 9 n⟩
theorem decZ_parts {n : Int} (h : okDecZ n) : ∃ (neg : Bool) (l : List Nat), decZ n = (if neg then 45 :: l else l) ∧ (∀ d ∈ l, isDg d) ∧ l.length ≤ 9 ∧ 0 < l.length ∧ n = if neg then -((valD 0 l : Nat) : Int) else ((valD 0 l : Nat) : Int) := by
  obtain ⟨h1, h2⟩ := h
  rcases int_cases n with rfl | ⟨a, ha, rfl⟩ | ⟨a, ha, rfl⟩
  · exact ⟨false, [48], rfl, fun d hd => by rw [List.mem_singleton.1 hd]; decide, by decide, by decide, rfl⟩
  · obtain ⟨p1, p2, p3, p4⟩ := digL_props (n := a) (by omega)
    exact ⟨false, digL a, by rw [decZ_pos ha]; rfl, p1, p3, p4, by rw [p2]; rfl⟩
  · obtain ⟨p1, p2, p3, p4⟩ := digL_props (n := a) (by omega)
    exact ⟨true, digL a, by rw [decZ_neg ha]; rfl, p1, p3, p4, by rw [p2]; rfl⟩
theorem decZ_lt {n : Int} (h : okDecZ n) : ∀ d ∈ decZ n, d < 256 := by
  obtain ⟨neg, l, e, p1, _⟩ := decZ_parts h
  rw [e]
  intro d hd
  have key : ∀ d ∈ l, d < 256 := fun d hd => by have := p1 d hd; unfold isDg at this; omega
  cases neg with
  | false => exact key d hd
  | true =>
    rcases List.mem_cons.1 hd with rfl | hd
    · decide
    · exact key d hd
def sgn (L : List Nat) : Bool := decide (L.head? = some 45)
def dgs (L : List Nat) : List Nat := if sgn L then L.tail else L
def sval (L : List Nat) : Int := if sgn L then -((valD 0 (dgs L) : Nat) : Int) else ((valD 0 (dgs L) : Nat) : Int)
theorem decZ_sval {n : Int} (h : okDecZ n) : (∀ d ∈ dgs (decZ n), isDg d) ∧ (dgs (decZ n)).length ≤ 9 ∧ 0 < (dgs (decZ n)).length ∧ sval (decZ n) = n := by
  obtain ⟨neg, l, e, p1, p2, p3, p4⟩ := decZ_parts h
  have hs : sgn (decZ n) = neg := by
    rw [e]
    unfold sgn
    cases neg with
    | true => simp
    | false =>
      cases l with
      | nil => cases p3
      | cons d l =>
        have := p1 d List.mem_cons_self
        unfold isDg at this
        simp
        omega
  have hd : dgs (decZ n) = l := by
    unfold dgs
    rw [hs, e]
    cases neg <;> rfl
  have hv : sval (decZ n) = n := by
    unfold sval
    rw [hs, hd]
    exact p4.symm
  rw [hd]
  exact ⟨p1, p2, p3, hv⟩
open Classical in
noncomputable def readZ (s : ByteArray) : Int × Bool := if ∃ n, okDecZ n ∧ bsS (decZ n) = s then (sval (bl s), true) else (0, false)
theorem readZ_yes {s : ByteArray} {n : Int} (h : okDecZ n) (he : bsS (decZ n) = s) : readZ s = (n, true) := by
  have hb : bl s = decZ n := by rw [← he]; exact bl_bsS (decZ_lt h)
  unfold readZ
  rw [if_pos ⟨n, h, he⟩, hb, (decZ_sval h).2.2.2]
theorem readZ_no {s : ByteArray} (h : ∀ n, okDecZ n → bl s = decZ n → bsS (decZ n) = s → False) : readZ s = (0, false) := by
  unfold readZ
  rw [if_neg]
  rintro ⟨n, h1, h2⟩
  exact h n h1 (by rw [← h2]; exact bl_bsS (decZ_lt h1)) h2
end Go.Proofs.YtfgkfcfplodaoaaGreatDoor

end
section
namespace Go.Proofs.YtfgkfcfplodaoaaGreatDoor
open Go Go.RowKit
def PostDk (b : Nat) (w : World) (cs : List Leaf) (v : Value) (e : Ending) (w' : World) : Prop :=
  ∃ us t, e = .returned v ∧ v.oneCell' = true ∧ Below w.heap.size (putO w b (.cells us t (0, 0))) w' ∧ w'.heap[b]? = some (.cells us t (0, 0)) ∧ RepLs w' (own1 b) cs us.toList
def SoundDk (P : Program) (f : FuncId) {α : Type} (ok : α → Prop) (cs : α → List Leaf) (enc : α → List Arg) (cs' : α → List Leaf) (out : α → Value) : Prop :=
  ∀ x b t us vs w, ok x → GlobOk (own1 b) w → RepLs w (own1 b) (cs x) us.toList → w.heap[b]? = some (.cells us t (0, 0)) → RepDs w (own1 b) (enc x) vs →
    Calls P f (Value.pointer (some ⟨b, 0, none⟩) :: vs).toArray w (PostDk b w (cs' x) (out x))
section
variable {P : Program} {Γ : Models} {γ0 : Nat → Option Nat} {w0 : World} {N : Nat} {st st1 : St} {a : Act} {w : World} {η : Nat → Value} {γ : Nat → Option Nat} {Q : Exit → Act → World → Prop}
theorem Inv.turnD (h : Inv γ0 w0 N st a w η γ) (n : Nat) (ls0 ls1 : List PL) (hb0 : getB st n = some (.box ls0)) (g : Nat) (hg : γ g = some n) (w' : World)
    (hos : w'.os = w.os) (htape : w'.tape = w.tape) (hout : w'.output = w.output) (hsize : w.heap.size ≤ w'.heap.size) (hold : ∀ k, k < w.heap.size → k ≠ g → w'.heap[k]? = w.heap[k]?)
    (hB : RepB (getB (.blk n (.box ls1) :: st)) η γ w' n (.box ls1)) :
    Inv γ0 w0 N (.blk n (.box ls1) :: st) a w' η γ := by
  have hlive : ∀ k m, γ k = some m → k < w.heap.size := fun k m hk => (h.live k m hk).1
  have hk : Kp w w' γ γ := ⟨hsize, fun k hk hgk => ⟨hgk, hold k hk (fun e => by rw [e, hg] at hgk; cases hgk)⟩⟩
  have hget : ∀ m, m ≠ n → getB (.blk n (.box ls1) :: st) m = getB st m := fun m hm => if_neg (fun e => hm e.symm)
  have hn : Nm (getB st) (getB (.blk n (.box ls1) :: st)) η η (fun _ => True) := by
    intro m b' _ hb
    refine ⟨rfl, ?_⟩
    by_cases hm : m = n
    · subst hm
      rw [hb0] at hb
      cases hb
      exact ⟨ls1, if_pos rfl⟩
    · cases b' with
      | arr fl e s rows => exact ⟨fl, rows, by rw [hget m hm]; exact hb, rfl⟩
      | box ls => exact ⟨ls, by rw [hget m hm]; exact hb⟩
  have hgm : ∀ m b0, m ≠ n → γ b0 = some m → γ b0 = some m ∧ w'.heap[b0]? = w.heap[b0]? := fun m b0 hm hb0 => ⟨hb0, hold b0 (hlive b0 m hb0) (fun e => by rw [e, hg] at hb0; cases hb0; exact hm rfl)⟩
  refine { h with slots := fun t => (h.slots t).kp hn hk, blks := fun m b' hb => ?_, live := fun b0 m hb => ?_, low := fun b0 hb hg0 => ?_, size := Nat.le_trans h.size hsize, os := hos.trans h.os, tape := htape.trans h.tape, output := hout.trans h.output, pin := fun h9 b2 ls hb hbx => ?_, pinA := h.pinA.to fun h9 fl e s rows hbx => ⟨rfl, fl, rows, ?_, rfl⟩ }
  · by_cases hm : m = n
    · subst hm
      rw [getB_hit] at hb
      cases hb
      exact hB
    · rw [hget m hm] at hb
      have h1 := h.blks m b' hb
      cases b' with
      | box ls => exact RepB.kp_box hn hk h1 rfl (hgm m · hm)
      | arr fl e s rows => exact RepB.kp_arr hk h1 rfl (hgm m · hm)
  · obtain ⟨h1, h2, h3⟩ := h.live b0 m hb
    refine ⟨Nat.lt_of_lt_of_le h1 hsize, h2.imp id fun h2 => ?_, ?_⟩
    · by_cases hm : m = n
      · subst hm
        rw [hb0] at h2
        cases h2
      · rw [hget m hm]; exact h2
    · by_cases hm : m = n
      · subst hm; simp [getB]
      · rw [hget m hm]; exact h3
  · obtain ⟨h1, h2⟩ := h.low b0 hb hg0
    exact ⟨h1, by rw [hold b0 (Nat.lt_of_lt_of_le hb h.size) (fun e => by rw [e, hg] at h1; cases h1)]; exact h2⟩
  · by_cases hm : (999 : Nat) = n
    · subst hm
      exact h.pin h9 b2 ls0 hb hb0
    · rw [hget 999 hm] at hbx
      exact h.pin h9 b2 ls hb hbx
  · by_cases hm : (999 : Nat) = n
    · subst hm
      rw [getB_hit] at hbx
      cases hbx
    · rw [hget 999 hm] at hbx
      exact hbx
theorem frz_box {n : Nat} {bs : List PL} : ∀ {ls : List PL} (_ : ∀ l ∈ ls, ∀ m, (l = .all m ∨ ∃ o k, l = .ref m o k) → m ≠ n) (_ : getB st n = some (.box bs)), ∃ bs', getB (Go.Proofs.YtfgkfcfplodaoaaGreatDoor.frz ls st) n = some (.box bs')
  | [], _, h => ⟨bs, h⟩
  | l :: r, hne, h => by
    obtain ⟨bs', h1⟩ := frz_box (ls := r) (fun x hx => hne x (List.mem_cons_of_mem _ hx)) h
    cases l with
    | all m =>
      refine ⟨bs'.map (PL.kill m), ?_⟩
      show (if m = n then none else (getB (frz r st) n).map (Blk.kill m)) = _
      rw [if_neg (hne _ List.mem_cons_self m (.inl rfl)), h1]
      rfl
    | ref m o k =>
      refine ⟨bs'.map (PL.kill m), ?_⟩
      show (if m = n then none else (getB (frz r st) n).map (Blk.kill m)) = _
      rw [if_neg (hne _ List.mem_cons_self m (.inr ⟨o, k, rfl⟩)), h1]
      rfl
    | _ => exact ⟨bs', h1⟩
theorem R.frzB (h : R γ0 w0 N st a w) {n : Nat} {ls : List PL} {xs : List Leaf} (hb : getB st n = some (.box ls)) (hx : leafsO st ls = some xs) : R γ0 w0 N (.blk n (.box (xs.map toPL)) :: Go.Proofs.YtfgkfcfplodaoaaGreatDoor.frz ls st) a w := by
  obtain ⟨η, γ, hI⟩ := h
  obtain ⟨b, us, t, g1, g2, g3, g4⟩ := hI.blks n _ hb
  obtain ⟨γ', hI', hsub⟩ := hI.frz ls
  have hne : ∀ l ∈ ls, ∀ m, (l = .all m ∨ ∃ o k, l = .ref m o k) → m ≠ n := fun l hl m he e => by
    subst e
    obtain ⟨j, hj⟩ := List.mem_iff_getElem?.1 hl
    obtain ⟨u0, _, k2⟩ := g4.2 j l hj
    rcases he with rfl | ⟨o, q, rfl⟩
    · obtain ⟨_, fl, e, s, rows, k3⟩ := k2
      rw [hb] at k3
      cases k3
    · obtain ⟨fl, e, s, rows, k3, _⟩ := k2
      rw [hb] at k3
      cases k3
  obtain ⟨bs', hb'⟩ := frz_box hne hb
  obtain ⟨b2, us2, t2, g5, g6, g7, g8⟩ := hI'.blks n _ hb'
  rw [g1] at g5
  cases g5
  rw [g3] at g7
  cases g7
  have hk : ∀ k, γ k = none → γ' k = none := fun k hk => by
    cases hg : γ' k with
    | none => rfl
    | some m => rw [(hsub k m hg).1] at hk; cases hk
  have hrep : RepLs w γ' xs us.toList := leafsO_sound hI hk (fun k m hkm ⟨l, hl, he⟩ => by
    cases hg : γ' k with
    | none => rfl
    | some m' =>
      obtain ⟨h1, h2⟩ := hsub k m' hg
      rw [hkm] at h1
      cases h1
      obtain ⟨h3, h4⟩ := h2 l hl
      rcases he with he | ⟨o, q, he⟩
      · exact absurd rfl (h3 m he)
      · exact absurd rfl (h4 m o q he)) g4 hx
  exact ⟨η, γ', hI'.turnD n _ (xs.map toPL) hb' b g6 w rfl rfl rfl (Nat.le_refl _) (fun _ _ _ => rfl) ⟨b, us, t, g1, g6, g3, toPLs_sound hrep⟩⟩
def dtL : PL → Option Leaf
  | .sc v => some (.sc v)
  | .nil => some (.sl [])
  | .sl rows => some (.sl rows)
  | _ => none
def dtLs : List PL → Option (List Leaf)
  | [] => some []
  | l :: r => match dtL l, dtLs r with
    | some x, some y => some (x :: y)
    | _, _ => none
theorem dtL_sound {hb : Nat → Option Blk} {l : PL} {x : Leaf} {u : Value} (h : RepP hb η γ w l u) (hx : dtL l = some x) : RepL w γ x u := by
  cases l with
  | sc v =>
    simp only [dtL, Option.some.injEq] at hx
    subst hx
    obtain ⟨rfl, h2⟩ := h
    exact .sc h2
  | nil =>
    simp only [dtL, Option.some.injEq] at hx
    subst hx
    have h : u = .slice none 0 0 := h
    subst h
    exact .emp (Nat.zero_le _)
  | sl rows =>
    simp only [dtL, Option.some.injEq] at hx
    subst hx
    exact h
  | _ => simp [dtL] at hx
theorem dtLs_sound {hb : Nat → Option Blk} : ∀ {ls : List PL} {xs : List Leaf} {us : List Value} (_ : RepPs hb η γ w ls us) (_ : dtLs ls = some xs), RepLs w γ xs us
  | [], xs, us, h, hx => by
    simp only [dtLs, Option.some.injEq] at hx
    subst hx
    exact ⟨h.1, fun j l hj => by simp at hj⟩
  | l :: r, xs, us, h, hx => by
    unfold dtLs at hx
    split at hx
    · rename_i x y h1 h2
      cases hx
      obtain ⟨u0, g1, g2⟩ := h.2 0 l rfl
      cases us with
      | nil => cases g1
      | cons u1 ur =>
        have g1 : u1 = u0 := by simpa using g1
        subst g1
        have hr : RepPs hb η γ w r ur := ⟨by simpa using h.1, fun j l' hj => by
          obtain ⟨u2, k1, k2⟩ := h.2 (j + 1) l' (by simpa using hj)
          exact ⟨u2, by simpa using k1, k2⟩⟩
        obtain ⟨m1, m2⟩ := dtLs_sound hr h2
        refine ⟨by simpa using m1, fun j l' hj => ?_⟩
        cases j with
        | zero =>
          simp only [List.getElem?_cons_zero, Option.some.injEq] at hj
          subst hj
          exact ⟨u1, rfl, dtL_sound g2 h1⟩
        | succ j =>
          obtain ⟨u2, k1, k2⟩ := m2 j l' (by simpa using hj)
          exact ⟨u2, by simpa using k1, k2⟩
    · cases hx
theorem WL.opDk {ops : Array Oper} {r : List Oper} {d f n : Nat} {x0 : Operand} {xs : List Operand} {ts : Array TypeId} {ty : TypeId} {pos : String} {after : Array Edge}
    {α : Type} {ok : α → Prop} {cs : α → List Leaf} {enc : α → List Arg} {cs' : α → List Leaf} {out : α → Value} {ls : List PL}
    (hf : Has P f) (hs : SoundDk P f ok cs enc cs' out) (x : α) (hok : ok x) (hN : d < N)
    (hp : ev st x0 = one (.ptr n 0)) (hb : getB st n = some (.box ls)) (hls : dtLs ls = some (cs x)) (hon : onlyB n st = true) (ha : datasO st n xs = some (enc x))
    (h : WL P γ0 w0 N ops r (.slot d (one (.sc (out x))) :: .blk n (.box ((cs' x).map toPL)) :: st) Q) :
    WL P γ0 w0 N ops (⟨some d, .call ⟨.value (.func f), (x0 :: xs).toArray, ts⟩, ty, pos, after, none⟩ :: r) st Q := fun a w hR => by
  refine wpList_plain rfl fun K hK => ?_
  obtain ⟨η, γ, hI⟩ := hR
  have h0 := ev_sound hI x0
  rw [hp] at h0
  obtain ⟨ls', b, g1, g2, g3⟩ := RepV.one_iff.1 h0
  obtain ⟨b', us, t, g4, g5, g6, g7⟩ := hI.blks n _ hb
  rw [g2] at g4
  injection g4 with g4
  injection g4 with g4
  injection g4 with g4
  subst g4
  have hlt := heap_lt g6
  have hglob : GlobOk (own1 b) w := fun g vs hg => by
    obtain ⟨k1, k2, k3⟩ := hI.globw g vs hg
    refine ⟨own1_other (fun e => ?_), k2, k3⟩
    obtain ⟨m1, m2, _⟩ := hI.glob g vs hg
    have := (hI.low g m2 m1).1
    rw [e, g5] at this
    cases this
  have hkb : Kp w w γ (own1 b) := ⟨Nat.le_refl _, fun k _ hk => ⟨own1_other (fun e => by rw [e, g5] at hk; cases hk), rfl⟩⟩
  have hcall := hs x b t us (xs.map a.eval) w hok hglob ((dtLs_sound g7 hls).kp hkb) g6 (datasO_sound hI g5 ha)
  have hrun := enter_of (P := P) hf (a := a) (w := w) (args := x0 :: xs) (ts := ts) (dst := some d) (ty := ty) (pos := pos) (after := after) (g := none)
  unfold Oper.wp
  rw [hrun]
  show Calls P f ((x0 :: xs).map a.eval).toArray w _
  rw [List.map_cons, g3]
  refine hcall.mono fun e w' ⟨us', t', he, hv, hbel, hbw, hrep⟩ => ?_
  subst he
  have hsz : w.heap.size ≤ w'.heap.size := by have := hbel.size; rwa [putO_size] at this
  have hall : ∀ k m, γ k = some m → k = b := fun k m hk => by
    obtain ⟨_, h8, h9⟩ := hI.live k m hk
    obtain ⟨bk, hbk⟩ := Option.isSome_iff_exists.1 h9
    have hm : m = n := onlyB_of hon hbk
    subst hm
    rcases h8 with h8 | h8
    · rw [g2] at h8
      cases h8
      rfl
    · rw [hb] at h8
      cases h8
  have hkc : Kp w' w' (own1 b) γ := ⟨Nat.le_refl _, fun k _ hk => ⟨by
    cases hg : γ k with
    | none => rfl
    | some m => exact absurd (hall k m hg) (own1_none hk), rfl⟩⟩
  have hI2 := hI.turnD n _ ((cs' x).map toPL) hb b g5 w' hbel.os hbel.tape hbel.output hsz (fun k hk hkb => by rw [hbel.block k hk, putO_other _ hkb]) ⟨b, us', t', g2, g5, hbw, toPLs_sound (hrep.kp hkc)⟩
  exact hK _ _ (h _ _ ⟨η, γ, hI2.put d _ _ hN (rep_mk hv)⟩)
theorem SoundDk.of {f : FuncId} {fn : Func} {c : Code} {α : Type} {ok : α → Prop} {cs : α → List Leaf} {enc : α → List Arg} {cs' : α → List Leaf} {out : α → Value}
    (hf : P.funcs[f]? = some fn) (hb : fn.body = some c) (hN : fn.ntmps = N)
    (h : ∀ x b w, ok x → b < w.heap.size → (enc x).length + 1 ≤ N ∧
      W P (own1 b) w N (initC ((cs x).map toPL) (enc x)) c (bodyPost P fn (PostDk b w (cs' x) (out x)))) : SoundDk P f ok cs enc cs' out := by
  intro x b t us vs w hok hgl h1 hh hargs
  obtain ⟨hl, hW⟩ := h x b w hok (heap_lt hh)
  refine calls_of_wp hf hb (hW _ _ ⟨fun _ => .pointer (some ⟨b, 0, none⟩), own1 b, ?_⟩)
  have hsz : vs.length = (enc x).length := hargs.1
  refine { slots := fun k => ?_, blks := fun n b' hb' => ?_, live := fun k n hk => ?_, low := fun k _ hk => ⟨hk, rfl⟩, os := rfl, tape := rfl, output := rfl, size := Nat.le_refl _, defers := rfl, width := ?_, glob := hgl, pin := fun _ k ls hk _ => hk, pinA := PinA.no fun _ fl e s rows hb => (by simp [getB] at hb) }
  · show RepV _ _ _ _ (if 0 = k then one (.ptr 999 0) else getS (initS 1 (enc x)) k) _
    by_cases e : 0 = k
    · subst e
      rw [if_pos rfl]
      refine RepV.one_iff.2 ⟨(cs x).map toPL, b, by simp [getB], rfl, ?_⟩
      show ((Value.pointer (some ⟨b, 0, none⟩) :: vs).toArray ++ Array.replicate (fn.ntmps - (Value.pointer (some ⟨b, 0, none⟩) :: vs).toArray.size) undef).getD 0 undef = _
      rw [Array.getD_eq_getD_getElem?, Array.getElem?_append_left (by simp)]
      simp
    · rw [if_neg e]
      refine initS_data (enc x) 1 (fun t => ((Value.pointer (some ⟨b, 0, none⟩) :: vs).toArray ++ Array.replicate (fn.ntmps - (Value.pointer (some ⟨b, 0, none⟩) :: vs).toArray.size) undef).getD t undef) (fun j y hj => ?_) k
      obtain ⟨v, k1, k2⟩ := hargs.2 j y hj
      have hlt : j < vs.length := (List.getElem?_eq_some_iff.1 k1).1
      have : ((Value.pointer (some ⟨b, 0, none⟩) :: vs).toArray ++ Array.replicate (fn.ntmps - (Value.pointer (some ⟨b, 0, none⟩) :: vs).toArray.size) undef).getD (1 + j) undef = v := by
        rw [Array.getD_eq_getD_getElem?, Array.getElem?_append_left (by simp; omega)]
        simp [Nat.add_comm 1 j, k1]
      rw [this]
      exact k2
  · simp only [getB] at hb'
    split at hb'
    · rename_i e
      cases hb'
      subst e
      exact ⟨b, us, t, rfl, own1_same b, hh, toPLs_sound h1⟩
    · rw [initS_blk] at hb'
      cases hb'
  · have := own1_some hk
    subst this
    have e : n = 999 := by rw [own1_same] at hk; cases hk; rfl
    subst e
    exact ⟨heap_lt hh, .inl (by simp [hdrBlock]), by simp [getB]⟩
  · simp
    omega
theorem At.retDk {b : Nat} {fn : Func} {ls : List PL} {cs' : List Leaf} {out : Value} (hN : N ≤ 999) (hB : b < w0.heap.size)
    (hb : getB st 999 = some (.box ls)) (hx : leafsO st ls = some cs') (hr : resN P st fn.results.toList = some (.comp false [.ro (.sc out)])) (hL : ownC P st 0 fn.results.toList = []) :
    At (own1 b) w0 N st .ret (bodyPost P fn (PostDk b w0 cs' out)) := by
  intro a w ⟨η, γ, h⟩
  obtain ⟨b', us, t, g1, g2, g3, g4⟩ := h.blks 999 _ hb
  have hbb : b' = b := own1_some (h.pin hN b' _ g2 hb)
  subst hbb
  obtain ⟨u, h1, h2⟩ := retN_core h hr hL (by rfl) (B := 0) (γr := fun _ => none) (fun _ _ => rfl) (fun i n hm => by cases hm)
  obtain ⟨l, h3, h4⟩ := h2
  cases h3
  have h4 : RepL w (fun _ => none) (.sc out) u := h4
  cases h4 with
  | sc hone =>
  have hk : ∀ k, γ k = none → own1 b' k = none := fun k hk => own1_other (fun e => by rw [e, g2] at hk; cases hk)
  have hrep : RepLs w (own1 b') cs' us.toList := leafsO_sound h hk (fun k m hkm ⟨l, hl, he⟩ => own1_other (fun e => by
    subst e
    rw [g2] at hkm
    cases hkm
    obtain ⟨j, hj⟩ := List.mem_iff_getElem?.1 hl
    obtain ⟨u0, _, k2⟩ := g4.2 j l hj
    rcases he with rfl | ⟨o, q, rfl⟩
    · obtain ⟨_, fl, e, s, rows, k3⟩ := k2
      rw [hb] at k3
      cases k3
    · obtain ⟨fl, e, s, rows, k3, _⟩ := k2
      rw [hb] at k3
      cases k3)) g4 hx
  refine ⟨h.defers, out, h1, us, t, rfl, hone, ⟨h.os, h.tape, h.output, by rw [putO_size]; exact h.size, fun k hkl => ?_⟩, g3, hrep⟩
  by_cases e : k = b'
  · subst e
    rw [g3, putO_same _ hkl]
  · rw [(h.low k hkl (own1_other e)).2, putO_other _ e]
end
section
variable {γ0 : Nat → Option Nat} {w0 : World} {N : Nat} {st : St} {Q : Exit → Act → World → Prop}
theorem W.frzB {c : Code} (n : Nat) {ls : List PL} {xs : List Leaf} {st1 : St} (hb : getB st n = some (.box ls) := by exact evsP) (hx : leafsO st ls = some xs := by exact evsP) (hst : Entry.blk n (.box (xs.map toPL)) :: Go.Proofs.YtfgkfcfplodaoaaGreatDoor.frz ls st = st1 := by exact evsP)
    (h : W Tryz.prog γ0 w0 N st1 c Q) : W Tryz.prog γ0 w0 N st c Q := fun a w hR => h a w (hst ▸ R.frzB hR hb hx)
theorem WL.opDkA {ops : Array Oper} {r : List Oper} {d f n : Nat} {x0 : Operand} {xs : List Operand} {ts : Array TypeId} {ty : TypeId} {pos : String} {after : Array Edge}
    {α : Type} {ok : α → Prop} {cs : α → List Leaf} {enc : α → List Arg} {cs' : α → List Leaf} {out : α → Value} {ls : List PL} {st1 : St}
    (hf : Has Tryz.prog f) (hs : SoundDk Tryz.prog f ok cs enc cs' out) (x : α) (hok : ok x) (hN : d < N := by decide)
    (hp : ev st x0 = one (.ptr n 0) := by exact evcP) (hb : getB st n = some (.box ls) := by exact evcP) (hls : dtLs ls = some (cs x) := by rfl) (hon : onlyB n st = true := by rfl) (ha : datasO st n xs = some (enc x) := by exact evcP)
    (hst : .slot d (one (.sc (out x))) :: .blk n (.box ((cs' x).map toPL)) :: st = st1 := by rfl)
    (h : WL Tryz.prog γ0 w0 N ops r st1 Q) :
    WL Tryz.prog γ0 w0 N ops (⟨some d, .call ⟨.value (.func f), (x0 :: xs).toArray, ts⟩, ty, pos, after, none⟩ :: r) st Q :=
  WL.opDk hf hs x hok hN hp hb hls hon ha (by rw [hst]; exact h)
theorem At.retDkA {b : Nat} {fn : Func} {ls : List PL} {cs' cs1 : List Leaf} {out : Value} {r' : Res} {l : List ResultVar} (hl : fn.results.toList = l) (hB : b < w0.heap.size) (hN : N ≤ 999 := by decide)
    (hb : getB st 999 = some (.box ls) := by exact evcP) (hx : leafsO st ls = some cs1 := by exact evsP) (hr : resN Tryz.prog st l = some r' := by simp only [resN, compsN, compN, rlsN, rlN, resV]; exact evsP) (hL : ownC Tryz.prog st 0 l = [] := by simp only [ownC, resV]; exact evsP)
    (hc : cs1 = cs') (he : r' = .comp false [.ro (.sc out)]) :
    At (own1 b) w0 N st .ret (bodyPost Tryz.prog fn (PostDk b w0 cs' out)) := by
  subst hl; subst hc; subst he
  exact At.retDk hN hB hb hx hr hL
end
end Go.Proofs.YtfgkfcfplodaoaaGreatDoor

end
section
namespace Go.Proofs.YtfgkfcfplodaoaaGreatDoor
open Go Go.RowKit
end Go.Proofs.YtfgkfcfplodaoaaGreatDoor

end
section
namespace Go.Proofs.YtfgkfcfplodaoaaGreatDoor
open Go Go.RowKit
end Go.Proofs.YtfgkfcfplodaoaaGreatDoor

end
