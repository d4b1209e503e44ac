/-
  Eras cut.
-/
import Derived.Test.YtimnogjgokljbaaEvEraP
namespace Go.Proofs.Ytimnogjgokljbaa
set_option maxRecDepth 100000
set_option linter.unusedVariables false
set_option linter.unusedSimpArgs false
open Go Go.RowKit
set_option maxHeartbeats 8000000
set_option linter.unusedVariables false
set_option linter.unusedSimpArgs false

def cutK (l : List TEra) (h : Int) : Nat := (lastE l h l.length).toNat
def cutL (l : List TEra) (h : Int) : List TEra := if erasOk l then l.drop (cutK l h) else []
abbrev rCI (ok : Bool) (l : List TEra) : Res := match ok with
  | true => rEN l
  | false => .comp false [.ro (.sl [])]
noncomputable def mCutS := mdl (fun x : List TEra × Int => okEc x.1) (fun x => [aES x.1, aI x.2]) (fun x => rEN (cutL x.1 x.2))
noncomputable def mCutI := mdl (fun x : List TEra × Int => okEc x.1) (fun x => [aES x.1, aI x.2]) (fun x => rCI (decide (erasOk x.1)) (cutL x.1 x.2))
theorem mCutS_eq (l : List TEra) (h : Int) (hl : okEc l) : mCutS [aES l, aI h] = some (rEN (cutL l h)) := mdl_eq aEI_inj (l, h) hl
theorem mCutI_eq (l : List TEra) (h : Int) (hl : okEc l) : mCutI [aES l, aI h] = some (rCI (decide (erasOk l)) (cutL l h)) := mdl_eq aEI_inj (l, h) hl
theorem okEc.drop {l : List TEra} (h : okEc l) (k : Nat) : okEc (l.drop k) := ⟨by have := h.1; rw [List.length_drop]; omega, fun e he => h.2 e (List.mem_of_mem_drop he)⟩
theorem eraRows_drop (l : List TEra) (k : Nat) : ((eraRows l).take l.length).drop k = eraRows (l.drop k) := by
  have : (eraRows l).take l.length = eraRows l := List.take_of_length_le (by rw [eraRows_len]; exact Nat.le_refl _)
  rw [this]
  unfold eraRows
  rw [List.map_drop]
theorem era_ex {l : List TEra} {k : Nat} (h : l = [] ∨ k < l.length) : eraRows l = [] ∨ ∃ row, (eraRows l)[k]? = some row ∧ row.length = 2 := by
  rcases h with rfl | h
  · exact .inl rfl
  · exact .inr ⟨_, eraRows_get h, rfl⟩
theorem cutI_s : Sound Try.prog 22 mCutI := by
  refine Sound.mdl Try.func22 rfl Try.ntmps22 ?_
  rintro ⟨l, h⟩ w hl
  refine ⟨by simp, ?_⟩
  dsimp only at hl
  have hΓ : GSound Try.prog (look [(31, mLastE), (32, mEras), (40, mCopyE)]) := env_cons (has_of Try.func31 rfl rfl) lastI_s (env_cons (has_of Try.func32 rfl rfl) erasI_s (env_cons (has_of Try.func40 rfl rfl) copyE_s env_nil))
  have hlen := eraRows_len l
  have c1 := mLastE_eq l h hl.1
  have c2 := mEras_eq l hl.es
  have c3 := mCopyE_eq (l.drop (cutK l h)) (hl.drop _)
  have hb := lastE_le l h l.length
  have hL : cutL l h = if erasOk l then l.drop (cutK l h) else [] := rfl
  have hd := eraRows_drop l (cutK l h)
  have hx := era_ex (l := l) (k := cutK l h) (by
    by_cases e : l = []
    · exact .inl e
    · have := List.length_pos_iff.2 e
      unfold cutK
      exact .inr (by omega))
  have hk0 : lastE l h l.length ≤ 0 → cutK l h = 0 := fun h => by unfold cutK; omega
  have hk1 : ¬ lastE l h l.length ≤ 0 → lastE l h l.length = cutK l h := fun h => by unfold cutK; omega
  have hkl : cutK l h ≤ l.length := by unfold cutK; omega
  generalize cutL l h = r at *
  by_cases h1 : erasOk l
  · rw [if_pos h1] at hL
    rw [decide_eq_true h1] at c2
    rw [decide_eq_true h1]
    have hL := Lib.hid hL
    clear h1
    by_cases h2 : lastE l h l.length ≤ 0
    · replace hk0 := hk0 h2
      have hn : (lastE l h l.length > 0) = False := eq_false (by omega)
      rw [hk0] at c3 hd hx hL
      clear hk0 hk1 hkl
      generalize lastE l h l.length = m at *
      rw [List.drop_zero] at *
      simp only [initS, argPV, List.map_cons, List.map_nil, toPL, Nat.zero_add]
      repeat (first | with_reducible apply W.seq | with_reducible apply W.block | with_reducible apply W.skip | with_reducible apply W.exit | with_reducible apply W.ret | with_reducible apply At.seqN | with_reducible apply At.blkN | with_reducible apply At.blkE | with_reducible apply At.blkR | with_reducible apply At.thenX | with_reducible apply At.thenR | with_reducible apply At.blkX rfl | ((with_reducible apply W.ops); (repeat (first | refine WL.opA hΓ (h := ?_) | refine WL.opX hΓ (h := ?_) | refine WL.opY (h := ?_) | refine WL.opZ (h := ?_))); with_reducible apply WL.nil) | refine W.condT (h := ?_) | refine W.condF (h := ?_))
      refine At.retA (by rw [Try.results22]) (he := ?_)
      rw [hL.out]
    · have hk1 := hk1 h2
      clear hk0
      rw [hk1] at c1 h2
      generalize cutK l h = k at *
      have hn : ((k : Int) > 0) = True := eq_true (by omega)
      clear hk1 hb h2
      simp only [initS, argPV, List.map_cons, List.map_nil, toPL, Nat.zero_add]
      repeat (first | with_reducible apply W.seq | with_reducible apply W.block | with_reducible apply W.skip | with_reducible apply W.exit | with_reducible apply W.ret | with_reducible apply At.seqN | with_reducible apply At.blkN | with_reducible apply At.blkE | with_reducible apply At.blkR | with_reducible apply At.thenX | with_reducible apply At.thenR | with_reducible apply At.blkX rfl | ((with_reducible apply W.ops); (repeat (first | refine WL.opA hΓ (h := ?_) | refine WL.opX hΓ (h := ?_) | refine WL.opY (h := ?_) | refine WL.opZ (h := ?_))); with_reducible apply WL.nil) | refine W.condT (h := ?_) | refine W.condF (h := ?_))
      refine At.retA (by rw [Try.results22]) (he := ?_)
      rw [hL.out]
  · rw [if_neg h1] at hL
    rw [decide_eq_false h1] at c2
    rw [decide_eq_false h1]
    clear h1 hx hd hk0 hk1 c3 hL
    simp only [initS, argPV, List.map_cons, List.map_nil, toPL, Nat.zero_add]
    repeat (first | with_reducible apply W.seq | with_reducible apply W.block | with_reducible apply W.skip | with_reducible apply W.exit | with_reducible apply W.ret | with_reducible apply At.seqN | with_reducible apply At.blkN | with_reducible apply At.blkE | with_reducible apply At.blkR | with_reducible apply At.thenX | with_reducible apply At.thenR | with_reducible apply At.blkX rfl | ((with_reducible apply W.ops); (repeat (first | refine WL.opA hΓ (h := ?_) | refine WL.opX hΓ (h := ?_) | refine WL.opY (h := ?_) | refine WL.opZ (h := ?_))); with_reducible apply WL.nil) | refine W.condT (h := ?_) | refine W.condF (h := ?_))
    refine At.retA (by rw [Try.results22]) (he := rfl)
theorem cutS_s : Sound Try.prog 21 mCutS := by
  refine Sound.mdl Try.func21 rfl Try.ntmps21 ?_
  rintro ⟨l, h⟩ w hl
  refine ⟨by simp, ?_⟩
  dsimp only at hl
  have hΓ : GSound Try.prog (look [(29, mLastE), (25, mEras), (37, mCopyE)]) := env_cons (has_of Try.func29 rfl rfl) lastS_s (env_cons (has_of Try.func25 rfl rfl) erasS_s (env_cons (has_of Try.func37 rfl rfl) copyS_s env_nil))
  have hlen := eraRows_len l
  have c1 := mLastE_eq l h hl.1
  have c2 := mEras_eq l hl.es
  have c3 := mCopyE_eq (l.drop (cutK l h)) (hl.drop _)
  have hb := lastE_le l h l.length
  have hL : cutL l h = if erasOk l then l.drop (cutK l h) else [] := rfl
  have hd := eraRows_drop l (cutK l h)
  have hx := era_ex (l := l) (k := cutK l h) (by
    by_cases e : l = []
    · exact .inl e
    · have := List.length_pos_iff.2 e
      unfold cutK
      exact .inr (by omega))
  have hk0 : lastE l h l.length < 0 → cutK l h = 0 := fun h => by unfold cutK; omega
  have hk1 : ¬ lastE l h l.length < 0 → (lastE l h l.length).toNat = cutK l h := fun h => rfl
  have hkl : cutK l h ≤ l.length := by unfold cutK; omega
  generalize cutL l h = r at *
  by_cases h1 : erasOk l
  · rw [if_pos h1] at hL
    rw [decide_eq_true h1] at c2
    have hL := Lib.hid hL
    clear h1
    by_cases h2 : lastE l h l.length < 0
    · replace hk0 := hk0 h2
      rw [hk0] at c3 hd hx hL
      clear hk0 hk1 hkl
      generalize lastE l h l.length = m at *
      rw [List.drop_zero] at *
      simp only [initS, argPV, List.map_cons, List.map_nil, toPL, Nat.zero_add]
      repeat (first | with_reducible apply W.seq | with_reducible apply W.block | with_reducible apply W.skip | with_reducible apply W.exit | with_reducible apply W.ret | with_reducible apply At.seqN | with_reducible apply At.blkN | with_reducible apply At.blkE | with_reducible apply At.blkR | with_reducible apply At.thenX | with_reducible apply At.thenR | with_reducible apply At.blkX rfl | ((with_reducible apply W.ops); (repeat (first | refine WL.opA hΓ (h := ?_) | refine WL.opX hΓ (h := ?_) | refine WL.opY (h := ?_) | refine WL.opZ (h := ?_))); with_reducible apply WL.nil) | refine W.condT (h := ?_) | refine W.condF (h := ?_))
      refine At.retA (by rw [Try.results21]) (he := ?_)
      rw [hL.out]
    · replace hk1 := hk1 h2
      clear hk0
      generalize cutK l h = k at *
      generalize lastE l h l.length = m at *
      simp only [initS, argPV, List.map_cons, List.map_nil, toPL, Nat.zero_add]
      repeat (first | with_reducible apply W.seq | with_reducible apply W.block | with_reducible apply W.skip | with_reducible apply W.exit | with_reducible apply W.ret | with_reducible apply At.seqN | with_reducible apply At.blkN | with_reducible apply At.blkE | with_reducible apply At.blkR | with_reducible apply At.thenX | with_reducible apply At.thenR | with_reducible apply At.blkX rfl | ((with_reducible apply W.ops); (repeat (first | refine WL.opA hΓ (h := ?_) | refine WL.opX hΓ (h := ?_) | refine WL.opY (h := ?_) | refine WL.opZ (h := ?_))); with_reducible apply WL.nil) | refine W.condT (h := ?_) | refine W.condF (h := ?_))
      refine At.retA (by rw [Try.results21]) (he := ?_)
      rw [hL.out]
  · rw [if_neg h1] at hL
    rw [decide_eq_false h1] at c2
    have hr := Lib.hid hL
    clear h1 hx hd hk0 hk1 c3 hL
    simp only [initS, argPV, List.map_cons, List.map_nil, toPL, Nat.zero_add]
    repeat (first | with_reducible apply W.seq | with_reducible apply W.block | with_reducible apply W.skip | with_reducible apply W.exit | with_reducible apply W.ret | with_reducible apply At.seqN | with_reducible apply At.blkN | with_reducible apply At.blkE | with_reducible apply At.blkR | with_reducible apply At.thenX | with_reducible apply At.thenR | with_reducible apply At.blkX rfl | ((with_reducible apply W.ops); (repeat (first | refine WL.opA hΓ (h := ?_) | refine WL.opX hΓ (h := ?_) | refine WL.opY (h := ?_) | refine WL.opZ (h := ?_))); with_reducible apply WL.nil) | refine W.condT (h := ?_) | refine W.condF (h := ?_))
    refine At.toNd 9 (h := ?_)
    refine At.retA (by rw [Try.results21]) (he := ?_)
    rw [hr.out]
    rfl
end Go.Proofs.Ytimnogjgokljbaa
