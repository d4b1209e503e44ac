/-
  PMsgOk of impl.
-/
import Derived.Test.YteaohgacgcjkjaaHEvPMsg
import Derived.Test.YteaohgacgcjkjaaG15
import Derived.Test.YteaohgacgcjkjaaHEvAddrs
namespace Go.Proofs.Yteaohgacgcjkjaa
set_option maxRecDepth 100000
set_option linter.unusedVariables false
set_option linter.unusedSimpArgs false
open Go Go.RowKit
set_option maxHeartbeats 4000000

theorem msgI_s : Sound Try.prog 65 mMsg := by
  refine Sound.mdl Try.func65 rfl Try.ntmps65 ?_
  rintro ⟨k, f, ⟨r1, r2, r3⟩, ⟨h1, h2, la, va, ne, da⟩, l⟩ w hl
  refine ⟨by simp, ?_⟩
  replace hl : l.length ≤ 8796093022207 := hl
  have hΓ : GSound Try.prog (look [(77, mWithin), (67, mShowReq), (89, mHead), (90, mAddrs)]) := env_cons (has_of Try.func77 rfl rfl) within_s (env_cons (has_of Try.func67 rfl rfl) showReqI_s (env_cons (has_of Try.func89 rfl rfl) headI_s (env_cons (has_of Try.func90 rfl rfl) addrsI_s env_nil)))
  have c1 := mWithin_eq k 1 4
  have c2 := mWithin_eq f 1 99
  have c3 := mShowReq_eq (r1, r2, r3)
  have c4 := mHead_eq (h1, h2, la, va, ne, da)
  have c5 := mAddrs_eq l hl
  dsimp only [aRq, aHd] at c3 c4
  have q1 := eqReq_b r1 r2 r3
  have q2 := eqHd_b h1 h2 la va ne da
  have hn := fun h => showReq_no (r := (r1, r2, r3)) h
  have hy := fun h => showReq_ne (r := (r1, r2, r3)) h
  have hlen := rowsF_len cAddr l
  have hem : (⟨#[]⟩ : ByteArray) = ByteArray.empty := rfl
  simp only [initS, argPV, List.map_cons, List.map_nil, toPL, Nat.zero_add]
  rcases msg_cases k f (r1, r2, r3) (h1, h2, la, va, ne, da) with h | h | h | h | h | h | h | h | h | h | h | h | h
  · clear q1 q2 hn hy c3 c4 c5
    repeat (first | with_reducible (first | apply W.seq | apply W.block | apply W.skip | apply W.exit | apply W.ret | apply At.seqN | apply At.blkN | apply At.blkE | apply At.blkR | apply At.thenX | apply At.thenR | apply At.blkX rfl) | ((with_reducible apply W.ops); (repeat (first | refine WL.opA hΓ (h := ?_) | refine WL.opX hΓ (h := ?_) | refine WL.opY (h := ?_) | refine WL.opZ (h := ?_))); with_reducible apply WL.nil) | refine W.condT (h := ?_) | refine W.condF (h := ?_))
    refine At.retA (by rw [Try.results65]) (he := ?_)
    rw [msgB_no (fun hm => h hm.1)]
  · clear q1 q2 hn hy c3 c4 c5
    repeat (first | with_reducible (first | apply W.seq | apply W.block | apply W.skip | apply W.exit | apply W.ret | apply At.seqN | apply At.blkN | apply At.blkE | apply At.blkR | apply At.thenX | apply At.thenR | apply At.blkX rfl) | ((with_reducible apply W.ops); (repeat (first | refine WL.opA hΓ (h := ?_) | refine WL.opX hΓ (h := ?_) | refine WL.opY (h := ?_) | refine WL.opZ (h := ?_))); with_reducible apply WL.nil) | refine W.condT (h := ?_) | refine W.condF (h := ?_))
    refine At.retA (by rw [Try.results65]) (he := ?_)
    rw [msgB_no (fun hm => h.2 hm.2.1)]
  · obtain ⟨a1, a2, rfl, hz, ho⟩ := h
    replace hn := hn ho
    have hm : msgB (2, f, (r1, r2, r3), (h1, h2, la, va, ne, da), l) = false := msgB_no fun hm => ho (by simpa [msgOk] using hm.2.2.1)
    rw [decide_eq_false hz] at q1
    clear hy ho hz q2 c4 c5
    repeat (first | with_reducible (first | apply W.seq | apply W.block | apply W.skip | apply W.exit | apply W.ret | apply At.seqN | apply At.blkN | apply At.blkE | apply At.blkR | apply At.thenX | apply At.thenR | apply At.blkX rfl) | ((with_reducible apply W.ops); (repeat (first | refine WL.opA hΓ (h := ?_) | refine WL.opX hΓ (h := ?_) | refine WL.opY (h := ?_) | refine WL.opZ (h := ?_))); with_reducible apply WL.nil) | refine W.condT (h := ?_) | refine W.condF (h := ?_))
    refine At.retA (by rw [Try.results65]) (he := ?_)
    rw [hm]
  · obtain ⟨a1, a2, rfl, hz⟩ := h
    obtain ⟨rfl, rfl, rfl⟩ : r1 = 0 ∧ r2 = 0 ∧ r3 = 0 := by simpa [nReq] using hz
    replace hn := hn reqOk_z
    have hm : msgB (2, f, (0, 0, 0), (h1, h2, la, va, ne, da), l) = false := msgB_no fun hm => reqOk_z (by simpa [msgOk] using hm.2.2.1)
    clear hy q1 q2 c4 c5
    repeat (first | with_reducible (first | apply W.seq | apply W.block | apply W.skip | apply W.exit | apply W.ret | apply At.seqN | apply At.blkN | apply At.blkE | apply At.blkR | apply At.thenX | apply At.thenR | apply At.blkX rfl) | ((with_reducible apply W.ops); (repeat (first | refine WL.opA hΓ (h := ?_) | refine WL.opX hΓ (h := ?_) | refine WL.opY (h := ?_) | refine WL.opZ (h := ?_))); with_reducible apply WL.nil) | refine W.condT (h := ?_) | refine W.condF (h := ?_))
    refine At.retA (by rw [Try.results65]) (he := ?_)
    rw [hm]
  · obtain ⟨a1, a2, rfl, hz, ho, hh⟩ := h
    replace hy := hy ho
    have hm : msgB (2, f, (r1, r2, r3), (h1, h2, la, va, ne, da), l) = false := msgB_no fun hm => hh (by simpa [msgOk] using hm.2.2.2.1)
    rw [decide_eq_false hz] at q1
    rw [decide_eq_false hh] at q2
    clear hn ho hz hh c4 c5
    repeat (first | with_reducible (first | apply W.seq | apply W.block | apply W.skip | apply W.exit | apply W.ret | apply At.seqN | apply At.blkN | apply At.blkE | apply At.blkR | apply At.thenX | apply At.thenR | apply At.blkX rfl) | ((with_reducible apply W.ops); (repeat (first | refine WL.opA hΓ (h := ?_) | refine WL.opX hΓ (h := ?_) | refine WL.opY (h := ?_) | refine WL.opZ (h := ?_))); with_reducible apply WL.nil) | refine W.condT (h := ?_) | refine W.condF (h := ?_))
    refine At.retA (by rw [Try.results65]) (he := ?_)
    rw [hm]
  · obtain ⟨a1, a2, rfl, hz, ho, hh⟩ := h
    replace hy := hy ho
    obtain ⟨rfl, rfl, rfl, rfl, rfl, rfl⟩ : h1 = 0 ∧ h2 = 0 ∧ la = ByteArray.empty ∧ va = ByteArray.empty ∧ ne = ByteArray.empty ∧ da = ByteArray.empty := by simpa [nHd] using hh
    have hm : msgB (2, f, (r1, r2, r3), nHd, l) = decide (l.length = 0) := by
      by_cases h0 : l.length = 0
      · rw [msgB_yes ⟨by dsimp only; omega, a2, by simpa using ho, by simp, by simpa using h0⟩]; simp [h0]
      · rw [msgB_no fun hm => h0 (by simpa [msgOk] using hm.2.2.2.2)]; simp [h0]
    rw [decide_eq_false hz] at q1
    clear hn ho hz q2 c4 c5
    repeat (first | with_reducible (first | apply W.seq | apply W.block | apply W.skip | apply W.exit | apply W.ret | apply At.seqN | apply At.blkN | apply At.blkE | apply At.blkR | apply At.thenX | apply At.thenR | apply At.blkX rfl) | ((with_reducible apply W.ops); (repeat (first | refine WL.opA hΓ (h := ?_) | refine WL.opX hΓ (h := ?_) | refine WL.opY (h := ?_) | refine WL.opZ (h := ?_))); with_reducible apply WL.nil) | refine W.condT (h := ?_) | refine W.condF (h := ?_))
    refine At.retA (by rw [Try.results65]) (he := ?_)
    rw [hm]
    simp
  · obtain ⟨a1, a2, k2, hz⟩ := h
    have hm : msgB (k, f, (r1, r2, r3), (h1, h2, la, va, ne, da), l) = false := msgB_no fun hm => hz (by simpa [msgOk, k2] using hm.2.2.1)
    rw [decide_eq_false hz] at q1
    clear hn hy hz q2 c3 c4 c5
    repeat (first | with_reducible (first | apply W.seq | apply W.block | apply W.skip | apply W.exit | apply W.ret | apply At.seqN | apply At.blkN | apply At.blkE | apply At.blkR | apply At.thenX | apply At.thenR | apply At.blkX rfl) | ((with_reducible apply W.ops); (repeat (first | refine WL.opA hΓ (h := ?_) | refine WL.opX hΓ (h := ?_) | refine WL.opY (h := ?_) | refine WL.opZ (h := ?_))); with_reducible apply WL.nil) | refine W.condT (h := ?_) | refine W.condF (h := ?_))
    refine At.retA (by rw [Try.results65]) (he := ?_)
    rw [hm]
  · obtain ⟨a1, a2, rfl, hz, hh⟩ := h
    obtain ⟨rfl, rfl, rfl⟩ : r1 = 0 ∧ r2 = 0 ∧ r3 = 0 := by simpa [nReq] using hz
    obtain ⟨rfl, rfl, rfl, rfl, rfl, rfl⟩ : h1 = 0 ∧ h2 = 0 ∧ la = ByteArray.empty ∧ va = ByteArray.empty ∧ ne = ByteArray.empty ∧ da = ByteArray.empty := by simpa [nHd] using hh
    have hm : msgB (3, f, nReq, nHd, l) = false := msgB_no fun hm => headOk_z (by simpa [msgOk] using hm.2.2.2.1)
    rw [decide_eq_false headOk_z] at c4
    clear hn hy q1 q2 c3 c5
    repeat (first | with_reducible (first | apply W.seq | apply W.block | apply W.skip | apply W.exit | apply W.ret | apply At.seqN | apply At.blkN | apply At.blkE | apply At.blkR | apply At.thenX | apply At.thenR | apply At.blkX rfl) | ((with_reducible apply W.ops); (repeat (first | refine WL.opA hΓ (h := ?_) | refine WL.opX hΓ (h := ?_) | refine WL.opY (h := ?_) | refine WL.opZ (h := ?_))); with_reducible apply WL.nil) | refine W.condT (h := ?_) | refine W.condF (h := ?_))
    refine At.retA (by rw [Try.results65]) (he := ?_)
    rw [hm]
  · obtain ⟨a1, a2, rfl, hz, hh, ho⟩ := h
    obtain ⟨rfl, rfl, rfl⟩ : r1 = 0 ∧ r2 = 0 ∧ r3 = 0 := by simpa [nReq] using hz
    have hm : msgB (3, f, nReq, (h1, h2, la, va, ne, da), l) = false := msgB_no fun hm => ho (by simpa [msgOk] using hm.2.2.2.1)
    rw [decide_eq_false hh] at q2
    rw [decide_eq_false ho] at c4
    clear hn hy hh ho q1 c3 c5
    repeat (first | with_reducible (first | apply W.seq | apply W.block | apply W.skip | apply W.exit | apply W.ret | apply At.seqN | apply At.blkN | apply At.blkE | apply At.blkR | apply At.thenX | apply At.thenR | apply At.blkX rfl) | ((with_reducible apply W.ops); (repeat (first | refine WL.opA hΓ (h := ?_) | refine WL.opX hΓ (h := ?_) | refine WL.opY (h := ?_) | refine WL.opZ (h := ?_))); with_reducible apply WL.nil) | refine W.condT (h := ?_) | refine W.condF (h := ?_))
    refine At.retA (by rw [Try.results65]) (he := ?_)
    rw [hm]
  · obtain ⟨a1, a2, rfl, hz, hh, ho⟩ := h
    obtain ⟨rfl, rfl, rfl⟩ : r1 = 0 ∧ r2 = 0 ∧ r3 = 0 := by simpa [nReq] using hz
    have hm : msgB (3, f, nReq, (h1, h2, la, va, ne, da), l) = decide (l.length = 0) := by
      by_cases h0 : l.length = 0
      · rw [msgB_yes ⟨by dsimp only; omega, a2, by simp, by simpa using ho, by simpa using h0⟩]; simp [h0]
      · rw [msgB_no fun hm => h0 (by simpa [msgOk] using hm.2.2.2.2)]; simp [h0]
    rw [decide_eq_false hh] at q2
    rw [decide_eq_true ho] at c4
    clear hn hy hh ho q1 c3 c5
    repeat (first | with_reducible (first | apply W.seq | apply W.block | apply W.skip | apply W.exit | apply W.ret | apply At.seqN | apply At.blkN | apply At.blkE | apply At.blkR | apply At.thenX | apply At.thenR | apply At.blkX rfl) | ((with_reducible apply W.ops); (repeat (first | refine WL.opA hΓ (h := ?_) | refine WL.opX hΓ (h := ?_) | refine WL.opY (h := ?_) | refine WL.opZ (h := ?_))); with_reducible apply WL.nil) | refine W.condT (h := ?_) | refine W.condF (h := ?_))
    refine At.retA (by rw [Try.results65]) (he := ?_)
    rw [hm]
    simp
  · obtain ⟨a1, a2, k2, k3, hz, hh⟩ := h
    obtain ⟨rfl, rfl, rfl⟩ : r1 = 0 ∧ r2 = 0 ∧ r3 = 0 := by simpa [nReq] using hz
    have hm : msgB (k, f, nReq, (h1, h2, la, va, ne, da), l) = false := msgB_no fun hm => hh (by simpa [msgOk, k3] using hm.2.2.2.1)
    rw [decide_eq_false hh] at q2
    clear hn hy hh q1 c3 c4 c5
    repeat (first | with_reducible (first | apply W.seq | apply W.block | apply W.skip | apply W.exit | apply W.ret | apply At.seqN | apply At.blkN | apply At.blkE | apply At.blkR | apply At.thenX | apply At.thenR | apply At.blkX rfl) | ((with_reducible apply W.ops); (repeat (first | refine WL.opA hΓ (h := ?_) | refine WL.opX hΓ (h := ?_) | refine WL.opY (h := ?_) | refine WL.opZ (h := ?_))); with_reducible apply WL.nil) | refine W.condT (h := ?_) | refine W.condF (h := ?_))
    refine At.retA (by rw [Try.results65]) (he := ?_)
    rw [hm]
  · obtain ⟨a1, a2, rfl, hz, hh⟩ := h
    obtain ⟨rfl, rfl, rfl⟩ : r1 = 0 ∧ r2 = 0 ∧ r3 = 0 := by simpa [nReq] using hz
    obtain ⟨rfl, rfl, rfl, rfl, rfl, rfl⟩ : h1 = 0 ∧ h2 = 0 ∧ la = ByteArray.empty ∧ va = ByteArray.empty ∧ ne = ByteArray.empty ∧ da = ByteArray.empty := by simpa [nHd] using hh
    have hm : msgB (4, f, nReq, nHd, l) = decide (addrsOk l) := by
      by_cases h0 : addrsOk l
      · rw [msgB_yes ⟨by dsimp only; omega, a2, by simp, by simp, by simpa using h0⟩]; simp [h0]
      · rw [msgB_no fun hm => h0 (by simpa [msgOk] using hm.2.2.2.2)]; simp [h0]
    clear hn hy q1 q2 c3 c4
    repeat (first | with_reducible (first | apply W.seq | apply W.block | apply W.skip | apply W.exit | apply W.ret | apply At.seqN | apply At.blkN | apply At.blkE | apply At.blkR | apply At.thenX | apply At.thenR | apply At.blkX rfl) | ((with_reducible apply W.ops); (repeat (first | refine WL.opA hΓ (h := ?_) | refine WL.opX hΓ (h := ?_) | refine WL.opY (h := ?_) | refine WL.opZ (h := ?_))); with_reducible apply WL.nil) | refine W.condT (h := ?_) | refine W.condF (h := ?_))
    refine At.retA (by rw [Try.results65]) (he := ?_)
    rw [hm]
  · obtain ⟨a1, a2, rfl, hz, hh⟩ := h
    obtain ⟨rfl, rfl, rfl⟩ : r1 = 0 ∧ r2 = 0 ∧ r3 = 0 := by simpa [nReq] using hz
    obtain ⟨rfl, rfl, rfl, rfl, rfl, rfl⟩ : h1 = 0 ∧ h2 = 0 ∧ la = ByteArray.empty ∧ va = ByteArray.empty ∧ ne = ByteArray.empty ∧ da = ByteArray.empty := by simpa [nHd] using hh
    have hm : msgB (1, f, nReq, nHd, l) = decide (l.length = 0) := by
      by_cases h0 : l.length = 0
      · rw [msgB_yes ⟨by dsimp only; omega, a2, by simp, by simp, by simpa using h0⟩]; simp [h0]
      · rw [msgB_no fun hm => h0 (by simpa [msgOk] using hm.2.2.2.2)]; simp [h0]
    clear hn hy q1 q2 c3 c4 c5
    repeat (first | with_reducible (first | apply W.seq | apply W.block | apply W.skip | apply W.exit | apply W.ret | apply At.seqN | apply At.blkN | apply At.blkE | apply At.blkR | apply At.thenX | apply At.thenR | apply At.blkX rfl) | ((with_reducible apply W.ops); (repeat (first | refine WL.opA hΓ (h := ?_) | refine WL.opX hΓ (h := ?_) | refine WL.opY (h := ?_) | refine WL.opZ (h := ?_))); with_reducible apply WL.nil) | refine W.condT (h := ?_) | refine W.condF (h := ?_))
    refine At.retA (by rw [Try.results65]) (he := ?_)
    rw [hm]
    simp

end Go.Proofs.Yteaohgacgcjkjaa
