/-
  What the law of books draws.
-/
import Derived.Test.YtimnogjgokljbaaDoorG26
import Derived.Test.YtimnogjgokljbaaDoorHEvSpoil
namespace Go.Proofs.YtimnogjgokljbaaDoor
set_option maxRecDepth 100000
set_option linter.unusedVariables false
set_option linter.unusedSimpArgs false
open Go Go.RowKit
set_option maxHeartbeats 4000000

/-- what several ways come to, walked once -/
theorem W.key {P : Program} {γ0 : Nat → Option Nat} {w0 : World} {N : Nat} {st : St} {c0 c : Code} {Q0 Q : Exit → Act → World → Prop} {ι : Type} (I : ι → Prop) (J : ι → St) (main : (∀ i, I i → W P γ0 w0 N (J i) c Q) → W P γ0 w0 N st c0 Q0) (part : ∀ i, I i → W P γ0 w0 N (J i) c Q) : W P γ0 w0 N st c0 Q0 := main part
theorem decZ_size {n : Int} (h : okDecZ n) : (bsS (decZ n)).size ≤ 10 := by
  obtain ⟨neg, l, e, p1, p2, p3, p4⟩ := decZ_parts h
  rw [bsS_size, e]
  cases neg <;> simp <;> omega
theorem szs {l : List ByteArray} {m : Nat} (h : l.all (fun s => decide (s.size ≤ m)) = true) {x : ByteArray} (hx : x ∈ l) : x.size ≤ m := of_decide_eq_true (List.all_eq_true.1 h x hx)
theorem cItem_appT (l : List TItem) (k : ByteArray) (n : Int) : rowsF cItem l ++ [[Leaf.sc (.string k), Leaf.sc (.int .i64 n)]] = rowsF cItem (l ++ [(k, n)]) := by rw [← rowsF_app]; rfl
theorem cStr_appT' (l : List ByteArray) (x : ByteArray) : rowsF cStr l ++ [[Leaf.sc (.string x)]] = rowsF cStr (l ++ [x]) := by rw [← rowsF_app]; rfl
def rLine (s : ByteArray) : Prop := s.size ≤ 100
theorem l36Line_s : SoundCu Tryd.prog 21 (fun _ : Unit => True) (fun _ => []) (fun _ s => rLine s) (fun _ s => rS s) := by
  refine SoundCu.of Tryd.func21 rfl Tryd.ntmps21 ?_
  rintro k0 - b w hc - hB
  refine ⟨by simp, ?_⟩
  simp only [initC]
  have hΓ : GSound Tryd.prog (look [(15, mDecZ)]) := env_cons (has_of Tryd.func15 rfl rfl) decZS_s env_nil
  have hBe : Has Tryd.prog 40 := has_of Tryd.func40 rfl rfl
  have hOn : Has Tryd.prog 41 := has_of Tryd.func41 rfl rfl
  have hPk : Has Tryd.prog 42 := has_of Tryd.func42 rfl rfl
  have hSp : Has Tryd.prog 44 := has_of Tryd.func44 rfl rfl
  have hcu := lsNms_cu
  have hck := kill_cu
  have w1 : (⟨#[61]⟩ : ByteArray).size = 1 := rfl
  have w2 : (⟨#[43]⟩ : ByteArray).size = 1 := rfl
  have w3 : (⟨#[62]⟩ : ByteArray).size = 1 := rfl
  have w4 : (⟨#[32]⟩ : ByteArray).size = 1 := rfl
  simp only [initS, argPV, List.map_cons, List.map_nil, toPL, Nat.zero_add]
  repeat (first | with_reducible (first | apply W.seq | apply W.block | apply W.skip | apply W.exit | apply W.ret | apply At.seqN | apply At.blkN | apply At.blkE | apply At.blkR | apply At.thenX | apply At.thenR | apply At.blkX rfl) | ((with_reducible apply W.ops); (repeat (first | refine WL.opA hΓ (h := ?_) | refine WL.opX hΓ (h := ?_) | refine WL.opY (h := ?_) | refine WL.opZ (h := ?_))); with_reducible apply WL.nil) | refine W.condT (h := ?_) | refine W.condF (h := ?_))
  with_reducible apply W.ops
  repeat (first | refine WL.opA hΓ (h := ?_) | refine WL.opX hΓ (h := ?_) | refine WL.opY (h := ?_) | refine WL.opZ (h := ?_))
  refine WL.opCu hPk l1Pick_s k0 hc [⟨#[97]⟩, ⟨#[98]⟩, ⟨#[97, 98]⟩, ⟨#[99]⟩] ⟨by decide, by decide⟩ (h := ?_)
  rintro k1 kk hk1 hkk
  have hks : kk.size ≤ 2 := szs rfl hkk
  clear hkk
  (repeat (first | refine WL.opA hΓ (h := ?_) | refine WL.opX hΓ (h := ?_) | refine WL.opY (h := ?_) | refine WL.opZ (h := ?_)))
  with_reducible apply WL.nil
  repeat (first | with_reducible (first | apply W.seq | apply W.block | apply W.skip | apply W.exit | apply W.ret | apply At.seqN | apply At.blkN | apply At.blkE | apply At.blkR | apply At.thenX | apply At.thenR | apply At.blkX rfl) | ((with_reducible apply W.ops); (repeat (first | refine WL.opA hΓ (h := ?_) | refine WL.opX hΓ (h := ?_) | refine WL.opY (h := ?_) | refine WL.opZ (h := ?_))); with_reducible apply WL.nil) | refine W.condT (h := ?_) | refine W.condF (h := ?_))
  with_reducible apply W.ops
  repeat (first | refine WL.opA hΓ (h := ?_) | refine WL.opX hΓ (h := ?_) | refine WL.opY (h := ?_) | refine WL.opZ (h := ?_))
  refine WL.opCu hBe l1Below_s k1 hk1.ok 20 (by decide) (h := ?_)
  rintro k2 r hk2 ⟨hr0, hr1, -⟩
  replace hr1 : r < 20 := hr1 (by decide)
  have hzd : okDecZ r := ⟨by omega, by omega⟩
  have c1 := mDecZ_eq r hzd
  have hds := decZ_size hzd
  have hk20 := hk1.trans hk2
  generalize bsS (decZ r) = D at c1 hds
  clear hzd
  have z1 := ByteArray.size_append (a := kk) (b := ⟨#[61]⟩)
  have z2 := ByteArray.size_append (a := kk ++ ⟨#[61]⟩) (b := D)
  (repeat (first | refine WL.opA hΓ (h := ?_) | refine WL.opX hΓ (h := ?_) | refine WL.opY (h := ?_) | refine WL.opZ (h := ?_)))
  with_reducible apply WL.nil
  repeat (first | with_reducible (first | apply W.seq | apply W.block | apply W.skip | apply W.exit | apply W.ret | apply At.seqN | apply At.blkN | apply At.blkE | apply At.blkR | apply At.thenX | apply At.thenR | apply At.blkX rfl) | ((with_reducible apply W.ops); (repeat (first | refine WL.opA hΓ (h := ?_) | refine WL.opX hΓ (h := ?_) | refine WL.opY (h := ?_) | refine WL.opZ (h := ?_))); with_reducible apply WL.nil) | refine W.condT (h := ?_) | refine W.condF (h := ?_))
  with_reducible apply W.ops
  repeat (first | refine WL.opA hΓ (h := ?_) | refine WL.opX hΓ (h := ?_) | refine WL.opY (h := ?_) | refine WL.opZ (h := ?_))
  refine WL.opCu hBe l1Below_s k2 hk2.ok 4 (by decide) (h := ?_)
  rintro k3 q hk3 -
  have hk30 := hk20.trans hk3
  (repeat (first | refine WL.opA hΓ (h := ?_) | refine WL.opX hΓ (h := ?_) | refine WL.opY (h := ?_) | refine WL.opZ (h := ?_)))
  with_reducible apply WL.nil
  refine W.key (c := ?codeK) (Q := ?postK) (fun x : Cu × ByteArray => CuTo k0 x.1 ∧ x.2.size ≤ 40) (fun x => [.slot 0 (one (.ptr 999 0)), .blk 999 (.box (cuL x.1)), .slot 5 (vS x.2)]) ?main ?part
  case main =>
    intro key
    by_cases q0 : q = 0
    · subst q0
      have y1 := ByteArray.size_append (a := kk) (b := ⟨#[43]⟩)
      have y2 := ByteArray.size_append (a := kk ++ ⟨#[43]⟩) (b := D)
      repeat (first | with_reducible (first | apply W.seq | apply W.block | apply W.skip | apply W.exit | apply W.ret | apply At.seqN | apply At.blkN | apply At.blkE | apply At.blkR | apply At.thenX | apply At.thenR | apply At.blkX rfl) | ((with_reducible apply W.ops); (repeat (first | refine WL.opA hΓ (h := ?_) | refine WL.opX hΓ (h := ?_) | refine WL.opY (h := ?_) | refine WL.opZ (h := ?_))); with_reducible apply WL.nil) | refine W.condT (h := ?_) | refine W.condF (h := ?_))
      refine W.subA [.slot 0 (one (.ptr 999 0)), .blk 999 (.box (cuL k3)), .slot 5 (vS (kk ++ ⟨#[43]⟩ ++ D))] (h := ?_)
      exact key (k3, kk ++ ⟨#[43]⟩ ++ D) ⟨hk30, by dsimp only; omega⟩
    · by_cases q1 : q = 1
      · subst q1
        have y1 := ByteArray.size_append (a := kk) (b := ⟨#[62]⟩)
        repeat (first | with_reducible (first | apply W.seq | apply W.block | apply W.skip | apply W.exit | apply W.ret | apply At.seqN | apply At.blkN | apply At.blkE | apply At.blkR | apply At.thenX | apply At.thenR | apply At.blkX rfl) | ((with_reducible apply W.ops); (repeat (first | refine WL.opA hΓ (h := ?_) | refine WL.opX hΓ (h := ?_) | refine WL.opY (h := ?_) | refine WL.opZ (h := ?_))); with_reducible apply WL.nil) | refine W.condT (h := ?_) | refine W.condF (h := ?_))
        with_reducible apply W.ops
        repeat (first | refine WL.opA hΓ (h := ?_) | refine WL.opX hΓ (h := ?_) | refine WL.opY (h := ?_) | refine WL.opZ (h := ?_))
        refine WL.opCu hPk l1Pick_s k3 hk3.ok [⟨#[97]⟩, ⟨#[98]⟩, ⟨#[100]⟩] ⟨by decide, by decide⟩ (h := ?_)
        rintro k4 t hk4 ht
        have hts : t.size ≤ 1 := szs rfl ht
        clear ht
        have y2 := ByteArray.size_append (a := kk ++ ⟨#[62]⟩) (b := t)
        have y3 := ByteArray.size_append (a := kk ++ ⟨#[62]⟩ ++ t) (b := ⟨#[32]⟩)
        have y4 := ByteArray.size_append (a := kk ++ ⟨#[62]⟩ ++ t ++ ⟨#[32]⟩) (b := D)
        (repeat (first | refine WL.opA hΓ (h := ?_) | refine WL.opX hΓ (h := ?_) | refine WL.opY (h := ?_) | refine WL.opZ (h := ?_)))
        with_reducible apply WL.nil
        repeat (first | with_reducible (first | apply W.seq | apply W.block | apply W.skip | apply W.exit | apply W.ret | apply At.seqN | apply At.blkN | apply At.blkE | apply At.blkR | apply At.thenX | apply At.thenR | apply At.blkX rfl) | ((with_reducible apply W.ops); (repeat (first | refine WL.opA hΓ (h := ?_) | refine WL.opX hΓ (h := ?_) | refine WL.opY (h := ?_) | refine WL.opZ (h := ?_))); with_reducible apply WL.nil) | refine W.condT (h := ?_) | refine W.condF (h := ?_))
        refine W.subA [.slot 0 (one (.ptr 999 0)), .blk 999 (.box (cuL k4)), .slot 5 (vS (kk ++ ⟨#[62]⟩ ++ t ++ ⟨#[32]⟩ ++ D))] (h := ?_)
        exact key (k4, kk ++ ⟨#[62]⟩ ++ t ++ ⟨#[32]⟩ ++ D) ⟨hk30.trans hk4, by dsimp only; omega⟩
      · repeat (first | with_reducible (first | apply W.seq | apply W.block | apply W.skip | apply W.exit | apply W.ret | apply At.seqN | apply At.blkN | apply At.blkE | apply At.blkR | apply At.thenX | apply At.thenR | apply At.blkX rfl) | ((with_reducible apply W.ops); (repeat (first | refine WL.opA hΓ (h := ?_) | refine WL.opX hΓ (h := ?_) | refine WL.opY (h := ?_) | refine WL.opZ (h := ?_))); with_reducible apply WL.nil) | refine W.condT (h := ?_) | refine W.condF (h := ?_))
        refine W.subA [.slot 0 (one (.ptr 999 0)), .blk 999 (.box (cuL k3)), .slot 5 (vS (kk ++ ⟨#[61]⟩ ++ D))] (h := ?_)
        exact key (k3, kk ++ ⟨#[61]⟩ ++ D) ⟨hk30, by dsimp only; omega⟩
  case part =>
    clear z1 z2 w1 w2 w3 w4 c1 hks hds
    rintro ⟨k4, s⟩ ⟨hk4, hs⟩
    dsimp only at hk4 hs ⊢
    repeat (first | with_reducible (first | apply W.seq | apply W.block | apply W.skip | apply W.exit | apply W.ret | apply At.seqN | apply At.blkN | apply At.blkE | apply At.blkR | apply At.thenX | apply At.thenR | apply At.blkX rfl) | ((with_reducible apply W.ops); (repeat (first | refine WL.opA hΓ (h := ?_) | refine WL.opX hΓ (h := ?_) | refine WL.opY (h := ?_) | refine WL.opZ (h := ?_))); with_reducible apply WL.nil) | refine W.condT (h := ?_) | refine W.condF (h := ?_))
    with_reducible apply W.ops
    repeat (first | refine WL.opA hΓ (h := ?_) | refine WL.opX hΓ (h := ?_) | refine WL.opY (h := ?_) | refine WL.opZ (h := ?_))
    refine WL.opCu hOn l1Once_s k4 hk4.ok 8 (by decide) (h := ?_)
    rintro k5 o hk5 -
    have hk50 := hk4.trans hk5
    (repeat (first | refine WL.opA hΓ (h := ?_) | refine WL.opX hΓ (h := ?_) | refine WL.opY (h := ?_) | refine WL.opZ (h := ?_)))
    with_reducible apply WL.nil
    cases o with
    | true =>
      repeat (first | with_reducible (first | apply W.seq | apply W.block | apply W.skip | apply W.exit | apply W.ret | apply At.seqN | apply At.blkN | apply At.blkE | apply At.blkR | apply At.thenX | apply At.thenR | apply At.blkX rfl) | ((with_reducible apply W.ops); (repeat (first | refine WL.opA hΓ (h := ?_) | refine WL.opX hΓ (h := ?_) | refine WL.opY (h := ?_) | refine WL.opZ (h := ?_))); with_reducible apply WL.nil) | refine W.condT (h := ?_) | refine W.condF (h := ?_))
      with_reducible apply W.ops
      repeat (first | refine WL.opA hΓ (h := ?_) | refine WL.opX hΓ (h := ?_) | refine WL.opY (h := ?_) | refine WL.opZ (h := ?_))
      refine WL.opCu hSp l1Spoil_s k5 hk5.ok s (by omega) (h := ?_)
      rintro k6 t hk6 ht
      replace ht : t.size ≤ s.size + 3 := ht
      (repeat (first | refine WL.opA hΓ (h := ?_) | refine WL.opX hΓ (h := ?_) | refine WL.opY (h := ?_) | refine WL.opZ (h := ?_)))
      with_reducible apply WL.nil
      repeat (first | with_reducible (first | apply W.seq | apply W.block | apply W.skip | apply W.exit | apply W.ret | apply At.seqN | apply At.blkN | apply At.blkE | apply At.blkR | apply At.thenX | apply At.thenR | apply At.blkX rfl) | ((with_reducible apply W.ops); (repeat (first | refine WL.opA hΓ (h := ?_) | refine WL.opX hΓ (h := ?_) | refine WL.opY (h := ?_) | refine WL.opZ (h := ?_))); with_reducible apply WL.nil) | refine W.condT (h := ?_) | refine W.condF (h := ?_))
      refine At.retCu (by rw [Tryd.results21]) hB (hls := ?_) (he := ?_) k6 t (hk50.trans hk6) (show t.size ≤ 100 by omega)
      · rfl
      · rfl
    | false =>
      repeat (first | with_reducible (first | apply W.seq | apply W.block | apply W.skip | apply W.exit | apply W.ret | apply At.seqN | apply At.blkN | apply At.blkE | apply At.blkR | apply At.thenX | apply At.thenR | apply At.blkX rfl) | ((with_reducible apply W.ops); (repeat (first | refine WL.opA hΓ (h := ?_) | refine WL.opX hΓ (h := ?_) | refine WL.opY (h := ?_) | refine WL.opZ (h := ?_))); with_reducible apply WL.nil) | refine W.condT (h := ?_) | refine W.condF (h := ?_))
      with_reducible apply W.ops
      repeat (first | refine WL.opA hΓ (h := ?_) | refine WL.opX hΓ (h := ?_) | refine WL.opY (h := ?_) | refine WL.opZ (h := ?_))
      refine WL.opCu hOn l1Once_s k5 hk5.ok 25 (by decide) (h := ?_)
      rintro k6 o2 hk6 -
      have hk60 := hk50.trans hk6
      (repeat (first | refine WL.opA hΓ (h := ?_) | refine WL.opX hΓ (h := ?_) | refine WL.opY (h := ?_) | refine WL.opZ (h := ?_)))
      with_reducible apply WL.nil
      cases o2 with
      | true =>
        repeat (first | with_reducible (first | apply W.seq | apply W.block | apply W.skip | apply W.exit | apply W.ret | apply At.seqN | apply At.blkN | apply At.blkE | apply At.blkR | apply At.thenX | apply At.thenR | apply At.blkX rfl) | ((with_reducible apply W.ops); (repeat (first | refine WL.opA hΓ (h := ?_) | refine WL.opX hΓ (h := ?_) | refine WL.opY (h := ?_) | refine WL.opZ (h := ?_))); with_reducible apply WL.nil) | refine W.condT (h := ?_) | refine W.condF (h := ?_))
        with_reducible apply W.ops
        repeat (first | refine WL.opA hΓ (h := ?_) | refine WL.opX hΓ (h := ?_) | refine WL.opY (h := ?_) | refine WL.opZ (h := ?_))
        refine WL.opCu hPk l1Pick_s k6 hk6.ok [⟨#[]⟩, ⟨#[97]⟩, ⟨#[97, 61]⟩, ⟨#[97, 61, 48, 49]⟩, ⟨#[65, 61, 49]⟩, ⟨#[97, 61, 49, 48, 48, 48, 48, 48, 49]⟩, ⟨#[97, 62, 98]⟩, ⟨#[97, 62, 98, 32, 49, 32]⟩, ⟨#[97, 61, 32, 49]⟩, ⟨#[97, 98, 99, 100, 101, 102, 103, 104, 105, 61, 49]⟩] ⟨by decide, by decide⟩ (h := ?_)
        rintro k7 t hk7 ht
        have hts : t.size ≤ 11 := szs rfl ht
        clear ht
        (repeat (first | refine WL.opA hΓ (h := ?_) | refine WL.opX hΓ (h := ?_) | refine WL.opY (h := ?_) | refine WL.opZ (h := ?_)))
        with_reducible apply WL.nil
        repeat (first | with_reducible (first | apply W.seq | apply W.block | apply W.skip | apply W.exit | apply W.ret | apply At.seqN | apply At.blkN | apply At.blkE | apply At.blkR | apply At.thenX | apply At.thenR | apply At.blkX rfl) | ((with_reducible apply W.ops); (repeat (first | refine WL.opA hΓ (h := ?_) | refine WL.opX hΓ (h := ?_) | refine WL.opY (h := ?_) | refine WL.opZ (h := ?_))); with_reducible apply WL.nil) | refine W.condT (h := ?_) | refine W.condF (h := ?_))
        refine At.retCu (by rw [Tryd.results21]) hB (hls := ?_) (he := ?_) k7 t (hk60.trans hk7) (show t.size ≤ 100 by omega)
        · rfl
        · rfl
      | false =>
        repeat (first | with_reducible (first | apply W.seq | apply W.block | apply W.skip | apply W.exit | apply W.ret | apply At.seqN | apply At.blkN | apply At.blkE | apply At.blkR | apply At.thenX | apply At.thenR | apply At.blkX rfl) | ((with_reducible apply W.ops); (repeat (first | refine WL.opA hΓ (h := ?_) | refine WL.opX hΓ (h := ?_) | refine WL.opY (h := ?_) | refine WL.opZ (h := ?_))); with_reducible apply WL.nil) | refine W.condT (h := ?_) | refine W.condF (h := ?_))
        refine At.retCu (by rw [Tryd.results21]) hB (hls := ?_) (he := ?_) k6 s hk60 (show s.size ≤ 100 by omega)
        · rfl
        · rfl
def rBk (l : List TItem) : Prop := l.length ≤ 12 ∧ ∀ x ∈ l, okItem x
theorem pl_len (ls : List ByteArray) : (plL ls).length ≤ 12 := (plK_ok ls ls.length (Nat.le_refl _)).1.1
theorem pl_items (ls : List ByteArray) : ∀ x ∈ plL ls, okItem x := book_items (plK_ok ls ls.length (Nat.le_refl _)).1
theorem l36Some_s : SoundCu Tryd.prog 20 (fun _ : Unit => True) (fun _ => []) (fun _ l => rBk l) (fun _ l => rL 36 2 cItem l) := by
  refine SoundCu.of Tryd.func20 rfl Tryd.ntmps20 ?_
  rintro k0 - b w hc - hB
  refine ⟨by simp, ?_⟩
  simp only [initC]
  have hΓ : GSound Tryd.prog (look [(18, mPlay)]) := env_cons (has_of Tryd.func18 rfl rfl) play_spec_s env_nil
  have hBe : Has Tryd.prog 40 := has_of Tryd.func40 rfl rfl
  have hOn : Has Tryd.prog 41 := has_of Tryd.func41 rfl rfl
  have hPk : Has Tryd.prog 42 := has_of Tryd.func42 rfl rfl
  have hPi : Has Tryd.prog 43 := has_of Tryd.func43 rfl rfl
  have hLn : Has Tryd.prog 21 := has_of Tryd.func21 rfl rfl
  have hcu := lsNms_cu
  have hck := kill_cu
  have hnil : rowsF cStr [] = [] := rfl
  simp only [initS, argPV, List.map_cons, List.map_nil, toPL, Nat.zero_add]
  repeat (first | with_reducible (first | apply W.seq | apply W.block | apply W.skip | apply W.exit | apply W.ret | apply At.seqN | apply At.blkN | apply At.blkE | apply At.blkR | apply At.thenX | apply At.thenR | apply At.blkX rfl) | ((with_reducible apply W.ops); (repeat (first | refine WL.opA hΓ (h := ?_) | refine WL.opX hΓ (h := ?_) | refine WL.opY (h := ?_) | refine WL.opZ (h := ?_))); with_reducible apply WL.nil) | refine W.condT (h := ?_) | refine W.condF (h := ?_))
  with_reducible apply W.ops
  repeat (first | refine WL.opA hΓ (h := ?_) | refine WL.opX hΓ (h := ?_) | refine WL.opY (h := ?_) | refine WL.opZ (h := ?_))
  refine WL.opCu hBe l1Below_s k0 hc 12 (by decide) (h := ?_)
  rintro k1 n0 hk1 ⟨hn0, hn1, -⟩
  replace hn1 : n0 < 12 := hn1 (by decide)
  (repeat (first | refine WL.opA hΓ (h := ?_) | refine WL.opX hΓ (h := ?_) | refine WL.opY (h := ?_) | refine WL.opZ (h := ?_)))
  with_reducible apply WL.nil
  repeat (first | with_reducible (first | apply W.seq | apply W.block | apply W.skip | apply W.exit | apply W.ret | apply At.seqN | apply At.blkN | apply At.blkE | apply At.blkR | apply At.thenX | apply At.thenR | apply At.blkX rfl) | ((with_reducible apply W.ops); (repeat (first | refine WL.opA hΓ (h := ?_) | refine WL.opX hΓ (h := ?_) | refine WL.opY (h := ?_) | refine WL.opZ (h := ?_))); with_reducible apply WL.nil) | refine W.condT (h := ?_) | refine W.condF (h := ?_))
  refine W.loopA (fun x : List ByteArray × Int × Cu => (CuTo k0 x.2.2 ∧ 0 ≤ x.2.1 ∧ x.1.length + x.2.1 = n0) ∧ ∀ s ∈ x.1, okString s) (fun x => [.slot 0 (one (.ptr 999 0)), .blk 999 (.box (cuL x.2.2)), .slot 3 (one (.all 7)), .blk 7 (.arr true 9 1 (rowsF cStr x.1)), .slot 4 (vI x.2.1)]) (fun x => x.2.1.toNat) ([], n0, k1) ⟨⟨hk1, hn0, by simp⟩, by simp⟩ (h := ?_)
  rintro ⟨l, n, k⟩ ⟨⟨hk, hn, hl⟩, hsz⟩
  dsimp only at hk hn hl hsz ⊢
  clear hnil
  have hlen : l.length ≤ 12 := by omega
  by_cases hp : 0 < n
  · repeat (first | with_reducible (first | apply W.seq | apply W.block | apply W.skip | apply W.exit | apply W.ret | apply At.seqN | apply At.blkN | apply At.blkE | apply At.blkR | apply At.thenX | apply At.thenR | apply At.blkX rfl) | ((with_reducible apply W.ops); (repeat (first | refine WL.opA hΓ (h := ?_) | refine WL.opX hΓ (h := ?_) | refine WL.opY (h := ?_) | refine WL.opZ (h := ?_))); with_reducible apply WL.nil) | refine W.condT (h := ?_) | refine W.condF (h := ?_))
    with_reducible apply W.ops
    repeat (first | refine WL.opA hΓ (h := ?_) | refine WL.opX hΓ (h := ?_) | refine WL.opY (h := ?_) | refine WL.opZ (h := ?_))
    refine WL.opCu hLn l36Line_s k hk.ok () trivial (h := ?_)
    rintro k3 s hk3 hs
    replace hs : s.size ≤ 100 := hs
    have e := cStr_appT' l s
    have hsz' : ∀ x ∈ l ++ [s], okString x := fun x hx => by
      rcases List.mem_append.1 hx with h | h
      · exact hsz x h
      · rw [List.mem_singleton.1 h]
        show s.size ≤ maxLen
        unfold maxLen
        omega
    have HZ := Lib.hid hsz'
    clear hsz hsz'
    (repeat (first | refine WL.opA hΓ (h := ?_) | refine WL.opX hΓ (h := ?_) | refine WL.opY (h := ?_) | refine WL.opZ (h := ?_)))
    with_reducible apply WL.nil
    repeat (first | with_reducible (first | apply W.seq | apply W.block | apply W.skip | apply W.exit | apply W.ret | apply At.seqN | apply At.blkN | apply At.blkE | apply At.blkR | apply At.thenX | apply At.thenR | apply At.blkX rfl) | ((with_reducible apply W.ops); (repeat (first | refine WL.opA hΓ (h := ?_) | refine WL.opX hΓ (h := ?_) | refine WL.opY (h := ?_) | refine WL.opZ (h := ?_))); with_reducible apply WL.nil) | refine W.condT (h := ?_) | refine W.condF (h := ?_))
    exact At.roundA (l ++ [s], n - 1, k3) ⟨⟨hk.trans hk3, by dsimp only; omega, by simp; omega⟩, HZ.out⟩ (by dsimp only; omega)
  · have c1 := mdl_eq (ok := okPl) (g := fun ls => rTL 36 2 cItem (plL ls) [rSc (.int .i64 (plN ls))]) (enc := fun ls : List ByteArray => [aL cStr ls]) (by intro a b h; simpa using h) l ⟨hsz, by omega⟩
    have c1' : mPlay [aL cStr l] = some (rTL 36 2 cItem (plL l) [rSc (.int .i64 (plN l))]) := c1
    have q1 := pl_len l
    have q2 := pl_items l
    clear c1 hsz
    generalize plL l = L at *
    generalize plN l = nn at *
    have HQ := Lib.hid q2
    clear q2
    have hLl := rowsF_len cItem L
    dsimp only [rTL] at c1'
    by_cases h0 : 0 < L.length
    · repeat (first | with_reducible (first | apply W.seq | apply W.block | apply W.skip | apply W.exit | apply W.ret | apply At.seqN | apply At.blkN | apply At.blkE | apply At.blkR | apply At.thenX | apply At.thenR | apply At.blkX rfl) | ((with_reducible apply W.ops); (repeat (first | refine WL.opA hΓ (h := ?_) | refine WL.opX hΓ (h := ?_) | refine WL.opY (h := ?_) | refine WL.opZ (h := ?_))); with_reducible apply WL.nil) | refine W.condT (h := ?_) | refine W.condF (h := ?_))
      with_reducible apply W.ops
      repeat (first | refine WL.opA hΓ (h := ?_) | refine WL.opX hΓ (h := ?_) | refine WL.opY (h := ?_) | refine WL.opZ (h := ?_))
      refine WL.unG (h := ?_)
      refine WL.opCu hOn l1Once_s k hk.ok 10 (by decide) (h := ?_)
      rintro k2 o hk2 -
      have hk20 := hk.trans hk2
      (repeat (first | refine WL.opA hΓ (h := ?_) | refine WL.opX hΓ (h := ?_) | refine WL.opY (h := ?_) | refine WL.opZ (h := ?_)))
      with_reducible apply WL.nil
      cases o with
      | false =>
        repeat (first | with_reducible (first | apply W.seq | apply W.block | apply W.skip | apply W.exit | apply W.ret | apply At.seqN | apply At.blkN | apply At.blkE | apply At.blkR | apply At.thenX | apply At.thenR | apply At.blkX rfl) | ((with_reducible apply W.ops); (repeat (first | refine WL.opA hΓ (h := ?_) | refine WL.opX hΓ (h := ?_) | refine WL.opY (h := ?_) | refine WL.opZ (h := ?_))); with_reducible apply WL.nil) | refine W.condT (h := ?_) | refine W.condF (h := ?_))
        refine At.retCu (by rw [Tryd.results20]) hB (hls := ?_) (he := ?_) k2 L hk20 ⟨q1, HQ.out⟩
        · rfl
        · rfl
      | true =>
        have hwid := rowsF_wid (f := cItem) (s := 2) (fun _ => rfl) L
        repeat (first | with_reducible (first | apply W.seq | apply W.block | apply W.skip | apply W.exit | apply W.ret | apply At.seqN | apply At.blkN | apply At.blkE | apply At.blkR | apply At.thenX | apply At.thenR | apply At.blkX rfl) | ((with_reducible apply W.ops); (repeat (first | refine WL.opA hΓ (h := ?_) | refine WL.opX hΓ (h := ?_) | refine WL.opY (h := ?_) | refine WL.opZ (h := ?_))); with_reducible apply WL.nil) | refine W.condT (h := ?_) | refine W.condF (h := ?_))
        with_reducible apply W.ops
        repeat (first | refine WL.opA hΓ (h := ?_) | refine WL.opX hΓ (h := ?_) | refine WL.opY (h := ?_) | refine WL.opZ (h := ?_))
        refine WL.opCu hBe l1Below_s k2 hk2.ok (L.length : Int) ⟨by omega, by omega⟩ (h := ?_)
        rintro k3 i hk3 ⟨hi0, hi1, -⟩
        replace hi1 : i < L.length := hi1 (by omega)
        obtain ⟨i, rfl⟩ := Int.eq_ofNat_of_zero_le hi0
        have hlt : i < L.length := by omega
        repeat (first | refine WL.opA hΓ (h := ?_) | refine WL.opX hΓ (h := ?_) | refine WL.opY (h := ?_) | refine WL.opZ (h := ?_))
        refine WL.opCu hPk l1Pick_s k3 hk3.ok [⟨#[]⟩, ⟨#[97]⟩, ⟨#[122, 122]⟩] ⟨by decide, by decide⟩ (h := ?_)
        rintro k4 kk hk4 hkk
        have hks : kk.size ≤ 2 := szs rfl hkk
        clear hkk
        repeat (first | refine WL.opA hΓ (h := ?_) | refine WL.opX hΓ (h := ?_) | refine WL.opY (h := ?_) | refine WL.opZ (h := ?_))
        refine WL.opCu hPi l1PickInt_s k4 hk4.ok [0, 1000000, 1000001] ⟨by decide, by decide⟩ (h := ?_)
        rintro k5 v hk5 -
        have hrow : (rowsF cItem L)[i]? = some [.sc (.string L[i].1), .sc (.int .i64 L[i].2)] := rowsF_get cItem L i hlt
        have e' : (rowsF cItem L).set i [Leaf.sc (.string kk), Leaf.sc (.int .i64 v)] = rowsF cItem (L.set i (kk, v)) := rowsF_set cItem L i (kk, v)
        generalize L[i] = y at hrow
        (repeat (first | refine WL.opA hΓ (h := ?_) | refine WL.opX hΓ (h := ?_) | refine WL.opY (h := ?_) | refine WL.opZ (h := ?_)))
        with_reducible apply WL.nil
        repeat (first | with_reducible (first | apply W.seq | apply W.block | apply W.skip | apply W.exit | apply W.ret | apply At.seqN | apply At.blkN | apply At.blkE | apply At.blkR | apply At.thenX | apply At.thenR | apply At.blkX rfl) | ((with_reducible apply W.ops); (repeat (first | refine WL.opA hΓ (h := ?_) | refine WL.opX hΓ (h := ?_) | refine WL.opY (h := ?_) | refine WL.opZ (h := ?_))); with_reducible apply WL.nil) | refine W.condT (h := ?_) | refine W.condF (h := ?_))
        refine At.retCu (by rw [Tryd.results20]) hB (hls := ?_) (he := ?_) k5 (L.set i (kk, v)) (((hk20.trans hk3).trans hk4).trans hk5) ⟨by simp; omega, fun x hx => ?_⟩
        · rcases List.mem_or_eq_of_mem_set hx with h | h
          · exact HQ.out x h
          · rw [h]
            show kk.size ≤ maxLen
            unfold maxLen
            omega
        · rfl
        · rfl
    · repeat (first | with_reducible (first | apply W.seq | apply W.block | apply W.skip | apply W.exit | apply W.ret | apply At.seqN | apply At.blkN | apply At.blkE | apply At.blkR | apply At.thenX | apply At.thenR | apply At.blkX rfl) | ((with_reducible apply W.ops); (repeat (first | refine WL.opA hΓ (h := ?_) | refine WL.opX hΓ (h := ?_) | refine WL.opY (h := ?_) | refine WL.opZ (h := ?_))); with_reducible apply WL.nil) | refine W.condT (h := ?_) | refine W.condF (h := ?_))
      refine At.retCu (by rw [Tryd.results20]) hB (hls := ?_) (he := ?_) k L hk ⟨q1, HQ.out⟩
      · rfl
      · rfl
abbrev rDrBD (_ : List Nat) (y : List TItem × ByteArray) : Prop := rBk y.1 ∧ y.2.size ≤ 100
abbrev resDrBD (_ : List Nat) (y : List TItem × ByteArray) : Res := .tup [(false, [.own true 36 2 (rowsF cItem y.1)]), rSc (.string y.2)]
theorem DrawBookDo_s : SoundR Tryd.prog 5 CodeOk (fun bs => [aL cU8 bs]) rDrBD resDrBD := by
  refine SoundR.ofXA Tryd.func5 rfl Tryd.ntmps5 (by decide) ?_
  rintro bs v w hcode
  simp only [initX]
  have hΓ : GSound Tryd.prog (look []) := env_nil
  have hNw : Has Tryd.prog 19 := has_of Tryd.func19 rfl rfl
  have hSo : Has Tryd.prog 20 := has_of Tryd.func20 rfl rfl
  have hLn : Has Tryd.prog 21 := has_of Tryd.func21 rfl rfl
  have hcu := lsNms_cu
  have hck := kill_cu
  repeat (first | with_reducible (first | apply W.seq | apply W.block | apply W.skip | apply W.exit | apply W.ret | apply At.seqN | apply At.blkN | apply At.blkE | apply At.blkR | apply At.thenX | apply At.thenR | apply At.blkX rfl) | ((with_reducible apply W.ops); (repeat (first | refine WL.opA hΓ (h := ?_) | refine WL.opX hΓ (h := ?_) | refine WL.opY (h := ?_) | refine WL.opZ (h := ?_))); with_reducible apply WL.nil) | refine W.condT (h := ?_) | refine W.condF (h := ?_))
  with_reducible apply W.ops
  repeat (first | refine WL.opA hΓ (h := ?_) | refine WL.opX hΓ (h := ?_) | refine WL.opY (h := ?_) | refine WL.opZ (h := ?_))
  refine WL.opNew hNw l1New_s v bs hcode (h := ?_)
  intro k0 hk0
  (repeat (first | refine WL.opA hΓ (h := ?_) | refine WL.opX hΓ (h := ?_) | refine WL.opY (h := ?_) | refine WL.opZ (h := ?_)))
  with_reducible apply WL.nil
  repeat (first | with_reducible (first | apply W.seq | apply W.block | apply W.skip | apply W.exit | apply W.ret | apply At.seqN | apply At.blkN | apply At.blkE | apply At.blkR | apply At.thenX | apply At.thenR | apply At.blkX rfl) | ((with_reducible apply W.ops); (repeat (first | refine WL.opA hΓ (h := ?_) | refine WL.opX hΓ (h := ?_) | refine WL.opY (h := ?_) | refine WL.opZ (h := ?_))); with_reducible apply WL.nil) | refine W.condT (h := ?_) | refine W.condF (h := ?_))
  with_reducible apply W.ops
  repeat (first | refine WL.opA hΓ (h := ?_) | refine WL.opX hΓ (h := ?_) | refine WL.opY (h := ?_) | refine WL.opZ (h := ?_))
  refine WL.opCu hSo l36Some_s k0 hk0 () trivial (h := ?_)
  rintro k1 l hk1 hl
  (repeat (first | refine WL.opA hΓ (h := ?_) | refine WL.opX hΓ (h := ?_) | refine WL.opY (h := ?_) | refine WL.opZ (h := ?_)))
  with_reducible apply WL.nil
  repeat (first | with_reducible (first | apply W.seq | apply W.block | apply W.skip | apply W.exit | apply W.ret | apply At.seqN | apply At.blkN | apply At.blkE | apply At.blkR | apply At.thenX | apply At.thenR | apply At.blkX rfl) | ((with_reducible apply W.ops); (repeat (first | refine WL.opA hΓ (h := ?_) | refine WL.opX hΓ (h := ?_) | refine WL.opY (h := ?_) | refine WL.opZ (h := ?_))); with_reducible apply WL.nil) | refine W.condT (h := ?_) | refine W.condF (h := ?_))
  with_reducible apply W.ops
  repeat (first | refine WL.opA hΓ (h := ?_) | refine WL.opX hΓ (h := ?_) | refine WL.opY (h := ?_) | refine WL.opZ (h := ?_))
  refine WL.opCu hLn l36Line_s k1 hk1.ok () trivial (h := ?_)
  rintro k2 s hk2 hs
  (repeat (first | refine WL.opA hΓ (h := ?_) | refine WL.opX hΓ (h := ?_) | refine WL.opY (h := ?_) | refine WL.opZ (h := ?_)))
  with_reducible apply WL.nil
  repeat (first | with_reducible (first | apply W.seq | apply W.block | apply W.skip | apply W.exit | apply W.ret | apply At.seqN | apply At.blkN | apply At.blkE | apply At.blkR | apply At.thenX | apply At.thenR | apply At.blkX rfl) | ((with_reducible apply W.ops); (repeat (first | refine WL.opA hΓ (h := ?_) | refine WL.opX hΓ (h := ?_) | refine WL.opY (h := ?_) | refine WL.opZ (h := ?_))); with_reducible apply WL.nil) | refine W.condT (h := ?_) | refine W.condF (h := ?_))
  refine At.retRA (by rw [Tryd.results5]) (he := ?_) (l, s) ⟨hl, hs⟩
  rfl
abbrev rDrBP (_ : List Nat) (y : List ByteArray) : Prop := y.length ≤ 14 ∧ ∀ s ∈ y, okString s
abbrev resDrBP (_ : List Nat) (y : List ByteArray) : Res := rL 9 1 cStr y
theorem DrawBookPlay_s : SoundR Tryd.prog 16 CodeOk (fun bs => [aL cU8 bs]) rDrBP resDrBP := by
  refine SoundR.ofXA Tryd.func16 rfl Tryd.ntmps16 (by decide) ?_
  rintro bs v w hcode
  simp only [initX]
  have hΓ : GSound Tryd.prog (look []) := env_nil
  have hNw : Has Tryd.prog 19 := has_of Tryd.func19 rfl rfl
  have hBe : Has Tryd.prog 40 := has_of Tryd.func40 rfl rfl
  have hLn : Has Tryd.prog 21 := has_of Tryd.func21 rfl rfl
  have hcu := lsNms_cu
  have hck := kill_cu
  have hnil : rowsF cStr [] = [] := rfl
  repeat (first | with_reducible (first | apply W.seq | apply W.block | apply W.skip | apply W.exit | apply W.ret | apply At.seqN | apply At.blkN | apply At.blkE | apply At.blkR | apply At.thenX | apply At.thenR | apply At.blkX rfl) | ((with_reducible apply W.ops); (repeat (first | refine WL.opA hΓ (h := ?_) | refine WL.opX hΓ (h := ?_) | refine WL.opY (h := ?_) | refine WL.opZ (h := ?_))); with_reducible apply WL.nil) | refine W.condT (h := ?_) | refine W.condF (h := ?_))
  with_reducible apply W.ops
  repeat (first | refine WL.opA hΓ (h := ?_) | refine WL.opX hΓ (h := ?_) | refine WL.opY (h := ?_) | refine WL.opZ (h := ?_))
  refine WL.opNew hNw l1New_s v bs hcode (h := ?_)
  intro k0 hk0
  (repeat (first | refine WL.opA hΓ (h := ?_) | refine WL.opX hΓ (h := ?_) | refine WL.opY (h := ?_) | refine WL.opZ (h := ?_)))
  with_reducible apply WL.nil
  repeat (first | with_reducible (first | apply W.seq | apply W.block | apply W.skip | apply W.exit | apply W.ret | apply At.seqN | apply At.blkN | apply At.blkE | apply At.blkR | apply At.thenX | apply At.thenR | apply At.blkX rfl) | ((with_reducible apply W.ops); (repeat (first | refine WL.opA hΓ (h := ?_) | refine WL.opX hΓ (h := ?_) | refine WL.opY (h := ?_) | refine WL.opZ (h := ?_))); with_reducible apply WL.nil) | refine W.condT (h := ?_) | refine W.condF (h := ?_))
  with_reducible apply W.ops
  repeat (first | refine WL.opA hΓ (h := ?_) | refine WL.opX hΓ (h := ?_) | refine WL.opY (h := ?_) | refine WL.opZ (h := ?_))
  refine WL.opCu hBe l1Below_s k0 hk0 14 (by decide) (h := ?_)
  rintro k1 n0 hk1 ⟨hn0, hn1, -⟩
  replace hn1 : n0 < 14 := hn1 (by decide)
  (repeat (first | refine WL.opA hΓ (h := ?_) | refine WL.opX hΓ (h := ?_) | refine WL.opY (h := ?_) | refine WL.opZ (h := ?_)))
  with_reducible apply WL.nil
  repeat (first | with_reducible (first | apply W.seq | apply W.block | apply W.skip | apply W.exit | apply W.ret | apply At.seqN | apply At.blkN | apply At.blkE | apply At.blkR | apply At.thenX | apply At.thenR | apply At.blkX rfl) | ((with_reducible apply W.ops); (repeat (first | refine WL.opA hΓ (h := ?_) | refine WL.opX hΓ (h := ?_) | refine WL.opY (h := ?_) | refine WL.opZ (h := ?_))); with_reducible apply WL.nil) | refine W.condT (h := ?_) | refine W.condF (h := ?_))
  refine W.loopA (fun x : List ByteArray × Int × Cu => (CuOk x.2.2 ∧ 0 ≤ x.2.1 ∧ x.1.length + x.2.1 = n0) ∧ ∀ s ∈ x.1, okString s) (fun x => [.slot 3 (one (.ptr 7 0)), .blk 7 (.box (cuL x.2.2)), .slot 4 (one (.all 8)), .blk 8 (.arr true 9 1 (rowsF cStr x.1)), .slot 5 (vI x.2.1)]) (fun x => x.2.1.toNat) ([], n0, k1) ⟨⟨hk1.ok, hn0, by simp⟩, by simp⟩ (h := ?_)
  rintro ⟨l, n, k⟩ ⟨⟨hk, hn, hl⟩, hsz⟩
  dsimp only at hk hn hl hsz ⊢
  clear hnil
  have hlen : l.length ≤ 14 := by omega
  by_cases hp : 0 < n
  · repeat (first | with_reducible (first | apply W.seq | apply W.block | apply W.skip | apply W.exit | apply W.ret | apply At.seqN | apply At.blkN | apply At.blkE | apply At.blkR | apply At.thenX | apply At.thenR | apply At.blkX rfl) | ((with_reducible apply W.ops); (repeat (first | refine WL.opA hΓ (h := ?_) | refine WL.opX hΓ (h := ?_) | refine WL.opY (h := ?_) | refine WL.opZ (h := ?_))); with_reducible apply WL.nil) | refine W.condT (h := ?_) | refine W.condF (h := ?_))
    with_reducible apply W.ops
    repeat (first | refine WL.opA hΓ (h := ?_) | refine WL.opX hΓ (h := ?_) | refine WL.opY (h := ?_) | refine WL.opZ (h := ?_))
    refine WL.opCu hLn l36Line_s k hk () trivial (h := ?_)
    rintro k3 s hk3 hs
    replace hs : s.size ≤ 100 := hs
    have e := cStr_appT' l s
    have hsz' : ∀ x ∈ l ++ [s], okString x := fun x hx => by
      rcases List.mem_append.1 hx with h | h
      · exact hsz x h
      · rw [List.mem_singleton.1 h]
        show s.size ≤ maxLen
        unfold maxLen
        omega
    have HZ := Lib.hid hsz'
    clear hsz hsz'
    (repeat (first | refine WL.opA hΓ (h := ?_) | refine WL.opX hΓ (h := ?_) | refine WL.opY (h := ?_) | refine WL.opZ (h := ?_)))
    with_reducible apply WL.nil
    repeat (first | with_reducible (first | apply W.seq | apply W.block | apply W.skip | apply W.exit | apply W.ret | apply At.seqN | apply At.blkN | apply At.blkE | apply At.blkR | apply At.thenX | apply At.thenR | apply At.blkX rfl) | ((with_reducible apply W.ops); (repeat (first | refine WL.opA hΓ (h := ?_) | refine WL.opX hΓ (h := ?_) | refine WL.opY (h := ?_) | refine WL.opZ (h := ?_))); with_reducible apply WL.nil) | refine W.condT (h := ?_) | refine W.condF (h := ?_))
    exact At.roundA (l ++ [s], n - 1, k3) ⟨⟨hk3.ok, by dsimp only; omega, by simp; omega⟩, HZ.out⟩ (by dsimp only; omega)
  · have HZ := Lib.hid hsz
    clear hsz
    repeat (first | with_reducible (first | apply W.seq | apply W.block | apply W.skip | apply W.exit | apply W.ret | apply At.seqN | apply At.blkN | apply At.blkE | apply At.blkR | apply At.thenX | apply At.thenR | apply At.blkX rfl) | ((with_reducible apply W.ops); (repeat (first | refine WL.opA hΓ (h := ?_) | refine WL.opX hΓ (h := ?_) | refine WL.opY (h := ?_) | refine WL.opZ (h := ?_))); with_reducible apply WL.nil) | refine W.condT (h := ?_) | refine W.condF (h := ?_))
    refine At.retRA (by rw [Tryd.results16]) (he := ?_) l ⟨hlen, HZ.out⟩
    rfl
end Go.Proofs.YtimnogjgokljbaaDoor
