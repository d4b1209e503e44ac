/-
  The law FnGossip.
-/
import Derived.Test.YtlogbmdfjnldlaaEvGosJ
import Derived.Test.YtlogbmdfjnldlaaEvGosD
import Derived.Test.YtlogbmdfjnldlaaEvFresh
import Derived.Test.YtlogbmdfjnldlaaEvFrz
namespace Go.Proofs.Ytlogbmdfjnldlaa
set_option maxRecDepth 100000
set_option linter.unusedVariables false
set_option linter.unusedSimpArgs false
open Go Go.RowKit
set_option maxHeartbeats 8000000
set_option linter.unusedVariables false

theorem mHeaI_yes (a b : List TAddr) (now : Int) (h : okHea (a, b, now)) (hk : okHear a b now) : mHeaI [aLA a, aLA b, aI now] = some (rL 69 2 cAddr (hearL a b now)) := by
  have := mdl_eq (ok := okHea) (g := rHeaI) encHea_inj (a, b, now) h
  simp only [rHeaI, if_pos hk] at this
  exact this
theorem mHeaI_no (a b : List TAddr) (now : Int) (h : okHea (a, b, now)) (hk : ¬ okHear a b now) : mHeaI [aLA a, aLA b, aI now] = some rN := by
  have := mdl_eq (ok := okHea) (g := rHeaI) encHea_inj (a, b, now) h
  simp only [rHeaI, if_neg hk] at this
  exact this
theorem mTelI_yes (l : List TAddr) (now age most : Int) (h : okTel (l, now, age, most)) (hk : okForget l now age ∧ 0 ≤ most) : mTelI [aLA l, aI now, aI age, aI most] = some (rL 69 2 cAddr (tellL l now age most)) := by
  have := mdl_eq (ok := okTel) (g := rTelI) encTel_inj (l, now, age, most) h
  simp only [rTelI, if_pos hk] at this
  exact this
theorem mTelI_no (l : List TAddr) (now age most : Int) (h : okTel (l, now, age, most)) (hk : ¬ (okForget l now age ∧ 0 ≤ most)) : mTelI [aLA l, aI now, aI age, aI most] = some rN := by
  have := mdl_eq (ok := okTel) (g := rTelI) encTel_inj (l, now, age, most) h
  simp only [rTelI, if_neg hk] at this
  exact this
theorem tell_no {l : List TAddr} {now age most : Int} (hk : ¬ (okForget l now age ∧ 0 ≤ most)) : tellL l now age most = [] := by
  unfold tellL
  by_cases h : okForget l now age
  · have : most.toNat = 0 := by
      have : ¬ 0 ≤ most := fun h2 => hk ⟨h, h2⟩
      omega
    rw [this, List.take_zero]
  · have : forgetL l now age = [] := if_neg h
    rw [this]
    exact List.take_nil
theorem lawGossip_s : Sound Try.prog 6 (mdl (fun bs : List Nat => bs.length ≤ 9223372036854775807 ∧ ∀ n ∈ bs, n < 256) (fun bs => [aL cU8 bs]) fun _ => rB true) := by
  refine Sound.mdl Try.func6 rfl Try.ntmps6 ?_
  rintro bs w ⟨hlen, hbs⟩
  refine ⟨by simp, ?_⟩
  have hΓ : GSound Try.prog (look [(9, mBig), (46, mHeaI), (47, mHeaS), (48, mAddrs), (50, mTelI), (51, mTelS), (52, mForI)]) := env_cons (has_of Try.func9 rfl rfl) big_s (env_cons (has_of Try.func46 rfl rfl) hearI_s (env_cons (has_of Try.func47 rfl rfl) hearS_s (env_cons (has_of Try.func48 rfl rfl) addrsS_s (env_cons (has_of Try.func50 rfl rfl) tellI_s (env_cons (has_of Try.func51 rfl rfl) tellS_s (env_cons (has_of Try.func52 rfl rfl) forgetI_s env_nil))))))
  have hDH : Has Try.prog 45 := has_of Try.func45 rfl rfl
  have hDT : Has Try.prog 49 := has_of Try.func49 rfl rfl
  have c0 := mBig_eq bs hlen
  simp only [initS, argPV, List.map_cons, List.map_nil, toPL, Nat.zero_add]
  by_cases hb : 1048576 < bs.length
  · repeat (first | with_reducible apply W.seq | with_reducible apply W.block | with_reducible apply W.skip | with_reducible apply W.exit | with_reducible apply W.ret | with_reducible apply At.seqN | with_reducible apply At.blkN | with_reducible apply At.blkE | with_reducible apply At.blkR | with_reducible apply At.thenX | with_reducible apply At.thenR | with_reducible apply At.blkX rfl | ((with_reducible apply W.ops); (repeat (first | refine WL.opA hΓ (h := ?_) | refine WL.opX hΓ (h := ?_) | refine WL.opY (h := ?_) | refine WL.opZ (h := ?_))); with_reducible apply WL.nil) | refine W.condT (h := ?_) | refine W.condF (h := ?_))
    refine At.retA (by rw [Try.results6]) (he := rfl)
  · have hcode := CodeOk.le (bs := bs) (by omega) hbs
    clear hbs
    repeat (first | with_reducible apply W.seq | with_reducible apply W.block | with_reducible apply W.skip | with_reducible apply W.exit | with_reducible apply W.ret | with_reducible apply At.seqN | with_reducible apply At.blkN | with_reducible apply At.blkE | with_reducible apply At.blkR | with_reducible apply At.thenX | with_reducible apply At.thenR | with_reducible apply At.blkX rfl | ((with_reducible apply W.ops); (repeat (first | refine WL.opA hΓ (h := ?_) | refine WL.opX hΓ (h := ?_) | refine WL.opY (h := ?_) | refine WL.opZ (h := ?_))); with_reducible apply WL.nil) | refine W.condT (h := ?_) | refine W.condF (h := ?_))
    with_reducible apply W.ops
    repeat (first | refine WL.opA hΓ (h := ?_) | refine WL.opX hΓ (h := ?_) | refine WL.opY (h := ?_) | refine WL.opZ (h := ?_))
    refine WL.opRA hDH DrawHear_s bs hcode (h := ?_)
    rintro ⟨a, b, now⟩ ⟨ha, hb9, hnow⟩
    dsimp only at ha hb9 hnow ⊢
    (repeat (first | refine WL.opA hΓ (h := ?_) | refine WL.opX hΓ (h := ?_) | refine WL.opY (h := ?_) | refine WL.opZ (h := ?_)))
    with_reducible apply WL.nil
    clear c0
    have hLok := hearL_ok a b now
    have hLnow : ∀ x ∈ hearL a b now, x.2 ≤ now := fun x hx => hearL_now hx
    have hLl := hearL_len a b now
    have hL0 : hearL a b now ≠ [] → 0 ≤ now ∧ now ≤ 1000000 := fun h => by
      obtain ⟨x, hx⟩ := List.exists_mem_of_ne_nil _ h
      exact (hearL_mem hx).1.2.2
    have hres : okHear a b now ∨ (¬ okHear a b now ∧ hearL a b now = []) := by
      by_cases h : okHear a b now
      · exact .inl h
      · exact .inr ⟨h, if_neg h⟩
    have hsw := hearL_swap a b now
    have d1 : okHear a b now → mHeaI [aLA a, aLA b, aI now] = some (rL 69 2 cAddr (hearL a b now)) := mHeaI_yes a b now ⟨by dsimp only; omega, by dsimp only; omega, hnow⟩
    have d2 : okHear a b now → mHeaI [aLA b, aLA a, aI now] = some (rL 69 2 cAddr (hearL a b now)) := fun h => by rw [hsw]; exact mHeaI_yes b a now ⟨by dsimp only; omega, by dsimp only; omega, hnow⟩ ⟨h.2.1, h.1, h.2.2⟩
    have d3 : ¬ okHear a b now → mHeaI [aLA a, aLA b, aI now] = some rN := mHeaI_no a b now ⟨by dsimp only; omega, by dsimp only; omega, hnow⟩
    have d4 : ¬ okHear a b now → mHeaI [aLA b, aLA a, aI now] = some rN := fun h => mHeaI_no b a now ⟨by dsimp only; omega, by dsimp only; omega, hnow⟩ fun g => h ⟨g.2.1, g.1, g.2.2⟩
    clear hsw
    generalize hLL : hearL a b now = L at *
    refine (fun (key : W Try.prog none0 w 164 [.slot 0 (vL cU8 bs), .slot 3 (vL cAddr a), .slot 4 (vL cAddr b), .slot 5 (vI now), .slot 6 (one (.sl (rowsF cAddr L))), .slot 7 (one (.sl (rowsF cAddr L)))] ?codeK1 ?postK1) => ?main1) ?part1
    case main1 =>
      rcases hres with h | ⟨h, hLe⟩
      · have c1 := d1 h
        have c2 := d2 h
        repeat (first | with_reducible apply W.seq | with_reducible apply W.block | with_reducible apply W.skip | with_reducible apply W.exit | with_reducible apply W.ret | with_reducible apply At.seqN | with_reducible apply At.blkN | with_reducible apply At.blkE | with_reducible apply At.blkR | with_reducible apply At.thenX | with_reducible apply At.thenR | with_reducible apply At.blkX rfl | ((with_reducible apply W.ops); (repeat (first | refine WL.opA hΓ (h := ?_) | refine WL.opX hΓ (h := ?_) | refine WL.opY (h := ?_) | refine WL.opZ (h := ?_))); with_reducible apply WL.nil) | refine W.condT (h := ?_) | refine W.condF (h := ?_))
        refine W.frzA 6 28 (h := ?_)
        refine W.frzA 7 32 (h := ?_)
        refine W.frzA 3 21 (h := ?_)
        refine W.frzA 4 64021 (h := ?_)
        refine W.subA [.slot 0 (vL cU8 bs), .slot 3 (vL cAddr a), .slot 4 (vL cAddr b), .slot 5 (vI now), .slot 6 (one (.sl (rowsF cAddr L))), .slot 7 (one (.sl (rowsF cAddr L)))] (h := ?_)
        exact key
      · have c1 := d3 h
        have c2 := d4 h
        have hnil : rowsF cAddr L = [] := by rw [hLe]; rfl
        clear hLe
        repeat (first | with_reducible apply W.seq | with_reducible apply W.block | with_reducible apply W.skip | with_reducible apply W.exit | with_reducible apply W.ret | with_reducible apply At.seqN | with_reducible apply At.blkN | with_reducible apply At.blkE | with_reducible apply At.blkR | with_reducible apply At.thenX | with_reducible apply At.thenR | with_reducible apply At.blkX rfl | ((with_reducible apply W.ops); (repeat (first | refine WL.opA hΓ (h := ?_) | refine WL.opX hΓ (h := ?_) | refine WL.opY (h := ?_) | refine WL.opZ (h := ?_))); with_reducible apply WL.nil) | refine W.condT (h := ?_) | refine W.condF (h := ?_))
        refine W.frzA 3 21 (h := ?_)
        refine W.frzA 4 64021 (h := ?_)
        refine W.subA [.slot 0 (vL cU8 bs), .slot 3 (vL cAddr a), .slot 4 (vL cAddr b), .slot 5 (vI now), .slot 6 (one (.sl (rowsF cAddr L))), .slot 7 (one (.sl (rowsF cAddr L)))] (h := ?_)
        exact key
    clear d1 d2 d3 d4 hres
    have c3 := mHeaS_eq a b now ⟨by dsimp only; omega, by dsimp only; omega, hnow⟩
    rw [hLL] at c3
    clear hLL
    have c4 := mAddrs_eq L (by omega)
    rw [decide_eq_true hLok] at c4
    repeat (first | with_reducible apply W.seq | with_reducible apply W.block | with_reducible apply W.skip | with_reducible apply W.exit | with_reducible apply W.ret | with_reducible apply At.seqN | with_reducible apply At.blkN | with_reducible apply At.blkE | with_reducible apply At.blkR | with_reducible apply At.thenX | with_reducible apply At.thenR | with_reducible apply At.blkX rfl | ((with_reducible apply W.ops); (repeat (first | refine WL.opA hΓ (h := ?_) | refine WL.opX hΓ (h := ?_) | refine WL.opY (h := ?_) | refine WL.opZ (h := ?_))); with_reducible apply WL.nil) | refine W.condT (h := ?_) | refine W.condF (h := ?_))
    clear c3 c4
    refine W.loopA (fun i : Nat => i ≤ L.length) (fun i : Nat => [.slot 8 (vI i), .slot 0 (vL cU8 bs), .slot 5 (vI now), .slot 6 (vL cAddr L), .slot 7 (vL cAddr L)]) (fun i => L.length - i) 0 (Nat.zero_le _) (h := ?_)
    intro i hi
    by_cases hlt : i < L.length
    · have hrow := addr_row hlt
      have hn := hLnow _ (List.getElem_mem hlt)
      generalize L[i] = x at hrow hn
      have hng : ¬ x.2 > now := by omega
      repeat (first | with_reducible apply W.seq | with_reducible apply W.block | with_reducible apply W.skip | with_reducible apply W.exit | with_reducible apply W.ret | with_reducible apply At.seqN | with_reducible apply At.blkN | with_reducible apply At.blkE | with_reducible apply At.blkR | with_reducible apply At.thenX | with_reducible apply At.thenR | with_reducible apply At.blkX rfl | ((with_reducible apply W.ops); (repeat (first | refine WL.opA hΓ (h := ?_) | refine WL.opX hΓ (h := ?_) | refine WL.opY (h := ?_) | refine WL.opZ (h := ?_))); with_reducible apply WL.nil) | refine W.condT (h := ?_) | refine W.condF (h := ?_))
      refine W.drawsA hΓ 18 [[], [], [0, 1], [0, 1, 2], [], [], [4, 5], [4, 5, 6], [0, 1, 2, 3, 4, 5, 6, 7], [0, 1, 2, 3, 4, 5, 6, 7, 8], [0, 1, 2, 3, 4, 5, 6, 7, 8, 9], [0, 1, 2, 3, 4, 5, 6, 7, 8, 9], [0, 1, 2, 3, 4, 5, 6, 7, 8, 9, 10, 11], [0, 1, 2, 3, 4, 5, 6, 7, 8, 9, 10, 11, 12], [0, 1, 2, 3, 4, 5, 6, 7, 8, 9, 10, 11, 12, 13], [0, 1, 2, 3, 4, 5, 6, 7, 8, 9], [0, 1, 2, 3, 4, 5, 6, 7, 8, 9, 10, 11, 12, 13, 14, 15], [0, 1, 2, 3, 4, 5, 6, 7, 8, 9, 10, 11, 12, 13, 14, 15, 16]] (rest := ?rest12) (Es := ?Es12) (st1 := ?st112) (h := ?h12) (hf := ?hf12) (hp := ?hp12) (hd := ?hd12) (hfr := ?hfr12) (hst := ?hst12) (hT := ?hT12)
      case h12 => kernel_rfl
      case hf12 =>
        repeat (first | refine FlowT.opA (h := ?_) | refine FlowT.opX (h := ?_) | refine FlowT.opY (h := ?_) | refine FlowT.opZ (h := ?_))
        exact FlowT.done
      case hp12 => rfl
      case hd12 => rfl
      case hfr12 => rfl
      case hst12 =>
        simp only [pick_nil, pick_all, List.cons_append, List.nil_append]
        rfl
      (repeat (first | refine WL.opA hΓ (h := ?_) | refine WL.opX hΓ (h := ?_) | refine WL.opY (h := ?_) | refine WL.opZ (h := ?_)))
      with_reducible apply WL.nil
      repeat (first | with_reducible apply W.seq | with_reducible apply W.block | with_reducible apply W.skip | with_reducible apply W.exit | with_reducible apply W.ret | with_reducible apply At.seqN | with_reducible apply At.blkN | with_reducible apply At.blkE | with_reducible apply At.blkR | with_reducible apply At.thenX | with_reducible apply At.thenR | with_reducible apply At.blkX rfl | ((with_reducible apply W.ops); (repeat (first | refine WL.opA hΓ (h := ?_) | refine WL.opX hΓ (h := ?_) | refine WL.opY (h := ?_) | refine WL.opZ (h := ?_))); with_reducible apply WL.nil) | refine W.condT (h := ?_) | refine W.condF (h := ?_))
      exact At.roundA (i + 1) (by omega) (by omega)
    · clear hi
      have hag := hear_again L now hLok hLnow hL0
      have hres : okHear L L now ∨ (¬ okHear L L now ∧ hearL L L now = []) := by
        by_cases h : okHear L L now
        · exact .inl h
        · exact .inr ⟨h, if_neg h⟩
      have d1 : okHear L L now → mHeaI [aLA L, aLA L, aI now] = some (rL 69 2 cAddr (hearL L L now)) := mHeaI_yes L L now ⟨by dsimp only; omega, by dsimp only; omega, hnow⟩
      have d3 : ¬ okHear L L now → mHeaI [aLA L, aLA L, aI now] = some rN := mHeaI_no L L now ⟨by dsimp only; omega, by dsimp only; omega, hnow⟩
      generalize hearL L L now = G at *
      refine (fun (key : W Try.prog none0 w 164 [.slot 0 (vL cU8 bs), .slot 6 (one (.sl (rowsF cAddr L))), .slot 9 (one (.sl (rowsF cAddr G)))] ?codeK2 ?postK2) => ?main2) ?part2
      case main2 =>
        rcases hres with h | ⟨h, hLe⟩
        · have c1 := d1 h
          repeat (first | with_reducible apply W.seq | with_reducible apply W.block | with_reducible apply W.skip | with_reducible apply W.exit | with_reducible apply W.ret | with_reducible apply At.seqN | with_reducible apply At.blkN | with_reducible apply At.blkE | with_reducible apply At.blkR | with_reducible apply At.thenX | with_reducible apply At.thenR | with_reducible apply At.blkX rfl | ((with_reducible apply W.ops); (repeat (first | refine WL.opA hΓ (h := ?_) | refine WL.opX hΓ (h := ?_) | refine WL.opY (h := ?_) | refine WL.opZ (h := ?_))); with_reducible apply WL.nil) | refine W.condT (h := ?_) | refine W.condF (h := ?_))
          refine W.frzA 9 80 (h := ?_)
          refine W.subA [.slot 0 (vL cU8 bs), .slot 6 (one (.sl (rowsF cAddr L))), .slot 9 (one (.sl (rowsF cAddr G)))] (h := ?_)
          exact key
        · have c1 := d3 h
          have hnil : rowsF cAddr G = [] := by rw [hLe]; rfl
          clear hLe
          repeat (first | with_reducible apply W.seq | with_reducible apply W.block | with_reducible apply W.skip | with_reducible apply W.exit | with_reducible apply W.ret | with_reducible apply At.seqN | with_reducible apply At.blkN | with_reducible apply At.blkE | with_reducible apply At.blkR | with_reducible apply At.thenX | with_reducible apply At.thenR | with_reducible apply At.blkX rfl | ((with_reducible apply W.ops); (repeat (first | refine WL.opA hΓ (h := ?_) | refine WL.opX hΓ (h := ?_) | refine WL.opY (h := ?_) | refine WL.opZ (h := ?_))); with_reducible apply WL.nil) | refine W.condT (h := ?_) | refine W.condF (h := ?_))
          refine W.subA [.slot 0 (vL cU8 bs), .slot 6 (one (.sl (rowsF cAddr L))), .slot 9 (one (.sl (rowsF cAddr G)))] (h := ?_)
          exact key
      clear d1 d3 hres hLok hLnow hL0 hlt
      repeat (first | with_reducible apply W.seq | with_reducible apply W.block | with_reducible apply W.skip | with_reducible apply W.exit | with_reducible apply W.ret | with_reducible apply At.seqN | with_reducible apply At.blkN | with_reducible apply At.blkE | with_reducible apply At.blkR | with_reducible apply At.thenX | with_reducible apply At.thenR | with_reducible apply At.blkX rfl | ((with_reducible apply W.ops); (repeat (first | refine WL.opA hΓ (h := ?_) | refine WL.opX hΓ (h := ?_) | refine WL.opY (h := ?_) | refine WL.opZ (h := ?_))); with_reducible apply WL.nil) | refine W.condT (h := ?_) | refine W.condF (h := ?_))
      with_reducible apply W.ops
      repeat (first | refine WL.opA hΓ (h := ?_) | refine WL.opX hΓ (h := ?_) | refine WL.opY (h := ?_) | refine WL.opZ (h := ?_))
      refine WL.opRA hDT DrawTell_s bs hcode (h := ?_)
      rintro ⟨c, t, age, most⟩ ⟨hc, ⟨ht0, ht1⟩, hage, hmost⟩
      dsimp only at hc ht0 ht1 hage hmost ⊢
      (repeat (first | refine WL.opA hΓ (h := ?_) | refine WL.opX hΓ (h := ?_) | refine WL.opY (h := ?_) | refine WL.opZ (h := ?_)))
      with_reducible apply WL.nil
      have htn : inI64 t := by unfold inI64; omega
      have d1 := mTelI_yes c t age most ⟨by dsimp only; omega, htn, hage, hmost⟩
      have d2 := mTelI_no c t age most ⟨by dsimp only; omega, htn, hage, hmost⟩
      have hno := tell_no (l := c) (now := t) (age := age) (most := most)
      have hXl := tellL_len c t age most
      have hFl := forgetL_len c t age
      have hage2 := fun x (hx : x ∈ tellL c t age most) => tell_age hx
      have hlate := fun i (hi : i + 1 < (tellL c t age most).length) => tell_late hi
      have hF0 : ¬ okForget c t age → forgetL c t age = [] := fun h => if_neg h
      have hall : ∃ X, tellL c t age most = X ∧ (okForget c t age ∧ 0 ≤ most → mTelI [aLA c, aI t, aI age, aI most] = some (rL 69 2 cAddr X)) ∧ (¬ (okForget c t age ∧ 0 ≤ most) → X = []) ∧ X.length ≤ (forgetL c t age).length ∧ (∀ x ∈ X, t - x.2 ≤ age ∧ okForget c t age ∧ x ∈ c) ∧ ∀ i (hi : i + 1 < X.length), X[i + 1].2 ≤ X[i].2 := ⟨_, rfl, d1, hno, hXl, hage2, hlate⟩
      clear d1 hno hXl hage2 hlate
      obtain ⟨X, hXX, d1, hno, hXl, hage2, hlate⟩ := hall
      refine (fun (key : W Try.prog none0 w 164 [.slot 6 (one (.sl (rowsF cAddr L))), .slot 9 (one (.sl (rowsF cAddr G))), .slot 10 (vL cAddr c), .slot 11 (vI t), .slot 12 (vI age), .slot 13 (vI most), .slot 14 (one (.sl (rowsF cAddr X)))] ?codeK3 ?postK3) => ?main3) ?part3
      case main3 =>
        by_cases h : okForget c t age ∧ 0 ≤ most
        · have c1 := d1 h
          repeat (first | with_reducible apply W.seq | with_reducible apply W.block | with_reducible apply W.skip | with_reducible apply W.exit | with_reducible apply W.ret | with_reducible apply At.seqN | with_reducible apply At.blkN | with_reducible apply At.blkE | with_reducible apply At.blkR | with_reducible apply At.thenX | with_reducible apply At.thenR | with_reducible apply At.blkX rfl | ((with_reducible apply W.ops); (repeat (first | refine WL.opA hΓ (h := ?_) | refine WL.opX hΓ (h := ?_) | refine WL.opY (h := ?_) | refine WL.opZ (h := ?_))); with_reducible apply WL.nil) | refine W.condT (h := ?_) | refine W.condF (h := ?_))
          refine W.frzA 14 92 (h := ?_)
          refine W.frzA 10 83 (h := ?_)
          refine W.subA [.slot 6 (one (.sl (rowsF cAddr L))), .slot 9 (one (.sl (rowsF cAddr G))), .slot 10 (vL cAddr c), .slot 11 (vI t), .slot 12 (vI age), .slot 13 (vI most), .slot 14 (one (.sl (rowsF cAddr X)))] (h := ?_)
          exact key
        · have c1 := d2 h
          have hnil : rowsF cAddr X = [] := by rw [hno h]; rfl
          repeat (first | with_reducible apply W.seq | with_reducible apply W.block | with_reducible apply W.skip | with_reducible apply W.exit | with_reducible apply W.ret | with_reducible apply At.seqN | with_reducible apply At.blkN | with_reducible apply At.blkE | with_reducible apply At.blkR | with_reducible apply At.thenX | with_reducible apply At.thenR | with_reducible apply At.blkX rfl | ((with_reducible apply W.ops); (repeat (first | refine WL.opA hΓ (h := ?_) | refine WL.opX hΓ (h := ?_) | refine WL.opY (h := ?_) | refine WL.opZ (h := ?_))); with_reducible apply WL.nil) | refine W.condT (h := ?_) | refine W.condF (h := ?_))
          refine W.frzA 10 83 (h := ?_)
          refine W.subA [.slot 6 (one (.sl (rowsF cAddr L))), .slot 9 (one (.sl (rowsF cAddr G))), .slot 10 (vL cAddr c), .slot 11 (vI t), .slot 12 (vI age), .slot 13 (vI most), .slot 14 (one (.sl (rowsF cAddr X)))] (h := ?_)
          exact key
      clear d1 d2 hno
      have c5 := mTelS_eq c t age most ⟨by dsimp only; omega, htn, hage, hmost⟩
      rw [hXX] at c5
      have f1 := mForI_yes c t age ⟨by dsimp only; omega, htn, hage⟩
      have f2 := mForI_no c t age ⟨by dsimp only; omega, htn, hage⟩
      generalize forgetL c t age = F at *
      clear hXX
      refine (fun (key : W Try.prog none0 w 164 [.slot 16 (vI (0 : Nat)), .slot 11 (vI t), .slot 12 (vI age), .slot 14 (one (.sl (rowsF cAddr X))), .slot 15 (one (.all 97)), .blk 97 (.arr true 69 2 (rowsF cAddr X))] ?codeK4 ?postK4) => ?main4) ?part4
      case main4 =>
        by_cases h : okForget c t age
        · have c1 := f1 h
          have hgt : ¬ ((X.length : Nat) : Int) > ((F.length : Nat) : Int) := by omega
          repeat (first | with_reducible apply W.seq | with_reducible apply W.block | with_reducible apply W.skip | with_reducible apply W.exit | with_reducible apply W.ret | with_reducible apply At.seqN | with_reducible apply At.blkN | with_reducible apply At.blkE | with_reducible apply At.blkR | with_reducible apply At.thenX | with_reducible apply At.thenR | with_reducible apply At.blkX rfl | ((with_reducible apply W.ops); (repeat (first | refine WL.opA hΓ (h := ?_) | refine WL.opX hΓ (h := ?_) | refine WL.opY (h := ?_) | refine WL.opZ (h := ?_))); with_reducible apply WL.nil) | refine W.condT (h := ?_) | refine W.condF (h := ?_))
          refine W.subA [.slot 16 (vI (0 : Nat)), .slot 11 (vI t), .slot 12 (vI age), .slot 14 (one (.sl (rowsF cAddr X))), .slot 15 (one (.all 97)), .blk 97 (.arr true 69 2 (rowsF cAddr X))] (h := ?_)
          exact key
        · have c1 := f2 h
          have hF := hF0 h
          have hX0 : X.length = 0 := by rw [hF] at hXl; exact Nat.eq_zero_of_le_zero hXl
          clear hF
          repeat (first | with_reducible apply W.seq | with_reducible apply W.block | with_reducible apply W.skip | with_reducible apply W.exit | with_reducible apply W.ret | with_reducible apply At.seqN | with_reducible apply At.blkN | with_reducible apply At.blkE | with_reducible apply At.blkR | with_reducible apply At.thenX | with_reducible apply At.thenR | with_reducible apply At.blkX rfl | ((with_reducible apply W.ops); (repeat (first | refine WL.opA hΓ (h := ?_) | refine WL.opX hΓ (h := ?_) | refine WL.opY (h := ?_) | refine WL.opZ (h := ?_))); with_reducible apply WL.nil) | refine W.condT (h := ?_) | refine W.condF (h := ?_))
          refine W.subA [.slot 16 (vI (0 : Nat)), .slot 11 (vI t), .slot 12 (vI age), .slot 14 (one (.sl (rowsF cAddr X))), .slot 15 (one (.all 97)), .blk 97 (.arr true 69 2 (rowsF cAddr X))] (h := ?_)
          exact key
      clear f1 f2 c5 hF0
      refine W.loopA (fun i : Nat => i ≤ X.length) (fun i : Nat => [.slot 16 (vI i), .slot 11 (vI t), .slot 12 (vI age), .slot 14 (vL cAddr X), .slot 15 (one (.all 97)), .blk 97 (.arr true 69 2 (rowsF cAddr X))]) (fun i => X.length - i) 0 (Nat.zero_le _) (h := ?_)
      intro i hi
      by_cases hlt : i < X.length
      · have hrow := addr_row hlt
        obtain ⟨g1, g2, g3⟩ := hage2 _ (List.getElem_mem hlt)
        have g4 := addrs_in g2.1 g3
        have hpr : 0 < i → (rowsF cAddr X)[i - 1]? = some [.sc (.int .i64 (X.getD (i - 1) (0, 0)).1), .sc (.int .i64 (X.getD (i - 1) (0, 0)).2)] ∧ ¬ (X.getD (i - 1) (0, 0)).2 < X[i].2 := fun h => by
          have h1 : i - 1 < X.length := by omega
          have e : X.getD (i - 1) (0, 0) = X[i - 1] := by rw [List.getD_eq_getElem?_getD, List.getElem?_eq_getElem h1]; rfl
          rw [e]
          refine ⟨addr_row h1, ?_⟩
          have := hlate (i - 1) (by omega)
          have e2 : i - 1 + 1 = i := by omega
          simp only [e2] at this
          omega
        generalize X.getD (i - 1) (0, 0) = y at hpr
        clear hage2 hlate g2 g3
        generalize X[i] = x at *
        have hng : ¬ t - x.2 > age := by omega
        have hii : ((i : Int) - 1).toNat = i - 1 := by omega
        by_cases h0 : 0 < i
        · obtain ⟨hp1, hp2⟩ := hpr h0
          clear hpr
          repeat (first | with_reducible apply W.seq | with_reducible apply W.block | with_reducible apply W.skip | with_reducible apply W.exit | with_reducible apply W.ret | with_reducible apply At.seqN | with_reducible apply At.blkN | with_reducible apply At.blkE | with_reducible apply At.blkR | with_reducible apply At.thenX | with_reducible apply At.thenR | with_reducible apply At.blkX rfl | ((with_reducible apply W.ops); (repeat (first | refine WL.opA hΓ (h := ?_) | refine WL.opX hΓ (h := ?_) | refine WL.opY (h := ?_) | refine WL.opZ (h := ?_))); with_reducible apply WL.nil) | refine W.condT (h := ?_) | refine W.condF (h := ?_))
          refine W.drawsA hΓ 38 [[], [], [0, 1], [0, 1, 2], [], [], [4, 5], [4, 5, 6], [0, 1, 2, 3, 4, 5, 6, 7], [0, 1, 2, 3, 4, 5, 6, 7, 8], [0, 1, 2, 3, 4, 5, 6, 7, 8, 9], [0, 1, 2, 3, 4, 5, 6, 7, 8, 9], [0, 1, 2, 3, 4, 5, 6, 7, 8, 9], [0, 1, 2, 3, 4, 5, 6, 7, 8, 9, 11, 12], [0, 1, 2, 3, 4, 5, 6, 7, 8, 9, 11, 12, 13], [0, 1, 2, 3, 4, 5, 6, 7, 8, 9, 11, 12, 13, 14], [0, 1, 2, 3, 4, 5, 6, 7, 8, 9, 10, 11, 12, 13, 14, 15], [0, 1, 2, 3, 4, 5, 6, 7, 8, 9], [0, 1, 2, 3, 4, 5, 6, 7, 8, 9, 10, 11, 12, 13, 14, 15, 16, 17], [0, 1, 2, 3, 4, 5, 6, 7, 8, 9, 10, 11, 12, 13, 14, 15, 16, 17, 18], [0, 1, 2, 3, 4, 5, 6, 7, 8, 9, 10, 11, 12, 13, 14, 15, 16, 17, 18, 19], [0, 1, 2, 3, 4, 5, 6, 7, 8, 9, 10, 11, 12, 13, 14, 15, 16, 17, 18, 19, 20], [0, 1, 2, 3, 4, 5, 6, 7, 8, 9, 10, 11, 12, 13, 14, 15, 16, 17, 18, 19, 20, 21], [0, 1, 2, 3, 4, 5, 6, 7, 8, 9, 10, 11, 12, 13, 14, 15, 16, 17, 18, 19, 20, 21, 22], [0, 1, 2, 3, 4, 5, 6, 7, 8, 9, 10, 11, 12, 13, 14, 15, 16, 17, 18, 19, 20, 21, 22, 23], [0, 1, 2, 3, 4, 5, 6, 7, 8, 9, 10, 11, 12, 13, 14, 15, 16, 17, 18, 19, 20, 21, 22, 23], [0, 1, 2, 3, 4, 5, 6, 7, 8, 9, 10, 11, 12, 13, 14, 15, 16, 17, 18, 19, 20, 21, 22, 23, 25], [0, 1, 2, 3, 4, 5, 6, 7, 8, 9, 10, 11, 12, 13, 14, 15, 16, 17, 18, 19, 20, 21, 22, 23, 24, 25, 26], [0, 1, 2, 3, 4, 5, 6, 7, 8, 9, 10, 11, 12, 13, 14, 15, 16, 17, 18, 19, 20, 21, 22, 23, 24, 25, 26, 27], [0, 1, 2, 3, 4, 5, 6, 7, 8, 9, 10, 11, 12, 13, 14, 15, 16, 17, 18, 19, 20, 21, 22, 23, 24, 25, 26, 27, 28], [0, 1, 2, 3, 4, 5, 6, 7, 8, 9, 10, 11, 12, 13, 14, 15, 16, 17, 18, 19, 20, 21, 22, 23], [0, 1, 2, 3, 4, 5, 6, 7, 8, 9, 10, 11, 12, 13, 14, 15, 16, 17, 18, 19, 20, 21, 22, 23], [0, 1, 2, 3, 4, 5, 6, 7, 8, 9, 10, 11, 12, 13, 14, 15, 16, 17, 18, 19, 20, 21, 22, 23, 30, 31], [0, 1, 2, 3, 4, 5, 6, 7, 8, 9, 10, 11, 12, 13, 14, 15, 16, 17, 18, 19, 20, 21, 22, 23, 30, 31, 32], [0, 1, 2, 3, 4, 5, 6, 7, 8, 9, 10, 11, 12, 13, 14, 15, 16, 17, 18, 19, 20, 21, 22, 23, 30, 31, 32, 33], [0, 1, 2, 3, 4, 5, 6, 7, 8, 9, 10, 11, 12, 13, 14, 15, 16, 17, 18, 19, 20, 21, 22, 23, 24, 25, 26, 27, 28, 29, 30, 31, 32, 33, 34], [0, 1, 2, 3, 4, 5, 6, 7, 8, 9, 10, 11, 12, 13, 14, 15, 16, 17, 18, 19, 20, 21, 22, 23, 24, 25, 26, 27, 28, 29, 30, 31, 32, 33, 34, 35], [0, 1, 2, 3, 4, 5, 6, 7, 8, 9, 10, 11, 12, 13, 14, 15, 16, 17, 18, 19, 20, 21, 22, 23, 24, 25, 26, 27, 28, 29, 30, 31, 32, 33, 34, 35, 36]] (rest := ?rest24) (Es := ?Es24) (st1 := ?st124) (h := ?h24) (hf := ?hf24) (hp := ?hp24) (hd := ?hd24) (hfr := ?hfr24) (hst := ?hst24) (hT := ?hT24)
          case h24 => kernel_rfl
          case hf24 =>
            repeat (first | refine FlowT.opA (h := ?_) | refine FlowT.opX (h := ?_) | refine FlowT.opY (h := ?_) | refine FlowT.opZ (h := ?_))
            exact FlowT.done
          case hp24 => rfl
          case hd24 => rfl
          case hfr24 => rfl
          case hst24 =>
            simp only [pick_nil, pick_all, List.cons_append, List.nil_append]
            rfl
          (repeat (first | refine WL.opA hΓ (h := ?_) | refine WL.opX hΓ (h := ?_) | refine WL.opY (h := ?_) | refine WL.opZ (h := ?_)))
          with_reducible apply WL.nil
          repeat (first | with_reducible apply W.seq | with_reducible apply W.block | with_reducible apply W.skip | with_reducible apply W.exit | with_reducible apply W.ret | with_reducible apply At.seqN | with_reducible apply At.blkN | with_reducible apply At.blkE | with_reducible apply At.blkR | with_reducible apply At.thenX | with_reducible apply At.thenR | with_reducible apply At.blkX rfl | ((with_reducible apply W.ops); (repeat (first | refine WL.opA hΓ (h := ?_) | refine WL.opX hΓ (h := ?_) | refine WL.opY (h := ?_) | refine WL.opZ (h := ?_))); with_reducible apply WL.nil) | refine W.condT (h := ?_) | refine W.condF (h := ?_))
          exact At.roundA (i + 1) (by omega) (by omega)
        · clear hpr
          have h0i : ¬ (i : Int) > 0 := by omega
          repeat (first | with_reducible apply W.seq | with_reducible apply W.block | with_reducible apply W.skip | with_reducible apply W.exit | with_reducible apply W.ret | with_reducible apply At.seqN | with_reducible apply At.blkN | with_reducible apply At.blkE | with_reducible apply At.blkR | with_reducible apply At.thenX | with_reducible apply At.thenR | with_reducible apply At.blkX rfl | ((with_reducible apply W.ops); (repeat (first | refine WL.opA hΓ (h := ?_) | refine WL.opX hΓ (h := ?_) | refine WL.opY (h := ?_) | refine WL.opZ (h := ?_))); with_reducible apply WL.nil) | refine W.condT (h := ?_) | refine W.condF (h := ?_))
          refine W.drawsA hΓ 38 [[], [], [0, 1], [0, 1, 2], [], [], [4, 5], [4, 5, 6], [0, 1, 2, 3, 4, 5, 6, 7], [0, 1, 2, 3, 4, 5, 6, 7, 8], [0, 1, 2, 3, 4, 5, 6, 7, 8, 9], [0, 1, 2, 3, 4, 5, 6, 7, 8, 9], [0, 1, 2, 3, 4, 5, 6, 7, 8, 9], [0, 1, 2, 3, 4, 5, 6, 7, 8, 9, 11, 12], [0, 1, 2, 3, 4, 5, 6, 7, 8, 9, 11, 12, 13], [0, 1, 2, 3, 4, 5, 6, 7, 8, 9, 11, 12, 13, 14], [0, 1, 2, 3, 4, 5, 6, 7, 8, 9, 10, 11, 12, 13, 14, 15], [0, 1, 2, 3, 4, 5, 6, 7, 8, 9], [0, 1, 2, 3, 4, 5, 6, 7, 8, 9, 10, 11, 12, 13, 14, 15, 16, 17], [0, 1, 2, 3, 4, 5, 6, 7, 8, 9, 10, 11, 12, 13, 14, 15, 16, 17, 18], [0, 1, 2, 3, 4, 5, 6, 7, 8, 9, 10, 11, 12, 13, 14, 15, 16, 17, 18, 19], [0, 1, 2, 3, 4, 5, 6, 7, 8, 9, 10, 11, 12, 13, 14, 15, 16, 17, 18, 19, 20], [0, 1, 2, 3, 4, 5, 6, 7, 8, 9, 10, 11, 12, 13, 14, 15, 16, 17, 18, 19, 20, 21], [0, 1, 2, 3, 4, 5, 6, 7, 8, 9, 10, 11, 12, 13, 14, 15, 16, 17, 18, 19, 20, 21, 22], [0, 1, 2, 3, 4, 5, 6, 7, 8, 9, 10, 11, 12, 13, 14, 15, 16, 17, 18, 19, 20, 21, 22, 23], [0, 1, 2, 3, 4, 5, 6, 7, 8, 9, 10, 11, 12, 13, 14, 15, 16, 17, 18, 19, 20, 21, 22, 23], [0, 1, 2, 3, 4, 5, 6, 7, 8, 9, 10, 11, 12, 13, 14, 15, 16, 17, 18, 19, 20, 21, 22, 23, 25], [0, 1, 2, 3, 4, 5, 6, 7, 8, 9, 10, 11, 12, 13, 14, 15, 16, 17, 18, 19, 20, 21, 22, 23, 24, 25, 26], [0, 1, 2, 3, 4, 5, 6, 7, 8, 9, 10, 11, 12, 13, 14, 15, 16, 17, 18, 19, 20, 21, 22, 23, 24, 25, 26, 27], [0, 1, 2, 3, 4, 5, 6, 7, 8, 9, 10, 11, 12, 13, 14, 15, 16, 17, 18, 19, 20, 21, 22, 23, 24, 25, 26, 27, 28], [0, 1, 2, 3, 4, 5, 6, 7, 8, 9, 10, 11, 12, 13, 14, 15, 16, 17, 18, 19, 20, 21, 22, 23], [0, 1, 2, 3, 4, 5, 6, 7, 8, 9, 10, 11, 12, 13, 14, 15, 16, 17, 18, 19, 20, 21, 22, 23], [0, 1, 2, 3, 4, 5, 6, 7, 8, 9, 10, 11, 12, 13, 14, 15, 16, 17, 18, 19, 20, 21, 22, 23, 30, 31], [0, 1, 2, 3, 4, 5, 6, 7, 8, 9, 10, 11, 12, 13, 14, 15, 16, 17, 18, 19, 20, 21, 22, 23, 30, 31, 32], [0, 1, 2, 3, 4, 5, 6, 7, 8, 9, 10, 11, 12, 13, 14, 15, 16, 17, 18, 19, 20, 21, 22, 23, 30, 31, 32, 33], [0, 1, 2, 3, 4, 5, 6, 7, 8, 9, 10, 11, 12, 13, 14, 15, 16, 17, 18, 19, 20, 21, 22, 23, 24, 25, 26, 27, 28, 29, 30, 31, 32, 33, 34], [0, 1, 2, 3, 4, 5, 6, 7, 8, 9, 10, 11, 12, 13, 14, 15, 16, 17, 18, 19, 20, 21, 22, 23, 24, 25, 26, 27, 28, 29, 30, 31, 32, 33, 34, 35], [0, 1, 2, 3, 4, 5, 6, 7, 8, 9, 10, 11, 12, 13, 14, 15, 16, 17, 18, 19, 20, 21, 22, 23, 24, 25, 26, 27, 28, 29, 30, 31, 32, 33, 34, 35, 36]] (rest := ?rest27) (Es := ?Es27) (st1 := ?st127) (h := ?h27) (hf := ?hf27) (hp := ?hp27) (hd := ?hd27) (hfr := ?hfr27) (hst := ?hst27) (hT := ?hT27)
          case h27 => kernel_rfl
          case hf27 =>
            repeat (first | refine FlowT.opA (h := ?_) | refine FlowT.opX (h := ?_) | refine FlowT.opY (h := ?_) | refine FlowT.opZ (h := ?_))
            exact FlowT.done
          case hp27 => rfl
          case hd27 => rfl
          case hfr27 => rfl
          case hst27 =>
            simp only [pick_nil, pick_all, List.cons_append, List.nil_append]
            rfl
          (repeat (first | refine WL.opA hΓ (h := ?_) | refine WL.opX hΓ (h := ?_) | refine WL.opY (h := ?_) | refine WL.opZ (h := ?_)))
          with_reducible apply WL.nil
          repeat (first | with_reducible apply W.seq | with_reducible apply W.block | with_reducible apply W.skip | with_reducible apply W.exit | with_reducible apply W.ret | with_reducible apply At.seqN | with_reducible apply At.blkN | with_reducible apply At.blkE | with_reducible apply At.blkR | with_reducible apply At.thenX | with_reducible apply At.thenR | with_reducible apply At.blkX rfl | ((with_reducible apply W.ops); (repeat (first | refine WL.opA hΓ (h := ?_) | refine WL.opX hΓ (h := ?_) | refine WL.opY (h := ?_) | refine WL.opZ (h := ?_))); with_reducible apply WL.nil) | refine W.condT (h := ?_) | refine W.condF (h := ?_))
          exact At.roundA (i + 1) (by omega) (by omega)
      · repeat (first | with_reducible apply W.seq | with_reducible apply W.block | with_reducible apply W.skip | with_reducible apply W.exit | with_reducible apply W.ret | with_reducible apply At.seqN | with_reducible apply At.blkN | with_reducible apply At.blkE | with_reducible apply At.blkR | with_reducible apply At.thenX | with_reducible apply At.thenR | with_reducible apply At.blkX rfl | ((with_reducible apply W.ops); (repeat (first | refine WL.opA hΓ (h := ?_) | refine WL.opX hΓ (h := ?_) | refine WL.opY (h := ?_) | refine WL.opZ (h := ?_))); with_reducible apply WL.nil) | refine W.condT (h := ?_) | refine W.condF (h := ?_))
        refine At.retA (by rw [Try.results6]) (he := rfl)
end Go.Proofs.Ytlogbmdfjnldlaa
