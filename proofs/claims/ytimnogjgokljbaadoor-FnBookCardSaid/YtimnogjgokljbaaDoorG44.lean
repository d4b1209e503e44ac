/-
  Put together: EvFbL CodeArg.
-/
import Derived.Test.YtimnogjgokljbaaDoorHEvFbD
import Derived.Test.YtimnogjgokljbaaDoorG43
import Derived.Test.YtimnogjgokljbaaDoorG0
import Derived.Test.YtimnogjgokljbaaDoorG26
section
/-!
  The law FnBook.
-/
namespace Go.Proofs.YtimnogjgokljbaaDoor
set_option maxRecDepth 100000
set_option linter.unusedVariables false
set_option linter.unusedSimpArgs false
open Go Go.RowKit
set_option maxHeartbeats 8000000

noncomputable def mSum := mdl okI (fun l => [aL cItem l]) (fun l => rI (bookSum l))
theorem mSum_eq (l : List TItem) (h : okI l) : mSum [aL cItem l] = some (rI (bookSum l)) := mdl_eq aItem_inj l h
noncomputable def mBp := mdl (fun x => okI x.1) encB rBi
theorem mBp_eq (x : List TItem) (i : Nat) (hb : bookOk x) (hi : i < x.length) : mBp [aL cItem x, aS (x.getD i (ByteArray.empty, 0)).1] = some (rTL 9 1 cStr (pathL i (x.map textS)) [rSc (.int .i64 (i : Int)), rSc (.bool true)]) := by
  obtain ⟨h1, h2, h3, h4⟩ := proof_self hb hi
  have := mdl_eq (ok := fun x : List TItem × ByteArray => okI x.1) (g := rBi) encB_inj (x, (x.getD i (ByteArray.empty, 0)).1) ⟨book_items hb, by have := hb.1; dsimp only; omega⟩
  unfold mBp
  rw [this]
  dsimp only [rBi]
  rw [if_pos h4, h1, h2, h3]
theorem mBDi_no (l : List TItem) (line : ByteArray) (h : okBD (l, line)) (hb : ¬ bookOk l) : mBDi [aL cItem l, aS line] = some (rTN [rSc (.bool false)]) := by
  have := mdl_eq (ok := okBD) (g := rBDi) encBD_inj (l, line) h
  simp only [rBDi, if_neg hb] at this
  exact this
theorem mPlay_eq (ls : List ByteArray) (h : okPl ls) : mPlay [aL cStr ls] = some (rTL 36 2 cItem (plL ls) [rSc (.int .i64 (plN ls))]) := mdl_eq (enc := fun ls : List ByteArray => [aL cStr ls]) (by intro a b h; simpa using h) ls h
theorem sumS_s : Sound Tryd.prog 11 mSum := Sound.says (fun _ => rfl) fun l vs w hok hr => by
  obtain ⟨v, rfl, h2⟩ := RepAs.one hr
  exact (bookSum_spec v l w (rep_RdS (fun _ => rfl) (repA_list_inv h2)) hok.1 hok.2).mono fun e w' hq => hq
theorem sumI_s : Sound Tryd.prog 10 mSum := Sound.says (fun _ => rfl) fun l vs w hok hr => by
  obtain ⟨v, rfl, h2⟩ := RepAs.one hr
  exact (bookSum_impl v l w (rep_RdS (fun _ => rfl) (repA_list_inv h2)) hok.1 hok.2).mono fun e w' hq => hq
theorem lawFnBook_s : Sound Tryd.prog 3 (mdl (fun bs : List Nat => bs.length ≤ 9223372036854775807 ∧ ∀ n ∈ bs, n < 256) (fun bs => [aL cU8 bs]) fun _ => rB true) := by
  refine Sound.mdl Tryd.func3 rfl Tryd.ntmps3 ?_
  rintro bs w ⟨hlen, hbs⟩
  refine ⟨by simp, ?_⟩
  have hΓ : GSound Tryd.prog (look [(4, mBig), (7, mBDs), (6, mBDi), (9, mBookHash), (8, mBookHash), (11, mSum), (10, mSum), (12, mBook), (13, mBp), (15, mDec), (14, mIncl), (18, mPlay), (17, mPlay)]) := env_cons (has_of Tryd.func4 rfl rfl) big_s (env_cons (has_of Tryd.func7 rfl rfl) bdS_s (env_cons (has_of Tryd.func6 rfl rfl) bdI (env_cons (has_of Tryd.func9 rfl rfl) bookHashS_s (env_cons (has_of Tryd.func8 rfl rfl) bookHashI_s (env_cons (has_of Tryd.func11 rfl rfl) sumS_s (env_cons (has_of Tryd.func10 rfl rfl) sumI_s (env_cons (has_of Tryd.func12 rfl rfl) bookS_s (env_cons (has_of Tryd.func13 rfl rfl) bpI_s (env_cons (has_of Tryd.func15 rfl rfl) decS_s (env_cons (has_of Tryd.func14 rfl rfl) inclS_s (env_cons (has_of Tryd.func18 rfl rfl) play_spec_s (env_cons (has_of Tryd.func17 rfl rfl) play_impl_s env_nil))))))))))))
  have hDo : Has Tryd.prog 5 := has_of Tryd.func5 rfl rfl
  have hDp : Has Tryd.prog 16 := has_of Tryd.func16 rfl rfl
  have cb := mBig_eq bs hlen
  by_cases hbig : 1048576 < bs.length
  · rw [decide_eq_true hbig] at cb
    simp only [initS, argPV, List.map_cons, List.map_nil, toPL, Nat.zero_add]
    repeat (first | with_reducible (first | apply W.seq | apply W.block | apply W.skip | apply W.exit | apply W.ret | apply At.seqN | apply At.blkN | apply At.blkE | apply At.blkR | apply At.thenX | apply At.thenR | apply At.blkX rfl) | ((with_reducible apply W.ops); (repeat (first | refine WL.opA hΓ (h := ?_) | refine WL.opX hΓ (h := ?_) | refine WL.opY (h := ?_) | refine WL.opZ (h := ?_))); with_reducible apply WL.nil) | refine W.condT (h := ?_) | refine W.condF (h := ?_))
    refine At.retA (by rw [Tryd.results3]) (he := rfl)
  · rw [decide_eq_false hbig] at cb
    have hcode : CodeOk bs := .le (by omega) hbs
    clear hlen hbs
    simp only [initS, argPV, List.map_cons, List.map_nil, toPL, Nat.zero_add]
    repeat (first | with_reducible (first | apply W.seq | apply W.block | apply W.skip | apply W.exit | apply W.ret | apply At.seqN | apply At.blkN | apply At.blkE | apply At.blkR | apply At.thenX | apply At.thenR | apply At.blkX rfl) | ((with_reducible apply W.ops); (repeat (first | refine WL.opA hΓ (h := ?_) | refine WL.opX hΓ (h := ?_) | refine WL.opY (h := ?_) | refine WL.opZ (h := ?_))); with_reducible apply WL.nil) | refine W.condT (h := ?_) | refine W.condF (h := ?_))
    with_reducible apply W.ops
    repeat (first | refine WL.opA hΓ (h := ?_) | refine WL.opX hΓ (h := ?_) | refine WL.opY (h := ?_) | refine WL.opZ (h := ?_))
    refine WL.opRA hDo DrawBookDo_s bs hcode (h := ?_)
    rintro ⟨l, line⟩ ⟨⟨hl, hit⟩, hln⟩
    replace hl : l.length ≤ 12 := hl
    replace hit : ∀ x ∈ l, okItem x := hit
    replace hln : line.size ≤ 100 := hln
    have hokI : okI l := ⟨hit, by omega⟩
    have hokB : okBD (l, line) := ⟨⟨hit, by dsimp only; omega⟩, by dsimp only; unfold maxLen; omega⟩
    (repeat (first | refine WL.opA hΓ (h := ?_) | refine WL.opX hΓ (h := ?_) | refine WL.opY (h := ?_) | refine WL.opZ (h := ?_)))
    with_reducible apply WL.nil
    clear cb hit
    by_cases hb : bookOk l
    · have c1 := mBDs_eq l line hokB
      have c2 := mBDi_eq l line hokB hb
      have hX := bdL_ok (line := line) hb
      have hsum := bd_sum (line := line) hb
      have hsame := bd_same (line := line) hb
      have hokX : okI (bdL l line) := ⟨book_items hX, by have := hX.1; omega⟩
      have c3 := mBookHash_eq (bdL l line) hokX
      have c4 := mSum_eq (bdL l line) hokX
      have c5 := mBook_eq l hokI
      rw [decide_eq_true hb] at c5
      have c6 := mSum_eq l hokI
      have c7 := mBookHash_eq l hokI
      have h12 := hX.1
      have hself := fun i => proof_self (i := i) hX
      have hincl := fun i => incl_self (i := i) hX
      have hbp := fun i => mBp_eq (bdL l line) i hX
      have htx := okTx_of hX
      have hhash : bdB l line = false → bookHash (bdL l line) = bookHash l := fun h => by rw [hsame h]
      generalize bdL l line = X at *
      generalize bdB l line = B at *
      generalize bookHash X = HX at *
      generalize bookHash l = HL at *
      generalize bookSum X = SX at *
      generalize bookSum l = SL at *
      have K1 := Lib.hid hsum
      have K2 := Lib.hid hhash
      have K3 := Lib.hid hincl
      have K4 := Lib.hid hbp
      have K5 := Lib.hid htx
      clear hX hsum hsame hokX hokI hokB hb hself hincl hbp htx hhash
      have eB : (B == B) = true := by simp
      have eH : decide (HX = HX) = true := by simp
      have eS : decide (SX = SX) = true := by simp
      have hXl := rowsF_len cItem X
      dsimp only [rTL] at c1 c2
      repeat (first | with_reducible (first | apply W.seq | apply W.block | apply W.skip | apply W.exit | apply W.ret | apply At.seqN | apply At.blkN | apply At.blkE | apply At.blkR | apply At.thenX | apply At.thenR | apply At.blkX rfl) | ((with_reducible apply W.ops); (repeat (first | refine WL.opA hΓ (h := ?_) | refine WL.opX hΓ (h := ?_) | refine WL.opY (h := ?_) | refine WL.opZ (h := ?_))); with_reducible apply WL.nil) | refine W.condT (h := ?_) | refine W.condF (h := ?_))
      refine W.frzA 3 24 (h := ?_)
      refine W.frzA 5 30 (h := ?_)
      refine W.loopA (fun x : Nat × Bool => x.1 ≤ line.size ∧ x.2 = decide (62 ∈ (bl line).take x.1)) (fun x => [.slot 0 (vL cU8 bs), .slot 3 (vL cItem l), .slot 4 (vS line), .slot 5 (vL cItem X), .slot 6 (vB B), .slot 9 (vB x.2), .slot 10 (vI x.1)]) (fun x => line.size - x.1) (0, false) ⟨Nat.zero_le _, by simp⟩ (h := ?_)
      rintro ⟨k, m⟩ ⟨hk, hm⟩
      dsimp only at hk hm ⊢
      have hbll := bl_len line
      by_cases hlt : k < line.size
      · obtain ⟨u, hu1, hu2⟩ := bl_at (s := line) (i := k) (by omega)
        have htk : (bl line).take (k + 1) = (bl line).take k ++ [u.toNat] := by
          rw [List.take_succ_eq_append_getElem (by omega), hu2]
        cases m with
        | true =>
          have hnx : true = decide (62 ∈ (bl line).take (k + 1)) := by
            rw [htk]
            exact (decide_eq_true (List.mem_append_left _ (of_decide_eq_true hm.symm))).symm
          have HN := Lib.hid hnx
          clear hm hnx htk hu1 hu2
          repeat (first | with_reducible (first | apply W.seq | apply W.block | apply W.skip | apply W.exit | apply W.ret | apply At.seqN | apply At.blkN | apply At.blkE | apply At.blkR | apply At.thenX | apply At.thenR | apply At.blkX rfl) | ((with_reducible apply W.ops); (repeat (first | refine WL.opA hΓ (h := ?_) | refine WL.opX hΓ (h := ?_) | refine WL.opY (h := ?_) | refine WL.opZ (h := ?_))); with_reducible apply WL.nil) | refine W.condT (h := ?_) | refine W.condF (h := ?_))
          exact At.roundA (k + 1, true) ⟨by dsimp only; omega, HN.out⟩ (by dsimp only; omega)
        | false =>
          have hno : 62 ∉ (bl line).take k := of_decide_eq_false hm.symm
          by_cases h62 : u.toNat = 62
          · have hnx : true = decide (62 ∈ (bl line).take (k + 1)) := by
              rw [htk, h62]
              exact (decide_eq_true (List.mem_append_right _ (List.mem_singleton.2 rfl))).symm
            have hd : decide ((u.toNat : Int) = 62) = true := decide_eq_true (by omega)
            have HN := Lib.hid hnx
            clear hm hnx htk hu2 hno h62
            repeat (first | with_reducible (first | apply W.seq | apply W.block | apply W.skip | apply W.exit | apply W.ret | apply At.seqN | apply At.blkN | apply At.blkE | apply At.blkR | apply At.thenX | apply At.thenR | apply At.blkX rfl) | ((with_reducible apply W.ops); (repeat (first | refine WL.opA hΓ (h := ?_) | refine WL.opX hΓ (h := ?_) | refine WL.opY (h := ?_) | refine WL.opZ (h := ?_))); with_reducible apply WL.nil) | refine W.condT (h := ?_) | refine W.condF (h := ?_))
            exact At.roundA (k + 1, true) ⟨by dsimp only; omega, HN.out⟩ (by dsimp only; omega)
          · have hnx : false = decide (62 ∈ (bl line).take (k + 1)) := by
              rw [htk]
              refine (decide_eq_false fun h => ?_).symm
              rcases List.mem_append.1 h with h | h
              · exact hno h
              · exact h62 (List.mem_singleton.1 h).symm
            have hd : decide ((u.toNat : Int) = 62) = false := decide_eq_false (by omega)
            have HN := Lib.hid hnx
            clear hm hnx htk hu2 hno h62
            repeat (first | with_reducible (first | apply W.seq | apply W.block | apply W.skip | apply W.exit | apply W.ret | apply At.seqN | apply At.blkN | apply At.blkE | apply At.blkR | apply At.thenX | apply At.thenR | apply At.blkX rfl) | ((with_reducible apply W.ops); (repeat (first | refine WL.opA hΓ (h := ?_) | refine WL.opX hΓ (h := ?_) | refine WL.opY (h := ?_) | refine WL.opZ (h := ?_))); with_reducible apply WL.nil) | refine W.condT (h := ?_) | refine W.condF (h := ?_))
            exact At.roundA (k + 1, false) ⟨by dsimp only; omega, HN.out⟩ (by dsimp only; omega)
      · have hke : k = line.size := by omega
        subst hke
        have hsx : m = true → SX = SL := fun e => K1.out (by
          rw [e, List.take_of_length_le (by omega)] at hm
          exact of_decide_eq_true hm.symm)
        have KS := Lib.hid hsx
        clear hm hsx
        refine W.key (c := ?codeK) (Q := ?postK) (fun _ : Unit => True) (fun _ => [.slot 0 (vL cU8 bs), .slot 5 (vL cItem X), .slot 11 (vI ((0 : Nat) : Int))]) ?main ?part
        case main =>
          intro key
          cases m with
          | true =>
            have e1 := KS.out rfl
            subst e1
            cases B with
            | true =>
              repeat (first | with_reducible (first | apply W.seq | apply W.block | apply W.skip | apply W.exit | apply W.ret | apply At.seqN | apply At.blkN | apply At.blkE | apply At.blkR | apply At.thenX | apply At.thenR | apply At.blkX rfl) | ((with_reducible apply W.ops); (repeat (first | refine WL.opA hΓ (h := ?_) | refine WL.opX hΓ (h := ?_) | refine WL.opY (h := ?_) | refine WL.opZ (h := ?_))); with_reducible apply WL.nil) | refine W.condT (h := ?_) | refine W.condF (h := ?_))
              refine W.subA [.slot 0 (vL cU8 bs), .slot 5 (vL cItem X), .slot 11 (vI ((0 : Nat) : Int))] (h := ?_)
              exact key () trivial
            | false =>
              have e2 := K2.out rfl
              subst e2
              repeat (first | with_reducible (first | apply W.seq | apply W.block | apply W.skip | apply W.exit | apply W.ret | apply At.seqN | apply At.blkN | apply At.blkE | apply At.blkR | apply At.thenX | apply At.thenR | apply At.blkX rfl) | ((with_reducible apply W.ops); (repeat (first | refine WL.opA hΓ (h := ?_) | refine WL.opX hΓ (h := ?_) | refine WL.opY (h := ?_) | refine WL.opZ (h := ?_))); with_reducible apply WL.nil) | refine W.condT (h := ?_) | refine W.condF (h := ?_))
              refine W.subA [.slot 0 (vL cU8 bs), .slot 5 (vL cItem X), .slot 11 (vI ((0 : Nat) : Int))] (h := ?_)
              exact key () trivial
          | false =>
            cases B with
            | true =>
              repeat (first | with_reducible (first | apply W.seq | apply W.block | apply W.skip | apply W.exit | apply W.ret | apply At.seqN | apply At.blkN | apply At.blkE | apply At.blkR | apply At.thenX | apply At.thenR | apply At.blkX rfl) | ((with_reducible apply W.ops); (repeat (first | refine WL.opA hΓ (h := ?_) | refine WL.opX hΓ (h := ?_) | refine WL.opY (h := ?_) | refine WL.opZ (h := ?_))); with_reducible apply WL.nil) | refine W.condT (h := ?_) | refine W.condF (h := ?_))
              refine W.subA [.slot 0 (vL cU8 bs), .slot 5 (vL cItem X), .slot 11 (vI ((0 : Nat) : Int))] (h := ?_)
              exact key () trivial
            | false =>
              have e2 := K2.out rfl
              subst e2
              repeat (first | with_reducible (first | apply W.seq | apply W.block | apply W.skip | apply W.exit | apply W.ret | apply At.seqN | apply At.blkN | apply At.blkE | apply At.blkR | apply At.thenX | apply At.thenR | apply At.blkX rfl) | ((with_reducible apply W.ops); (repeat (first | refine WL.opA hΓ (h := ?_) | refine WL.opX hΓ (h := ?_) | refine WL.opY (h := ?_) | refine WL.opZ (h := ?_))); with_reducible apply WL.nil) | refine W.condT (h := ?_) | refine W.condF (h := ?_))
              refine W.subA [.slot 0 (vL cU8 bs), .slot 5 (vL cItem X), .slot 11 (vI ((0 : Nat) : Int))] (h := ?_)
              exact key () trivial
        case part =>
          rintro - -
          clear c1 c2 c4 c5 c6 c7 hk hlt hbll hln hl
          refine W.loopA (fun i : Nat => i ≤ X.length) (fun i => [.slot 0 (vL cU8 bs), .slot 5 (vL cItem X), .slot 11 (vI i)]) (fun i => X.length - i) 0 (Nat.zero_le _) (h := ?_)
          rintro i hi
          by_cases hlt : i < X.length
          · have hrow := row_item hlt
            have d1 := K4.out i hlt
            have d2 := K3.out i hlt
            have hmem : X.getD i (ByteArray.empty, 0) ∈ X := by
              rw [List.getD_eq_getElem?_getD, List.getElem?_eq_getElem hlt]
              exact List.getElem_mem hlt
            have d3 := K5.out.2 _ hmem
            have hts := textS_size d3.1
            have d4 := mIncl_eq HX (textS (X.getD i (ByteArray.empty, 0))) i X.length (pathL i (X.map textS)) (by omega) (path_okT i (by rw [List.length_map]; omega))
            rw [d2] at d4
            clear d2 hmem
            generalize pathL i (X.map textS) = px at *
            unfold textS at d4 hts
            generalize hxi : X.getD i (ByteArray.empty, 0) = xi at *
            obtain ⟨xk, xn⟩ := xi
            dsimp only at hrow d1 d3 d4 hts
            obtain ⟨n, rfl⟩ := Int.eq_ofNat_of_zero_le (show 0 ≤ xn by omega)
            rw [Int.toNat_natCast] at d4 hts
            have d5 := mDec_eq n (by omega) (by omega)
            have w1 : (⟨#[61]⟩ : ByteArray).size = 1 := rfl
            have w2 := ByteArray.size_append (a := xk) (b := ⟨#[61]⟩)
            have w3 := ByteArray.size_append (a := xk ++ ⟨#[61]⟩) (b := decS n)
            generalize decS n = D at *
            dsimp only [rTL] at d1
            have ei : decide ((i : Int) = (i : Int)) = true := by simp
            clear hxi
            repeat (first | with_reducible (first | apply W.seq | apply W.block | apply W.skip | apply W.exit | apply W.ret | apply At.seqN | apply At.blkN | apply At.blkE | apply At.blkR | apply At.thenX | apply At.thenR | apply At.blkX rfl) | ((with_reducible apply W.ops); (repeat (first | refine WL.opA hΓ (h := ?_) | refine WL.opX hΓ (h := ?_) | refine WL.opY (h := ?_) | refine WL.opZ (h := ?_))); with_reducible apply WL.nil) | refine W.condT (h := ?_) | refine W.condF (h := ?_))
            refine W.drawsA hΓ 30 [[], [0], [0, 1], [0, 1, 2], [0, 1, 2], [0, 1, 2, 3, 4], [0, 1, 2, 3, 4, 5], [0, 1, 2, 3, 4, 5, 6], [0, 1, 2, 3, 4, 5, 6, 7], [0, 1, 2, 3, 4, 5, 6, 7, 8], [0, 1, 2, 3, 4, 5, 6, 7], [0, 1, 2, 3, 4, 5, 6, 7], [0, 1, 2, 3, 4, 5, 6, 7, 10, 11], [0, 1, 2, 3, 4, 5, 6, 7, 10, 11, 12], [0, 1, 2, 3, 4, 5, 6, 7, 10, 11, 12, 13], [0, 1, 2, 3, 4, 5, 6, 7, 10, 11, 12, 13, 14], [0, 1, 2, 3, 4, 5, 6, 7], [0, 1, 2, 3, 4, 5, 6, 7], [0, 1, 2, 3, 4, 5, 6, 7, 16, 17], [0, 1, 2, 3, 4, 5, 6, 7, 16, 17, 18], [0, 1, 2, 3, 4, 5, 6, 7, 16, 17, 18, 19], [0, 1, 2, 3, 4, 5, 6, 7, 8, 9, 16, 17, 18, 19, 20], [0, 1, 2, 3, 4, 5, 6, 7, 8, 9, 10, 11, 12, 13, 14, 15, 16, 17, 18, 19, 20, 21], [0, 1, 2, 3, 4, 5, 6, 7], [0, 1, 2, 3, 4, 5, 6, 7], [0, 1, 2, 3, 4, 5, 6, 7, 24], [0, 1, 2, 3, 4, 5, 6, 7], [0, 1, 2, 3, 4, 5, 6, 7, 8, 9, 10, 11, 12, 13, 14, 15, 16, 17, 18, 19, 20, 21, 22, 23, 24, 25, 26], [0, 1, 2, 3, 4, 5, 6, 7, 8, 9, 10, 11, 12, 13, 14, 15, 16, 17, 18, 19, 20, 21, 22, 23, 24, 25, 26, 27], [0, 1, 2, 3, 4, 5, 6, 7, 8, 9, 10, 11, 12, 13, 14, 15, 16, 17, 18, 19, 20, 21, 22, 23, 24, 25, 26, 27, 28]] (rest := ?rest18) (Es := ?Es18) (st1 := ?st118) (h := ?h18) (hf := ?hf18) (hp := ?hp18) (hd := ?hd18) (hfr := ?hfr18) (hst := ?hst18) (hT := ?hT18)
            case h18 => kernel_rfl
            case hf18 =>
              repeat (first | refine FlowT.opA (h := ?_) | refine FlowT.opX (h := ?_) | refine FlowT.opY (h := ?_) | refine FlowT.opZ (h := ?_))
              exact FlowT.done
            case hp18 => rfl
            case hd18 => rfl
            case hfr18 => rfl
            case hst18 =>
              simp only [pick_nil, pick_all, List.cons_append, List.nil_append]
              rfl
            (repeat (first | refine WL.opA hΓ (h := ?_) | refine WL.opX hΓ (h := ?_) | refine WL.opY (h := ?_) | refine WL.opZ (h := ?_)))
            with_reducible apply WL.nil
            repeat (first | with_reducible (first | apply W.seq | apply W.block | apply W.skip | apply W.exit | apply W.ret | apply At.seqN | apply At.blkN | apply At.blkE | apply At.blkR | apply At.thenX | apply At.thenR | apply At.blkX rfl) | ((with_reducible apply W.ops); (repeat (first | refine WL.opA hΓ (h := ?_) | refine WL.opX hΓ (h := ?_) | refine WL.opY (h := ?_) | refine WL.opZ (h := ?_))); with_reducible apply WL.nil) | refine W.condT (h := ?_) | refine W.condF (h := ?_))
            exact At.roundA (i + 1) (by omega) (by omega)
          · clear c3 hXl
            repeat (first | with_reducible (first | apply W.seq | apply W.block | apply W.skip | apply W.exit | apply W.ret | apply At.seqN | apply At.blkN | apply At.blkE | apply At.blkR | apply At.thenX | apply At.thenR | apply At.blkX rfl) | ((with_reducible apply W.ops); (repeat (first | refine WL.opA hΓ (h := ?_) | refine WL.opX hΓ (h := ?_) | refine WL.opY (h := ?_) | refine WL.opZ (h := ?_))); with_reducible apply WL.nil) | refine W.condT (h := ?_) | refine W.condF (h := ?_))
            with_reducible apply W.ops
            repeat (first | refine WL.opA hΓ (h := ?_) | refine WL.opX hΓ (h := ?_) | refine WL.opY (h := ?_) | refine WL.opZ (h := ?_))
            refine WL.opRA hDp DrawBookPlay_s bs hcode (h := ?_)
            rintro ls ⟨hls, hst⟩
            replace hls : ls.length ≤ 14 := hls
            have f1 := mPlay_eq ls ⟨hst, by omega⟩
            have f2 := (plK_ok ls ls.length (Nat.le_refl _)).1
            have f2' : bookOk (plL ls) := f2
            have f3 := mBookHash_eq (plL ls) ⟨book_items f2', by have := f2'.1; omega⟩
            have f4 := mBook_eq (plL ls) ⟨book_items f2', by have := f2'.1; omega⟩
            rw [decide_eq_true f2'] at f4
            clear f2 f2' hst
            generalize plL ls = Y at *
            generalize plN ls = nn at *
            generalize bookHash Y = HY at *
            have g1 : decide (nn = nn) = true := by simp
            have g2 : decide (HY = HY) = true := by simp
            dsimp only [rTL] at f1
            (repeat (first | refine WL.opA hΓ (h := ?_) | refine WL.opX hΓ (h := ?_) | refine WL.opY (h := ?_) | refine WL.opZ (h := ?_)))
            with_reducible apply WL.nil
            repeat (first | with_reducible (first | apply W.seq | apply W.block | apply W.skip | apply W.exit | apply W.ret | apply At.seqN | apply At.blkN | apply At.blkE | apply At.blkR | apply At.thenX | apply At.thenR | apply At.blkX rfl) | ((with_reducible apply W.ops); (repeat (first | refine WL.opA hΓ (h := ?_) | refine WL.opX hΓ (h := ?_) | refine WL.opY (h := ?_) | refine WL.opZ (h := ?_))); with_reducible apply WL.nil) | refine W.condT (h := ?_) | refine W.condF (h := ?_))
            refine At.retA (by rw [Tryd.results3]) (he := rfl)
    · obtain ⟨e1, e2⟩ := bd_none (line := line) hb
      have c1 := mBDs_eq l line hokB
      have c2 := mBDi_no l line hokB hb
      rw [e1, e2] at c1
      have hn0 : rowsF cItem [] = [] := rfl
      have c3 : mBookHash [.val false [.sl []]] = some (rS (bookHash [])) := mBookHash_eq [] ⟨by simp, by simp⟩
      have c4 : mSum [.val false [.sl []]] = some (rI (bookSum [])) := mSum_eq [] ⟨by simp, by simp⟩
      have c5 := mBook_eq l hokI
      rw [decide_eq_false hb] at c5
      dsimp only [rTL, rTN] at c1 c2
      rw [hn0] at c1
      clear hb e1 e2 hokB hokI
      generalize bookHash [] = HE at *
      generalize bookSum [] = SE at *
      have g1 : decide (HE = HE) = true := by simp
      have g2 : decide (SE = SE) = true := by simp
      repeat (first | with_reducible (first | apply W.seq | apply W.block | apply W.skip | apply W.exit | apply W.ret | apply At.seqN | apply At.blkN | apply At.blkE | apply At.blkR | apply At.thenX | apply At.thenR | apply At.blkX rfl) | ((with_reducible apply W.ops); (repeat (first | refine WL.opA hΓ (h := ?_) | refine WL.opX hΓ (h := ?_) | refine WL.opY (h := ?_) | refine WL.opZ (h := ?_))); with_reducible apply WL.nil) | refine W.condT (h := ?_) | refine W.condF (h := ?_))
      refine At.retA (by rw [Tryd.results3]) (he := rfl)
end Go.Proofs.YtimnogjgokljbaaDoor

end
section
/-!
  A law's one argument: a code.
-/
namespace Go.Proofs.YtimnogjgokljbaaDoor
set_option maxRecDepth 100000
set_option linter.unusedVariables false
set_option linter.unusedSimpArgs false
open Go Go.RowKit Go.ChangeShapes Go.WideShapes Go.ChangeAt Go.Deep

theorem cellsU8 : Tryd.prog.cellsOf 5 = 1 := by kernel_rfl
theorem bytesU8 : Tryd.prog.bytesOf 5 = 1 := by kernel_rfl
theorem elem_u8 {P : Program} {H : Type} {enc : TypeId × Value → H} {w : World} {base : Nat} {spare : Nat → Bool} {held : Bool} {e : TypeId} (he : P.underlying e = some (.int .u8)) {B : Nat} : ∀ n cs y, cs.length = 1 → DataW.trod enc P w base spare held n e cs = some y → (∀ p ∈ y.2, p.block < B) → ∃ x : Nat, cs = cU8 x ∧ x < 256 := by
  intro n cs y _ h _
  obtain ⟨s, rfl, _, hs⟩ := DataW.trod_int he h
  have h1 : 0 ≤ s ∧ s ≤ 255 := by
    simpa [Lit.wf, IntKind.min, IntKind.max, IntKind.signed, IntKind.bits] using hs
  refine ⟨s.toNat, ?_, by omega⟩
  have : ((s.toNat : Nat) : Int) = s := by omega
  unfold cU8
  rw [this]
theorem law_code {f : FuncId} {v : Value} {bs : List Nat} {w : World} (hs : Sound Tryd.prog f (mdl (fun bs : List Nat => bs.length ≤ 9223372036854775807 ∧ ∀ n ∈ bs, n < 256) (fun bs => [aL cU8 bs]) fun _ => rB true)) (h : RdS w w.heap.size 1 cU8 v bs) (hb : ∀ n ∈ bs, n < 256) (hl : bs.length ≤ 9223372036854775807) (hg : GlobOk none0 w := by first | exact glob_triv | assumption) :
    Calls Tryd.prog f #[v] w fun e w' => e = .returned (.bool true) ∧ Below w.heap.size w w' :=
  calls_says hs (mdl_eq (by intro a b h; simpa [rowsF_U8] using h) bs ⟨hl, hb⟩) (RepAs.cons (aL_rep (fun _ => rfl) (fun x u hu => by simp only [cU8, List.mem_singleton] at hu; rw [hu]; rfl) h) RepAs.nil) hg
end Go.Proofs.YtimnogjgokljbaaDoor

end
