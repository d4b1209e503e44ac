/-
  BookDo of spec.
-/
import Derived.Test.YtimnogjgokljbaaDoorG14
import Derived.Test.YtimnogjgokljbaaDoorG10
namespace Go.Proofs.YtimnogjgokljbaaDoor
set_option maxRecDepth 100000
set_option linter.unusedVariables false
set_option linter.unusedSimpArgs false
open Go Go.RowKit
set_option maxHeartbeats 8000000
set_option linter.unusedVariables false

abbrev okBk (l : List TItem) : Prop := (∀ x ∈ l, okItem x) ∧ l.length ≤ 8796093022207
noncomputable def mBookB := mdl okBk (fun l => [aL cItem l]) (fun l => rB (decide (bookOk l)))
theorem mBookB_eq (l : List TItem) (h : okBk l) : mBookB [aL cItem l] = some (rB (decide (bookOk l))) := mdl_eq (by intro a b h; simpa using h) l h
theorem bookBS_s : Sound Tryd.prog 12 mBookB := Sound.listB (s := 2) (fun _ => rfl) fun v l w hl h => (bookOk_spec v l w h hl.1 hl.2).mono fun e w' h => h.says
theorem bookBI_s : Sound Tryd.prog 22 mBookB := Sound.listB (s := 2) (fun _ => rfl) fun v l w hl h => bookOk_impl v l w h hl.1 hl.2
abbrev encBD (x : List TItem × ByteArray) : List Arg := [aL cItem x.1, aS x.2]
abbrev okBD (x : List TItem × ByteArray) : Prop := okBk x.1 ∧ x.2.size ≤ maxLen
noncomputable abbrev rBDs (x : List TItem × ByteArray) : Res := rTL 36 2 cItem (bdL x.1 x.2) [rSc (.bool (bdB x.1 x.2))]
theorem bd_bad {l : List TItem} {line : ByteArray} (hb : bookOk l) (h : ¬ goodZ l line) : bdB l line = false ∧ bdL l line = l := by
  have h1 : bdB l line = false := by unfold bdB; simp [h]
  refine ⟨h1, ?_⟩
  unfold bdL
  rw [h1, if_neg (by simp), if_pos hb]
theorem bd_good {l : List TItem} {line : ByteArray} (hb : bookOk l) (h : goodZ l line) : bdB l line = decide (bookOk (outZ l line)) ∧ bdL l line = if bookOk (outZ l line) then outZ l line else l := by
  have h1 : bdB l line = decide (bookOk (outZ l line)) := by unfold bdB; simp [h, hb]
  refine ⟨h1, ?_⟩
  unfold bdL
  rw [h1]
  by_cases ho : bookOk (outZ l line) <;> simp [ho, hb]
theorem set_ok {key : ByteArray} {n : Int} {l : List TItem} (hk : key.size ≤ maxLen) (h : ∀ x ∈ l, okItem x) : ∀ x ∈ setI key n l, okItem x := fun x hx => by
  rcases setI_id hx with rfl | hx
  · exact hk
  · exact h x hx
theorem bdS_s : Sound Tryd.prog 7 (mdl okBD encBD rBDs) := by
  refine Sound.mdl Tryd.func7 rfl Tryd.ntmps7 ?_
  rintro ⟨l, line⟩ w ⟨⟨hit, hl⟩, hline⟩
  refine ⟨by simp, ?_⟩
  dsimp only at hit hl hline
  have hml : maxLen = 9223372036854775807 := rfl
  have hΓ : GSound Tryd.prog (look [(12, mBookB), (25, mCut), (26, mBlank), (27, mRead), (28, mKeyB), (29, mBal), (30, mSetI)]) := env_cons (has_of Tryd.func12 rfl rfl) bookBS_s (env_cons (has_of Tryd.func25 rfl rfl) cut_s (env_cons (has_of Tryd.func26 rfl rfl) blank_s (env_cons (has_of Tryd.func27 rfl rfl) readS_s (env_cons (has_of Tryd.func28 rfl rfl) l36Key_s (env_cons (has_of Tryd.func29 rfl rfl) l36At_s (env_cons (has_of Tryd.func30 rfl rfl) l36Set_s env_nil))))))
  have c1 := mBookB_eq l ⟨hit, hl⟩
  have hw : wid 2 (rowsF cItem l) := rowsF_wid (f := cItem) (fun _ => rfl) l
  by_cases hbk : bookOk l
  · rw [decide_eq_true hbk] at c1
    have hl12 : l.length ≤ 12 := hbk.1
    have hrs := resZ_size line
    have hns := numZ_size line
    have hts := toZ_size line
    have hks := keyZ_size line
    have hbl := byI_le isSp (resZ line)
    have hem : (⟨#[]⟩ : ByteArray) = ByteArray.empty := rfl
    have c2 : mCut [aS line] = some (.tup [rSc (.string (keyZ line)), rSc (.int .u8 (sigZ line : Int)), rSc (.string (resZ line))]) := mCut_eq line (by omega)
    have c3 : mBlank [aS (resZ line)] = some (rI (blaZ line)) := mBlank_eq (resZ line) (by omega)
    have hble : blaZ line ≤ (resZ line).size := hbl
    clear hbl
    simp only [initS, argPV, List.map_cons, List.map_nil, toPL, Nat.zero_add]
    refine (fun (key : ¬ (sigZ line = 62 ∧ blaZ line = (resZ line).size) → W Tryd.prog none0 w 124 [.slot 0 (vL cItem l), .slot 6 (one (.all 20)), .blk 20 (.arr true 36 2 (rowsF cItem l)), .slot 7 (vS (keyZ line)), .slot 8 (one (.sc (.int .u8 (sigZ line : Int)))), .slot 10 (vS (toZ line)), .slot 11 (vS (numZ line))] ?codeK ?postK) => ?main) ?part
    case main =>
      by_cases h62 : sigZ line = 62
      · have h62i : ((sigZ line : Nat) : Int) = 62 := by omega
        by_cases hb : blaZ line = (resZ line).size
        · obtain ⟨hB, hL⟩ := bd_bad (line := line) hbk (fun h => h.1 ⟨h62, hb⟩)
          have hbi : ((blaZ line : Nat) : Int) = (((resZ line).size : Nat) : Int) := by omega
          clear h62 hb
          repeat (first | with_reducible (first | apply W.seq | apply W.block | apply W.skip | apply W.exit | apply W.ret | apply At.seqN | apply At.blkN | apply At.blkE | apply At.blkR | apply At.thenX | apply At.thenR | apply At.blkX rfl) | ((with_reducible apply W.ops); (repeat (first | refine WL.opA hΓ (h := ?_) | refine WL.opX hΓ (h := ?_) | refine WL.opY (h := ?_) | refine WL.opZ (h := ?_))); with_reducible apply WL.nil) | refine W.condT (h := ?_) | refine W.condF (h := ?_))
          refine At.retA (by rw [Tryd.results7]) (he := ?_)
          simp [hB, hL]
        · have hbi : ¬ ((blaZ line : Nat) : Int) = (((resZ line).size : Nat) : Int) := by omega
          have hto : (resZ line).extract 0 (blaZ line) = toZ line := by unfold toZ; rw [if_pos h62]
          have hnu : (resZ line).extract (blaZ line + 1) (resZ line).size = numZ line := by unfold numZ; rw [if_pos h62]
          have hi1 : (((blaZ line : Nat) : Int) + 1).toNat = blaZ line + 1 := by omega
          clear h62 hb
          repeat (first | with_reducible (first | apply W.seq | apply W.block | apply W.skip | apply W.exit | apply W.ret | apply At.seqN | apply At.blkN | apply At.blkE | apply At.blkR | apply At.thenX | apply At.thenR | apply At.blkX rfl) | ((with_reducible apply W.ops); (repeat (first | refine WL.opA hΓ (h := ?_) | refine WL.opX hΓ (h := ?_) | refine WL.opY (h := ?_) | refine WL.opZ (h := ?_))); with_reducible apply WL.nil) | refine W.condT (h := ?_) | refine W.condF (h := ?_))
          refine W.subA [.slot 0 (vL cItem l), .slot 6 (one (.all 20)), .blk 20 (.arr true 36 2 (rowsF cItem l)), .slot 7 (vS (keyZ line)), .slot 8 (one (.sc (.int .u8 (sigZ line : Int)))), .slot 10 (vS (toZ line)), .slot 11 (vS (numZ line))] (h := ?_)
          exact key (fun h => hbi (by rw [h.2]))
      · have h62i : ¬ ((sigZ line : Nat) : Int) = 62 := by omega
        have hto : toZ line = ByteArray.empty := by unfold toZ; rw [if_neg h62]
        have hnu : numZ line = resZ line := by unfold numZ; rw [if_neg h62]
        rw [hto, hnu] at key
        clear h62 hto hnu
        repeat (first | with_reducible (first | apply W.seq | apply W.block | apply W.skip | apply W.exit | apply W.ret | apply At.seqN | apply At.blkN | apply At.blkE | apply At.blkR | apply At.thenX | apply At.thenR | apply At.blkX rfl) | ((with_reducible apply W.ops); (repeat (first | refine WL.opA hΓ (h := ?_) | refine WL.opX hΓ (h := ?_) | refine WL.opY (h := ?_) | refine WL.opZ (h := ?_))); with_reducible apply WL.nil) | refine W.condT (h := ?_) | refine W.condF (h := ?_))
        refine W.subA [.slot 0 (vL cItem l), .slot 6 (one (.all 20)), .blk 20 (.arr true 36 2 (rowsF cItem l)), .slot 7 (vS (keyZ line)), .slot 8 (one (.sc (.int .u8 (sigZ line : Int)))), .slot 10 (vS ByteArray.empty), .slot 11 (vS (resZ line))] (h := ?_)
        exact key (fun h => h62i (by rw [h.1]; rfl))
    have c4 : mRead [aS (numZ line)] = some (.tup [rSc (.int .i64 (amtZ line)), rSc (.bool (readZ (numZ line)).2)]) := mRead_eq (numZ line) (by omega)
    intro hnb0
    clear c1 c2 c3 hble
    rcases sigZ_in line with hs | hs | hs | hs
    · have hsi : ((sigZ line : Nat) : Int) = 0 := by omega
      obtain ⟨hB, hL⟩ := bd_bad (line := line) hbk (fun h => h.2.1 hs)
      clear hbk
      repeat (first | with_reducible (first | apply W.seq | apply W.block | apply W.skip | apply W.exit | apply W.ret | apply At.seqN | apply At.blkN | apply At.blkE | apply At.blkR | apply At.thenX | apply At.thenR | apply At.blkX rfl) | ((with_reducible apply W.ops); (repeat (first | refine WL.opA hΓ (h := ?_) | refine WL.opX hΓ (h := ?_) | refine WL.opY (h := ?_) | refine WL.opZ (h := ?_))); with_reducible apply WL.nil) | refine W.condT (h := ?_) | refine W.condF (h := ?_))
      refine At.retA (by rw [Tryd.results7]) (he := ?_)
      simp [hB, hL]
    · have hsi : ((sigZ line : Nat) : Int) = 61 := by omega
      cases hr : (readZ (numZ line)).2 with
      | false =>
        rw [hr] at c4
        obtain ⟨hB, hL⟩ := bd_bad (line := line) hbk (fun h => by have := h.2.2.1; rw [hr] at this; cases this)
        clear hbk
        repeat (first | with_reducible (first | apply W.seq | apply W.block | apply W.skip | apply W.exit | apply W.ret | apply At.seqN | apply At.blkN | apply At.blkE | apply At.blkR | apply At.thenX | apply At.thenR | apply At.blkX rfl) | ((with_reducible apply W.ops); (repeat (first | refine WL.opA hΓ (h := ?_) | refine WL.opX hΓ (h := ?_) | refine WL.opY (h := ?_) | refine WL.opZ (h := ?_))); with_reducible apply WL.nil) | refine W.condT (h := ?_) | refine W.condF (h := ?_))
        refine At.retA (by rw [Tryd.results7]) (he := ?_)
        simp [hB, hL]
      | true =>
        rw [hr] at c4
        have ham := amtZ_in line hr
        have c5 := mKeyB_eq (keyZ line) (by omega)
        by_cases hk : keyOk (keyZ line)
        · rw [decide_eq_true hk] at c5
          by_cases hmx : 1000000 < amtZ line
          · obtain ⟨hB, hL⟩ := bd_bad (line := line) hbk (fun h => by have := h.2.2.2.2.2; omega)
            clear hbk
            repeat (first | with_reducible (first | apply W.seq | apply W.block | apply W.skip | apply W.exit | apply W.ret | apply At.seqN | apply At.blkN | apply At.blkE | apply At.blkR | apply At.thenX | apply At.thenR | apply At.blkX rfl) | ((with_reducible apply W.ops); (repeat (first | refine WL.opA hΓ (h := ?_) | refine WL.opX hΓ (h := ?_) | refine WL.opY (h := ?_) | refine WL.opZ (h := ?_))); with_reducible apply WL.nil) | refine W.condT (h := ?_) | refine W.condF (h := ?_))
            refine At.retA (by rw [Tryd.results7]) (he := ?_)
            simp [hB, hL]
          · have hG : goodZ l line := ⟨hnb0, by omega, hr, hk, fun h => by omega, by omega⟩
            obtain ⟨hB, hL⟩ := bd_good hbk hG
            have hout : outZ l line = setI (keyZ line) (amtZ line) l := by unfold outZ; rw [if_pos hs]
            have c8 := mSetI_eq l (keyZ line) (amtZ line) ⟨book_asc hbk, by dsimp only; omega⟩
            have hol := setI_len (keyZ line) (amtZ line) l
            have hoi := set_ok (key := keyZ line) (n := amtZ line) (by omega) hit
            rw [← hout] at c8 hol hoi
            clear hout
            have c9 := mBookB_eq (outZ l line) ⟨hoi, by omega⟩
            have hasc := book_asc hbk
            clear hbk hG hasc
            by_cases hok : bookOk (outZ l line)
            · rw [decide_eq_true hok] at c9 hB
              rw [if_pos hok] at hL
              repeat (first | with_reducible (first | apply W.seq | apply W.block | apply W.skip | apply W.exit | apply W.ret | apply At.seqN | apply At.blkN | apply At.blkE | apply At.blkR | apply At.thenX | apply At.thenR | apply At.blkX rfl) | ((with_reducible apply W.ops); (repeat (first | refine WL.opA hΓ (h := ?_) | refine WL.opX hΓ (h := ?_) | refine WL.opY (h := ?_) | refine WL.opZ (h := ?_))); with_reducible apply WL.nil) | refine W.condT (h := ?_) | refine W.condF (h := ?_))
              refine At.retA (by rw [Tryd.results7]) (he := ?_)
              simp [hB, hL]
            · rw [decide_eq_false hok] at c9 hB
              rw [if_neg hok] at hL
              repeat (first | with_reducible (first | apply W.seq | apply W.block | apply W.skip | apply W.exit | apply W.ret | apply At.seqN | apply At.blkN | apply At.blkE | apply At.blkR | apply At.thenX | apply At.thenR | apply At.blkX rfl) | ((with_reducible apply W.ops); (repeat (first | refine WL.opA hΓ (h := ?_) | refine WL.opX hΓ (h := ?_) | refine WL.opY (h := ?_) | refine WL.opZ (h := ?_))); with_reducible apply WL.nil) | refine W.condT (h := ?_) | refine W.condF (h := ?_))
              refine At.retA (by rw [Tryd.results7]) (he := ?_)
              simp [hB, hL]
        · rw [decide_eq_false hk] at c5
          obtain ⟨hB, hL⟩ := bd_bad (line := line) hbk (fun h => hk h.2.2.2.1)
          clear hbk
          repeat (first | with_reducible (first | apply W.seq | apply W.block | apply W.skip | apply W.exit | apply W.ret | apply At.seqN | apply At.blkN | apply At.blkE | apply At.blkR | apply At.thenX | apply At.thenR | apply At.blkX rfl) | ((with_reducible apply W.ops); (repeat (first | refine WL.opA hΓ (h := ?_) | refine WL.opX hΓ (h := ?_) | refine WL.opY (h := ?_) | refine WL.opZ (h := ?_))); with_reducible apply WL.nil) | refine W.condT (h := ?_) | refine W.condF (h := ?_))
          refine At.retA (by rw [Tryd.results7]) (he := ?_)
          simp [hB, hL]
    · have hsi : ((sigZ line : Nat) : Int) = 43 := by omega
      cases hr : (readZ (numZ line)).2 with
      | false =>
        rw [hr] at c4
        obtain ⟨hB, hL⟩ := bd_bad (line := line) hbk (fun h => by have := h.2.2.1; rw [hr] at this; cases this)
        clear hbk
        repeat (first | with_reducible (first | apply W.seq | apply W.block | apply W.skip | apply W.exit | apply W.ret | apply At.seqN | apply At.blkN | apply At.blkE | apply At.blkR | apply At.thenX | apply At.thenR | apply At.blkX rfl) | ((with_reducible apply W.ops); (repeat (first | refine WL.opA hΓ (h := ?_) | refine WL.opX hΓ (h := ?_) | refine WL.opY (h := ?_) | refine WL.opZ (h := ?_))); with_reducible apply WL.nil) | refine W.condT (h := ?_) | refine W.condF (h := ?_))
        refine At.retA (by rw [Tryd.results7]) (he := ?_)
        simp [hB, hL]
      | true =>
        rw [hr] at c4
        have ham := amtZ_in line hr
        have c5 := mKeyB_eq (keyZ line) (by omega)
        by_cases hk : keyOk (keyZ line)
        · rw [decide_eq_true hk] at c5
          by_cases hmx : 1000000 < amtZ line
          · obtain ⟨hB, hL⟩ := bd_bad (line := line) hbk (fun h => by have := h.2.2.2.2.2; omega)
            clear hbk
            repeat (first | with_reducible (first | apply W.seq | apply W.block | apply W.skip | apply W.exit | apply W.ret | apply At.seqN | apply At.blkN | apply At.blkE | apply At.blkR | apply At.thenX | apply At.thenR | apply At.blkX rfl) | ((with_reducible apply W.ops); (repeat (first | refine WL.opA hΓ (h := ?_) | refine WL.opX hΓ (h := ?_) | refine WL.opY (h := ?_) | refine WL.opZ (h := ?_))); with_reducible apply WL.nil) | refine W.condT (h := ?_) | refine W.condF (h := ?_))
            refine At.retA (by rw [Tryd.results7]) (he := ?_)
            simp [hB, hL]
          · have hG : goodZ l line := ⟨hnb0, by omega, hr, hk, fun h => by omega, by omega⟩
            obtain ⟨hB, hL⟩ := bd_good hbk hG
            have c7 := mBal_eq l (keyZ line) (by omega)
            have hba := bal_in (key := keyZ line) (m := 1000000) (by omega) (l := l) (fun x hx => by
              obtain ⟨j, hj, rfl⟩ := List.getElem_of_mem hx
              have := book_at hbk hj
              omega)
            have hout : outZ l line = setI (keyZ line) (balI (keyZ line) l + amtZ line) l := by unfold outZ; rw [if_neg (by omega), if_pos hs]
            have c8 := mSetI_eq l (keyZ line) (balI (keyZ line) l + amtZ line) ⟨book_asc hbk, by dsimp only; omega⟩
            have hol := setI_len (keyZ line) (balI (keyZ line) l + amtZ line) l
            have hoi := set_ok (key := keyZ line) (n := balI (keyZ line) l + amtZ line) (by omega) hit
            rw [← hout] at c8 hol hoi
            clear hout
            have c9 := mBookB_eq (outZ l line) ⟨hoi, by omega⟩
            have hasc := book_asc hbk
            clear hbk hG hasc
            by_cases hok : bookOk (outZ l line)
            · rw [decide_eq_true hok] at c9 hB
              rw [if_pos hok] at hL
              repeat (first | with_reducible (first | apply W.seq | apply W.block | apply W.skip | apply W.exit | apply W.ret | apply At.seqN | apply At.blkN | apply At.blkE | apply At.blkR | apply At.thenX | apply At.thenR | apply At.blkX rfl) | ((with_reducible apply W.ops); (repeat (first | refine WL.opA hΓ (h := ?_) | refine WL.opX hΓ (h := ?_) | refine WL.opY (h := ?_) | refine WL.opZ (h := ?_))); with_reducible apply WL.nil) | refine W.condT (h := ?_) | refine W.condF (h := ?_))
              refine At.retA (by rw [Tryd.results7]) (he := ?_)
              simp [hB, hL]
            · rw [decide_eq_false hok] at c9 hB
              rw [if_neg hok] at hL
              repeat (first | with_reducible (first | apply W.seq | apply W.block | apply W.skip | apply W.exit | apply W.ret | apply At.seqN | apply At.blkN | apply At.blkE | apply At.blkR | apply At.thenX | apply At.thenR | apply At.blkX rfl) | ((with_reducible apply W.ops); (repeat (first | refine WL.opA hΓ (h := ?_) | refine WL.opX hΓ (h := ?_) | refine WL.opY (h := ?_) | refine WL.opZ (h := ?_))); with_reducible apply WL.nil) | refine W.condT (h := ?_) | refine W.condF (h := ?_))
              refine At.retA (by rw [Tryd.results7]) (he := ?_)
              simp [hB, hL]
        · rw [decide_eq_false hk] at c5
          obtain ⟨hB, hL⟩ := bd_bad (line := line) hbk (fun h => hk h.2.2.2.1)
          clear hbk
          repeat (first | with_reducible (first | apply W.seq | apply W.block | apply W.skip | apply W.exit | apply W.ret | apply At.seqN | apply At.blkN | apply At.blkE | apply At.blkR | apply At.thenX | apply At.thenR | apply At.blkX rfl) | ((with_reducible apply W.ops); (repeat (first | refine WL.opA hΓ (h := ?_) | refine WL.opX hΓ (h := ?_) | refine WL.opY (h := ?_) | refine WL.opZ (h := ?_))); with_reducible apply WL.nil) | refine W.condT (h := ?_) | refine W.condF (h := ?_))
          refine At.retA (by rw [Tryd.results7]) (he := ?_)
          simp [hB, hL]
    · have hsi : ((sigZ line : Nat) : Int) = 62 := by omega
      cases hr : (readZ (numZ line)).2 with
      | false =>
        rw [hr] at c4
        obtain ⟨hB, hL⟩ := bd_bad (line := line) hbk (fun h => by have := h.2.2.1; rw [hr] at this; cases this)
        clear hbk
        repeat (first | with_reducible (first | apply W.seq | apply W.block | apply W.skip | apply W.exit | apply W.ret | apply At.seqN | apply At.blkN | apply At.blkE | apply At.blkR | apply At.thenX | apply At.thenR | apply At.blkX rfl) | ((with_reducible apply W.ops); (repeat (first | refine WL.opA hΓ (h := ?_) | refine WL.opX hΓ (h := ?_) | refine WL.opY (h := ?_) | refine WL.opZ (h := ?_))); with_reducible apply WL.nil) | refine W.condT (h := ?_) | refine W.condF (h := ?_))
        refine At.retA (by rw [Tryd.results7]) (he := ?_)
        simp [hB, hL]
      | true =>
        rw [hr] at c4
        have ham := amtZ_in line hr
        have c5 := mKeyB_eq (keyZ line) (by omega)
        by_cases hk : keyOk (keyZ line)
        · rw [decide_eq_true hk] at c5
          have c6 := mKeyB_eq (toZ line) (by omega)
          have c7 := mBal_eq l (keyZ line) (by omega)
          have hba := bal_in (key := keyZ line) (m := 1000000) (by omega) (l := l) (fun x hx => by
            obtain ⟨j, hj, rfl⟩ := List.getElem_of_mem hx
            have := book_at hbk hj
            omega)
          by_cases ht : keyOk (toZ line)
          · rw [decide_eq_true ht] at c6
            by_cases hgt : balI (keyZ line) l < amtZ line
            · obtain ⟨hB, hL⟩ := bd_bad (line := line) hbk (fun h => by have := (h.2.2.2.2.1 hs).2; omega)
              clear hbk
              repeat (first | with_reducible (first | apply W.seq | apply W.block | apply W.skip | apply W.exit | apply W.ret | apply At.seqN | apply At.blkN | apply At.blkE | apply At.blkR | apply At.thenX | apply At.thenR | apply At.blkX rfl) | ((with_reducible apply W.ops); (repeat (first | refine WL.opA hΓ (h := ?_) | refine WL.opX hΓ (h := ?_) | refine WL.opY (h := ?_) | refine WL.opZ (h := ?_))); with_reducible apply WL.nil) | refine W.condT (h := ?_) | refine W.condF (h := ?_))
              refine At.retA (by rw [Tryd.results7]) (he := ?_)
              simp [hB, hL]
            · by_cases hmx : 1000000 < amtZ line
              · obtain ⟨hB, hL⟩ := bd_bad (line := line) hbk (fun h => by have := h.2.2.2.2.2; omega)
                clear hbk
                repeat (first | with_reducible (first | apply W.seq | apply W.block | apply W.skip | apply W.exit | apply W.ret | apply At.seqN | apply At.blkN | apply At.blkE | apply At.blkR | apply At.thenX | apply At.thenR | apply At.blkX rfl) | ((with_reducible apply W.ops); (repeat (first | refine WL.opA hΓ (h := ?_) | refine WL.opX hΓ (h := ?_) | refine WL.opY (h := ?_) | refine WL.opZ (h := ?_))); with_reducible apply WL.nil) | refine W.condT (h := ?_) | refine W.condF (h := ?_))
                refine At.retA (by rw [Tryd.results7]) (he := ?_)
                simp [hB, hL]
              · have hG : goodZ l line := ⟨hnb0, by omega, hr, hk, fun _ => ⟨ht, by omega⟩, by omega⟩
                obtain ⟨hB, hL⟩ := bd_good hbk hG
                have hout : outZ l line = setI (toZ line) (balI (toZ line) (setI (keyZ line) (balI (keyZ line) l - amtZ line) l) + amtZ line) (setI (keyZ line) (balI (keyZ line) l - amtZ line) l) := by unfold outZ; rw [if_neg (by omega), if_neg (by omega)]
                have c8 := mSetI_eq l (keyZ line) (balI (keyZ line) l - amtZ line) ⟨book_asc hbk, by dsimp only; omega⟩
                have hol1 := setI_len (keyZ line) (balI (keyZ line) l - amtZ line) l
                have hoi1 := set_ok (key := keyZ line) (n := balI (keyZ line) l - amtZ line) (by omega) hit
                have has1 := setI_asc (key := keyZ line) (n := balI (keyZ line) l - amtZ line) (book_asc hbk)
                have hba1 := bal_in (key := toZ line) (m := 2000000000) (by omega) (l := setI (keyZ line) (balI (keyZ line) l - amtZ line) l) (fun x hx => by
                  rcases setI_id hx with rfl | hx
                  · dsimp only; omega
                  · obtain ⟨j, hj, rfl⟩ := List.getElem_of_mem hx
                    have := book_at hbk hj
                    omega)
                generalize setI (keyZ line) (balI (keyZ line) l - amtZ line) l = o1 at *
                have c10 := mBal_eq o1 (toZ line) (by omega)
                have c11 := mSetI_eq o1 (toZ line) (balI (toZ line) o1 + amtZ line) ⟨has1, by dsimp only; omega⟩
                have hol := setI_len (toZ line) (balI (toZ line) o1 + amtZ line) o1
                have hoi := set_ok (key := toZ line) (n := balI (toZ line) o1 + amtZ line) (by omega) hoi1
                rw [← hout] at c11 hol hoi
                clear hout has1 hoi1
                have c9 := mBookB_eq (outZ l line) ⟨hoi, by omega⟩
                have hasc := book_asc hbk
                clear hbk hG hasc
                by_cases hok : bookOk (outZ l line)
                · rw [decide_eq_true hok] at c9 hB
                  rw [if_pos hok] at hL
                  repeat (first | with_reducible (first | apply W.seq | apply W.block | apply W.skip | apply W.exit | apply W.ret | apply At.seqN | apply At.blkN | apply At.blkE | apply At.blkR | apply At.thenX | apply At.thenR | apply At.blkX rfl) | ((with_reducible apply W.ops); (repeat (first | refine WL.opA hΓ (h := ?_) | refine WL.opX hΓ (h := ?_) | refine WL.opY (h := ?_) | refine WL.opZ (h := ?_))); with_reducible apply WL.nil) | refine W.condT (h := ?_) | refine W.condF (h := ?_))
                  refine At.retA (by rw [Tryd.results7]) (he := ?_)
                  simp [hB, hL]
                · rw [decide_eq_false hok] at c9 hB
                  rw [if_neg hok] at hL
                  repeat (first | with_reducible (first | apply W.seq | apply W.block | apply W.skip | apply W.exit | apply W.ret | apply At.seqN | apply At.blkN | apply At.blkE | apply At.blkR | apply At.thenX | apply At.thenR | apply At.blkX rfl) | ((with_reducible apply W.ops); (repeat (first | refine WL.opA hΓ (h := ?_) | refine WL.opX hΓ (h := ?_) | refine WL.opY (h := ?_) | refine WL.opZ (h := ?_))); with_reducible apply WL.nil) | refine W.condT (h := ?_) | refine W.condF (h := ?_))
                  refine At.retA (by rw [Tryd.results7]) (he := ?_)
                  simp [hB, hL]
          · rw [decide_eq_false ht] at c6
            obtain ⟨hB, hL⟩ := bd_bad (line := line) hbk (fun h => ht (h.2.2.2.2.1 hs).1)
            clear hbk
            repeat (first | with_reducible (first | apply W.seq | apply W.block | apply W.skip | apply W.exit | apply W.ret | apply At.seqN | apply At.blkN | apply At.blkE | apply At.blkR | apply At.thenX | apply At.thenR | apply At.blkX rfl) | ((with_reducible apply W.ops); (repeat (first | refine WL.opA hΓ (h := ?_) | refine WL.opX hΓ (h := ?_) | refine WL.opY (h := ?_) | refine WL.opZ (h := ?_))); with_reducible apply WL.nil) | refine W.condT (h := ?_) | refine W.condF (h := ?_))
            refine At.retA (by rw [Tryd.results7]) (he := ?_)
            simp [hB, hL]
        · rw [decide_eq_false hk] at c5
          obtain ⟨hB, hL⟩ := bd_bad (line := line) hbk (fun h => hk h.2.2.2.1)
          clear hbk
          repeat (first | with_reducible (first | apply W.seq | apply W.block | apply W.skip | apply W.exit | apply W.ret | apply At.seqN | apply At.blkN | apply At.blkE | apply At.blkR | apply At.thenX | apply At.thenR | apply At.blkX rfl) | ((with_reducible apply W.ops); (repeat (first | refine WL.opA hΓ (h := ?_) | refine WL.opX hΓ (h := ?_) | refine WL.opY (h := ?_) | refine WL.opZ (h := ?_))); with_reducible apply WL.nil) | refine W.condT (h := ?_) | refine W.condF (h := ?_))
          refine At.retA (by rw [Tryd.results7]) (he := ?_)
          simp [hB, hL]
  · rw [decide_eq_false hbk] at c1
    have hB : bdB l line = false := by unfold bdB; simp [hbk]
    have hL : bdL l line = [] := by unfold bdL; rw [hB, if_neg (by simp), if_neg hbk]
    simp only [initS, argPV, List.map_cons, List.map_nil, toPL, Nat.zero_add]
    repeat (first | with_reducible (first | apply W.seq | apply W.block | apply W.skip | apply W.exit | apply W.ret | apply At.seqN | apply At.blkN | apply At.blkE | apply At.blkR | apply At.thenX | apply At.thenR | apply At.blkX rfl) | ((with_reducible apply W.ops); (repeat (first | refine WL.opA hΓ (h := ?_) | refine WL.opX hΓ (h := ?_) | refine WL.opY (h := ?_) | refine WL.opZ (h := ?_))); with_reducible apply WL.nil) | refine W.condT (h := ?_) | refine W.condF (h := ?_))
    refine At.retA (by rw [Tryd.results7]) (he := ?_)
    simp [hB, hL]
    rfl
end Go.Proofs.YtimnogjgokljbaaDoor
