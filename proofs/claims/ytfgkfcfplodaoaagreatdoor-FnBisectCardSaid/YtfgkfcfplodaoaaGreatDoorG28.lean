/-
  Put together: PEvBisA PEvHdF PEvBkL PEvBkS.
-/
import Derived.Test.YtfgkfcfplodaoaaGreatDoorHPEvVerify
import Derived.Test.YtfgkfcfplodaoaaGreatDoorG11
import Derived.Test.YtfgkfcfplodaoaaGreatDoorG15
import Derived.Test.YtfgkfcfplodaoaaGreatDoorHPEvSkip
import Derived.Test.YtfgkfcfplodaoaaGreatDoorG12
section
/-!
  Blocks as rows of rows; a block of a height.
-/
namespace Go.Proofs.YtfgkfcfplodaoaaGreatDoor
set_option maxRecDepth 100000
set_option linter.unusedVariables false
set_option linter.unusedSimpArgs false
open Go Go.RowKit
set_option maxHeartbeats 8000000
set_option linter.unusedVariables false
set_option linter.unusedSimpArgs false

abbrev bkRow (b : TBlock) : List Leaf := [.sc (.int .i64 b.1.1), .sc (.int .i64 b.1.2.1), .sc (.string b.1.2.2.1), .sc (.string b.1.2.2.2.1), .sc (.string b.1.2.2.2.2.1), .sc (.string b.1.2.2.2.2.2), .sl (rowsF cVal b.2.1), .sl (rowsF cVal b.2.2.1), .sc (.int .i64 b.2.2.2.1), .sc (.int .i64 b.2.2.2.2.1), .sc (.string b.2.2.2.2.2.1), .sl (rowsF cCSig b.2.2.2.2.2.2)]
def bkRows (l : List TBlock) : List (List Leaf) := l.map bkRow
abbrev aBS (l : List TBlock) : Arg := .val false [.sl (bkRows l)]
theorem bkRows_len (l : List TBlock) : (bkRows l).length = l.length := List.length_map _
theorem bkRows_get {l : List TBlock} {k : Nat} (h : k < l.length) : (bkRows l)[k]? = some (bkRow l[k]) := by simp [bkRows, h]
theorem bkRow_inj {a b : TBlock} (h : bkRow a = bkRow b) : a = b := aBk_inj a b (by rw [show aBk a = .val true (bkRow a) from rfl, show aBk b = .val true (bkRow b) from rfl, h])
theorem bkRows_inj {a b : List TBlock} (h : bkRows a = bkRows b) : a = b := (List.map_inj_right fun x y h => bkRow_inj h).1 h
theorem aBS_inj : ∀ x y : List TBlock, [aBS x] = [aBS y] → x = y := fun x y h => bkRows_inj (by simpa [aBS] using h)
theorem bkRows_wid (l : List TBlock) : wid 12 (bkRows l) := fun row hr => by
  obtain ⟨e, _, rfl⟩ := List.mem_map.1 hr
  rfl
/-- where a block of a height stands -/
def bkP (h : Int) (b : TBlock) : Bool := decide (b.1.1 = h)
def bkAt (l : List TBlock) (h : Int) : Int := idxP (bkP h) l
theorem bkAt_cases (l : List TBlock) (h : Int) : (∃ k, ∃ hk : k < l.length, bkAt l h = (k : Int) ∧ l[k].1.1 = h ∧ ∀ j, (hj : j < k) → l[j].1.1 ≠ h) ∨ (bkAt l h = -1 ∧ ∀ j, (hj : j < l.length) → l[j].1.1 ≠ h) := by
  unfold bkAt idxP
  by_cases hf : l.findIdx (bkP h) < l.length
  · left
    rw [if_pos hf]
    refine ⟨_, hf, rfl, ?_, fun j hj => ?_⟩
    · have := List.findIdx_getElem (w := hf)
      exact of_decide_eq_true this
    · have := List.not_of_lt_findIdx hj
      intro e
      simp [bkP, e] at this
  · right
    rw [if_neg hf]
    exact ⟨rfl, fun j hj e => hf (List.findIdx_lt_length_of_exists ⟨l[j], List.getElem_mem hj, decide_eq_true e⟩)⟩
noncomputable def mBkP := mdl (fun _ : TBlock × Int => True) (fun x => [aBk x.1, .row [.sc (.int .i64 x.2)] 0]) (fun x => rB (bkP x.2 x.1))
theorem mBkP_eq (b : TBlock) (h : Int) : mBkP [aBk b, .row [.sc (.int .i64 h)] 0] = some (rB (bkP h b)) := mdl_eq (by
  rintro ⟨b, h⟩ ⟨b', h'⟩ e
  simp only [List.cons.injEq, and_true] at e
  have e1 := aBk_inj b b' (by rw [e.1])
  have e2 : h = h' := by simpa using e.2
  rw [e1, e2]) (b, h) trivial
theorem bkP_s : Sound Tryz.prog 117 mBkP := by
  refine Sound.mdl Tryz.func117 rfl Tryz.ntmps117 ?_
  rintro ⟨⟨⟨h, t, la, va, ne, da⟩, l, n, ⟨ch, cr, ci, cs⟩⟩, q⟩ w -
  refine ⟨by simp, ?_⟩
  have hΓ : GSound Tryz.prog (look []) := env_nil
  simp only [initS, argPV, List.map_cons, List.map_nil, toPL, Nat.zero_add]
  refine zR ?_
  refine At.retA (by rw [Tryz.results117]) (he := rfl)
noncomputable def mIdxBk (f : FuncId) (boxes : List (List Leaf)) (p : TBlock → Bool) := mdl (fun l : List TBlock => l.length ≤ 8796093022207) (fun l => [aBS l, .clo f boxes]) (fun l => rI (idxP p l))
theorem mIdxBk_eq (f : FuncId) (boxes : List (List Leaf)) (p : TBlock → Bool) (l : List TBlock) (h : l.length ≤ 8796093022207) : mIdxBk f boxes p [aBS l, .clo f boxes] = some (rI (idxP p l)) := mdl_eq (by
  intro a b h
  simp only [List.cons.injEq, and_true] at h
  exact aBS_inj a b (by rw [h])) l h
theorem idxBk_s {f : FuncId} {boxes : List (List Leaf)} {p : TBlock → Bool} {mf : List Arg → Option Res} (hf : Has Tryz.prog f) (hs : Sound Tryz.prog f mf) (hm : ∀ x, mf ([aBk x] ++ boxes.map fun c => .row c 0) = some (rB (p x))) : Sound Tryz.prog 116 (mIdxBk f boxes p) := by
  refine Sound.mdl Tryz.func116 rfl Tryz.ntmps116 ?_
  rintro l w hl
  refine ⟨by simp, ?_⟩
  replace hl : l.length ≤ 8796093022207 := hl
  have hΓ : GSound Tryz.prog (look [(f, mf)]) := env_cons hf hs env_nil
  clear hs hf
  have hlen := bkRows_len l
  simp only [initS, argPV, List.map_cons, List.map_nil, toPL, Nat.zero_add]
  refine zR ?_
  refine W.loopA (fun k => k ≤ l.length ∧ ∀ j, (h : j < k) → ∀ hj : j < l.length, p l[j] = false) (fun k : Nat => [.slot 8 (vI k), .slot 7 (vI l.length), .slot 0 (one (.sl (bkRows l))), .slot 1 (one (.clo f boxes))]) (fun k => l.length - k) 0 ⟨Nat.zero_le _, fun j hj => by omega⟩ (h := ?_)
  rintro k ⟨hk, hn⟩
  by_cases hlt : k < l.length
  · have hrow := bkRows_get hlt
    have hm := hm l[k]
    simp only [List.cons_append, List.nil_append] at hm
    cases hp : p l[k] with
    | true =>
      have hv := idxP_at (p := p) hlt (fun j hj => hn j hj _) hp
      rw [hp] at hm
      clear hn hp
      generalize l[k] = x at hrow hm
      obtain ⟨⟨h, t, la, va, ne, da⟩, x1, x2, ⟨ch, cr, ci, cs⟩⟩ := x
      dsimp only [aBk, bkRow] at hm hrow
      refine zR ?_
      refine At.retA (by rw [Tryz.results116]) (he := ?_)
      rw [hv]
    | false =>
      have hnx : ∀ j, (h : j < k + 1) → ∀ hj : j < l.length, p l[j] = false := fun j h hj => by
        rcases Nat.lt_or_ge j k with h1 | h1
        · exact hn j h1 hj
        · have : j = k := by omega
          subst this
          exact hp
      rw [hp] at hm
      clear hn hp
      generalize l[k] = x at hrow hm
      obtain ⟨⟨h, t, la, va, ne, da⟩, x1, x2, ⟨ch, cr, ci, cs⟩⟩ := x
      dsimp only [aBk, bkRow] at hm hrow
      refine zR ?_
      exact At.roundA (k + 1) ⟨by omega, hnx⟩ (by omega)
  · have hv := idxP_no (p := p) (l := l) (fun j hj => hn j (by omega) hj)
    clear hn
    refine zR ?_
    refine At.retA (by rw [Tryz.results116]) (he := ?_)
    rw [hv]
noncomputable def mBkAt := mdl (fun x : List TBlock × Int => x.1.length ≤ 8796093022207) (fun x => [aBS x.1, aI x.2]) (fun x => rI (bkAt x.1 x.2))
theorem mBkAt_eq (l : List TBlock) (h : Int) (hl : l.length ≤ 8796093022207) : mBkAt [aBS l, aI h] = some (rI (bkAt l h)) := mdl_eq (by
  rintro ⟨a, b⟩ ⟨d, e⟩ h
  simp only [List.cons.injEq, and_true] at h
  have e1 := aBS_inj a d (by rw [h.1])
  have e2 : b = e := by simpa using h.2
  rw [e1, e2]) (l, h) hl
theorem bkAt_s : Sound Tryz.prog 59 mBkAt := by
  refine Sound.mdl Tryz.func59 rfl Tryz.ntmps59 ?_
  rintro ⟨l, h⟩ w hl
  refine ⟨by simp, ?_⟩
  replace hl : l.length ≤ 8796093022207 := hl
  have hΓ : GSound Tryz.prog (look [(116, mIdxBk 117 [[.sc (.int .i64 h)]] (bkP h))]) := env_cons (has_of Tryz.func116 rfl rfl) (idxBk_s (has_of Tryz.func117 rfl rfl) bkP_s (fun x => mBkP_eq x h)) env_nil
  have c := mIdxBk_eq 117 [[.sc (.int .i64 h)]] (bkP h) l hl
  simp only [initS, argPV, List.map_cons, List.map_nil, toPL, Nat.zero_add]
  refine zR ?_
  refine At.retA (by rw [Tryz.results59]) (he := rfl)
/-! spec's l32At hands out what stands in its argument: for every owner map -/
def zBlock : List Value := [.int .i64 0, .int .i64 0, .string ByteArray.empty, .string ByteArray.empty, .string ByteArray.empty, .string ByteArray.empty, .slice none 0 0, .slice none 0 0, .int .i64 0, .int .i64 0, .string ByteArray.empty, .slice none 0 0]
def AtPost (γ : Nat → Option Nat) (l : List TBlock) (h : Int) (w : World) (e : Ending) (w' : World) : Prop :=
  Below w.heap.size w w' ∧ ((∃ (k : Nat) (us : List Value) (hk : k < l.length), l[k].1.1 = h ∧ (∀ j, (hj : j < k) → l[j].1.1 ≠ h) ∧ e = .returned (.tuple #[.agg us.toArray, .bool true]) ∧ RepLs w γ (bkRow l[k]) us) ∨
    ((∀ j, (hj : j < l.length) → l[j].1.1 ≠ h) ∧ e = .returned (.tuple #[.agg zBlock.toArray, .bool false])))
/-- what the cells of a block's row are -/
structure BkV (b : TBlock) (u : Nat → Value) : Prop where
  v0 : u 0 = .int .i64 b.1.1
  v1 : u 1 = .int .i64 b.1.2.1
  v2 : u 2 = .string b.1.2.2.1
  v3 : u 3 = .string b.1.2.2.2.1
  v4 : u 4 = .string b.1.2.2.2.2.1
  v5 : u 5 = .string b.1.2.2.2.2.2
  v6 : ∃ A n c, u 6 = .slice A n c
  v7 : ∃ A n c, u 7 = .slice A n c
  v8 : u 8 = .int .i64 b.2.2.2.1
  v9 : u 9 = .int .i64 b.2.2.2.2.1
  v10 : u 10 = .string b.2.2.2.2.2.1
  v11 : ∃ A n c, u 11 = .slice A n c
theorem at_raw (b off c : Nat) (l : List TBlock) (val : Nat → Nat → Value) (h : Int) (w : World) (hb : b < w.heap.size) (hl : l.length ≤ 8796093022207)
    (hc : ∀ k j, k < l.length → j < 12 → w.cell? ⟨b, off + k * 12 + j, none⟩ = some (val k j)) (hh : ∀ k, (hk : k < l.length) → BkV l[k] (val k)) :
    Calls Tryz.prog 64 #[.slice (some ⟨b, off, none⟩) l.length c, .int .i64 h] w fun e w' => Below w.heap.size w w' ∧ ((∃ (k : Nat) (hk : k < l.length), l[k].1.1 = h ∧ (∀ j, (hj : j < k) → l[j].1.1 ≠ h) ∧ e = .returned (.tuple #[.agg #[val k 0, val k 1, val k 2, val k 3, val k 4, val k 5, val k 6, val k 7, val k 8, val k 9, val k 10, val k 11], .bool true])) ∨
      ((∀ j, (hj : j < l.length) → l[j].1.1 ≠ h) ∧ e = .returned (.tuple #[.agg zBlock.toArray, .bool false]))) := by
  go_enter Tryz.func64, Tryz.ntmps64
  go_wp2_with fail
  go_loopw [6] (fun i wr => ∃ k : Nat, k ≤ l.length ∧ i = .int .i64 k ∧ (∀ j, j < k → ∀ hj : j < l.length, l[j].1.1 ≠ h) ∧ wr = w.alloc (.cells #[.int .i64 0, .int .i64 0, .string ByteArray.empty, .string ByteArray.empty, .string ByteArray.empty, .string ByteArray.empty, .slice none 0 0, .slice none 0 0, .int .i64 0, .int .i64 0, .string ByteArray.empty, .slice none 0 0] 36)) (fun i _ => l.length - (intOf i).toNat)
  case atStart => exact ⟨0, Nat.zero_le _, rfl, fun j hj => by omega, rfl⟩
  case round =>
    obtain ⟨k, hk, rfl, hn, rfl⟩ := hrel
    have HN := Lib.hid hn
    clear hn
    by_cases hlt : k < l.length
    · have hcc : ∀ j, j < 12 → (w.alloc (.cells #[.int .i64 0, .int .i64 0, .string ByteArray.empty, .string ByteArray.empty, .string ByteArray.empty, .string ByteArray.empty, .slice none 0 0, .slice none 0 0, .int .i64 0, .int .i64 0, .string ByteArray.empty, .slice none 0 0] 36)).cell? ⟨b, off + k * 12 + j, none⟩ = some (val k j) := fun j hj => by
        rw [← hc k j hlt hj]
        exact World.cell?_alloc_old _ _ _ (Nat.ne_of_lt hb)
      have f0 := hcc 0 (by omega)
      have f1 := hcc 1 (by omega)
      have f2 := hcc 2 (by omega)
      have f3 := hcc 3 (by omega)
      have f4 := hcc 4 (by omega)
      have f5 := hcc 5 (by omega)
      have f6 := hcc 6 (by omega)
      have f7 := hcc 7 (by omega)
      have f8 := hcc 8 (by omega)
      have f9 := hcc 9 (by omega)
      have f10 := hcc 10 (by omega)
      have f11 := hcc 11 (by omega)
      have hv := hh k hlt
      obtain ⟨A6, n6, c6, e6⟩ := hv.v6
      obtain ⟨A7, n7, c7, e7⟩ := hv.v7
      obtain ⟨A11, n11, c11, e11⟩ := hv.v11
      have hus : #[val k 0, val k 1, val k 2, val k 3, val k 4, val k 5, val k 6, val k 7, val k 8, val k 9, val k 10, val k 11] = #[.int .i64 l[k].1.1, .int .i64 l[k].1.2.1, .string l[k].1.2.2.1, .string l[k].1.2.2.2.1, .string l[k].1.2.2.2.2.1, .string l[k].1.2.2.2.2.2, .slice A6 n6 c6, .slice A7 n7 c7, .int .i64 l[k].2.2.2.1, .int .i64 l[k].2.2.2.2.1, .string l[k].2.2.2.2.2.1, .slice A11 n11 c11] := by
        rw [hv.v0, hv.v1, hv.v2, hv.v3, hv.v4, hv.v5, e6, e7, hv.v8, hv.v9, hv.v10, e11]
      rw [hv.v0] at f0
      rw [hv.v1] at f1
      rw [hv.v2] at f2
      rw [hv.v3] at f3
      rw [hv.v4] at f4
      rw [hv.v5] at f5
      rw [e6] at f6
      rw [e7] at f7
      rw [hv.v8] at f8
      rw [hv.v9] at f9
      rw [hv.v10] at f10
      rw [e11] at f11
      simp only [Nat.add_zero] at f0
      have HV := Lib.hid hus
      clear hcc hv hus e6 e7 e11
      by_cases hq : l[k].1.1 = h
      · have hqd : (l[k].1.1 == h) = true := by simpa using hq
        have HQ := Lib.hid hq
        clear hq
        go_wp2_with fail
        go_returns
        exact ⟨show Below _ _ _ by go_grown, .inl ⟨k, hlt, HQ.out, fun j hj => HN.out j hj (by omega), by rw [HV.out]⟩⟩
      · have hqd : (l[k].1.1 == h) = false := by simpa using hq
        have HQ := Lib.hid hq
        clear hq
        go_wp2_with fail
        go_roundw
        case rel => exact ⟨k + 1, by omega, by go_num, fun j hj hl => by
          rcases Nat.lt_succ_iff_lt_or_eq.1 hj with h1 | rfl
          · exact HN.out j h1 hl
          · exact HQ.out, trivial⟩
        case measure => simp [intOf]; omega
    · go_wp2_with fail
      go_returns
      exact ⟨show Below _ _ _ by go_grown, .inr ⟨fun j hj => HN.out j (by omega) hj, rfl⟩⟩
theorem at_raw0 (A : Option Addr) (c : Nat) (h : Int) (w : World) : Calls Tryz.prog 64 #[.slice A 0 c, .int .i64 h] w fun e w' => Below w.heap.size w w' ∧ e = .returned (.tuple #[.agg zBlock.toArray, .bool false]) := by
  go_enter Tryz.func64, Tryz.ntmps64
  go_wp2_with fail
  refine wp_loop_rounds 1 ?_
  rw [rounds_succ]
  go_wp2_with fail
  go_returns
  exact ⟨show Below _ _ _ by go_grown, rfl⟩
section
variable {w : World} {γ : Nat → Option Nat}
theorem rlCa {l : Leaf} {u : Value} {ls : List Leaf} {us : List Value} (h : RepL w γ l u) (hs : RepLs w γ ls us) : RepLs w γ (l :: ls) (u :: us) :=
  ⟨by rw [List.length_cons, List.length_cons, hs.1], fun j x hj => by
    cases j with
    | zero => cases hj; exact ⟨u, rfl, h⟩
    | succ j => exact hs.2 j x hj⟩
theorem rlNa : RepLs w γ [] [] := ⟨rfl, fun j x hj => by cases hj⟩
theorem sl_shape {rows : List (List Leaf)} {u : Value} (h : RepL w γ (.sl rows) u) : ∃ A n c, u = .slice A n c := by
  cases h with
  | emp _ => exact ⟨_, _, _, rfl⟩
  | sl _ _ _ _ _ _ _ _ => exact ⟨_, _, _, rfl⟩
theorem sc_val {v u : Value} (h : RepL w γ (.sc v) u) : u = v := by
  cases h
  rfl
end
theorem at_rep {γ : Nat → Option Nat} {v : Value} {l : List TBlock} (h : Int) {w : World} (hr : RepL w γ (.sl (bkRows l)) v) (hl : l.length ≤ 8796093022207) : Calls Tryz.prog 64 #[v, .int .i64 h] w (AtPost γ l h w) := by
  have hlen := bkRows_len l
  generalize hg : bkRows l = rows at hr hlen
  cases hr with
  | @emp A c hc =>
    have : l = [] := List.length_eq_zero_iff.1 hlen.symm
    subst this
    exact (at_raw0 A c h w).mono fun e w' ⟨h1, h2⟩ => ⟨h1, .inr ⟨fun j hj => by simp at hj, h2⟩⟩
  | @sl _ b off s cap val g1 g2 g3 g4 g5 g6 g7 =>
    rw [hlen]
    have hrow : ∀ k, (hk : k < l.length) → rows[k]? = some (bkRow l[k]) := fun k hk => by rw [← hg]; exact bkRows_get hk
    by_cases hne : l = []
    · subst hne
      exact (at_raw0 _ cap h w).mono fun e w' ⟨h1, h2⟩ => ⟨h1, .inr ⟨fun j hj => by simp at hj, h2⟩⟩
    · have hp : 0 < l.length := List.length_pos_iff.2 hne
      have hs : s = 12 := (g5 _ (List.mem_of_getElem? (hrow 0 hp))).symm
      subst hs
      have hget : ∀ k, k < l.length → ∀ j x, (bkRow (l.getD k ((0, 0, ByteArray.empty, ByteArray.empty, ByteArray.empty, ByteArray.empty), [], [], (0, 0, ByteArray.empty, []))))[j]? = some x → w.cell? ⟨b, off + k * 12 + j, none⟩ = some (val k j) ∧ RepL w γ x (val k j) := fun k hk j x hx => by
        rw [List.getD_eq_getElem?_getD, List.getElem?_eq_getElem hk, Option.getD_some] at hx
        exact ⟨g6 k _ j x (hrow k hk) hx, g7 k _ j x (hrow k hk) hx⟩
      have hD : ∀ k, (hk : k < l.length) → l.getD k ((0, 0, ByteArray.empty, ByteArray.empty, ByteArray.empty, ByteArray.empty), [], [], (0, 0, ByteArray.empty, [])) = l[k] := fun k hk => by rw [List.getD_eq_getElem?_getD, List.getElem?_eq_getElem hk, Option.getD_some]
      have hR : ∀ k, (hk : k < l.length) → ∀ j x, (bkRow l[k])[j]? = some x → RepL w γ x (val k j) := fun k hk j x hx => (hget k hk j x (by rw [hD k hk]; exact hx)).2
      refine (at_raw b off cap l val h w g2 hl (fun k j hk hj => ?_) fun k hk => ?_).mono fun e w' ⟨h1, h2⟩ => ⟨h1, ?_⟩
      · have hj' : j < (bkRow l[k]).length := hj
        exact (hget k hk j _ (by rw [hD k hk]; exact List.getElem?_eq_getElem hj')).1
      · exact ⟨sc_val (hR k hk 0 _ rfl), sc_val (hR k hk 1 _ rfl), sc_val (hR k hk 2 _ rfl), sc_val (hR k hk 3 _ rfl), sc_val (hR k hk 4 _ rfl), sc_val (hR k hk 5 _ rfl), sl_shape (hR k hk 6 _ rfl), sl_shape (hR k hk 7 _ rfl), sc_val (hR k hk 8 _ rfl), sc_val (hR k hk 9 _ rfl), sc_val (hR k hk 10 _ rfl), sl_shape (hR k hk 11 _ rfl)⟩
      · rcases h2 with ⟨k, hk, e1, e2, e3⟩ | h2
        · refine .inl ⟨k, [val k 0, val k 1, val k 2, val k 3, val k 4, val k 5, val k 6, val k 7, val k 8, val k 9, val k 10, val k 11], hk, e1, e2, e3, ?_⟩
          have q := hR k hk
          exact rlCa (q 0 _ rfl) (rlCa (q 1 _ rfl) (rlCa (q 2 _ rfl) (rlCa (q 3 _ rfl) (rlCa (q 4 _ rfl) (rlCa (q 5 _ rfl) (rlCa (q 6 _ rfl) (rlCa (q 7 _ rfl) (rlCa (q 8 _ rfl) (rlCa (q 9 _ rfl) (rlCa (q 10 _ rfl) (rlCa (q 11 _ rfl) rlNa)))))))))))
        · exact .inr h2
section
variable {P : Program} {γ0 : Nat → Option Nat} {w0 : World} {N : Nat} {st : St} {a : Act} {w : World} {η : Nat → Value} {γ : Nat → Option Nat} {Q : Exit → Act → World → Prop}
/-- new blocks were laid -/
theorem Inv.later (h : Inv γ0 w0 N st a w η γ) (w' : World) (hb : Below w.heap.size w w') : Inv γ0 w0 N st a w' η γ := by
  have hk : Kp w w' γ γ := ⟨hb.size, fun b hlt hg => ⟨hg, hb.block b hlt⟩⟩
  have hn : Nm (getB st) (getB st) η η fun _ => True := fun m b _ hb => ⟨rfl, by cases b with | arr fl e s rows => exact ⟨fl, rows, hb, rfl⟩ | box ls => exact ⟨ls, hb⟩⟩
  refine { h with slots := fun t => (h.slots t).kp hn hk, blks := fun n b hbn => ?_, live := fun b n hbn => ⟨Nat.lt_of_lt_of_le (h.live b n hbn).1 hb.size, (h.live b n hbn).2⟩, low := fun b hlt hg => ⟨(h.low b hlt hg).1, (hb.block b (Nat.lt_of_lt_of_le hlt h.size)).trans (h.low b hlt hg).2⟩, os := hb.os.trans h.os, tape := hb.tape.trans h.tape, output := hb.output.trans h.output, size := Nat.le_trans h.size hb.size }
  have h1 := h.blks n b hbn
  cases b with
  | box ls =>
    obtain ⟨b, us, t, h2, h3, h4, h5⟩ := h1
    exact ⟨b, us, t, h2, h3, (hb.block b (heap_lt h4)).trans h4, h5.kp hn hk⟩
  | arr fl e s rows =>
    obtain ⟨xs, h2, h3, h4, h5⟩ := h1
    exact ⟨xs, owns_same h2 (fun b hob => hb.block b (h.live b n (h5.1 b hob)).1), h3.kp (hk.vw fun b hg => ⟨hg, hb.block b (h.live b n hg).1⟩), h4, h5.1, h5.2.kpW (fun _ h => h) fun b hg _ => hb.block b (h.live b n hg).1⟩
end
abbrev bkPL (b : TBlock) : List PL := [.sc (.int .i64 b.1.1), .sc (.int .i64 b.1.2.1), .sc (.string b.1.2.2.1), .sc (.string b.1.2.2.2.1), .sc (.string b.1.2.2.2.2.1), .sc (.string b.1.2.2.2.2.2), .sl (rowsF cVal b.2.1), .sl (rowsF cVal b.2.2.1), .sc (.int .i64 b.2.2.2.1), .sc (.int .i64 b.2.2.2.2.1), .sc (.string b.2.2.2.2.2.1), .sl (rowsF cCSig b.2.2.2.2.2.2)]
abbrev zPL : List PL := [.sc (.int .i64 0), .sc (.int .i64 0), .sc (.string ByteArray.empty), .sc (.string ByteArray.empty), .sc (.string ByteArray.empty), .sc (.string ByteArray.empty), .nil, .nil, .sc (.int .i64 0), .sc (.int .i64 0), .sc (.string ByteArray.empty), .nil]
/-- a leaf as a cell of the frame -/
def plL : Leaf → PL
  | .sc v => .sc v
  | .sl rows => .sl rows
theorem plL_rep {hb : Nat → Option Blk} {η : Nat → Value} {γ : Nat → Option Nat} {w : World} {l : Leaf} {u : Value} (h : RepL w γ l u) : RepP hb η γ w (plL l) u := by
  cases l with
  | sc v => cases h with | sc h1 => exact ⟨rfl, h1⟩
  | sl rows => exact h
theorem plLs_rep {hb : Nat → Option Blk} {η : Nat → Value} {γ : Nat → Option Nat} {w : World} {ls : List Leaf} {us : List Value} (h : RepLs w γ ls us) : RepPs hb η γ w (ls.map plL) us :=
  ⟨by rw [List.length_map]; exact h.1, fun j l hj => by
    rw [List.getElem?_map] at hj
    obtain ⟨x, hx, rfl⟩ := Option.map_eq_some_iff.1 hj
    obtain ⟨u, h1, h2⟩ := h.2 j x hx
    exact ⟨u, h1, plL_rep h2⟩⟩
theorem rpC {hb : Nat → Option Blk} {η : Nat → Value} {γ : Nat → Option Nat} {w : World} {l : PL} {u : Value} {ls : List PL} {us : List Value} (h : RepP hb η γ w l u) (hs : RepPs hb η γ w ls us) : RepPs hb η γ w (l :: ls) (u :: us) :=
  ⟨by rw [List.length_cons, List.length_cons, hs.1], fun j x hj => by
    cases j with
    | zero => cases hj; exact ⟨u, rfl, h⟩
    | succ j => exact hs.2 j x hj⟩
theorem rpN {hb : Nat → Option Blk} {η : Nat → Value} {γ : Nat → Option Nat} {w : World} : RepPs hb η γ w [] [] := ⟨rfl, fun j x hj => by cases hj⟩
theorem zPL_rep {hb : Nat → Option Blk} {η : Nat → Value} {γ : Nat → Option Nat} {w : World} : RepPs hb η γ w zPL zBlock :=
  rpC ⟨rfl, rfl⟩ (rpC ⟨rfl, rfl⟩ (rpC ⟨rfl, rfl⟩ (rpC ⟨rfl, rfl⟩ (rpC ⟨rfl, rfl⟩ (rpC ⟨rfl, rfl⟩ (rpC rfl (rpC rfl (rpC ⟨rfl, rfl⟩ (rpC ⟨rfl, rfl⟩ (rpC ⟨rfl, rfl⟩ (rpC rfl rpN)))))))))))
theorem tupB_rep {hb : Nat → Option Blk} {η : Nat → Value} {γ : Nat → Option Nat} {w : World} {ls : List PL} {us : List Value} {b : Bool} (h : RepPs hb η γ w ls us) : RepV hb η γ w (.tup [(true, ls), (false, [.sc (.bool b)])]) (.tuple #[.agg us.toArray, .bool b]) := by
  refine ⟨[.agg us.toArray, .bool b], rfl, rfl, fun j g l hj => ?_⟩
  match j, hj with
  | 0, hj => cases hj; exact ⟨_, rfl, us, rfl, h⟩
  | 1, hj => cases hj; exact ⟨_, rfl, .sc (.bool b), rfl, rfl, rfl⟩
  | j + 2, hj => simp at hj
section
variable {γ0 : Nat → Option Nat} {w0 : World} {N : Nat} {st : St} {Q : Exit → Act → World → Prop}
theorem WL.opAt {ops : Array Oper} {r : List Oper} {d : Nat} {x0 x1 : Operand} {ts : Array TypeId} {ty : TypeId} {pos : String} {after : Array Edge} (l : List TBlock) (h : Int) (hf : Has Tryz.prog 64) (hl : l.length ≤ 8796093022207) (hN : d < N := by decide)
    (hx : ev st x0 = one (.sl (bkRows l)) := by exact evsP) (hk : ev st x1 = one (.sc (.int .i64 h)) := by exact evsP)
    (hyes : ∀ k, (hk : k < l.length) → l[k].1.1 = h → (∀ j, (hj : j < k) → l[j].1.1 ≠ h) → WL Tryz.prog γ0 w0 N ops r (.slot d (.tup [(true, bkPL l[k]), (false, [.sc (.bool true)])]) :: st) Q)
    (hno : (∀ j, (hj : j < l.length) → l[j].1.1 ≠ h) → WL Tryz.prog γ0 w0 N ops r (.slot d (.tup [(true, zPL), (false, [.sc (.bool false)])]) :: st) Q) :
    WL Tryz.prog γ0 w0 N ops (⟨some d, .call ⟨.value (.func 64), #[x0, x1], ts⟩, ty, pos, after, none⟩ :: r) st Q := fun a w hR => by
  refine wpList_plain rfl fun K hK => ?_
  obtain ⟨η, γ, hI⟩ := hR
  have h0 := ev_sound hI x0
  rw [hx] at h0
  have h0 : RepL w γ (.sl (bkRows l)) (a.eval x0) := RepV.one_iff.1 h0
  have h1 := ev_sound hI x1
  rw [hk] at h1
  obtain ⟨h1, -⟩ := RepV.one_iff.1 h1
  have hrun := enter_of (P := Tryz.prog) hf (a := a) (w := w) (args := [x0, x1]) (ts := ts) (dst := some d) (ty := ty) (pos := pos) (after := after) (g := none)
  unfold Oper.wp
  rw [hrun]
  show Calls Tryz.prog _ ([x0, x1].map a.eval).toArray w _
  simp only [List.map_cons, List.map_nil, h1]
  refine (at_rep h h0 hl).mono fun e' w' ⟨hb, hq⟩ => ?_
  have hI2 := hI.later w' hb
  have hk2 : Kp w w' γ γ := ⟨hb.size, fun b hlt hg => ⟨hg, hb.block b hlt⟩⟩
  rcases hq with ⟨k, us, hk, e1, e2, e3, e4⟩ | ⟨e1, e3⟩
  · subst e3
    exact hK _ _ (hyes k hk e1 e2 _ _ ⟨η, γ, hI2.put d _ _ hN (tupB_rep (plLs_rep (e4.kp hk2)))⟩)
  · subst e3
    exact hK _ _ (hno e1 _ _ ⟨η, γ, hI2.put d _ _ hN (tupB_rep zPL_rep)⟩)
end
end Go.Proofs.YtfgkfcfplodaoaaGreatDoor

end
section
/-!
  A header in a law's own functions: measured, copied, compared.
-/
namespace Go.Proofs.YtfgkfcfplodaoaaGreatDoor
set_option maxRecDepth 100000
set_option linter.unusedVariables false
set_option linter.unusedSimpArgs false
open Go Go.RowKit
set_option maxHeartbeats 4000000

end Go.Proofs.YtfgkfcfplodaoaaGreatDoor

end
section
/-!
  Signatures, commits, anchors, blocks in the law's own functions: copied, compared, measured.
-/
namespace Go.Proofs.YtfgkfcfplodaoaaGreatDoor
set_option maxRecDepth 100000
set_option linter.unusedVariables false
set_option linter.unusedSimpArgs false
open Go Go.RowKit
set_option maxHeartbeats 8000000
set_option linter.unusedVariables false

/-! rows of validators: equal? -/
/-! measuring -/
/-! commits -/
abbrev rowsCm (c : TCommit) : List RL := [.ro (.sc (.int .i64 c.1)), .ro (.sc (.int .i64 c.2.1)), .ro (.sc (.string c.2.2.1)), .own .ft 127 2 (rowsF cCSig c.2.2.2)]
/-! trust, anchors -/
/-! blocks -/
abbrev okBkS (b : TBlock) : Prop := b.2.1.length ≤ 1048576 ∧ b.2.2.1.length ≤ 1048576 ∧ b.2.2.2.2.2.2.length ≤ 1048576
abbrev rowsBk (b : TBlock) : List RL := [.ro (.sc (.int .i64 b.1.1)), .ro (.sc (.int .i64 b.1.2.1)), .ro (.sc (.string b.1.2.2.1)), .ro (.sc (.string b.1.2.2.2.1)), .ro (.sc (.string b.1.2.2.2.2.1)), .ro (.sc (.string b.1.2.2.2.2.2)), .own .ft 76 2 (rowsF cVal b.2.1), .own .ft 76 2 (rowsF cVal b.2.2.1), .ro (.sc (.int .i64 b.2.2.2.1)), .ro (.sc (.int .i64 b.2.2.2.2.1)), .ro (.sc (.string b.2.2.2.2.2.1)), .own .ft 127 2 (rowsF cCSig b.2.2.2.2.2.2)]
noncomputable instance decBk : DecidableEq TBlock := fun a b => Classical.propDecidable (a = b)
end Go.Proofs.YtfgkfcfplodaoaaGreatDoor

end
section
/-!
  Rows of blocks in the law's own functions: measured, copied, compared.
-/
namespace Go.Proofs.YtfgkfcfplodaoaaGreatDoor
set_option maxRecDepth 100000
set_option linter.unusedVariables false
set_option linter.unusedSimpArgs false
open Go Go.RowKit
set_option maxHeartbeats 8000000
set_option linter.unusedVariables false
set_option linter.unusedSimpArgs false

abbrev okBl (l : List TBlock) : Prop := l.length ≤ 1048576 ∧ ∀ b ∈ l, okBkS b
abbrev rBN (l : List TBlock) : Res := .comp false [.own .nd 36 12 (bkRows l)]
end Go.Proofs.YtfgkfcfplodaoaaGreatDoor

end
