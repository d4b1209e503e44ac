/-
  Put together: PEvPeerG PEvShaT PEvShaU.
-/
import Derived.Test.YtfgkfcfplodaoaaGreatDoorHPEvPeerOk
import Derived.Test.YtfgkfcfplodaoaaGreatDoorHPEvShaS
set_option linter.unusedSimpArgs false
set_option linter.unusedVariables false
set_option maxRecDepth 100000
section
namespace Go.Proofs.YtfgkfcfplodaoaaGreatDoor
open Go Go.RowKit
set_option maxHeartbeats 8000000
theorem tabOk_len {t : TTab} (h : tabOk t) : t.1.length ≤ 6 := h.1.1
theorem tabOk_at {t : TTab} (h : tabOk t) {k : Nat} (hk : k < t.1.length) : peerOk t.1[k] := by
  have := (h.2 k hk).1
  rwa [peerD_get hk] at this
theorem cPeer_set (l : List TPeer) (k : Nat) (a : Int) (b : Bool) (c d : Int) : (rowsF cPeer l).set k [.sc (.int .i64 a), .sc (.bool b), .sc (.int .i64 c), .sc (.int .i64 d)] = rowsF cPeer (l.set k (a, b, c, d)) := rowsF_set cPeer l k (a, b, c, d)
def goodT (t : TTab) (id : Int) : TTab := if h : (atP t.1 id).toNat < t.1.length ∧ 0 ≤ atP t.1 id then (t.1.set (atP t.1 id).toNat ((t.1[(atP t.1 id).toNat]'h.1).1, (t.1[(atP t.1 id).toNat]'h.1).2.1, (t.1[(atP t.1 id).toNat]'h.1).2.2.1, 0), t.2) else t
def pwN (i : Nat) : Int := ((10 * 2 ^ i : Nat) : Int)
def lieN (b : Int) : Int := if b < 5 then pwN b.toNat else 320
def lieT (t : TTab) (id now : Int) : TTab := if h : (atP t.1 id).toNat < t.1.length ∧ 0 ≤ atP t.1 id then (t.1.set (atP t.1 id).toNat ((t.1[(atP t.1 id).toNat]'h.1).1, (t.1[(atP t.1 id).toNat]'h.1).2.1, now + lieN (t.1[(atP t.1 id).toNat]'h.1).2.2.2, min 20 ((t.1[(atP t.1 id).toNat]'h.1).2.2.2 + 1)), t.2) else t
theorem goodT_at {l : List TPeer} {n id : Int} {k : Nat} (hk : k < l.length) (h : atP l id = (k : Int)) {a : Int} {b : Bool} {c d : Int} (hp : l[k] = (a, b, c, d)) : goodT (l, n) id = (l.set k (a, b, c, 0), n) := by
  unfold goodT
  have e : (atP l id).toNat = k := by rw [h]; rfl
  rw [dif_pos ⟨by show (atP l id).toNat < l.length; omega, by show 0 ≤ atP l id; omega⟩]
  simp only [e, hp]
theorem goodT_no {l : List TPeer} {n id : Int} (h : atP l id = -1) : goodT (l, n) id = (l, n) := by
  unfold goodT
  rw [dif_neg (fun q => by have : 0 ≤ atP l id := q.2; omega)]
theorem lieT_at {l : List TPeer} {n id now : Int} {k : Nat} (hk : k < l.length) (h : atP l id = (k : Int)) {a : Int} {b : Bool} {c d : Int} (hp : l[k] = (a, b, c, d)) : lieT (l, n) id now = (l.set k (a, b, now + lieN d, min 20 (d + 1)), n) := by
  unfold lieT
  have e : (atP l id).toNat = k := by rw [h]; rfl
  rw [dif_pos ⟨by show (atP l id).toNat < l.length; omega, by show 0 ≤ atP l id; omega⟩]
  simp only [e, hp]
theorem lieT_no {l : List TPeer} {n id now : Int} (h : atP l id = -1) : lieT (l, n) id now = (l, n) := by
  unfold lieT
  rw [dif_neg (fun q => by have : 0 ≤ atP l id := q.2; omega)]
abbrev rTabB (t : TTab) (b : Bool) : Res := .tup [(true, rTab t), rSc (.bool b)]
noncomputable def mGood := mdl (fun x : TTab × Int => tabOk x.1) (fun x => [aTab x.1, aI x.2]) (fun x => rTabB (goodT x.1 x.2) (decide (0 ≤ atP x.1.1 x.2)))
theorem mGood_eq (t : TTab) (id : Int) (h : tabOk t) : mGood [aTab t, aI id] = some (rTabB (goodT t id) (decide (0 ≤ atP t.1 id))) := mdl_eq (by
  rintro ⟨⟨a, b⟩, c⟩ ⟨⟨d, e⟩, f⟩ h
  simp at h
  simp [h]) (t, id) h
noncomputable def mLie := mdl (fun x : TTab × Int × Int => tabOk x.1 ∧ (0 ≤ x.2.2 ∧ x.2.2 ≤ 1000000)) (fun x => [aTab x.1, aI x.2.1, aI x.2.2]) (fun x => rTabB (lieT x.1 x.2.1 x.2.2) (decide (0 ≤ atP x.1.1 x.2.1)))
theorem mLie_eq (t : TTab) (id now : Int) (h : tabOk t) (hn : 0 ≤ now ∧ now ≤ 1000000) : mLie [aTab t, aI id, aI now] = some (rTabB (lieT t id now) (decide (0 ≤ atP t.1 id))) := mdl_eq (by
  rintro ⟨⟨a, b⟩, c, d⟩ ⟨⟨a', b'⟩, c', d'⟩ h
  simp at h
  simp [h]) (t, id, now) ⟨h, hn⟩
theorem pwN_in {i : Nat} (h : i ≤ 5) : 10 ≤ pwN i ∧ pwN i ≤ 320 ∧ (pwN i < 320 ↔ i < 5) := by
  have : i = 0 ∨ i = 1 ∨ i = 2 ∨ i = 3 ∨ i = 4 ∨ i = 5 := by omega
  rcases this with rfl | rfl | rfl | rfl | rfl | rfl <;> decide
theorem lieN_in {b : Int} (h : 0 ≤ b) : 10 ≤ lieN b ∧ lieN b ≤ 320 := by
  unfold lieN
  split
  · have := pwN_in (i := b.toNat) (by omega)
    omega
  · omega
theorem shl_in : ∀ b : Nat, b ≤ 20 → 10 * 2 ^ b ≤ 10485760 := fun b hb => by
  have : 2 ^ b ≤ 2 ^ 20 := Nat.pow_le_pow_right (by omega) hb
  omega
theorem shl_lie {b : Int} (h0 : 0 ≤ b) (h : b ≤ 20) : IntKind.i64.wrap (10 * 2 ^ (min b.toNat IntKind.i64.bits)) = 10 * 2 ^ b.toNat := by
  have e64 : IntKind.i64.bits = 64 := rfl
  rw [e64, Nat.min_eq_left (show b.toNat ≤ 64 by omega)]
  have h1 := shl_in b.toNat (by omega)
  have h2 : (0 : Int) ≤ 10 * 2 ^ b.toNat ∧ (10 * 2 ^ b.toNat : Int) ≤ 10485760 := by
    have e : (10 * 2 ^ b.toNat : Int) = ((10 * 2 ^ b.toNat : Nat) : Int) := by simp
    rw [e]
    omega
  exact wrap_i64 _ (by omega)
theorem min_lie {b : Int} (h0 : 0 ≤ b) (h : b ≤ 20) : (if (10 * 2 ^ b.toNat : Int) < 320 then (10 * 2 ^ b.toNat : Int) else 320) = lieN b := by
  have key : ∀ k : Nat, k ≤ 20 → (if (10 * 2 ^ k : Int) < 320 then (10 * 2 ^ k : Int) else 320) = lieN (k : Int) := by decide
  have e : ((b.toNat : Nat) : Int) = b := by omega
  have := key b.toNat (by omega)
  rwa [e] at this
theorem goodI_s : Sound Tryz.prog 201 mGood := by
  refine Sound.mdl Tryz.func201 rfl Tryz.ntmps201 ?_
  rintro ⟨⟨l, n⟩, id⟩ w ht
  refine ⟨by simp, ?_⟩
  replace ht : tabOk (l, n) := ht
  have hΓ : GSound Tryz.prog (look [(189, mTab), (190, mCopyT), (193, mAtP), (125, mTime)]) := env_cons (has_of Tryz.func189 rfl rfl) tabI_s (env_cons (has_of Tryz.func190 rfl rfl) copyTI_s (env_cons (has_of Tryz.func193 rfl rfl) atPI_s (env_cons (has_of Tryz.func125 rfl rfl) isTime_s env_nil)))
  have hl6 : l.length ≤ 6 := tabOk_len ht
  have c1 := mTab_eq (l, n) (show l.length ≤ _ by omega)
  rw [decide_eq_true ht] at c1
  have c2 := mCopyT_eq (l, n) (show l.length ≤ _ by omega)
  have c3 := mAtP_eq (l, n) id (show l.length ≤ _ by omega)
  dsimp only at c3
  have hlen := rowsF_len cPeer l
  simp only [initS, argPV, List.map_cons, List.map_nil, toPL, Nat.zero_add]
  rcases atP_cases l id with ⟨k, hk, h1, -⟩ | h1
  · have hrow := cPeer_row l k hk
    have hv := fun a b c d => goodT_at (n := n) hk h1 (a := a) (b := b) (c := c) (d := d)
    rw [h1] at c3
    generalize l[k] = p at *
    obtain ⟨a, b, c, d⟩ := p
    replace hv := Lib.hid (hv a b c d rfl)
    have hset := cPeer_set l k a b c 0
    replace h1 := Lib.hid h1
    dsimp only at hrow
    clear ht
    refine zR ?_
    refine At.retA (by rw [Tryz.results201]) (he := ?_)
    show rTabB (l.set k (a, b, c, 0), n) true = rTabB (goodT (l, n) id) (decide (0 ≤ atP l id))
    rw [hv.out, h1.out, decide_eq_true (show (0 : Int) ≤ (k : Int) by omega)]
  · have hv := Lib.hid (goodT_no (n := n) h1)
    rw [h1] at c3
    replace h1 := Lib.hid h1
    clear ht
    refine zR ?_
    refine At.retA (by rw [Tryz.results201]) (he := ?_)
    show rTabB (l, n) false = rTabB (goodT (l, n) id) (decide (0 ≤ atP l id))
    rw [hv.out, h1.out]
    rfl
theorem lieI_s : Sound Tryz.prog 202 mLie := by
  refine Sound.mdl Tryz.func202 rfl Tryz.ntmps202 ?_
  rintro ⟨⟨l, n⟩, id, now⟩ w ⟨ht, hn0, hn1⟩
  refine ⟨by simp, ?_⟩
  replace ht : tabOk (l, n) := ht
  replace hn0 : 0 ≤ now := hn0
  replace hn1 : now ≤ 1000000 := hn1
  have hΓ : GSound Tryz.prog (look [(189, mTab), (190, mCopyT), (193, mAtP), (125, mTime)]) := env_cons (has_of Tryz.func189 rfl rfl) tabI_s (env_cons (has_of Tryz.func190 rfl rfl) copyTI_s (env_cons (has_of Tryz.func193 rfl rfl) atPI_s (env_cons (has_of Tryz.func125 rfl rfl) isTime_s env_nil)))
  have hl6 : l.length ≤ 6 := tabOk_len ht
  have c1 := mTab_eq (l, n) (show l.length ≤ _ by omega)
  rw [decide_eq_true ht] at c1
  have c2 := mCopyT_eq (l, n) (show l.length ≤ _ by omega)
  have c3 := mAtP_eq (l, n) id (show l.length ≤ _ by omega)
  dsimp only at c3
  have hlen := rowsF_len cPeer l
  have c4 := mTime_eq now
  rw [decide_eq_true ⟨hn0, hn1⟩] at c4
  simp only [initS, argPV, List.map_cons, List.map_nil, toPL, Nat.zero_add]
  rcases atP_cases l id with ⟨k, hk, h1, -⟩ | h1
  · have hrow := cPeer_row l k hk
    have hv := fun a b c d => lieT_at (n := n) (now := now) hk h1 (a := a) (b := b) (c := c) (d := d)
    have hp := tabOk_at ht (k := k) hk
    dsimp only at hp
    rw [h1] at c3
    generalize l[k] = p at *
    obtain ⟨a, b, c, d⟩ := p
    obtain ⟨-, -, d0, d1⟩ := hp
    replace hv := Lib.hid (hv a b c d rfl)
    replace h1 := Lib.hid h1
    dsimp only at hrow d0 d1
    have hset := cPeer_set l k a b (now + lieN d) d
    have hset2 := cPeer_set (l.set k (a, b, now + lieN d, d)) k a b (now + lieN d) (min 20 (d + 1))
    have hss : (l.set k (a, b, now + lieN d, d)).set k (a, b, now + lieN d, min 20 (d + 1)) = l.set k (a, b, now + lieN d, min 20 (d + 1)) := List.set_set ..
    have hrow2 : (rowsF cPeer (l.set k (a, b, now + lieN d, d)))[k]? = some [.sc (.int .i64 a), .sc (.bool b), .sc (.int .i64 (now + lieN d)), .sc (.int .i64 d)] := by
      have hk2 : k < (l.set k (a, b, now + lieN d, d)).length := by simpa using hk
      rw [cPeer_row _ k hk2, List.getElem_set_self]
    have hlen2 : (rowsF cPeer (l.set k (a, b, now + lieN d, d))).length = l.length := by rw [rowsF_len, List.length_set]
    have hli := lieN_in d0
    clear ht
    have hsh := shl_lie d0 d1
    have hmn := min_lie d0 d1
    have hm20 : (if d + 1 < 20 then d + 1 else (20 : Int)) = min 20 (d + 1) := by
      split <;> omega
    generalize lieN d = ln at *
    generalize min 20 (d + 1) = md at *
    refine zR ?_
    refine At.retA (by rw [Tryz.results202]) (he := ?_)
    show rTabB (l.set k (a, b, now + ln, md), n) true = rTabB (lieT (l, n) id now) (decide (0 ≤ atP l id))
    rw [hv.out, h1.out, decide_eq_true (show (0 : Int) ≤ (k : Int) by omega)]
  · have hv := Lib.hid (lieT_no (n := n) (now := now) h1)
    rw [h1] at c3
    replace h1 := Lib.hid h1
    clear ht
    refine zR ?_
    refine At.retA (by rw [Tryz.results202]) (he := ?_)
    show rTabB (l, n) false = rTabB (lieT (l, n) id now) (decide (0 ≤ atP l id))
    rw [hv.out, h1.out]
    rfl
end Go.Proofs.YtfgkfcfplodaoaaGreatDoor

end
section
namespace Go.Proofs.YtfgkfcfplodaoaaGreatDoor
open Go Go.RowKit
set_option maxHeartbeats 8000000
noncomputable def mBlkS := mdl okB (fun x => [aL cN x.1.lst, aS x.2, aL cN shaW]) fun x => rL 3 1 cN (block x.1 x.2).lst
theorem cN_iff {a b : List Nat} : rowsF cN a = rowsF cN b ↔ a = b := rowsF_iff fun x y h => by simp [cN] at h; omega
theorem lst_inj {v w : W8} (h : v.lst = w.lst) : v = w := by
  obtain ⟨a, b, c, d, e, f, g, q⟩ := v
  obtain ⟨a', b', c', d', e', f', g', q'⟩ := w
  simp only [W8.lst, List.cons.injEq, and_true] at h
  obtain ⟨rfl, rfl, rfl, rfl, rfl, rfl, rfl, rfl⟩ := h
  rfl
theorem mBlkS_eq (v : W8) (s : ByteArray) (h : v.ok) (hs : s.size = 64) : mBlkS [aL cN v.lst, aS s, aL cN shaW] = some (rL 3 1 cN (block v s).lst) := mdl_eq (by
  rintro ⟨a, b⟩ ⟨d, e⟩ h
  simp only [List.cons.injEq, Arg.val.injEq, Leaf.sl.injEq, Leaf.sc.injEq, Value.string.injEq, cN_iff, true_and, and_true] at h
  rw [lst_inj h.1, h.2]) (v, s) ⟨h, hs⟩
noncomputable def mKeys := mdl (fun _ : Unit => True) (fun _ => []) (fun _ => rL 3 1 cN shaW)
theorem mKeys_eq : mKeys [] = some (rL 3 1 cN shaW) := mdl_eq (by intro a b h; rfl) () trivial
theorem keys_s : Sound Tryz.prog 93 mKeys := by
  refine Sound.mdl Tryz.func93 rfl Tryz.ntmps93 ?_
  rintro u w -
  refine ⟨by simp, ?_⟩
  have hΓ : GSound Tryz.prog (look []) := env_nil
  simp only [initS, argPV, List.map_cons, List.map_nil, toPL, Nat.zero_add]
  refine zR ?_
  with_reducible apply W.ops
  refine WL.op (st1 := [.slot 1 (one (.all 1)), .blk 1 (.arr .ft 3 1 (rowsF cN shaW)), .slot 0 (one .nil)]) hΓ (by kernel_rfl) ?_
  refine zL ?_
  with_reducible apply WL.nil
  refine zR ?_
  refine At.retA (by rw [Tryz.results93]) (he := rfl)
theorem pad_stop {n i : Nat} (hi : i ≤ zPd n) (h : (n + (i + 1)) % 64 = 56) : i = zPd n := by unfold zPd at *; omega
theorem pad_go {n i : Nat} (hi : i ≤ zPd n) (h : ¬ (n + (i + 1)) % 64 = 56) : i + 1 ≤ zPd n := by unfold zPd at *; omega
theorem pow256 {i : Nat} (h : i < 8) : (2 : Nat) ^ (56 - 8 * i) = 256 ^ (8 - 1 - i) := by
  have e : 56 - 8 * i = 8 * (8 - 1 - i) := by omega
  rw [e, Nat.pow_mul]
theorem shaSpec_s : Sound Tryz.prog 40 mSha := by
  refine Sound.mdl Tryz.func40 rfl Tryz.ntmps40 ?_
  rintro s w hs
  refine ⟨by simp, ?_⟩
  replace hs : s.size ≤ 16777216 := hs
  have hΓ : GSound Tryz.prog (look [(93, mKeys), (94, mBlkS)]) := env_cons (has_of Tryz.func93 rfl rfl) keys_s (env_cons (has_of Tryz.func94 rfl rfl) blockS_s env_nil)
  have h0 : [[Leaf.sc (.int .u8 128)]] = rowsF cU8 (padZ 0) := rfl
  simp only [initS, argPV, List.map_cons, List.map_nil, toPL, Nat.zero_add]
  refine zR ?_
  refine W.loopA (fun i => i ≤ zPd s.size) (fun i : Nat => [.slot 0 (vS s), .slot 3 (vI s.size), .slot 4 (one (.all 14)), .blk 14 (.arr .ft 5 1 (rowsF cU8 (padZ i)))]) (fun i => zPd s.size - i) 0 (Nat.zero_le _) (h := ?_)
  rintro i hi
  clear h0
  have hz63 : zPd s.size ≤ 63 := by unfold zPd; omega
  have hpl := padZ_len i
  have hpr := rowsF_len cU8 (padZ i)
  have ht : ((s.size : Int) + ((i + 1 : Nat) : Int)).tmod 64 = (((s.size + (i + 1)) % 64 : Nat) : Int) := by rw [Int.tmod_eq_emod_of_nonneg (by omega)]; omega
  by_cases h56 : (s.size + (i + 1)) % 64 = 56
  · have hiz := pad_stop hi h56
    subst hiz
    have hb8 : s.size * 8 = 8 * s.size := by omega
    have hb9 : (s.size : Int) * 8 = ((8 * s.size : Nat) : Int) := by omega
    refine zR ?_
    have hk0 : padZ (zPd s.size) = padZ (zPd s.size) ++ (fixB 8 (8 * s.size)).take 0 := by simp
    refine W.loopA (fun i => i ≤ 8) (fun i : Nat => [.slot 0 (vS s), .slot 5 (vI i), .slot 3 (vI s.size), .slot 4 (one (.all 14)), .blk 14 (.arr .ft 5 1 (rowsF cU8 (padZ (zPd s.size) ++ (fixB 8 (8 * s.size)).take i)))]) (fun i => 8 - i) 0 (Nat.zero_le _) (by rw [← hk0]; clear hk0; exact subP) (h := ?_)
    clear hk0 ht h56
    rintro i hi8
    by_cases hlt : i < 8
    · have hget := fixB_get (8 * s.size) 8 i hlt
      have hsz : ((padZ (zPd s.size)) ++ (fixB 8 (8 * s.size)).take i).length ≤ 100 := by rw [List.length_append, List.length_take, fixB_len]; omega
      have hap : rowsF cU8 (padZ (zPd s.size) ++ (fixB 8 (8 * s.size)).take i) ++ [[.sc (.int .u8 ((8 * s.size / 2 ^ (56 - 8 * i) % 256 : Nat) : Int))]] = rowsF cU8 (padZ (zPd s.size) ++ (fixB 8 (8 * s.size)).take (i + 1)) := by
        have hl : i < (fixB 8 (8 * s.size)).length := by rw [fixB_len]; exact hlt
        have hv : (fixB 8 (8 * s.size))[i] = 8 * s.size / 2 ^ (56 - 8 * i) % 256 := by
          rw [List.getElem?_eq_getElem hl] at hget
          rw [Option.some.inj hget, pow256 hlt]
        rw [List.take_succ_eq_append_getElem hl, hv, ← List.append_assoc]
        exact cU8_app _ _
      clear hget
      have hN : 8 * s.size < 9223372036854775808 := by omega
      generalize padZ (zPd s.size) ++ (fixB 8 (8 * s.size)).take i = L at *
      obtain ⟨L2, hL2⟩ : ∃ L2, L2 = padZ (zPd s.size) ++ (fixB 8 (8 * s.size)).take (i + 1) := ⟨_, rfl⟩
      rw [← hL2] at hap
      generalize hn8 : 8 * s.size = n8 at *
      have m1 : min ((56 : Int) - 8 * (i : Int)).toNat IntKind.i64.bits = 56 - 8 * i := by
        have : ((56 : Int) - 8 * (i : Int)).toNat = 56 - 8 * i := by omega
        rw [this]
        exact Nat.min_eq_left (by show 56 - 8 * i ≤ 64; omega)
      have m2 := fdiv_nat n8 (56 - 8 * i)
      have hd : n8 / 2 ^ (56 - 8 * i) < 9223372036854775808 := Nat.lt_of_le_of_lt (Nat.div_le_self _ _) hN
      have m3 := and255 hd
      have m4 := wrap_u8n (n := n8 / 2 ^ (56 - 8 * i) % 256) (by omega)
      have m5 : IntKind.u64.wrap ((56 : Int) - 8 * (i : Int)) = 56 - 8 * (i : Int) := by rw [IntKind.wrap_u64]; omega
      clear hpl hpr hd
      refine zR ?_
      subst hL2
      exact At.roundA (i + 1) (by omega) (by omega)
    have hi8' : i = 8 := by omega
    subst hi8'
    have htk : (fixB 8 (8 * s.size)).take 8 = fixB 8 (8 * s.size) := List.take_of_length_le (by rw [fixB_len]; exact Nat.le_refl _)
    have hb := bytes_rows (padZ (zPd s.size) ++ fixB 8 (8 * s.size))
    have hps : s ++ (⟨((padZ (zPd s.size) ++ fixB 8 (8 * s.size)).map UInt8.ofNat).toArray⟩ : ByteArray) = padS s := rfl
    have hsb : (⟨((padZ (zPd s.size) ++ fixB 8 (8 * s.size)).map UInt8.ofNat).toArray⟩ : ByteArray).size = zPd s.size + 9 := by
      have := bsS_size (padZ (zPd s.size) ++ fixB 8 (8 * s.size))
      rw [List.length_append, padZ_len, fixB_len] at this
      exact this
    obtain ⟨q, hq, hq2⟩ := padS_64 s
    have ck := mKeys_eq
    have hfin : shaS s = bsS (outL (foldK (padS s) q) 8) := by unfold shaS shaW8; rw [hq, Nat.mul_div_cancel_left _ (by omega)]
    have hqs : (padS s).size ≤ 64 * 17000000 := by omega
    have hs2 := hs
    clear hpl hpr hb8 hb9 hlt
    have hH : [[Leaf.sc (.int .i64 1779033703)], [Leaf.sc (.int .i64 3144134277)], [Leaf.sc (.int .i64 1013904242)], [Leaf.sc (.int .i64 2773480762)], [Leaf.sc (.int .i64 1359893119)], [Leaf.sc (.int .i64 2600822924)], [Leaf.sc (.int .i64 528734635)], [Leaf.sc (.int .i64 1541459225)]] = rowsF cN (foldK (padS s) 0).lst := rfl
    generalize padS s = T at *
    refine zR ?_
    refine W.frzA 7 44 (h := ?_)
    refine W.loopA (fun j => j ≤ q) (fun j : Nat => [.slot 9 (vI ((64 * j : Nat) : Int)), .slot 7 (one (.sl (rowsF cN (foldK T j).lst))), .slot 8 (one (.all 45)), .slot 6 (vS T), .blk 45 (.arr .ft 3 1 (rowsF cN shaW))]) (fun j => q - j) 0 (Nat.zero_le _) (h := ?_)
    clear hH hsb hps hb htk ck
    rintro j hj
    by_cases hlt : j < q
    · have hx : (T.extract (64 * j) (64 * j + 64)).size = 64 := by rw [ByteArray.size_extract]; omega
      have cb := mBlkS_eq (foldK T j) (T.extract (64 * j) (64 * j + 64)) (foldK_ok T j) hx
      have hnx : foldK T (j + 1) = block (foldK T j) (T.extract (64 * j) (64 * j + 64)) := rfl
      have e1 : ((64 * j : Nat) : Int) + 64 = ((64 * j + 64 : Nat) : Int) := by omega
      have e2 : ((64 * (j + 1) : Nat) : Int) = ((64 * j + 64 : Nat) : Int) := by omega
      refine zR ?_
      refine At.frzA 7 59 (h := ?_)
      exact At.roundA (j + 1) (by omega) (by omega)
    have hjq : j = q := by omega
    subst hjq
    have hvok := foldK_ok T j
    generalize foldK T j = v at *
    have hn0 : ([] : List (List Leaf)) = rowsF cU8 (outL v 0) := rfl
    refine zR ?_
    refine W.loopA (fun k => k ≤ 8) (fun k : Nat => [.slot 11 (vI k), .slot 10 (one (.all 60)), .slot 7 (one (.sl (rowsF cN v.lst))), .blk 60 (.arr .ft 5 1 (rowsF cU8 (outL v k)))]) (fun k => 8 - k) 0 (Nat.zero_le _) (h := ?_)
    clear hn0
    rintro k hk
    have hol := outL_len v k hk
    have hvl : (rowsF cN v.lst).length = 8 := rfl
    by_cases hlt8 : k < 8
    · have g1 := rowN (v.lst_get hlt8)
      have b1 := W8.lst_lt hvok k
      have hs1 := outL_succ v hlt8
      generalize v.lst.getD k 0 = x at *
      have hap : rowsF cU8 (outL v k) ++ [[.sc (.int .u8 ((x / 2 ^ 24 : Nat) : Int))], [.sc (.int .u8 ((x / 2 ^ 16 % 256 : Nat) : Int))], [.sc (.int .u8 ((x / 2 ^ 8 % 256 : Nat) : Int))], [.sc (.int .u8 ((x % 256 : Nat) : Int))]] = rowsF cU8 (outL v (k + 1)) := by
        rw [hs1, ← rowsF_app]
        have e1 : x / 2 ^ 24 = x / 256 ^ 3 % 256 := by
          show x / 16777216 = x / 16777216 % 256
          omega
        have e2 : x % 256 = x / 256 ^ 0 % 256 := by rw [Nat.pow_zero, Nat.div_one]
        rw [e1, e2]
        rfl
      obtain ⟨L2, hL2⟩ : ∃ L2, L2 = outL v (k + 1) := ⟨_, rfl⟩
      rw [← hL2] at hap
      clear hs1
      have f24 := fdiv_nat x 24
      have f16 := fdiv_nat x 16
      have f8 := fdiv_nat x 8
      have m24 : min 24 IntKind.i64.bits = 24 := rfl
      have m16 : min 16 IntKind.i64.bits = 16 := rfl
      have m8 : min 8 IntKind.i64.bits = 8 := rfl
      have n16 := and255 (m := x / 2 ^ 16) (by omega)
      have n8 := and255 (m := x / 2 ^ 8) (by omega)
      have n0 := and255 (m := x) (by omega)
      have w24 := wrap_u8n (n := x / 2 ^ 24) (by omega)
      have w16 := wrap_u8n (n := x / 2 ^ 16 % 256) (by omega)
      have w8 := wrap_u8n (n := x / 2 ^ 8 % 256) (by omega)
      have w0 := wrap_u8n (n := x % 256) (by omega)
      refine zR ?_
      refine W.drawB hΓ 28 [[], [], [], [1, 2], [1, 2, 3], [1, 2, 3, 4], [1, 2, 3, 4, 5], [], [], [7, 8], [7, 8, 9], [7, 8, 9, 10], [7, 8, 9, 10, 11], [7, 8, 9, 10, 11, 12], [], [], [14, 15], [14, 15, 16], [14, 15, 16, 17], [14, 15, 16, 17, 18], [14, 15, 16, 17, 18, 19], [], [], [21, 22], [21, 22, 23], [21, 22, 23, 24], [21, 22, 23, 24, 25], [1, 2, 3, 4, 5, 6, 7, 8, 9, 10, 11, 12, 13, 14, 15, 16, 17, 18, 19, 20, 21, 22, 23, 24, 25, 26], [0, 1, 2, 3, 4, 5, 6, 7, 8, 9, 10, 11, 12, 13, 14, 15, 16, 17, 18, 19, 20, 21, 22, 23, 24, 25, 26, 27], [0, 1, 2, 3, 4, 5, 6, 7, 8, 9, 10, 11, 12, 13, 14, 15, 16, 17, 18, 19, 20, 21, 22, 23, 24, 25, 26, 27, 28]] (Es := ?Es16) (rest := ?rest16) (st1 := ?st116) ?_
      refine zL ?_
      refine zE ?_
      refine zR ?_
      subst hL2
      exact At.roundA (k + 1) (by omega) (by omega)
    have hk8 : k = 8 := by omega
    subst hk8
    have hb := bytes_rows (outL v 8)
    refine zR ?_
    refine At.retA (by rw [Tryz.results40]) (he := ?_)
    rw [hfin]
    rfl
  · have hap : rowsF cU8 (padZ i) ++ [[.sc (.int .u8 0)]] = rowsF cU8 (padZ (i + 1)) := by rw [← padZ_succ]; exact cU8_app _ 0
    have hg := pad_go hi h56
    refine zR ?_
    exact At.roundA (i + 1) (by omega) (by omega)
end Go.Proofs.YtfgkfcfplodaoaaGreatDoor

end
section
namespace Go.Proofs.YtfgkfcfplodaoaaGreatDoor
open Go Go.RowKit
set_option maxHeartbeats 8000000
noncomputable def mBlkI := mdl (fun x : W8 × ByteArray => x.1.ok ∧ x.2.size = 64) (fun x => [aW x.1, aS x.2]) fun x => rW (block x.1 x.2)
theorem mBlkI_eq (v : W8) (s : ByteArray) (h : v.ok) (hs : s.size = 64) : mBlkI [aW v, aS s] = some (rW (block v s)) := mdl_eq (by
  rintro ⟨⟨a, b, c, d, e, f, g, q⟩, x⟩ ⟨⟨a', b', c', d', e', f', g', q'⟩, y⟩ h
  simp at h
  obtain ⟨⟨h1, h2, h3, h4, h5, h6, h7, h8⟩, rfl⟩ := h
  have e1 : a = a' := by omega
  have e2 : b = b' := by omega
  have e3 : c = c' := by omega
  have e4 : d = d' := by omega
  have e5 : e = e' := by omega
  have e6 : f = f' := by omega
  have e7 : g = g' := by omega
  have e8 : q = q' := by omega
  rw [e1, e2, e3, e4, e5, e6, e7, e8]) (v, s) ⟨h, hs⟩
theorem shaImpl_s : Sound Tryz.prog 180 mSha := by
  refine Sound.mdl Tryz.func180 rfl Tryz.ntmps180 ?_
  rintro s w hs
  refine ⟨by simp, ?_⟩
  replace hs : s.size ≤ 16777216 := hs
  have hΓ : GSound Tryz.prog (look [(225, mBlkI), (224, mFixed)]) := env_cons (has_of Tryz.func225 rfl rfl) blockI_s (env_cons (has_of Tryz.func224 rfl rfl) fixed_s env_nil)
  have t1 : ((s.size : Int) + 9).tmod 64 = (((s.size + 9) % 64 : Nat) : Int) := by rw [Int.tmod_eq_emod_of_nonneg (by omega)]; omega
  have t2 : ((64 : Int) - (((s.size + 9) % 64 : Nat) : Int)).tmod 64 = ((zPd s.size : Nat) : Int) := by rw [Int.tmod_eq_emod_of_nonneg (by omega)]; unfold zPd; omega
  have t3 : ((zPd s.size : Nat) : Int) + 1 = ((zPd s.size + 1 : Nat) : Int) := by omega
  have t4 : (8 : Int) * (s.size : Int) = ((8 * s.size : Nat) : Int) := by omega
  have hz63 : zPd s.size ≤ 63 := by unfold zPd; omega
  have hzr : List.replicate (zPd s.size + 1) [Leaf.sc (.int .u8 0)] = rowsF cU8 (List.replicate (zPd s.size + 1) 0) := (rowsF_repU _ _).symm
  have hb := bytes_rows (List.replicate (zPd s.size + 1) 0)
  have c1 := mFixed7 (8 * s.size) (by omega)
  have hp : s ++ (⟨#[128]⟩ : ByteArray) ++ (⟨((List.replicate (zPd s.size + 1) 0).map UInt8.ofNat).toArray⟩ : ByteArray) ++ bsS (fixB 7 (8 * s.size)) = padS s := padS_impl hs
  have s1 : (s ++ (⟨#[128]⟩ : ByteArray)).size = s.size + 1 := by rw [ByteArray.size_append]; rfl
  have s0 : (⟨#[128]⟩ : ByteArray).size = 1 := rfl
  have s2 : (⟨((List.replicate (zPd s.size + 1) 0).map UInt8.ofNat).toArray⟩ : ByteArray).size = zPd s.size + 1 := by
    have := bsS_size (List.replicate (zPd s.size + 1) 0)
    rw [List.length_replicate] at this
    exact this
  have s3 := ByteArray.size_append (a := s ++ (⟨#[128]⟩ : ByteArray)) (b := ⟨((List.replicate (zPd s.size + 1) 0).map UInt8.ofNat).toArray⟩)
  have s4 : (bsS (fixB 7 (8 * s.size))).size = 7 := by rw [bsS_size, fixB_len]
  simp only [initS, argPV, List.map_cons, List.map_nil, toPL, Nat.zero_add]
  refine zR ?_
  refine W.drawB hΓ 11 [[], [0], [], [2], [2, 3], [2, 3, 4], [0, 1, 2, 3, 4, 5], [], [7], [0, 1, 2, 3, 4, 5, 6, 7, 8], [0, 1, 2, 3, 4, 5, 6, 7, 8, 9]] (Es := ?Es4) (rest := ?rest4) (st1 := ?st14) ?_
  refine zL ?_
  refine zE ?_
  refine zR ?_
  obtain ⟨q, hq, hq2⟩ := padS_64 s
  have hfin : shaS s = bsS (outL (foldK (padS s) q) 8) := by unfold shaS shaW8; rw [hq, Nat.mul_div_cancel_left _ (by omega)]
  clear t1 t2 t3 t4 hz63 hzr hb c1 hp s1 s0 s2 s3 s4
  generalize padS s = T at *
  refine W.loopA (fun j => j ≤ q) (fun j : Nat => [.slot 7 (vI ((64 * j : Nat) : Int)), .slot 5 (vS T), .slot 6 (one (.ptr 6 0)), .blk 6 (.box (foldK T j).pl)]) (fun j => q - j) 0 (Nat.zero_le _) (h := ?_)
  rintro j hj
  by_cases hlt : j < q
  · have hx : (T.extract (64 * j) (64 * j + 64)).size = 64 := by rw [ByteArray.size_extract]; omega
    have cb := mBlkI_eq (foldK T j) (T.extract (64 * j) (64 * j + 64)) (foldK_ok T j) hx
    have hnx : foldK T (j + 1) = block (foldK T j) (T.extract (64 * j) (64 * j + 64)) := rfl
    have e1 : ((64 * j : Nat) : Int) + 64 = ((64 * j + 64 : Nat) : Int) := by omega
    have e2 : ((64 * (j + 1) : Nat) : Int) = ((64 * j + 64 : Nat) : Int) := by omega
    generalize foldK T j = v at *
    obtain ⟨a, b, c, d, e, f, g, p⟩ := v
    dsimp only [aW, rW] at cb
    generalize hX : T.extract (64 * j) (64 * j + 64) = X at *
    have hpl : (foldK T (j + 1)).pl = [pU (block ⟨a, b, c, d, e, f, g, p⟩ X).a, pU (block ⟨a, b, c, d, e, f, g, p⟩ X).b, pU (block ⟨a, b, c, d, e, f, g, p⟩ X).c, pU (block ⟨a, b, c, d, e, f, g, p⟩ X).d, pU (block ⟨a, b, c, d, e, f, g, p⟩ X).e, pU (block ⟨a, b, c, d, e, f, g, p⟩ X).f, pU (block ⟨a, b, c, d, e, f, g, p⟩ X).g, pU (block ⟨a, b, c, d, e, f, g, p⟩ X).h] := by rw [hnx]
    clear hnx
    refine zR ?_
    refine W.drawB hΓ 7 [[], [], [], [], [3], [1, 2, 3, 4], [0, 1, 2, 3, 4, 5], [0, 1, 2, 3, 4, 5, 6]] (Es := ?Es7) (rest := ?rest7) (st1 := ?st17) ?_
    refine zL ?_
    refine zE ?_
    refine zR ?_
    exact At.roundA (j + 1) (by omega) (by omega)
  have hjq : j = q := by omega
  subst hjq
  have hvok := foldK_ok T j
  generalize foldK T j = v at *
  have hz : shaS s = bsS (outL v 8) := hfin
  obtain ⟨a, b, c, d, e, f, g, p⟩ := v
  have hlst : ∀ k, k < 8 → ([pU a, pU b, pU c, pU d, pU e, pU f, pU g, pU p] : List PL)[k]? = some (pU ((W8.lst ⟨a, b, c, d, e, f, g, p⟩).getD k 0)) := fun k hk => boxU_get (W8.lst_get ⟨a, b, c, d, e, f, g, p⟩ hk)
  have hout := fun k (hk : k < 8) => outL_succ ⟨a, b, c, d, e, f, g, p⟩ hk
  have hlen := fun k (hk : k ≤ 8) => outL_len ⟨a, b, c, d, e, f, g, p⟩ k hk
  have hlt4 := fun k => W8.lst_lt hvok k
  have ho0 : outL ⟨a, b, c, d, e, f, g, p⟩ 0 = [] := rfl
  clear hfin hvok
  generalize W8.lst ⟨a, b, c, d, e, f, g, p⟩ = V at hlst hout hlt4
  generalize hO : outL ⟨a, b, c, d, e, f, g, p⟩ = O at *
  have hb0 : (⟨#[]⟩ : ByteArray) = bsS (O 0) := by rw [ho0]; rfl
  have hemp : bsS (O 0) = ByteArray.empty := hb0.symm
  clear hO ho0
  refine zR ?_
  refine W.loopA (fun k => k ≤ 8) (fun k : Nat => [.slot 45 (vI k), .slot 44 (.comp true [pU a, pU b, pU c, pU d, pU e, pU f, pU g, pU p]), .slot 8 (vS (bsS (O k)))]) (fun k => 8 - k) 0 (Nat.zero_le _) (h := ?_)
  clear hb0 hemp
  rintro k hk
  by_cases hlt8 : k < 8
  · have g1 := hlst k hlt8
    have b1 := hlt4 k
    have hs1 := hout k hlt8
    have hln := hlen k hk
    clear hlst hout hlen hlt4
    generalize V.getD k 0 = x at *
    have cf := mFixed4 x b1
    have hap : bsS (O k) ++ bsS (fixB 4 x) = bsS (O (k + 1)) := by rw [bsS_app, hs1]
    have z1 : (bsS (O k)).size = 4 * k := by rw [bsS_size, hln]
    have z2 : (bsS (fixB 4 x)).size = 4 := by rw [bsS_size, fixB_len]
    clear hs1
    refine zR ?_
    exact At.roundA (k + 1) (by omega) (by omega)
  have hk8 : k = 8 := by omega
  subst hk8
  clear hlst hout hlen hlt4
  refine zR ?_
  refine At.retA (by rw [Tryz.results180]) (he := ?_)
  rw [hz]
end Go.Proofs.YtfgkfcfplodaoaaGreatDoor

end
