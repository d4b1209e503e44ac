/-
  Sha of spec.
-/
import Derived.Test.YtfgkfcfplodaoaaGreatDoorG11
import Derived.Test.YtfgkfcfplodaoaaGreatDoorHPEvShaS
namespace Go.Proofs.YtfgkfcfplodaoaaGreatDoor
set_option maxRecDepth 100000
set_option linter.unusedVariables false
set_option linter.unusedSimpArgs false
open Go Go.RowKit
set_option maxHeartbeats 8000000

noncomputable def mBlkS := mdl okB (fun x => [aL cN x.1.lst, aS x.2, aL cN shaW]) fun x => rL 3 1 cN (block x.1 x.2).lst
theorem cN_iff {a b : List Nat} : rowsF cN a = rowsF cN b ↔ a = b := rowsF_iff fun x y h => by simp [cN] at h; omega
theorem lst_inj {v w : W8} (h : v.lst = w.lst) : v = w := by
  obtain ⟨a, b, c, d, e, f, g, q⟩ := v
  obtain ⟨a', b', c', d', e', f', g', q'⟩ := w
  simp only [W8.lst, List.cons.injEq, and_true] at h
  obtain ⟨rfl, rfl, rfl, rfl, rfl, rfl, rfl, rfl⟩ := h
  rfl
theorem mBlkS_eq (v : W8) (s : ByteArray) (h : v.ok) (hs : s.size = 64) : mBlkS [aL cN v.lst, aS s, aL cN shaW] = some (rL 3 1 cN (block v s).lst) := mdl_eq (by
  rintro ⟨a, b⟩ ⟨d, e⟩ h
  simp only [List.cons.injEq, Arg.val.injEq, Leaf.sl.injEq, Leaf.sc.injEq, Value.string.injEq, cN_iff, true_and, and_true] at h
  rw [lst_inj h.1, h.2]) (v, s) ⟨h, hs⟩
noncomputable def mKeys := mdl (fun _ : Unit => True) (fun _ => []) (fun _ => rL 3 1 cN shaW)
theorem mKeys_eq : mKeys [] = some (rL 3 1 cN shaW) := mdl_eq (by intro a b h; rfl) () trivial
theorem keys_s : Sound Tryz.prog 93 mKeys := by
  refine Sound.mdl Tryz.func93 rfl Tryz.ntmps93 ?_
  rintro u w -
  refine ⟨by simp, ?_⟩
  have hΓ : GSound Tryz.prog (look []) := env_nil
  simp only [initS, argPV, List.map_cons, List.map_nil, toPL, Nat.zero_add]
  repeat (first | refine zN ?_ | (refine zO ?_; (repeat (first | refine za hΓ ?_ | refine zb hΓ ?_ | refine zc ?_ | refine zd ?_)); refine zE ?_) | refine zT ?_ | refine zF ?_ | with_reducible apply At.blkX rfl)
  with_reducible apply W.ops
  refine WL.op (st1 := [.slot 1 (one (.all 1)), .blk 1 (.arr .ft 3 1 (rowsF cN shaW)), .slot 0 (one .nil)]) hΓ (by kernel_rfl) ?_
  (repeat (first | refine za hΓ ?_ | refine zb hΓ ?_ | refine zc ?_ | refine zd ?_))
  with_reducible apply WL.nil
  repeat (first | refine zN ?_ | (refine zO ?_; (repeat (first | refine za hΓ ?_ | refine zb hΓ ?_ | refine zc ?_ | refine zd ?_)); refine zE ?_) | refine zT ?_ | refine zF ?_ | with_reducible apply At.blkX rfl)
  refine At.retA (by rw [Tryz.results93]) (he := rfl)

theorem pad_stop {n i : Nat} (hi : i ≤ zPd n) (h : (n + (i + 1)) % 64 = 56) : i = zPd n := by unfold zPd at *; omega
theorem pad_go {n i : Nat} (hi : i ≤ zPd n) (h : ¬ (n + (i + 1)) % 64 = 56) : i + 1 ≤ zPd n := by unfold zPd at *; omega
theorem pow256 {i : Nat} (h : i < 8) : (2 : Nat) ^ (56 - 8 * i) = 256 ^ (8 - 1 - i) := by
  have e : 56 - 8 * i = 8 * (8 - 1 - i) := by omega
  rw [e, Nat.pow_mul]
theorem shaSpec_s : Sound Tryz.prog 40 mSha := by
  refine Sound.mdl Tryz.func40 rfl Tryz.ntmps40 ?_
  rintro s w hs
  refine ⟨by simp, ?_⟩
  replace hs : s.size ≤ 16777216 := hs
  have hΓ : GSound Tryz.prog (look [(93, mKeys), (94, mBlkS)]) := env_cons (has_of Tryz.func93 rfl rfl) keys_s (env_cons (has_of Tryz.func94 rfl rfl) blockS_s env_nil)
  have h0 : [[Leaf.sc (.int .u8 128)]] = rowsF cU8 (padZ 0) := rfl
  simp only [initS, argPV, List.map_cons, List.map_nil, toPL, Nat.zero_add]
  repeat (first | refine zN ?_ | (refine zO ?_; (repeat (first | refine za hΓ ?_ | refine zb hΓ ?_ | refine zc ?_ | refine zd ?_)); refine zE ?_) | refine zT ?_ | refine zF ?_ | with_reducible apply At.blkX rfl)
  refine W.loopA (fun i => i ≤ zPd s.size) (fun i : Nat => [.slot 0 (vS s), .slot 3 (vI s.size), .slot 4 (one (.all 14)), .blk 14 (.arr .ft 5 1 (rowsF cU8 (padZ i)))]) (fun i => zPd s.size - i) 0 (Nat.zero_le _) (h := ?_)
  rintro i hi
  clear h0
  have hz63 : zPd s.size ≤ 63 := by unfold zPd; omega
  have hpl := padZ_len i
  have hpr := rowsF_len cU8 (padZ i)
  have ht : ((s.size : Int) + ((i + 1 : Nat) : Int)).tmod 64 = (((s.size + (i + 1)) % 64 : Nat) : Int) := by rw [Int.tmod_eq_emod_of_nonneg (by omega)]; omega
  by_cases h56 : (s.size + (i + 1)) % 64 = 56
  · have hiz := pad_stop hi h56
    subst hiz
    have hb8 : s.size * 8 = 8 * s.size := by omega
    have hb9 : (s.size : Int) * 8 = ((8 * s.size : Nat) : Int) := by omega
    repeat (first | refine zN ?_ | (refine zO ?_; (repeat (first | refine za hΓ ?_ | refine zb hΓ ?_ | refine zc ?_ | refine zd ?_)); refine zE ?_) | refine zT ?_ | refine zF ?_ | with_reducible apply At.blkX rfl)
    have hk0 : padZ (zPd s.size) = padZ (zPd s.size) ++ (fixB 8 (8 * s.size)).take 0 := by simp
    refine W.loopA (fun i => i ≤ 8) (fun i : Nat => [.slot 0 (vS s), .slot 5 (vI i), .slot 3 (vI s.size), .slot 4 (one (.all 14)), .blk 14 (.arr .ft 5 1 (rowsF cU8 (padZ (zPd s.size) ++ (fixB 8 (8 * s.size)).take i)))]) (fun i => 8 - i) 0 (Nat.zero_le _) (by rw [← hk0]; clear hk0; exact subP) (h := ?_)
    clear hk0 ht h56
    rintro i hi8
    by_cases hlt : i < 8
    · have hget := fixB_get (8 * s.size) 8 i hlt
      have hsz : ((padZ (zPd s.size)) ++ (fixB 8 (8 * s.size)).take i).length ≤ 100 := by rw [List.length_append, List.length_take, fixB_len]; omega
      have hap : rowsF cU8 (padZ (zPd s.size) ++ (fixB 8 (8 * s.size)).take i) ++ [[.sc (.int .u8 ((8 * s.size / 2 ^ (56 - 8 * i) % 256 : Nat) : Int))]] = rowsF cU8 (padZ (zPd s.size) ++ (fixB 8 (8 * s.size)).take (i + 1)) := by
        have hl : i < (fixB 8 (8 * s.size)).length := by rw [fixB_len]; exact hlt
        have hv : (fixB 8 (8 * s.size))[i] = 8 * s.size / 2 ^ (56 - 8 * i) % 256 := by
          rw [List.getElem?_eq_getElem hl] at hget
          rw [Option.some.inj hget, pow256 hlt]
        rw [List.take_succ_eq_append_getElem hl, hv, ← List.append_assoc]
        exact cU8_app _ _
      clear hget
      have hN : 8 * s.size < 9223372036854775808 := by omega
      generalize padZ (zPd s.size) ++ (fixB 8 (8 * s.size)).take i = L at *
      obtain ⟨L2, hL2⟩ : ∃ L2, L2 = padZ (zPd s.size) ++ (fixB 8 (8 * s.size)).take (i + 1) := ⟨_, rfl⟩
      rw [← hL2] at hap
      generalize hn8 : 8 * s.size = n8 at *
      have m1 : min ((56 : Int) - 8 * (i : Int)).toNat IntKind.i64.bits = 56 - 8 * i := by
        have : ((56 : Int) - 8 * (i : Int)).toNat = 56 - 8 * i := by omega
        rw [this]
        exact Nat.min_eq_left (by show 56 - 8 * i ≤ 64; omega)
      have m2 := fdiv_nat n8 (56 - 8 * i)
      have hd : n8 / 2 ^ (56 - 8 * i) < 9223372036854775808 := Nat.lt_of_le_of_lt (Nat.div_le_self _ _) hN
      have m3 := and255 hd
      have m4 := wrap_u8n (n := n8 / 2 ^ (56 - 8 * i) % 256) (by omega)
      have m5 : IntKind.u64.wrap ((56 : Int) - 8 * (i : Int)) = 56 - 8 * (i : Int) := by rw [IntKind.wrap_u64]; omega
      clear hpl hpr hd
      repeat (first | refine zN ?_ | (refine zO ?_; (repeat (first | refine za hΓ ?_ | refine zb hΓ ?_ | refine zc ?_ | refine zd ?_)); refine zE ?_) | refine zT ?_ | refine zF ?_ | with_reducible apply At.blkX rfl)
      subst hL2
      exact At.roundA (i + 1) (by omega) (by omega)
    have hi8' : i = 8 := by omega
    subst hi8'
    have htk : (fixB 8 (8 * s.size)).take 8 = fixB 8 (8 * s.size) := List.take_of_length_le (by rw [fixB_len]; exact Nat.le_refl _)
    have hb := bytes_rows (padZ (zPd s.size) ++ fixB 8 (8 * s.size))
    have hps : s ++ (⟨((padZ (zPd s.size) ++ fixB 8 (8 * s.size)).map UInt8.ofNat).toArray⟩ : ByteArray) = padS s := rfl
    have hsb : (⟨((padZ (zPd s.size) ++ fixB 8 (8 * s.size)).map UInt8.ofNat).toArray⟩ : ByteArray).size = zPd s.size + 9 := by
      have := bsS_size (padZ (zPd s.size) ++ fixB 8 (8 * s.size))
      rw [List.length_append, padZ_len, fixB_len] at this
      exact this
    obtain ⟨q, hq, hq2⟩ := padS_64 s
    have ck := mKeys_eq
    have hfin : shaS s = bsS (outL (foldK (padS s) q) 8) := by unfold shaS shaW8; rw [hq, Nat.mul_div_cancel_left _ (by omega)]
    have hqs : (padS s).size ≤ 64 * 17000000 := by omega
    have hs2 := hs
    clear hpl hpr hb8 hb9 hlt
    have hH : [[Leaf.sc (.int .i64 1779033703)], [Leaf.sc (.int .i64 3144134277)], [Leaf.sc (.int .i64 1013904242)], [Leaf.sc (.int .i64 2773480762)], [Leaf.sc (.int .i64 1359893119)], [Leaf.sc (.int .i64 2600822924)], [Leaf.sc (.int .i64 528734635)], [Leaf.sc (.int .i64 1541459225)]] = rowsF cN (foldK (padS s) 0).lst := rfl
    generalize padS s = T at *
    repeat (first | refine zN ?_ | (refine zO ?_; (repeat (first | refine za hΓ ?_ | refine zb hΓ ?_ | refine zc ?_ | refine zd ?_)); refine zE ?_) | refine zT ?_ | refine zF ?_ | with_reducible apply At.blkX rfl)
    refine W.frzA 7 44 (h := ?_)
    refine W.loopA (fun j => j ≤ q) (fun j : Nat => [.slot 9 (vI ((64 * j : Nat) : Int)), .slot 7 (one (.sl (rowsF cN (foldK T j).lst))), .slot 8 (one (.all 45)), .slot 6 (vS T), .blk 45 (.arr .ft 3 1 (rowsF cN shaW))]) (fun j => q - j) 0 (Nat.zero_le _) (h := ?_)
    clear hH hsb hps hb htk ck
    rintro j hj
    by_cases hlt : j < q
    · have hx : (T.extract (64 * j) (64 * j + 64)).size = 64 := by rw [ByteArray.size_extract]; omega
      have cb := mBlkS_eq (foldK T j) (T.extract (64 * j) (64 * j + 64)) (foldK_ok T j) hx
      have hnx : foldK T (j + 1) = block (foldK T j) (T.extract (64 * j) (64 * j + 64)) := rfl
      have e1 : ((64 * j : Nat) : Int) + 64 = ((64 * j + 64 : Nat) : Int) := by omega
      have e2 : ((64 * (j + 1) : Nat) : Int) = ((64 * j + 64 : Nat) : Int) := by omega
      repeat (first | refine zN ?_ | (refine zO ?_; (repeat (first | refine za hΓ ?_ | refine zb hΓ ?_ | refine zc ?_ | refine zd ?_)); refine zE ?_) | refine zT ?_ | refine zF ?_ | with_reducible apply At.blkX rfl)
      refine At.frzA 7 59 (h := ?_)
      exact At.roundA (j + 1) (by omega) (by omega)
    have hjq : j = q := by omega
    subst hjq
    have hvok := foldK_ok T j
    generalize foldK T j = v at *
    have hn0 : ([] : List (List Leaf)) = rowsF cU8 (outL v 0) := rfl
    repeat (first | refine zN ?_ | (refine zO ?_; (repeat (first | refine za hΓ ?_ | refine zb hΓ ?_ | refine zc ?_ | refine zd ?_)); refine zE ?_) | refine zT ?_ | refine zF ?_ | with_reducible apply At.blkX rfl)
    refine W.loopA (fun k => k ≤ 8) (fun k : Nat => [.slot 11 (vI k), .slot 10 (one (.all 60)), .slot 7 (one (.sl (rowsF cN v.lst))), .blk 60 (.arr .ft 5 1 (rowsF cU8 (outL v k)))]) (fun k => 8 - k) 0 (Nat.zero_le _) (h := ?_)
    clear hn0
    rintro k hk
    have hol := outL_len v k hk
    have hvl : (rowsF cN v.lst).length = 8 := rfl
    by_cases hlt8 : k < 8
    · have g1 := rowN (v.lst_get hlt8)
      have b1 := W8.lst_lt hvok k
      have hs1 := outL_succ v hlt8
      generalize v.lst.getD k 0 = x at *
      have hap : rowsF cU8 (outL v k) ++ [[.sc (.int .u8 ((x / 2 ^ 24 : Nat) : Int))], [.sc (.int .u8 ((x / 2 ^ 16 % 256 : Nat) : Int))], [.sc (.int .u8 ((x / 2 ^ 8 % 256 : Nat) : Int))], [.sc (.int .u8 ((x % 256 : Nat) : Int))]] = rowsF cU8 (outL v (k + 1)) := by
        rw [hs1, ← rowsF_app]
        have e1 : x / 2 ^ 24 = x / 256 ^ 3 % 256 := by
          show x / 16777216 = x / 16777216 % 256
          omega
        have e2 : x % 256 = x / 256 ^ 0 % 256 := by rw [Nat.pow_zero, Nat.div_one]
        rw [e1, e2]
        rfl
      obtain ⟨L2, hL2⟩ : ∃ L2, L2 = outL v (k + 1) := ⟨_, rfl⟩
      rw [← hL2] at hap
      clear hs1
      have f24 := fdiv_nat x 24
      have f16 := fdiv_nat x 16
      have f8 := fdiv_nat x 8
      have m24 : min 24 IntKind.i64.bits = 24 := rfl
      have m16 : min 16 IntKind.i64.bits = 16 := rfl
      have m8 : min 8 IntKind.i64.bits = 8 := rfl
      have n16 := and255 (m := x / 2 ^ 16) (by omega)
      have n8 := and255 (m := x / 2 ^ 8) (by omega)
      have n0 := and255 (m := x) (by omega)
      have w24 := wrap_u8n (n := x / 2 ^ 24) (by omega)
      have w16 := wrap_u8n (n := x / 2 ^ 16 % 256) (by omega)
      have w8 := wrap_u8n (n := x / 2 ^ 8 % 256) (by omega)
      have w0 := wrap_u8n (n := x % 256) (by omega)
      repeat (first | refine zN ?_ | (refine zO ?_; (repeat (first | refine za hΓ ?_ | refine zb hΓ ?_ | refine zc ?_ | refine zd ?_)); refine zE ?_) | refine zT ?_ | refine zF ?_ | with_reducible apply At.blkX rfl)
      refine W.drawB hΓ 28 [[], [], [], [1, 2], [1, 2, 3], [1, 2, 3, 4], [1, 2, 3, 4, 5], [], [], [7, 8], [7, 8, 9], [7, 8, 9, 10], [7, 8, 9, 10, 11], [7, 8, 9, 10, 11, 12], [], [], [14, 15], [14, 15, 16], [14, 15, 16, 17], [14, 15, 16, 17, 18], [14, 15, 16, 17, 18, 19], [], [], [21, 22], [21, 22, 23], [21, 22, 23, 24], [21, 22, 23, 24, 25], [1, 2, 3, 4, 5, 6, 7, 8, 9, 10, 11, 12, 13, 14, 15, 16, 17, 18, 19, 20, 21, 22, 23, 24, 25, 26], [0, 1, 2, 3, 4, 5, 6, 7, 8, 9, 10, 11, 12, 13, 14, 15, 16, 17, 18, 19, 20, 21, 22, 23, 24, 25, 26, 27], [0, 1, 2, 3, 4, 5, 6, 7, 8, 9, 10, 11, 12, 13, 14, 15, 16, 17, 18, 19, 20, 21, 22, 23, 24, 25, 26, 27, 28]] (Es := ?Es16) (rest := ?rest16) (st1 := ?st116) ?_
      (repeat (first | refine za hΓ ?_ | refine zb hΓ ?_ | refine zc ?_ | refine zd ?_))
      refine zE ?_
      repeat (first | refine zN ?_ | (refine zO ?_; (repeat (first | refine za hΓ ?_ | refine zb hΓ ?_ | refine zc ?_ | refine zd ?_)); refine zE ?_) | refine zT ?_ | refine zF ?_ | with_reducible apply At.blkX rfl)
      subst hL2
      exact At.roundA (k + 1) (by omega) (by omega)
    have hk8 : k = 8 := by omega
    subst hk8
    have hb := bytes_rows (outL v 8)
    repeat (first | refine zN ?_ | (refine zO ?_; (repeat (first | refine za hΓ ?_ | refine zb hΓ ?_ | refine zc ?_ | refine zd ?_)); refine zE ?_) | refine zT ?_ | refine zF ?_ | with_reducible apply At.blkX rfl)
    refine At.retA (by rw [Tryz.results40]) (he := ?_)
    rw [hfin]
    rfl
  · have hap : rowsF cU8 (padZ i) ++ [[.sc (.int .u8 0)]] = rowsF cU8 (padZ (i + 1)) := by rw [← padZ_succ]; exact cU8_app _ 0
    have hg := pad_go hi h56
    repeat (first | refine zN ?_ | (refine zO ?_; (repeat (first | refine za hΓ ?_ | refine zb hΓ ?_ | refine zc ?_ | refine zd ?_)); refine zE ?_) | refine zT ?_ | refine zF ?_ | with_reducible apply At.blkX rfl)
    exact At.roundA (i + 1) (by omega) (by omega)

end Go.Proofs.YtfgkfcfplodaoaaGreatDoor
