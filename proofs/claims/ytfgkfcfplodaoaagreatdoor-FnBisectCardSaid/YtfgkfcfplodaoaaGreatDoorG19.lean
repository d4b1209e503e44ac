/-
  Put together: PEvShaT PEvShaI.
-/
import Derived.Test.YtfgkfcfplodaoaaGreatDoorHPEvShaP
import Derived.Test.YtfgkfcfplodaoaaGreatDoorHPEvShaS
import Derived.Test.YtfgkfcfplodaoaaGreatDoorG16
section
/-!
  Sha of spec.
-/
namespace Go.Proofs.YtfgkfcfplodaoaaGreatDoor
set_option maxRecDepth 100000
set_option linter.unusedVariables false
set_option linter.unusedSimpArgs false
open Go Go.RowKit
set_option maxHeartbeats 8000000

noncomputable def mBlkS := mdl okB (fun x => [aL cN x.1.lst, aS x.2, aL cN shaW]) fun x => rL 3 1 cN (block x.1 x.2).lst
theorem cN_iff {a b : List Nat} : rowsF cN a = rowsF cN b ↔ a = b := rowsF_iff fun x y h => by simp [cN] at h; omega
theorem lst_inj {v w : W8} (h : v.lst = w.lst) : v = w := by
  obtain ⟨a, b, c, d, e, f, g, q⟩ := v
  obtain ⟨a', b', c', d', e', f', g', q'⟩ := w
  simp only [W8.lst, List.cons.injEq, and_true] at h
  obtain ⟨rfl, rfl, rfl, rfl, rfl, rfl, rfl, rfl⟩ := h
  rfl
theorem mBlkS_eq (v : W8) (s : ByteArray) (h : v.ok) (hs : s.size = 64) : mBlkS [aL cN v.lst, aS s, aL cN shaW] = some (rL 3 1 cN (block v s).lst) := mdl_eq (by
  rintro ⟨a, b⟩ ⟨d, e⟩ h
  simp only [List.cons.injEq, Arg.val.injEq, Leaf.sl.injEq, Leaf.sc.injEq, Value.string.injEq, cN_iff, true_and, and_true] at h
  rw [lst_inj h.1, h.2]) (v, s) ⟨h, hs⟩
noncomputable def mKeys := mdl (fun _ : Unit => True) (fun _ => []) (fun _ => rL 3 1 cN shaW)
theorem mKeys_eq : mKeys [] = some (rL 3 1 cN shaW) := mdl_eq (by intro a b h; rfl) () trivial
theorem keys_s : Sound Tryz.prog 93 mKeys := by
  refine Sound.mdl Tryz.func93 rfl Tryz.ntmps93 ?_
  rintro u w -
  refine ⟨by simp, ?_⟩
  have hΓ : GSound Tryz.prog (look []) := env_nil
  simp only [initS, argPV, List.map_cons, List.map_nil, toPL, Nat.zero_add]
  refine zR ?_
  with_reducible apply W.ops
  refine WL.op (st1 := [.slot 1 (one (.all 1)), .blk 1 (.arr .ft 3 1 (rowsF cN shaW)), .slot 0 (one .nil)]) hΓ (by kernel_rfl) ?_
  refine zL ?_
  with_reducible apply WL.nil
  refine zR ?_
  refine At.retA (by rw [Tryz.results93]) (he := rfl)

theorem pad_stop {n i : Nat} (hi : i ≤ zPd n) (h : (n + (i + 1)) % 64 = 56) : i = zPd n := by unfold zPd at *; omega
theorem pad_go {n i : Nat} (hi : i ≤ zPd n) (h : ¬ (n + (i + 1)) % 64 = 56) : i + 1 ≤ zPd n := by unfold zPd at *; omega
theorem pow256 {i : Nat} (h : i < 8) : (2 : Nat) ^ (56 - 8 * i) = 256 ^ (8 - 1 - i) := by
  have e : 56 - 8 * i = 8 * (8 - 1 - i) := by omega
  rw [e, Nat.pow_mul]
theorem shaSpec_s : Sound Tryz.prog 40 mSha := by
  refine Sound.mdl Tryz.func40 rfl Tryz.ntmps40 ?_
  rintro s w hs
  refine ⟨by simp, ?_⟩
  replace hs : s.size ≤ 16777216 := hs
  have hΓ : GSound Tryz.prog (look [(93, mKeys), (94, mBlkS)]) := env_cons (has_of Tryz.func93 rfl rfl) keys_s (env_cons (has_of Tryz.func94 rfl rfl) blockS_s env_nil)
  have h0 : [[Leaf.sc (.int .u8 128)]] = rowsF cU8 (padZ 0) := rfl
  simp only [initS, argPV, List.map_cons, List.map_nil, toPL, Nat.zero_add]
  refine zR ?_
  refine W.loopA (fun i => i ≤ zPd s.size) (fun i : Nat => [.slot 0 (vS s), .slot 3 (vI s.size), .slot 4 (one (.all 14)), .blk 14 (.arr .ft 5 1 (rowsF cU8 (padZ i)))]) (fun i => zPd s.size - i) 0 (Nat.zero_le _) (h := ?_)
  rintro i hi
  clear h0
  have hz63 : zPd s.size ≤ 63 := by unfold zPd; omega
  have hpl := padZ_len i
  have hpr := rowsF_len cU8 (padZ i)
  have ht : ((s.size : Int) + ((i + 1 : Nat) : Int)).tmod 64 = (((s.size + (i + 1)) % 64 : Nat) : Int) := by rw [Int.tmod_eq_emod_of_nonneg (by omega)]; omega
  by_cases h56 : (s.size + (i + 1)) % 64 = 56
  · have hiz := pad_stop hi h56
    subst hiz
    have hb8 : s.size * 8 = 8 * s.size := by omega
    have hb9 : (s.size : Int) * 8 = ((8 * s.size : Nat) : Int) := by omega
    refine zR ?_
    have hk0 : padZ (zPd s.size) = padZ (zPd s.size) ++ (fixB 8 (8 * s.size)).take 0 := by simp
    refine W.loopA (fun i => i ≤ 8) (fun i : Nat => [.slot 0 (vS s), .slot 5 (vI i), .slot 3 (vI s.size), .slot 4 (one (.all 14)), .blk 14 (.arr .ft 5 1 (rowsF cU8 (padZ (zPd s.size) ++ (fixB 8 (8 * s.size)).take i)))]) (fun i => 8 - i) 0 (Nat.zero_le _) (by rw [← hk0]; clear hk0; exact subP) (h := ?_)
    clear hk0 ht h56
    rintro i hi8
    by_cases hlt : i < 8
    · have hget := fixB_get (8 * s.size) 8 i hlt
      have hsz : ((padZ (zPd s.size)) ++ (fixB 8 (8 * s.size)).take i).length ≤ 100 := by rw [List.length_append, List.length_take, fixB_len]; omega
      have hap : rowsF cU8 (padZ (zPd s.size) ++ (fixB 8 (8 * s.size)).take i) ++ [[.sc (.int .u8 ((8 * s.size / 2 ^ (56 - 8 * i) % 256 : Nat) : Int))]] = rowsF cU8 (padZ (zPd s.size) ++ (fixB 8 (8 * s.size)).take (i + 1)) := by
        have hl : i < (fixB 8 (8 * s.size)).length := by rw [fixB_len]; exact hlt
        have hv : (fixB 8 (8 * s.size))[i] = 8 * s.size / 2 ^ (56 - 8 * i) % 256 := by
          rw [List.getElem?_eq_getElem hl] at hget
          rw [Option.some.inj hget, pow256 hlt]
        rw [List.take_succ_eq_append_getElem hl, hv, ← List.append_assoc]
        exact cU8_app _ _
      clear hget
      have hN : 8 * s.size < 9223372036854775808 := by omega
      generalize padZ (zPd s.size) ++ (fixB 8 (8 * s.size)).take i = L at *
      obtain ⟨L2, hL2⟩ : ∃ L2, L2 = padZ (zPd s.size) ++ (fixB 8 (8 * s.size)).take (i + 1) := ⟨_, rfl⟩
      rw [← hL2] at hap
      generalize hn8 : 8 * s.size = n8 at *
      have m1 : min ((56 : Int) - 8 * (i : Int)).toNat IntKind.i64.bits = 56 - 8 * i := by
        have : ((56 : Int) - 8 * (i : Int)).toNat = 56 - 8 * i := by omega
        rw [this]
        exact Nat.min_eq_left (by show 56 - 8 * i ≤ 64; omega)
      have m2 := fdiv_nat n8 (56 - 8 * i)
      have hd : n8 / 2 ^ (56 - 8 * i) < 9223372036854775808 := Nat.lt_of_le_of_lt (Nat.div_le_self _ _) hN
      have m3 := and255 hd
      have m4 := wrap_u8n (n := n8 / 2 ^ (56 - 8 * i) % 256) (by omega)
      have m5 : IntKind.u64.wrap ((56 : Int) - 8 * (i : Int)) = 56 - 8 * (i : Int) := by rw [IntKind.wrap_u64]; omega
      clear hpl hpr hd
      refine zR ?_
      subst hL2
      exact At.roundA (i + 1) (by omega) (by omega)
    have hi8' : i = 8 := by omega
    subst hi8'
    have htk : (fixB 8 (8 * s.size)).take 8 = fixB 8 (8 * s.size) := List.take_of_length_le (by rw [fixB_len]; exact Nat.le_refl _)
    have hb := bytes_rows (padZ (zPd s.size) ++ fixB 8 (8 * s.size))
    have hps : s ++ (⟨((padZ (zPd s.size) ++ fixB 8 (8 * s.size)).map UInt8.ofNat).toArray⟩ : ByteArray) = padS s := rfl
    have hsb : (⟨((padZ (zPd s.size) ++ fixB 8 (8 * s.size)).map UInt8.ofNat).toArray⟩ : ByteArray).size = zPd s.size + 9 := by
      have := bsS_size (padZ (zPd s.size) ++ fixB 8 (8 * s.size))
      rw [List.length_append, padZ_len, fixB_len] at this
      exact this
    obtain ⟨q, hq, hq2⟩ := padS_64 s
    have ck := mKeys_eq
    have hfin : shaS s = bsS (outL (foldK (padS s) q) 8) := by unfold shaS shaW8; rw [hq, Nat.mul_div_cancel_left _ (by omega)]
    have hqs : (padS s).size ≤ 64 * 17000000 := by omega
    have hs2 := hs
    clear hpl hpr hb8 hb9 hlt
    have hH : [[Leaf.sc (.int .i64 1779033703)], [Leaf.sc (.int .i64 3144134277)], [Leaf.sc (.int .i64 1013904242)], [Leaf.sc (.int .i64 2773480762)], [Leaf.sc (.int .i64 1359893119)], [Leaf.sc (.int .i64 2600822924)], [Leaf.sc (.int .i64 528734635)], [Leaf.sc (.int .i64 1541459225)]] = rowsF cN (foldK (padS s) 0).lst := rfl
    generalize padS s = T at *
    refine zR ?_
    refine W.frzA 7 44 (h := ?_)
    refine W.loopA (fun j => j ≤ q) (fun j : Nat => [.slot 9 (vI ((64 * j : Nat) : Int)), .slot 7 (one (.sl (rowsF cN (foldK T j).lst))), .slot 8 (one (.all 45)), .slot 6 (vS T), .blk 45 (.arr .ft 3 1 (rowsF cN shaW))]) (fun j => q - j) 0 (Nat.zero_le _) (h := ?_)
    clear hH hsb hps hb htk ck
    rintro j hj
    by_cases hlt : j < q
    · have hx : (T.extract (64 * j) (64 * j + 64)).size = 64 := by rw [ByteArray.size_extract]; omega
      have cb := mBlkS_eq (foldK T j) (T.extract (64 * j) (64 * j + 64)) (foldK_ok T j) hx
      have hnx : foldK T (j + 1) = block (foldK T j) (T.extract (64 * j) (64 * j + 64)) := rfl
      have e1 : ((64 * j : Nat) : Int) + 64 = ((64 * j + 64 : Nat) : Int) := by omega
      have e2 : ((64 * (j + 1) : Nat) : Int) = ((64 * j + 64 : Nat) : Int) := by omega
      refine zR ?_
      refine At.frzA 7 59 (h := ?_)
      exact At.roundA (j + 1) (by omega) (by omega)
    have hjq : j = q := by omega
    subst hjq
    have hvok := foldK_ok T j
    generalize foldK T j = v at *
    have hn0 : ([] : List (List Leaf)) = rowsF cU8 (outL v 0) := rfl
    refine zR ?_
    refine W.loopA (fun k => k ≤ 8) (fun k : Nat => [.slot 11 (vI k), .slot 10 (one (.all 60)), .slot 7 (one (.sl (rowsF cN v.lst))), .blk 60 (.arr .ft 5 1 (rowsF cU8 (outL v k)))]) (fun k => 8 - k) 0 (Nat.zero_le _) (h := ?_)
    clear hn0
    rintro k hk
    have hol := outL_len v k hk
    have hvl : (rowsF cN v.lst).length = 8 := rfl
    by_cases hlt8 : k < 8
    · have g1 := rowN (v.lst_get hlt8)
      have b1 := W8.lst_lt hvok k
      have hs1 := outL_succ v hlt8
      generalize v.lst.getD k 0 = x at *
      have hap : rowsF cU8 (outL v k) ++ [[.sc (.int .u8 ((x / 2 ^ 24 : Nat) : Int))], [.sc (.int .u8 ((x / 2 ^ 16 % 256 : Nat) : Int))], [.sc (.int .u8 ((x / 2 ^ 8 % 256 : Nat) : Int))], [.sc (.int .u8 ((x % 256 : Nat) : Int))]] = rowsF cU8 (outL v (k + 1)) := by
        rw [hs1, ← rowsF_app]
        have e1 : x / 2 ^ 24 = x / 256 ^ 3 % 256 := by
          show x / 16777216 = x / 16777216 % 256
          omega
        have e2 : x % 256 = x / 256 ^ 0 % 256 := by rw [Nat.pow_zero, Nat.div_one]
        rw [e1, e2]
        rfl
      obtain ⟨L2, hL2⟩ : ∃ L2, L2 = outL v (k + 1) := ⟨_, rfl⟩
      rw [← hL2] at hap
      clear hs1
      have f24 := fdiv_nat x 24
      have f16 := fdiv_nat x 16
      have f8 := fdiv_nat x 8
      have m24 : min 24 IntKind.i64.bits = 24 := rfl
      have m16 : min 16 IntKind.i64.bits = 16 := rfl
      have m8 : min 8 IntKind.i64.bits = 8 := rfl
      have n16 := and255 (m := x / 2 ^ 16) (by omega)
      have n8 := and255 (m := x / 2 ^ 8) (by omega)
      have n0 := and255 (m := x) (by omega)
      have w24 := wrap_u8n (n := x / 2 ^ 24) (by omega)
      have w16 := wrap_u8n (n := x / 2 ^ 16 % 256) (by omega)
      have w8 := wrap_u8n (n := x / 2 ^ 8 % 256) (by omega)
      have w0 := wrap_u8n (n := x % 256) (by omega)
      refine zR ?_
      refine W.drawB hΓ 28 [[], [], [], [1, 2], [1, 2, 3], [1, 2, 3, 4], [1, 2, 3, 4, 5], [], [], [7, 8], [7, 8, 9], [7, 8, 9, 10], [7, 8, 9, 10, 11], [7, 8, 9, 10, 11, 12], [], [], [14, 15], [14, 15, 16], [14, 15, 16, 17], [14, 15, 16, 17, 18], [14, 15, 16, 17, 18, 19], [], [], [21, 22], [21, 22, 23], [21, 22, 23, 24], [21, 22, 23, 24, 25], [1, 2, 3, 4, 5, 6, 7, 8, 9, 10, 11, 12, 13, 14, 15, 16, 17, 18, 19, 20, 21, 22, 23, 24, 25, 26], [0, 1, 2, 3, 4, 5, 6, 7, 8, 9, 10, 11, 12, 13, 14, 15, 16, 17, 18, 19, 20, 21, 22, 23, 24, 25, 26, 27], [0, 1, 2, 3, 4, 5, 6, 7, 8, 9, 10, 11, 12, 13, 14, 15, 16, 17, 18, 19, 20, 21, 22, 23, 24, 25, 26, 27, 28]] (Es := ?Es16) (rest := ?rest16) (st1 := ?st116) ?_
      refine zL ?_
      refine zE ?_
      refine zR ?_
      subst hL2
      exact At.roundA (k + 1) (by omega) (by omega)
    have hk8 : k = 8 := by omega
    subst hk8
    have hb := bytes_rows (outL v 8)
    refine zR ?_
    refine At.retA (by rw [Tryz.results40]) (he := ?_)
    rw [hfin]
    rfl
  · have hap : rowsF cU8 (padZ i) ++ [[.sc (.int .u8 0)]] = rowsF cU8 (padZ (i + 1)) := by rw [← padZ_succ]; exact cU8_app _ 0
    have hg := pad_go hi h56
    refine zR ?_
    exact At.roundA (i + 1) (by omega) (by omega)

end Go.Proofs.YtfgkfcfplodaoaaGreatDoor

end
section
/-!
  Sha of impl: one block.
-/
namespace Go.Proofs.YtfgkfcfplodaoaaGreatDoor
set_option maxRecDepth 100000
set_option linter.unusedVariables false
set_option linter.unusedSimpArgs false
open Go Go.RowKit
set_option maxHeartbeats 8000000

abbrev aW (v : W8) : Arg := .val true [.sc (.int .u32 (v.a : Int)), .sc (.int .u32 (v.b : Int)), .sc (.int .u32 (v.c : Int)), .sc (.int .u32 (v.d : Int)), .sc (.int .u32 (v.e : Int)), .sc (.int .u32 (v.f : Int)), .sc (.int .u32 (v.g : Int)), .sc (.int .u32 (v.h : Int))]
abbrev roU (n : Nat) : RL := .ro (.sc (.int .u32 (n : Int)))
abbrev rW (v : W8) : Res := .comp true [roU v.a, roU v.b, roU v.c, roU v.d, roU v.e, roU v.f, roU v.g, roU v.h]
theorem byteN_extract {s : ByteArray} {a j : Nat} (h : a + j < s.size) : byteN (s.extract a s.size) j = byteN s (a + j) := by
  unfold byteN byteU
  congr 1
  simp only [List.getD_eq_getElem?_getD, ByteArray.data_extract, Array.toList_extract, List.extract_eq_take_drop]
  rw [List.getElem?_take, List.getElem?_drop]
  split
  · rfl
  · rename_i hn
    exfalso
    omega
theorem word_of {s : ByteArray} (hs : s.size = 64) {k : Nat} (hk : k < 16) : mWord [aS (s.extract (4 * k) s.size)] = some (rU (wAt s k)) := by
  rw [mWord_eq _ (by rw [ByteArray.size_extract]; omega)]
  rw [byteN_extract (by omega), byteN_extract (by omega), byteN_extract (by omega), byteN_extract (by omega)]
  rfl
theorem getD_at {α : Type} {l : List α} {k : Nat} (h : k < l.length) {d : α} : l.getD k d = l[k] := by simp [h]
theorem add4_u32 (a b c d : Nat) : IntKind.u32.wrap (IntKind.u32.wrap (IntKind.u32.wrap ((a : Int) + b) + c) + d) = (((a + b + c + d) % 4294967296 : Nat) : Int) := by
  have hw : ∀ n : Int, IntKind.u32.wrap n = n % 4294967296 := fun n => by simp [IntKind.wrap, IntKind.bits, IntKind.signed]
  simp only [hw]
  omega
theorem add2_u32 (a b : Nat) : IntKind.u32.wrap ((a : Int) + b) = (((a + b) % 4294967296 : Nat) : Int) := by
  have hw : ∀ n : Int, IntKind.u32.wrap n = n % 4294967296 := fun n => by simp [IntKind.wrap, IntKind.bits, IntKind.signed]
  simp only [hw]
  omega
def shaL : List Leaf := shaW.map fun (n : Nat) => .sc (.int .u32 (n : Int))
theorem ev_shaW (st : St) : ev st (.global 0) = one (.prow shaL 0) := by
  show (match globs 0 with | some cs => one (.prow (cs.map Leaf.sc) 0) | none => one .dead) = _
  unfold globs shaL
  rw [if_pos rfl]
  simp only [List.map_map]
  rfl
theorem shaL_get {k : Nat} (h : k < 64) : (shaL.map toPL)[k]? = some (pU (shaK k)) := by
  have hl : k < shaW.length := h
  unfold shaL shaK
  rw [List.map_map, List.getElem?_map, List.getElem?_eq_getElem hl, getD_at hl]
  rfl
theorem not_u32 {e : Nat} (h : e < 4294967296) : bits .xor .u32 (if IntKind.u32.signed = true then -1 else IntKind.u32.max) (e : Int) = ((4294967295 ^^^ e : Nat) : Int) := xor_u32 (a := 4294967295) (by omega) h

theorem blockI_s : Sound Tryz.prog 225 (mdl (fun x : W8 × ByteArray => x.1.ok ∧ x.2.size = 64) (fun x => [aW x.1, aS x.2]) fun x => rW (block x.1 x.2)) := by
  refine Sound.mdl Tryz.func225 rfl Tryz.ntmps225 ?_
  rintro ⟨h, s⟩ w ⟨hok, hs⟩
  refine ⟨by simp, ?_⟩
  dsimp only at hok hs
  have hΓ : GSound Tryz.prog (look [(253, mWord), (254, mRot)]) := env_cons (has_of Tryz.func253 rfl rfl) word_s (env_cons (has_of Tryz.func254 rfl rfl) rot_s env_nil)
  have hnm := lsNms_pU
  have hkp := kill_pU
  simp only [initS, argPV, List.map_cons, List.map_nil, toPL, Nat.zero_add]
  refine zR ?_
  refine W.loopA (fun k => k ≤ 16) (fun k : Nat => [.slot 22 (vI k), .slot 5 (one (.ptr 5 0)), .slot 4 (one (.ptr 4 0)), .slot 2 (one (.ptr 2 0)), .slot 1 (vS s), .blk 5 (.box ((mem s k).map pU)), .blk 2 (.box h.pl), .blk 4 (.box (W8.pl ⟨0, 0, 0, 0, 0, 0, 0, 0⟩))]) (fun k => 16 - k) 0 (Nat.zero_le _) (h := ?_)
  rintro k hk
  have hml : ((mem s k).map pU).length = 64 := by rw [List.length_map, mem_len s (by omega)]
  by_cases hlt : k < 16
  · have e1 : (4 * (k : Int)).toNat = 4 * k := by omega
    have c1 := word_of hs hlt
    rw [hs] at c1
    have hset : ((mem s k).map pU).take k ++ [pU (wAt s k)] ++ ((mem s k).map pU).drop (k + 1) = (mem s (k + 1)).map pU := by
      rw [boxU_set _ (by rw [mem_len s (by omega)]; omega), mem_set s (by omega) (sch_lo s hlt)]
    refine zR ?_
    exact At.roundA (k + 1) (by omega) (by omega)
  have hk16 : k = 16 := by omega
  subst hk16
  refine zR ?_
  refine W.loopA (fun k => 16 ≤ k ∧ k ≤ 64) (fun k : Nat => [.slot 7 (vI k), .slot 5 (one (.ptr 5 0)), .slot 4 (one (.ptr 4 0)), .slot 2 (one (.ptr 2 0)), .blk 5 (.box ((mem s k).map pU)), .blk 2 (.box h.pl), .blk 4 (.box (W8.pl ⟨0, 0, 0, 0, 0, 0, 0, 0⟩))]) (fun k => 64 - k) 16 ⟨by omega, by omega⟩ (h := ?_)
  rintro k ⟨hk1, hk2⟩
  have hml : ((mem s k).map pU).length = 64 := by rw [List.length_map, mem_len s (by omega)]
  by_cases hlt : k < 64
  · have g16 := boxU_get (mem_get s (k := k) (j := k - 16) (by omega))
    have g15 := boxU_get (mem_get s (k := k) (j := k - 15) (by omega))
    have g7 := boxU_get (mem_get s (k := k) (j := k - 7) (by omega))
    have g2 := boxU_get (mem_get s (k := k) (j := k - 2) (by omega))
    have l15 := schD_lt s k (k - 15)
    have l2 := schD_lt s k (k - 2)
    have hnx := sch_hi s (k := k) (by omega)
    generalize (sch s k).getD (k - 16) 0 = a at g16 hnx
    generalize (sch s k).getD (k - 15) 0 = b at g15 l15 hnx
    generalize (sch s k).getD (k - 7) 0 = c at g7 hnx
    generalize (sch s k).getD (k - 2) 0 = d at g2 l2 hnx
    have e16 : ((k : Int) - 16).toNat = k - 16 := by omega
    have e15 : ((k : Int) - 15).toNat = k - 15 := by omega
    have e7 : ((k : Int) - 7).toNat = k - 7 := by omega
    have e2 : ((k : Int) - 2).toNat = k - 2 := by omega
    have r7 : mRot [aU b, aI (-7)] = some (rU (rotr b 7)) := mRot_eq b 7 l15 (by omega) (by omega)
    have r18 : mRot [aU b, aI (-18)] = some (rU (rotr b 18)) := mRot_eq b 18 l15 (by omega) (by omega)
    have r17 : mRot [aU d, aI (-17)] = some (rU (rotr d 17)) := mRot_eq d 17 l2 (by omega) (by omega)
    have r19 : mRot [aU d, aI (-19)] = some (rU (rotr d 19)) := mRot_eq d 19 l2 (by omega) (by omega)
    have m3 : min 3 IntKind.u32.bits = 3 := rfl
    have m10 : min 10 IntKind.u32.bits = 10 := rfl
    have f3 := fdiv_nat b 3
    have f10 := fdiv_nat d 10
    have x1 := xor_u32 (rotr_lt b 7) (rotr_lt b 18)
    have y1 := Nat.xor_lt_two_pow (n := 32) (x := rotr b 7) (y := rotr b 18) (rotr_lt _ _) (rotr_lt _ _)
    have x2 := xor_u32 (a := rotr b 7 ^^^ rotr b 18) (b := b / 2 ^ 3) (by omega) (by omega)
    have x3 := xor_u32 (rotr_lt d 17) (rotr_lt d 19)
    have y3 := Nat.xor_lt_two_pow (n := 32) (x := rotr d 17) (y := rotr d 19) (rotr_lt _ _) (rotr_lt _ _)
    have x4 := xor_u32 (a := rotr d 17 ^^^ rotr d 19) (b := d / 2 ^ 10) (by omega) (by omega)
    have hadd := add4_u32 a (rotr b 7 ^^^ rotr b 18 ^^^ b / 2 ^ 3) c (rotr d 17 ^^^ rotr d 19 ^^^ d / 2 ^ 10)
    have hset : ((mem s k).map pU).take k ++ [pU ((a + (rotr b 7 ^^^ rotr b 18 ^^^ b / 2 ^ 3) + c + (rotr d 17 ^^^ rotr d 19 ^^^ d / 2 ^ 10)) % 4294967296)] ++ ((mem s k).map pU).drop (k + 1) = (mem s (k + 1)).map pU := by
      rw [boxU_set _ (by rw [mem_len s (by omega)]; omega)]
      exact congrArg (List.map pU) (mem_set s hlt hnx)
    clear hnx y1 y3
    refine zR ?_
    refine W.drawB hΓ 10 [[], [0], [0, 1], [0, 1, 2], [], [4], [4, 5], [4, 5, 6], [0, 1, 2, 3], [0, 1, 2, 3, 4, 5, 6, 7, 8]] (Es := ?Es7) (rest := ?rest7) (st1 := ?st17) ?_
    refine zL ?_
    refine zE ?_
    refine zR ?_
    refine W.drawB hΓ 15 [[], [], [1], [1, 2], [1, 2, 3], [], [1, 2, 3, 4, 5], [], [7], [7, 8], [7, 8, 9], [1, 2, 3, 4, 5, 6, 7, 8, 9, 10], [], [1, 2, 3, 4, 5, 6, 7, 8, 9, 10, 11, 12], [0, 1, 2, 3, 4, 5, 6, 7, 8, 9, 10, 11, 12, 13], [0, 1, 2, 3, 4, 5, 6, 7, 8, 9, 10, 11, 12, 13, 14]] (Es := ?Es9) (rest := ?rest9) (st1 := ?st19) ?_
    refine zL ?_
    refine zE ?_
    refine zR ?_
    exact At.roundA (k + 1) ⟨by omega, by omega⟩ (by omega)
  have hk64 : k = 64 := by omega
  subst hk64
  have hr0 : rnds s h 0 = h := rfl
  refine zR ?_
  refine W.loopA (fun k => k ≤ 64) (fun k : Nat => [.slot 77 (vI k), .slot 12 (one (.ptr 12 0)), .slot 5 (one (.ptr 5 0)), .slot 4 (one (.ptr 4 0)), .slot 2 (one (.ptr 2 0)), .blk 12 (.box (rnds s h k).pl), .blk 5 (.box ((mem s 64).map pU)), .blk 2 (.box h.pl), .blk 4 (.box (W8.pl ⟨0, 0, 0, 0, 0, 0, 0, 0⟩))]) (fun k => 64 - k) 0 (Nat.zero_le _) (h := ?_)
  rintro k hk
  by_cases hlt : k < 64
  · obtain ⟨⟨ba, bb, bc, bd⟩, be, bf, bg, bh⟩ := rnds_ok s hok k
    have hgl := ev_shaW
    have hK := shaL_get hlt
    have hW := boxU_get (mem_get s (k := 64) (j := k) hlt)
    have na : (rnds s h (k + 1)).a = (rnd (rnds s h k) (shaK k + (sch s 64).getD k 0)).a := rfl
    have nb : (rnds s h (k + 1)).b = (rnds s h k).a := rfl
    have nc : (rnds s h (k + 1)).c = (rnds s h k).b := rfl
    have nd : (rnds s h (k + 1)).d = (rnds s h k).c := rfl
    have ne : (rnds s h (k + 1)).e = (rnd (rnds s h k) (shaK k + (sch s 64).getD k 0)).e := rfl
    have nf : (rnds s h (k + 1)).f = (rnds s h k).e := rfl
    have ng : (rnds s h (k + 1)).g = (rnds s h k).f := rfl
    have nh : (rnds s h (k + 1)).h = (rnds s h k).g := rfl
    generalize rnds s h k = v at *
    generalize shaK k = K at hK na ne
    generalize (sch s 64).getD k 0 = Wk at hW na ne
    obtain ⟨a, b, c, d, e, f, g, q⟩ := v
    dsimp only at ba bb bc bd be bf bg bh nb nc nd nf ng nh
    dsimp only [rnd] at na ne
    have r6 : mRot [aU e, aI (-6)] = some (rU (rotr e 6)) := mRot_eq e 6 be (by omega) (by omega)
    have r11 : mRot [aU e, aI (-11)] = some (rU (rotr e 11)) := mRot_eq e 11 be (by omega) (by omega)
    have r25 : mRot [aU e, aI (-25)] = some (rU (rotr e 25)) := mRot_eq e 25 be (by omega) (by omega)
    have r2 : mRot [aU a, aI (-2)] = some (rU (rotr a 2)) := mRot_eq a 2 ba (by omega) (by omega)
    have r13 : mRot [aU a, aI (-13)] = some (rU (rotr a 13)) := mRot_eq a 13 ba (by omega) (by omega)
    have r22 : mRot [aU a, aI (-22)] = some (rU (rotr a 22)) := mRot_eq a 22 ba (by omega) (by omega)
    have y1 := Nat.xor_lt_two_pow (n := 32) (x := rotr e 6) (y := rotr e 11) (rotr_lt _ _) (rotr_lt _ _)
    have y2 := Nat.xor_lt_two_pow (n := 32) (x := rotr a 2) (y := rotr a 13) (rotr_lt _ _) (rotr_lt _ _)
    have x1 := xor_u32 (rotr_lt e 6) (rotr_lt e 11)
    have x2 : bits .xor .u32 ((rotr e 6 ^^^ rotr e 11 : Nat) : Int) ((rotr e 25 : Nat) : Int) = ((big1 e : Nat) : Int) := xor_u32 y1 (rotr_lt e 25)
    have x3 := xor_u32 (rotr_lt a 2) (rotr_lt a 13)
    have x4 : bits .xor .u32 ((rotr a 2 ^^^ rotr a 13 : Nat) : Int) ((rotr a 22 : Nat) : Int) = ((big0 a : Nat) : Int) := xor_u32 y2 (rotr_lt a 22)
    have n1 := not_u32 be
    have hn := Nat.xor_lt_two_pow (n := 32) (x := 4294967295) (y := e) (by omega) be
    have a1 := and_u32 be bf
    have a2 := and_u32 (a := 4294967295 ^^^ e) hn bg
    have p1 := Nat.and_lt_two_pow (n := 32) e bf
    have p2 := Nat.and_lt_two_pow (n := 32) (4294967295 ^^^ e) bg
    have x5 : bits .xor .u32 ((e &&& f : Nat) : Int) (((4294967295 ^^^ e) &&& g : Nat) : Int) = ((chs e f g : Nat) : Int) := xor_u32 p1 p2
    have a3 := and_u32 ba bb
    have a4 := and_u32 ba bc
    have a5 := and_u32 bb bc
    have p3 := Nat.and_lt_two_pow (n := 32) a bb
    have p4 := Nat.and_lt_two_pow (n := 32) a bc
    have p5 := Nat.and_lt_two_pow (n := 32) b bc
    have p6 := Nat.xor_lt_two_pow (n := 32) p3 p4
    have x6 := xor_u32 p3 p4
    have x7 : bits .xor .u32 (((a &&& b) ^^^ (a &&& c) : Nat) : Int) ((b &&& c : Nat) : Int) = ((maj a b c : Nat) : Int) := xor_u32 p6 p5
    clear y1 y2 hn p1 p2 p3 p4 p5 p6
    generalize big1 e = S1 at x2 na ne
    generalize big0 a = S0 at x4 na
    generalize chs e f g = C at x5 na ne
    generalize maj a b c = M at x7 na
    have ad := add4_u32 q S1 C K
    have ae := add2_u32 ((q + S1 + C + K) % 4294967296) Wk
    have af := add2_u32 (((q + S1 + C + K) % 4294967296 + Wk) % 4294967296) S0
    have ag := add2_u32 (((((q + S1 + C + K) % 4294967296 + Wk) % 4294967296) + S0) % 4294967296) M
    have ah := add2_u32 d (((q + S1 + C + K) % 4294967296 + Wk) % 4294967296)
    have na' : ((((q + S1 + C + K) % 4294967296 + Wk) % 4294967296 + S0) % 4294967296 + M) % 4294967296 = (rnds s h (k + 1)).a := by rw [na]; omega
    have ne' : (d + ((q + S1 + C + K) % 4294967296 + Wk) % 4294967296) % 4294967296 = (rnds s h (k + 1)).e := by rw [ne]; omega
    have hpl : (rnds s h (k + 1)).pl = [pU (rnds s h (k + 1)).a, pU a, pU b, pU c, pU (rnds s h (k + 1)).e, pU e, pU f, pU g] := by unfold W8.pl; rw [nb, nc, nd, nf, ng, nh]
    clear na ne nb nc nd nf ng nh
    refine zR ?_
    refine W.drawB hΓ 6 [[], [0], [], [2], [0, 1], [0, 1, 2, 3, 4]] (Es := ?Es13) (rest := ?rest13) (st1 := ?st113) ?_
    refine zL ?_
    refine zE ?_
    refine zR ?_
    refine W.drawB hΓ 15 [[], [0], [], [0, 1, 2], [], [0, 1, 2, 3, 4], [], [6], [6, 7], [0, 1, 2, 3, 4, 5, 6, 7, 8], [], [10], [10, 11], [0, 1, 2, 3, 4, 5, 6, 7, 8, 9, 10, 11, 12], [0, 1, 2, 3, 4, 5, 6, 7, 8, 9, 10, 11, 12, 13]] (Es := ?Es15) (rest := ?rest15) (st1 := ?st115) ?_
    refine zL ?_
    refine zE ?_
    refine zR ?_
    exact At.roundA (k + 1) (by omega) (by omega)
  have hk64 : k = 64 := by omega
  subst hk64
  clear hml hr0 hk1 hk2
  generalize hv : rnds s h 64 = v
  refine zR ?_
  refine W.loopA (fun k => k ≤ 8) (fun k : Nat => [.slot 162 (vI k), .slot 12 (one (.ptr 12 0)), .slot 4 (one (.ptr 4 0)), .slot 2 (one (.ptr 2 0)), .blk 12 (.box (v.lst.map pU)), .blk 2 (.box ((mixL h v k).map pU)), .blk 4 (.box (W8.pl ⟨0, 0, 0, 0, 0, 0, 0, 0⟩))]) (fun k => 8 - k) 0 (Nat.zero_le _) (h := ?_)
  rintro k hk
  have hml : ((mixL h v k).map pU).length = 8 := by rw [List.length_map, mixL_len]
  by_cases hlt : k < 8
  · have g1 := boxU_get (mixL_get h v hlt)
    have g2 := boxU_get (v.lst_get hlt)
    have hml2 : (v.lst.map pU).length = 8 := rfl
    have ha := add2_u32 (h.lst.getD k 0) (v.lst.getD k 0)
    have hset : ((mixL h v k).map pU).take k ++ [pU ((h.lst.getD k 0 + v.lst.getD k 0) % 4294967296)] ++ ((mixL h v k).map pU).drop (k + 1) = (mixL h v (k + 1)).map pU := by
      rw [boxU_set _ (by rw [mixL_len]; exact hlt), mixL_set h v hlt]
    clear hv
    generalize h.lst.getD k 0 = x1 at *
    generalize v.lst.getD k 0 = x2 at *
    refine zR ?_
    refine W.drawB hΓ 9 [[], [], [1], [1, 2], [], [4], [4, 5], [1, 2, 3, 4, 5, 6], [0, 1, 2, 3, 4, 5, 6, 7], [0, 1, 2, 3, 4, 5, 6, 7, 8]] (Es := ?Es19) (rest := ?rest19) (st1 := ?st119) ?_
    refine zL ?_
    refine zE ?_
    refine zR ?_
    exact At.roundA (k + 1) (by omega) (by omega)
  have hk8 : k = 8 := by omega
  subst hk8
  have he : (mixL h v 8).map pU = (block h s).pl := by rw [mixL_all, ← hv]; rfl
  refine zR ?_
  refine At.retA (by rw [Tryz.results225]) (he := rfl)

end Go.Proofs.YtfgkfcfplodaoaaGreatDoor

end
