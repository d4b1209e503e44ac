/-
  Put together: PEvShaI PEvShaU PEvShort.
-/
import Derived.Test.YtfgkfcfplodaoaaGreatDoorG10
import Derived.Test.YtfgkfcfplodaoaaGreatDoorG11
import Derived.Test.YtfgkfcfplodaoaaGreatDoorHPEvShaT
section
/-!
  Sha of impl: one block.
-/
namespace Go.Proofs.YtfgkfcfplodaoaaGreatDoor
set_option maxRecDepth 100000
set_option linter.unusedVariables false
set_option linter.unusedSimpArgs false
open Go Go.RowKit
set_option maxHeartbeats 8000000

abbrev aW (v : W8) : Arg := .val true [.sc (.int .u32 (v.a : Int)), .sc (.int .u32 (v.b : Int)), .sc (.int .u32 (v.c : Int)), .sc (.int .u32 (v.d : Int)), .sc (.int .u32 (v.e : Int)), .sc (.int .u32 (v.f : Int)), .sc (.int .u32 (v.g : Int)), .sc (.int .u32 (v.h : Int))]
abbrev roU (n : Nat) : RL := .ro (.sc (.int .u32 (n : Int)))
abbrev rW (v : W8) : Res := .comp true [roU v.a, roU v.b, roU v.c, roU v.d, roU v.e, roU v.f, roU v.g, roU v.h]
theorem byteN_extract {s : ByteArray} {a j : Nat} (h : a + j < s.size) : byteN (s.extract a s.size) j = byteN s (a + j) := by
  unfold byteN byteU
  congr 1
  simp only [List.getD_eq_getElem?_getD, ByteArray.data_extract, Array.toList_extract, List.extract_eq_take_drop]
  rw [List.getElem?_take, List.getElem?_drop]
  split
  · rfl
  · rename_i hn
    exfalso
    omega
theorem word_of {s : ByteArray} (hs : s.size = 64) {k : Nat} (hk : k < 16) : mWord [aS (s.extract (4 * k) s.size)] = some (rU (wAt s k)) := by
  rw [mWord_eq _ (by rw [ByteArray.size_extract]; omega)]
  rw [byteN_extract (by omega), byteN_extract (by omega), byteN_extract (by omega), byteN_extract (by omega)]
  rfl
theorem getD_at {α : Type} {l : List α} {k : Nat} (h : k < l.length) {d : α} : l.getD k d = l[k] := by simp [h]
theorem add4_u32 (a b c d : Nat) : IntKind.u32.wrap (IntKind.u32.wrap (IntKind.u32.wrap ((a : Int) + b) + c) + d) = (((a + b + c + d) % 4294967296 : Nat) : Int) := by
  have hw : ∀ n : Int, IntKind.u32.wrap n = n % 4294967296 := fun n => by simp [IntKind.wrap, IntKind.bits, IntKind.signed]
  simp only [hw]
  omega
theorem add2_u32 (a b : Nat) : IntKind.u32.wrap ((a : Int) + b) = (((a + b) % 4294967296 : Nat) : Int) := by
  have hw : ∀ n : Int, IntKind.u32.wrap n = n % 4294967296 := fun n => by simp [IntKind.wrap, IntKind.bits, IntKind.signed]
  simp only [hw]
  omega
def shaL : List Leaf := shaW.map fun (n : Nat) => .sc (.int .u32 (n : Int))
theorem ev_shaW (st : St) : ev st (.global 0) = one (.prow shaL 0) := by
  show (match globs 0 with | some cs => one (.prow (cs.map Leaf.sc) 0) | none => one .dead) = _
  unfold globs shaL
  rw [if_pos rfl]
  simp only [List.map_map]
  rfl
theorem shaL_get {k : Nat} (h : k < 64) : (shaL.map toPL)[k]? = some (pU (shaK k)) := by
  have hl : k < shaW.length := h
  unfold shaL shaK
  rw [List.map_map, List.getElem?_map, List.getElem?_eq_getElem hl, getD_at hl]
  rfl
theorem not_u32 {e : Nat} (h : e < 4294967296) : bits .xor .u32 (if IntKind.u32.signed = true then -1 else IntKind.u32.max) (e : Int) = ((4294967295 ^^^ e : Nat) : Int) := xor_u32 (a := 4294967295) (by omega) h

theorem blockI_s : Sound Tryz.prog 225 (mdl (fun x : W8 × ByteArray => x.1.ok ∧ x.2.size = 64) (fun x => [aW x.1, aS x.2]) fun x => rW (block x.1 x.2)) := by
  refine Sound.mdl Tryz.func225 rfl Tryz.ntmps225 ?_
  rintro ⟨h, s⟩ w ⟨hok, hs⟩
  refine ⟨by simp, ?_⟩
  dsimp only at hok hs
  have hΓ : GSound Tryz.prog (look [(253, mWord), (254, mRot)]) := env_cons (has_of Tryz.func253 rfl rfl) word_s (env_cons (has_of Tryz.func254 rfl rfl) rot_s env_nil)
  have hnm := lsNms_pU
  have hkp := kill_pU
  simp only [initS, argPV, List.map_cons, List.map_nil, toPL, Nat.zero_add]
  repeat (first | refine zN ?_ | (refine zO ?_; (repeat (first | refine za hΓ ?_ | refine zb hΓ ?_ | refine zc ?_ | refine zd ?_)); refine zE ?_) | refine zT ?_ | refine zF ?_ | with_reducible apply At.blkX rfl)
  refine W.loopA (fun k => k ≤ 16) (fun k : Nat => [.slot 22 (vI k), .slot 5 (one (.ptr 5 0)), .slot 4 (one (.ptr 4 0)), .slot 2 (one (.ptr 2 0)), .slot 1 (vS s), .blk 5 (.box ((mem s k).map pU)), .blk 2 (.box h.pl), .blk 4 (.box (W8.pl ⟨0, 0, 0, 0, 0, 0, 0, 0⟩))]) (fun k => 16 - k) 0 (Nat.zero_le _) (h := ?_)
  rintro k hk
  have hml : ((mem s k).map pU).length = 64 := by rw [List.length_map, mem_len s (by omega)]
  by_cases hlt : k < 16
  · have e1 : (4 * (k : Int)).toNat = 4 * k := by omega
    have c1 := word_of hs hlt
    rw [hs] at c1
    have hset : ((mem s k).map pU).take k ++ [pU (wAt s k)] ++ ((mem s k).map pU).drop (k + 1) = (mem s (k + 1)).map pU := by
      rw [boxU_set _ (by rw [mem_len s (by omega)]; omega), mem_set s (by omega) (sch_lo s hlt)]
    repeat (first | refine zN ?_ | (refine zO ?_; (repeat (first | refine za hΓ ?_ | refine zb hΓ ?_ | refine zc ?_ | refine zd ?_)); refine zE ?_) | refine zT ?_ | refine zF ?_ | with_reducible apply At.blkX rfl)
    exact At.roundA (k + 1) (by omega) (by omega)
  have hk16 : k = 16 := by omega
  subst hk16
  repeat (first | refine zN ?_ | (refine zO ?_; (repeat (first | refine za hΓ ?_ | refine zb hΓ ?_ | refine zc ?_ | refine zd ?_)); refine zE ?_) | refine zT ?_ | refine zF ?_ | with_reducible apply At.blkX rfl)
  refine W.loopA (fun k => 16 ≤ k ∧ k ≤ 64) (fun k : Nat => [.slot 7 (vI k), .slot 5 (one (.ptr 5 0)), .slot 4 (one (.ptr 4 0)), .slot 2 (one (.ptr 2 0)), .blk 5 (.box ((mem s k).map pU)), .blk 2 (.box h.pl), .blk 4 (.box (W8.pl ⟨0, 0, 0, 0, 0, 0, 0, 0⟩))]) (fun k => 64 - k) 16 ⟨by omega, by omega⟩ (h := ?_)
  rintro k ⟨hk1, hk2⟩
  have hml : ((mem s k).map pU).length = 64 := by rw [List.length_map, mem_len s (by omega)]
  by_cases hlt : k < 64
  · have g16 := boxU_get (mem_get s (k := k) (j := k - 16) (by omega))
    have g15 := boxU_get (mem_get s (k := k) (j := k - 15) (by omega))
    have g7 := boxU_get (mem_get s (k := k) (j := k - 7) (by omega))
    have g2 := boxU_get (mem_get s (k := k) (j := k - 2) (by omega))
    have l15 := schD_lt s k (k - 15)
    have l2 := schD_lt s k (k - 2)
    have hnx := sch_hi s (k := k) (by omega)
    generalize (sch s k).getD (k - 16) 0 = a at g16 hnx
    generalize (sch s k).getD (k - 15) 0 = b at g15 l15 hnx
    generalize (sch s k).getD (k - 7) 0 = c at g7 hnx
    generalize (sch s k).getD (k - 2) 0 = d at g2 l2 hnx
    have e16 : ((k : Int) - 16).toNat = k - 16 := by omega
    have e15 : ((k : Int) - 15).toNat = k - 15 := by omega
    have e7 : ((k : Int) - 7).toNat = k - 7 := by omega
    have e2 : ((k : Int) - 2).toNat = k - 2 := by omega
    have r7 : mRot [aU b, aI (-7)] = some (rU (rotr b 7)) := mRot_eq b 7 l15 (by omega) (by omega)
    have r18 : mRot [aU b, aI (-18)] = some (rU (rotr b 18)) := mRot_eq b 18 l15 (by omega) (by omega)
    have r17 : mRot [aU d, aI (-17)] = some (rU (rotr d 17)) := mRot_eq d 17 l2 (by omega) (by omega)
    have r19 : mRot [aU d, aI (-19)] = some (rU (rotr d 19)) := mRot_eq d 19 l2 (by omega) (by omega)
    have m3 : min 3 IntKind.u32.bits = 3 := rfl
    have m10 : min 10 IntKind.u32.bits = 10 := rfl
    have f3 := fdiv_nat b 3
    have f10 := fdiv_nat d 10
    have x1 := xor_u32 (rotr_lt b 7) (rotr_lt b 18)
    have y1 := Nat.xor_lt_two_pow (n := 32) (x := rotr b 7) (y := rotr b 18) (rotr_lt _ _) (rotr_lt _ _)
    have x2 := xor_u32 (a := rotr b 7 ^^^ rotr b 18) (b := b / 2 ^ 3) (by omega) (by omega)
    have x3 := xor_u32 (rotr_lt d 17) (rotr_lt d 19)
    have y3 := Nat.xor_lt_two_pow (n := 32) (x := rotr d 17) (y := rotr d 19) (rotr_lt _ _) (rotr_lt _ _)
    have x4 := xor_u32 (a := rotr d 17 ^^^ rotr d 19) (b := d / 2 ^ 10) (by omega) (by omega)
    have hadd := add4_u32 a (rotr b 7 ^^^ rotr b 18 ^^^ b / 2 ^ 3) c (rotr d 17 ^^^ rotr d 19 ^^^ d / 2 ^ 10)
    have hset : ((mem s k).map pU).take k ++ [pU ((a + (rotr b 7 ^^^ rotr b 18 ^^^ b / 2 ^ 3) + c + (rotr d 17 ^^^ rotr d 19 ^^^ d / 2 ^ 10)) % 4294967296)] ++ ((mem s k).map pU).drop (k + 1) = (mem s (k + 1)).map pU := by
      rw [boxU_set _ (by rw [mem_len s (by omega)]; omega)]
      exact congrArg (List.map pU) (mem_set s hlt hnx)
    clear hnx y1 y3
    repeat (first | refine zN ?_ | (refine zO ?_; (repeat (first | refine za hΓ ?_ | refine zb hΓ ?_ | refine zc ?_ | refine zd ?_)); refine zE ?_) | refine zT ?_ | refine zF ?_ | with_reducible apply At.blkX rfl)
    refine W.drawB hΓ 10 [[], [0], [0, 1], [0, 1, 2], [], [4], [4, 5], [4, 5, 6], [0, 1, 2, 3], [0, 1, 2, 3, 4, 5, 6, 7, 8]] (Es := ?Es7) (rest := ?rest7) (st1 := ?st17) ?_
    (repeat (first | refine za hΓ ?_ | refine zb hΓ ?_ | refine zc ?_ | refine zd ?_))
    refine zE ?_
    repeat (first | refine zN ?_ | (refine zO ?_; (repeat (first | refine za hΓ ?_ | refine zb hΓ ?_ | refine zc ?_ | refine zd ?_)); refine zE ?_) | refine zT ?_ | refine zF ?_ | with_reducible apply At.blkX rfl)
    refine W.drawB hΓ 15 [[], [], [1], [1, 2], [1, 2, 3], [], [1, 2, 3, 4, 5], [], [7], [7, 8], [7, 8, 9], [1, 2, 3, 4, 5, 6, 7, 8, 9, 10], [], [1, 2, 3, 4, 5, 6, 7, 8, 9, 10, 11, 12], [0, 1, 2, 3, 4, 5, 6, 7, 8, 9, 10, 11, 12, 13], [0, 1, 2, 3, 4, 5, 6, 7, 8, 9, 10, 11, 12, 13, 14]] (Es := ?Es9) (rest := ?rest9) (st1 := ?st19) ?_
    (repeat (first | refine za hΓ ?_ | refine zb hΓ ?_ | refine zc ?_ | refine zd ?_))
    refine zE ?_
    repeat (first | refine zN ?_ | (refine zO ?_; (repeat (first | refine za hΓ ?_ | refine zb hΓ ?_ | refine zc ?_ | refine zd ?_)); refine zE ?_) | refine zT ?_ | refine zF ?_ | with_reducible apply At.blkX rfl)
    exact At.roundA (k + 1) ⟨by omega, by omega⟩ (by omega)
  have hk64 : k = 64 := by omega
  subst hk64
  have hr0 : rnds s h 0 = h := rfl
  repeat (first | refine zN ?_ | (refine zO ?_; (repeat (first | refine za hΓ ?_ | refine zb hΓ ?_ | refine zc ?_ | refine zd ?_)); refine zE ?_) | refine zT ?_ | refine zF ?_ | with_reducible apply At.blkX rfl)
  refine W.loopA (fun k => k ≤ 64) (fun k : Nat => [.slot 77 (vI k), .slot 12 (one (.ptr 12 0)), .slot 5 (one (.ptr 5 0)), .slot 4 (one (.ptr 4 0)), .slot 2 (one (.ptr 2 0)), .blk 12 (.box (rnds s h k).pl), .blk 5 (.box ((mem s 64).map pU)), .blk 2 (.box h.pl), .blk 4 (.box (W8.pl ⟨0, 0, 0, 0, 0, 0, 0, 0⟩))]) (fun k => 64 - k) 0 (Nat.zero_le _) (h := ?_)
  rintro k hk
  by_cases hlt : k < 64
  · obtain ⟨⟨ba, bb, bc, bd⟩, be, bf, bg, bh⟩ := rnds_ok s hok k
    have hgl := ev_shaW
    have hK := shaL_get hlt
    have hW := boxU_get (mem_get s (k := 64) (j := k) hlt)
    have na : (rnds s h (k + 1)).a = (rnd (rnds s h k) (shaK k + (sch s 64).getD k 0)).a := rfl
    have nb : (rnds s h (k + 1)).b = (rnds s h k).a := rfl
    have nc : (rnds s h (k + 1)).c = (rnds s h k).b := rfl
    have nd : (rnds s h (k + 1)).d = (rnds s h k).c := rfl
    have ne : (rnds s h (k + 1)).e = (rnd (rnds s h k) (shaK k + (sch s 64).getD k 0)).e := rfl
    have nf : (rnds s h (k + 1)).f = (rnds s h k).e := rfl
    have ng : (rnds s h (k + 1)).g = (rnds s h k).f := rfl
    have nh : (rnds s h (k + 1)).h = (rnds s h k).g := rfl
    generalize rnds s h k = v at *
    generalize shaK k = K at hK na ne
    generalize (sch s 64).getD k 0 = Wk at hW na ne
    obtain ⟨a, b, c, d, e, f, g, q⟩ := v
    dsimp only at ba bb bc bd be bf bg bh nb nc nd nf ng nh
    dsimp only [rnd] at na ne
    have r6 : mRot [aU e, aI (-6)] = some (rU (rotr e 6)) := mRot_eq e 6 be (by omega) (by omega)
    have r11 : mRot [aU e, aI (-11)] = some (rU (rotr e 11)) := mRot_eq e 11 be (by omega) (by omega)
    have r25 : mRot [aU e, aI (-25)] = some (rU (rotr e 25)) := mRot_eq e 25 be (by omega) (by omega)
    have r2 : mRot [aU a, aI (-2)] = some (rU (rotr a 2)) := mRot_eq a 2 ba (by omega) (by omega)
    have r13 : mRot [aU a, aI (-13)] = some (rU (rotr a 13)) := mRot_eq a 13 ba (by omega) (by omega)
    have r22 : mRot [aU a, aI (-22)] = some (rU (rotr a 22)) := mRot_eq a 22 ba (by omega) (by omega)
    have y1 := Nat.xor_lt_two_pow (n := 32) (x := rotr e 6) (y := rotr e 11) (rotr_lt _ _) (rotr_lt _ _)
    have y2 := Nat.xor_lt_two_pow (n := 32) (x := rotr a 2) (y := rotr a 13) (rotr_lt _ _) (rotr_lt _ _)
    have x1 := xor_u32 (rotr_lt e 6) (rotr_lt e 11)
    have x2 : bits .xor .u32 ((rotr e 6 ^^^ rotr e 11 : Nat) : Int) ((rotr e 25 : Nat) : Int) = ((big1 e : Nat) : Int) := xor_u32 y1 (rotr_lt e 25)
    have x3 := xor_u32 (rotr_lt a 2) (rotr_lt a 13)
    have x4 : bits .xor .u32 ((rotr a 2 ^^^ rotr a 13 : Nat) : Int) ((rotr a 22 : Nat) : Int) = ((big0 a : Nat) : Int) := xor_u32 y2 (rotr_lt a 22)
    have n1 := not_u32 be
    have hn := Nat.xor_lt_two_pow (n := 32) (x := 4294967295) (y := e) (by omega) be
    have a1 := and_u32 be bf
    have a2 := and_u32 (a := 4294967295 ^^^ e) hn bg
    have p1 := Nat.and_lt_two_pow (n := 32) e bf
    have p2 := Nat.and_lt_two_pow (n := 32) (4294967295 ^^^ e) bg
    have x5 : bits .xor .u32 ((e &&& f : Nat) : Int) (((4294967295 ^^^ e) &&& g : Nat) : Int) = ((chs e f g : Nat) : Int) := xor_u32 p1 p2
    have a3 := and_u32 ba bb
    have a4 := and_u32 ba bc
    have a5 := and_u32 bb bc
    have p3 := Nat.and_lt_two_pow (n := 32) a bb
    have p4 := Nat.and_lt_two_pow (n := 32) a bc
    have p5 := Nat.and_lt_two_pow (n := 32) b bc
    have p6 := Nat.xor_lt_two_pow (n := 32) p3 p4
    have x6 := xor_u32 p3 p4
    have x7 : bits .xor .u32 (((a &&& b) ^^^ (a &&& c) : Nat) : Int) ((b &&& c : Nat) : Int) = ((maj a b c : Nat) : Int) := xor_u32 p6 p5
    clear y1 y2 hn p1 p2 p3 p4 p5 p6
    generalize big1 e = S1 at x2 na ne
    generalize big0 a = S0 at x4 na
    generalize chs e f g = C at x5 na ne
    generalize maj a b c = M at x7 na
    have ad := add4_u32 q S1 C K
    have ae := add2_u32 ((q + S1 + C + K) % 4294967296) Wk
    have af := add2_u32 (((q + S1 + C + K) % 4294967296 + Wk) % 4294967296) S0
    have ag := add2_u32 (((((q + S1 + C + K) % 4294967296 + Wk) % 4294967296) + S0) % 4294967296) M
    have ah := add2_u32 d (((q + S1 + C + K) % 4294967296 + Wk) % 4294967296)
    have na' : ((((q + S1 + C + K) % 4294967296 + Wk) % 4294967296 + S0) % 4294967296 + M) % 4294967296 = (rnds s h (k + 1)).a := by rw [na]; omega
    have ne' : (d + ((q + S1 + C + K) % 4294967296 + Wk) % 4294967296) % 4294967296 = (rnds s h (k + 1)).e := by rw [ne]; omega
    have hpl : (rnds s h (k + 1)).pl = [pU (rnds s h (k + 1)).a, pU a, pU b, pU c, pU (rnds s h (k + 1)).e, pU e, pU f, pU g] := by unfold W8.pl; rw [nb, nc, nd, nf, ng, nh]
    clear na ne nb nc nd nf ng nh
    repeat (first | refine zN ?_ | (refine zO ?_; (repeat (first | refine za hΓ ?_ | refine zb hΓ ?_ | refine zc ?_ | refine zd ?_)); refine zE ?_) | refine zT ?_ | refine zF ?_ | with_reducible apply At.blkX rfl)
    refine W.drawB hΓ 6 [[], [0], [], [2], [0, 1], [0, 1, 2, 3, 4]] (Es := ?Es13) (rest := ?rest13) (st1 := ?st113) ?_
    (repeat (first | refine za hΓ ?_ | refine zb hΓ ?_ | refine zc ?_ | refine zd ?_))
    refine zE ?_
    repeat (first | refine zN ?_ | (refine zO ?_; (repeat (first | refine za hΓ ?_ | refine zb hΓ ?_ | refine zc ?_ | refine zd ?_)); refine zE ?_) | refine zT ?_ | refine zF ?_ | with_reducible apply At.blkX rfl)
    refine W.drawB hΓ 15 [[], [0], [], [0, 1, 2], [], [0, 1, 2, 3, 4], [], [6], [6, 7], [0, 1, 2, 3, 4, 5, 6, 7, 8], [], [10], [10, 11], [0, 1, 2, 3, 4, 5, 6, 7, 8, 9, 10, 11, 12], [0, 1, 2, 3, 4, 5, 6, 7, 8, 9, 10, 11, 12, 13]] (Es := ?Es15) (rest := ?rest15) (st1 := ?st115) ?_
    (repeat (first | refine za hΓ ?_ | refine zb hΓ ?_ | refine zc ?_ | refine zd ?_))
    refine zE ?_
    repeat (first | refine zN ?_ | (refine zO ?_; (repeat (first | refine za hΓ ?_ | refine zb hΓ ?_ | refine zc ?_ | refine zd ?_)); refine zE ?_) | refine zT ?_ | refine zF ?_ | with_reducible apply At.blkX rfl)
    exact At.roundA (k + 1) (by omega) (by omega)
  have hk64 : k = 64 := by omega
  subst hk64
  clear hml hr0 hk1 hk2
  generalize hv : rnds s h 64 = v
  repeat (first | refine zN ?_ | (refine zO ?_; (repeat (first | refine za hΓ ?_ | refine zb hΓ ?_ | refine zc ?_ | refine zd ?_)); refine zE ?_) | refine zT ?_ | refine zF ?_ | with_reducible apply At.blkX rfl)
  refine W.loopA (fun k => k ≤ 8) (fun k : Nat => [.slot 162 (vI k), .slot 12 (one (.ptr 12 0)), .slot 4 (one (.ptr 4 0)), .slot 2 (one (.ptr 2 0)), .blk 12 (.box (v.lst.map pU)), .blk 2 (.box ((mixL h v k).map pU)), .blk 4 (.box (W8.pl ⟨0, 0, 0, 0, 0, 0, 0, 0⟩))]) (fun k => 8 - k) 0 (Nat.zero_le _) (h := ?_)
  rintro k hk
  have hml : ((mixL h v k).map pU).length = 8 := by rw [List.length_map, mixL_len]
  by_cases hlt : k < 8
  · have g1 := boxU_get (mixL_get h v hlt)
    have g2 := boxU_get (v.lst_get hlt)
    have hml2 : (v.lst.map pU).length = 8 := rfl
    have ha := add2_u32 (h.lst.getD k 0) (v.lst.getD k 0)
    have hset : ((mixL h v k).map pU).take k ++ [pU ((h.lst.getD k 0 + v.lst.getD k 0) % 4294967296)] ++ ((mixL h v k).map pU).drop (k + 1) = (mixL h v (k + 1)).map pU := by
      rw [boxU_set _ (by rw [mixL_len]; exact hlt), mixL_set h v hlt]
    clear hv
    generalize h.lst.getD k 0 = x1 at *
    generalize v.lst.getD k 0 = x2 at *
    repeat (first | refine zN ?_ | (refine zO ?_; (repeat (first | refine za hΓ ?_ | refine zb hΓ ?_ | refine zc ?_ | refine zd ?_)); refine zE ?_) | refine zT ?_ | refine zF ?_ | with_reducible apply At.blkX rfl)
    refine W.drawB hΓ 9 [[], [], [1], [1, 2], [], [4], [4, 5], [1, 2, 3, 4, 5, 6], [0, 1, 2, 3, 4, 5, 6, 7], [0, 1, 2, 3, 4, 5, 6, 7, 8]] (Es := ?Es19) (rest := ?rest19) (st1 := ?st119) ?_
    (repeat (first | refine za hΓ ?_ | refine zb hΓ ?_ | refine zc ?_ | refine zd ?_))
    refine zE ?_
    repeat (first | refine zN ?_ | (refine zO ?_; (repeat (first | refine za hΓ ?_ | refine zb hΓ ?_ | refine zc ?_ | refine zd ?_)); refine zE ?_) | refine zT ?_ | refine zF ?_ | with_reducible apply At.blkX rfl)
    exact At.roundA (k + 1) (by omega) (by omega)
  have hk8 : k = 8 := by omega
  subst hk8
  have he : (mixL h v 8).map pU = (block h s).pl := by rw [mixL_all, ← hv]; rfl
  repeat (first | refine zN ?_ | (refine zO ?_; (repeat (first | refine za hΓ ?_ | refine zb hΓ ?_ | refine zc ?_ | refine zd ?_)); refine zE ?_) | refine zT ?_ | refine zF ?_ | with_reducible apply At.blkX rfl)
  refine At.retA (by rw [Tryz.results225]) (he := rfl)

end Go.Proofs.YtfgkfcfplodaoaaGreatDoor

end
section
/-!
  Sha of impl.
-/
namespace Go.Proofs.YtfgkfcfplodaoaaGreatDoor
set_option maxRecDepth 100000
set_option linter.unusedVariables false
set_option linter.unusedSimpArgs false
open Go Go.RowKit
set_option maxHeartbeats 8000000

noncomputable def mBlkI := mdl (fun x : W8 × ByteArray => x.1.ok ∧ x.2.size = 64) (fun x => [aW x.1, aS x.2]) fun x => rW (block x.1 x.2)
theorem mBlkI_eq (v : W8) (s : ByteArray) (h : v.ok) (hs : s.size = 64) : mBlkI [aW v, aS s] = some (rW (block v s)) := mdl_eq (by
  rintro ⟨⟨a, b, c, d, e, f, g, q⟩, x⟩ ⟨⟨a', b', c', d', e', f', g', q'⟩, y⟩ h
  simp at h
  obtain ⟨⟨h1, h2, h3, h4, h5, h6, h7, h8⟩, rfl⟩ := h
  have e1 : a = a' := by omega
  have e2 : b = b' := by omega
  have e3 : c = c' := by omega
  have e4 : d = d' := by omega
  have e5 : e = e' := by omega
  have e6 : f = f' := by omega
  have e7 : g = g' := by omega
  have e8 : q = q' := by omega
  rw [e1, e2, e3, e4, e5, e6, e7, e8]) (v, s) ⟨h, hs⟩
theorem shaImpl_s : Sound Tryz.prog 180 mSha := by
  refine Sound.mdl Tryz.func180 rfl Tryz.ntmps180 ?_
  rintro s w hs
  refine ⟨by simp, ?_⟩
  replace hs : s.size ≤ 16777216 := hs
  have hΓ : GSound Tryz.prog (look [(225, mBlkI), (224, mFixed)]) := env_cons (has_of Tryz.func225 rfl rfl) blockI_s (env_cons (has_of Tryz.func224 rfl rfl) fixed_s env_nil)
  have t1 : ((s.size : Int) + 9).tmod 64 = (((s.size + 9) % 64 : Nat) : Int) := by rw [Int.tmod_eq_emod_of_nonneg (by omega)]; omega
  have t2 : ((64 : Int) - (((s.size + 9) % 64 : Nat) : Int)).tmod 64 = ((zPd s.size : Nat) : Int) := by rw [Int.tmod_eq_emod_of_nonneg (by omega)]; unfold zPd; omega
  have t3 : ((zPd s.size : Nat) : Int) + 1 = ((zPd s.size + 1 : Nat) : Int) := by omega
  have t4 : (8 : Int) * (s.size : Int) = ((8 * s.size : Nat) : Int) := by omega
  have hz63 : zPd s.size ≤ 63 := by unfold zPd; omega
  have hzr : List.replicate (zPd s.size + 1) [Leaf.sc (.int .u8 0)] = rowsF cU8 (List.replicate (zPd s.size + 1) 0) := (rowsF_repU _ _).symm
  have hb := bytes_rows (List.replicate (zPd s.size + 1) 0)
  have c1 := mFixed7 (8 * s.size) (by omega)
  have hp : s ++ (⟨#[128]⟩ : ByteArray) ++ (⟨((List.replicate (zPd s.size + 1) 0).map UInt8.ofNat).toArray⟩ : ByteArray) ++ bsS (fixB 7 (8 * s.size)) = padS s := padS_impl hs
  have s1 : (s ++ (⟨#[128]⟩ : ByteArray)).size = s.size + 1 := by rw [ByteArray.size_append]; rfl
  have s0 : (⟨#[128]⟩ : ByteArray).size = 1 := rfl
  have s2 : (⟨((List.replicate (zPd s.size + 1) 0).map UInt8.ofNat).toArray⟩ : ByteArray).size = zPd s.size + 1 := by
    have := bsS_size (List.replicate (zPd s.size + 1) 0)
    rw [List.length_replicate] at this
    exact this
  have s3 := ByteArray.size_append (a := s ++ (⟨#[128]⟩ : ByteArray)) (b := ⟨((List.replicate (zPd s.size + 1) 0).map UInt8.ofNat).toArray⟩)
  have s4 : (bsS (fixB 7 (8 * s.size))).size = 7 := by rw [bsS_size, fixB_len]
  simp only [initS, argPV, List.map_cons, List.map_nil, toPL, Nat.zero_add]
  repeat (first | refine zN ?_ | (refine zO ?_; (repeat (first | refine za hΓ ?_ | refine zb hΓ ?_ | refine zc ?_ | refine zd ?_)); refine zE ?_) | refine zT ?_ | refine zF ?_ | with_reducible apply At.blkX rfl)
  refine W.drawB hΓ 11 [[], [0], [], [2], [2, 3], [2, 3, 4], [0, 1, 2, 3, 4, 5], [], [7], [0, 1, 2, 3, 4, 5, 6, 7, 8], [0, 1, 2, 3, 4, 5, 6, 7, 8, 9]] (Es := ?Es4) (rest := ?rest4) (st1 := ?st14) ?_
  (repeat (first | refine za hΓ ?_ | refine zb hΓ ?_ | refine zc ?_ | refine zd ?_))
  refine zE ?_
  repeat (first | refine zN ?_ | (refine zO ?_; (repeat (first | refine za hΓ ?_ | refine zb hΓ ?_ | refine zc ?_ | refine zd ?_)); refine zE ?_) | refine zT ?_ | refine zF ?_ | with_reducible apply At.blkX rfl)
  obtain ⟨q, hq, hq2⟩ := padS_64 s
  have hfin : shaS s = bsS (outL (foldK (padS s) q) 8) := by unfold shaS shaW8; rw [hq, Nat.mul_div_cancel_left _ (by omega)]
  clear t1 t2 t3 t4 hz63 hzr hb c1 hp s1 s0 s2 s3 s4
  generalize padS s = T at *
  refine W.loopA (fun j => j ≤ q) (fun j : Nat => [.slot 7 (vI ((64 * j : Nat) : Int)), .slot 5 (vS T), .slot 6 (one (.ptr 6 0)), .blk 6 (.box (foldK T j).pl)]) (fun j => q - j) 0 (Nat.zero_le _) (h := ?_)
  rintro j hj
  by_cases hlt : j < q
  · have hx : (T.extract (64 * j) (64 * j + 64)).size = 64 := by rw [ByteArray.size_extract]; omega
    have cb := mBlkI_eq (foldK T j) (T.extract (64 * j) (64 * j + 64)) (foldK_ok T j) hx
    have hnx : foldK T (j + 1) = block (foldK T j) (T.extract (64 * j) (64 * j + 64)) := rfl
    have e1 : ((64 * j : Nat) : Int) + 64 = ((64 * j + 64 : Nat) : Int) := by omega
    have e2 : ((64 * (j + 1) : Nat) : Int) = ((64 * j + 64 : Nat) : Int) := by omega
    generalize foldK T j = v at *
    obtain ⟨a, b, c, d, e, f, g, p⟩ := v
    dsimp only [aW, rW] at cb
    generalize hX : T.extract (64 * j) (64 * j + 64) = X at *
    have hpl : (foldK T (j + 1)).pl = [pU (block ⟨a, b, c, d, e, f, g, p⟩ X).a, pU (block ⟨a, b, c, d, e, f, g, p⟩ X).b, pU (block ⟨a, b, c, d, e, f, g, p⟩ X).c, pU (block ⟨a, b, c, d, e, f, g, p⟩ X).d, pU (block ⟨a, b, c, d, e, f, g, p⟩ X).e, pU (block ⟨a, b, c, d, e, f, g, p⟩ X).f, pU (block ⟨a, b, c, d, e, f, g, p⟩ X).g, pU (block ⟨a, b, c, d, e, f, g, p⟩ X).h] := by rw [hnx]
    clear hnx
    repeat (first | refine zN ?_ | (refine zO ?_; (repeat (first | refine za hΓ ?_ | refine zb hΓ ?_ | refine zc ?_ | refine zd ?_)); refine zE ?_) | refine zT ?_ | refine zF ?_ | with_reducible apply At.blkX rfl)
    refine W.drawB hΓ 7 [[], [], [], [], [3], [1, 2, 3, 4], [0, 1, 2, 3, 4, 5], [0, 1, 2, 3, 4, 5, 6]] (Es := ?Es7) (rest := ?rest7) (st1 := ?st17) ?_
    (repeat (first | refine za hΓ ?_ | refine zb hΓ ?_ | refine zc ?_ | refine zd ?_))
    refine zE ?_
    repeat (first | refine zN ?_ | (refine zO ?_; (repeat (first | refine za hΓ ?_ | refine zb hΓ ?_ | refine zc ?_ | refine zd ?_)); refine zE ?_) | refine zT ?_ | refine zF ?_ | with_reducible apply At.blkX rfl)
    exact At.roundA (j + 1) (by omega) (by omega)
  have hjq : j = q := by omega
  subst hjq
  have hvok := foldK_ok T j
  generalize foldK T j = v at *
  have hz : shaS s = bsS (outL v 8) := hfin
  obtain ⟨a, b, c, d, e, f, g, p⟩ := v
  have hlst : ∀ k, k < 8 → ([pU a, pU b, pU c, pU d, pU e, pU f, pU g, pU p] : List PL)[k]? = some (pU ((W8.lst ⟨a, b, c, d, e, f, g, p⟩).getD k 0)) := fun k hk => boxU_get (W8.lst_get ⟨a, b, c, d, e, f, g, p⟩ hk)
  have hout := fun k (hk : k < 8) => outL_succ ⟨a, b, c, d, e, f, g, p⟩ hk
  have hlen := fun k (hk : k ≤ 8) => outL_len ⟨a, b, c, d, e, f, g, p⟩ k hk
  have hlt4 := fun k => W8.lst_lt hvok k
  have ho0 : outL ⟨a, b, c, d, e, f, g, p⟩ 0 = [] := rfl
  clear hfin hvok
  generalize W8.lst ⟨a, b, c, d, e, f, g, p⟩ = V at hlst hout hlt4
  generalize hO : outL ⟨a, b, c, d, e, f, g, p⟩ = O at *
  have hb0 : (⟨#[]⟩ : ByteArray) = bsS (O 0) := by rw [ho0]; rfl
  have hemp : bsS (O 0) = ByteArray.empty := hb0.symm
  clear hO ho0
  repeat (first | refine zN ?_ | (refine zO ?_; (repeat (first | refine za hΓ ?_ | refine zb hΓ ?_ | refine zc ?_ | refine zd ?_)); refine zE ?_) | refine zT ?_ | refine zF ?_ | with_reducible apply At.blkX rfl)
  refine W.loopA (fun k => k ≤ 8) (fun k : Nat => [.slot 45 (vI k), .slot 44 (.comp true [pU a, pU b, pU c, pU d, pU e, pU f, pU g, pU p]), .slot 8 (vS (bsS (O k)))]) (fun k => 8 - k) 0 (Nat.zero_le _) (h := ?_)
  clear hb0 hemp
  rintro k hk
  by_cases hlt8 : k < 8
  · have g1 := hlst k hlt8
    have b1 := hlt4 k
    have hs1 := hout k hlt8
    have hln := hlen k hk
    clear hlst hout hlen hlt4
    generalize V.getD k 0 = x at *
    have cf := mFixed4 x b1
    have hap : bsS (O k) ++ bsS (fixB 4 x) = bsS (O (k + 1)) := by rw [bsS_app, hs1]
    have z1 : (bsS (O k)).size = 4 * k := by rw [bsS_size, hln]
    have z2 : (bsS (fixB 4 x)).size = 4 := by rw [bsS_size, fixB_len]
    clear hs1
    repeat (first | refine zN ?_ | (refine zO ?_; (repeat (first | refine za hΓ ?_ | refine zb hΓ ?_ | refine zc ?_ | refine zd ?_)); refine zE ?_) | refine zT ?_ | refine zF ?_ | with_reducible apply At.blkX rfl)
    exact At.roundA (k + 1) (by omega) (by omega)
  have hk8 : k = 8 := by omega
  subst hk8
  clear hlst hout hlen hlt4
  repeat (first | refine zN ?_ | (refine zO ?_; (repeat (first | refine za hΓ ?_ | refine zb hΓ ?_ | refine zc ?_ | refine zd ?_)); refine zE ?_) | refine zT ?_ | refine zF ?_ | with_reducible apply At.blkX rfl)
  refine At.retA (by rw [Tryz.results180]) (he := ?_)
  rw [hz]

end Go.Proofs.YtfgkfcfplodaoaaGreatDoor

end
section
/-!
  Short of both programs: the first bytes of the hash.
-/
namespace Go.Proofs.YtfgkfcfplodaoaaGreatDoor
set_option maxRecDepth 100000
set_option linter.unusedVariables false
set_option linter.unusedSimpArgs false
open Go Go.RowKit
set_option maxHeartbeats 8000000

def shortS (s : ByteArray) : ByteArray := (shaS s).extract 0 8
noncomputable def mShort := mdl (fun s : ByteArray => s.size ≤ 16777216) (fun s => [aS s]) (fun s => rS (shortS s))
theorem mShort_eq (s : ByteArray) (h : s.size ≤ 16777216) : mShort [aS s] = some (rS (shortS s)) := mdl_eq (by intro a b h; simpa using h) s h
theorem short_s : Sound Tryz.prog 51 mShort := by
  refine Sound.mdl Tryz.func51 rfl Tryz.ntmps51 ?_
  rintro s w hs
  refine ⟨by simp, ?_⟩
  replace hs : s.size ≤ 16777216 := hs
  have hΓ : GSound Tryz.prog (look [(40, mSha)]) := env_cons (has_of Tryz.func40 rfl rfl) shaSpec_s env_nil
  have c1 := mSha_eq s hs
  have hz := shaS_size s
  simp only [initS, argPV, List.map_cons, List.map_nil, toPL, Nat.zero_add]
  repeat (first | refine zN ?_ | (refine zO ?_; (repeat (first | refine za hΓ ?_ | refine zb hΓ ?_ | refine zc ?_ | refine zd ?_)); refine zE ?_) | refine zT ?_ | refine zF ?_ | with_reducible apply At.blkX rfl)
  refine At.retA (by rw [Tryz.results51]) (he := rfl)
theorem shortI_s : Sound Tryz.prog 187 mShort := by
  refine Sound.mdl Tryz.func187 rfl Tryz.ntmps187 ?_
  rintro s w hs
  refine ⟨by simp, ?_⟩
  replace hs : s.size ≤ 16777216 := hs
  have hΓ : GSound Tryz.prog (look [(180, mSha)]) := env_cons (has_of Tryz.func180 rfl rfl) shaImpl_s env_nil
  have c1 := mSha_eq s hs
  have hz := shaS_size s
  simp only [initS, argPV, List.map_cons, List.map_nil, toPL, Nat.zero_add]
  repeat (first | refine zN ?_ | (refine zO ?_; (repeat (first | refine za hΓ ?_ | refine zb hΓ ?_ | refine zc ?_ | refine zd ?_)); refine zE ?_) | refine zT ?_ | refine zF ?_ | with_reducible apply At.blkX rfl)
  refine At.retA (by rw [Tryz.results187]) (he := rfl)
end Go.Proofs.YtfgkfcfplodaoaaGreatDoor

end
