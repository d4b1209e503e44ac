/-
  Put together: PEvShaI PEvHead PEvShaP.
-/
import Derived.Test.YtfgkfcfplodaoaaGreatDoorG17
set_option linter.unusedSimpArgs false
set_option linter.unusedVariables false
set_option maxRecDepth 100000
section
namespace Go.Proofs.YtfgkfcfplodaoaaGreatDoor
open Go Go.RowKit
set_option maxHeartbeats 8000000
abbrev aW (v : W8) : Arg := .val true [.sc (.int .u32 (v.a : Int)), .sc (.int .u32 (v.b : Int)), .sc (.int .u32 (v.c : Int)), .sc (.int .u32 (v.d : Int)), .sc (.int .u32 (v.e : Int)), .sc (.int .u32 (v.f : Int)), .sc (.int .u32 (v.g : Int)), .sc (.int .u32 (v.h : Int))]
abbrev roU (n : Nat) : RL := .ro (.sc (.int .u32 (n : Int)))
abbrev rW (v : W8) : Res := .comp true [roU v.a, roU v.b, roU v.c, roU v.d, roU v.e, roU v.f, roU v.g, roU v.h]
theorem byteN_extract {s : ByteArray} {a j : Nat} (h : a + j < s.size) : byteN (s.extract a s.size) j = byteN s (a + j) := by
  unfold byteN byteU
  congr 1
  simp only [List.getD_eq_getElem?_getD, ByteArray.data_extract, Array.toList_extract, List.extract_eq_take_drop]
  rw [List.getElem?_take, List.getElem?_drop]
  split
  · rfl
  · rename_i hn
    exfalso
    omega
theorem word_of {s : ByteArray} (hs : s.size = 64) {k : Nat} (hk : k < 16) : mWord [aS (s.extract (4 * k) s.size)] = some (rU (wAt s k)) := by
  rw [mWord_eq _ (by rw [ByteArray.size_extract]; omega)]
  rw [byteN_extract (by omega), byteN_extract (by omega), byteN_extract (by omega), byteN_extract (by omega)]
  rfl
theorem getD_at {α : Type} {l : List α} {k : Nat} (h : k < l.length) {d : α} : l.getD k d = l[k] := by simp [h]
theorem add4_u32 (a b c d : Nat) : IntKind.u32.wrap (IntKind.u32.wrap (IntKind.u32.wrap ((a : Int) + b) + c) + d) = (((a + b + c + d) % 4294967296 : Nat) : Int) := by
  have hw : ∀ n : Int, IntKind.u32.wrap n = n % 4294967296 := fun n => by simp [IntKind.wrap, IntKind.bits, IntKind.signed]
  simp only [hw]
  omega
theorem add2_u32 (a b : Nat) : IntKind.u32.wrap ((a : Int) + b) = (((a + b) % 4294967296 : Nat) : Int) := by
  have hw : ∀ n : Int, IntKind.u32.wrap n = n % 4294967296 := fun n => by simp [IntKind.wrap, IntKind.bits, IntKind.signed]
  simp only [hw]
  omega
def shaL : List Leaf := shaW.map fun (n : Nat) => .sc (.int .u32 (n : Int))
theorem ev_shaW (st : St) : ev st (.global 0) = one (.prow shaL 0) := by
  show (match globs 0 with | some cs => one (.prow (cs.map Leaf.sc) 0) | none => one .dead) = _
  unfold globs shaL
  rw [if_pos rfl]
  simp only [List.map_map]
  rfl
theorem shaL_get {k : Nat} (h : k < 64) : (shaL.map toPL)[k]? = some (pU (shaK k)) := by
  have hl : k < shaW.length := h
  unfold shaL shaK
  rw [List.map_map, List.getElem?_map, List.getElem?_eq_getElem hl, getD_at hl]
  rfl
theorem not_u32 {e : Nat} (h : e < 4294967296) : bits .xor .u32 (if IntKind.u32.signed = true then -1 else IntKind.u32.max) (e : Int) = ((4294967295 ^^^ e : Nat) : Int) := xor_u32 (a := 4294967295) (by omega) h
theorem blockI_s : Sound Tryz.prog 225 (mdl (fun x : W8 × ByteArray => x.1.ok ∧ x.2.size = 64) (fun x => [aW x.1, aS x.2]) fun x => rW (block x.1 x.2)) := by
  refine Sound.mdl Tryz.func225 rfl Tryz.ntmps225 ?_
  rintro ⟨h, s⟩ w ⟨hok, hs⟩
  refine ⟨by simp, ?_⟩
  dsimp only at hok hs
  have hΓ : GSound Tryz.prog (look [(253, mWord), (254, mRot)]) := env_cons (has_of Tryz.func253 rfl rfl) word_s (env_cons (has_of Tryz.func254 rfl rfl) rot_s env_nil)
  have hnm := lsNms_pU
  have hkp := kill_pU
  simp only [initS, argPV, List.map_cons, List.map_nil, toPL, Nat.zero_add]
  refine zR ?_
  refine W.loopA (fun k => k ≤ 16) (fun k : Nat => [.slot 22 (vI k), .slot 5 (one (.ptr 5 0)), .slot 4 (one (.ptr 4 0)), .slot 2 (one (.ptr 2 0)), .slot 1 (vS s), .blk 5 (.box ((mem s k).map pU)), .blk 2 (.box h.pl), .blk 4 (.box (W8.pl ⟨0, 0, 0, 0, 0, 0, 0, 0⟩))]) (fun k => 16 - k) 0 (Nat.zero_le _) (h := ?_)
  rintro k hk
  have hml : ((mem s k).map pU).length = 64 := by rw [List.length_map, mem_len s (by omega)]
  by_cases hlt : k < 16
  · have e1 : (4 * (k : Int)).toNat = 4 * k := by omega
    have c1 := word_of hs hlt
    rw [hs] at c1
    have hset : ((mem s k).map pU).take k ++ [pU (wAt s k)] ++ ((mem s k).map pU).drop (k + 1) = (mem s (k + 1)).map pU := by
      rw [boxU_set _ (by rw [mem_len s (by omega)]; omega), mem_set s (by omega) (sch_lo s hlt)]
    refine zR ?_
    exact At.roundA (k + 1) (by omega) (by omega)
  have hk16 : k = 16 := by omega
  subst hk16
  refine zR ?_
  refine W.loopA (fun k => 16 ≤ k ∧ k ≤ 64) (fun k : Nat => [.slot 7 (vI k), .slot 5 (one (.ptr 5 0)), .slot 4 (one (.ptr 4 0)), .slot 2 (one (.ptr 2 0)), .blk 5 (.box ((mem s k).map pU)), .blk 2 (.box h.pl), .blk 4 (.box (W8.pl ⟨0, 0, 0, 0, 0, 0, 0, 0⟩))]) (fun k => 64 - k) 16 ⟨by omega, by omega⟩ (h := ?_)
  rintro k ⟨hk1, hk2⟩
  have hml : ((mem s k).map pU).length = 64 := by rw [List.length_map, mem_len s (by omega)]
  by_cases hlt : k < 64
  · have g16 := boxU_get (mem_get s (k := k) (j := k - 16) (by omega))
    have g15 := boxU_get (mem_get s (k := k) (j := k - 15) (by omega))
    have g7 := boxU_get (mem_get s (k := k) (j := k - 7) (by omega))
    have g2 := boxU_get (mem_get s (k := k) (j := k - 2) (by omega))
    have l15 := schD_lt s k (k - 15)
    have l2 := schD_lt s k (k - 2)
    have hnx := sch_hi s (k := k) (by omega)
    generalize (sch s k).getD (k - 16) 0 = a at g16 hnx
    generalize (sch s k).getD (k - 15) 0 = b at g15 l15 hnx
    generalize (sch s k).getD (k - 7) 0 = c at g7 hnx
    generalize (sch s k).getD (k - 2) 0 = d at g2 l2 hnx
    have e16 : ((k : Int) - 16).toNat = k - 16 := by omega
    have e15 : ((k : Int) - 15).toNat = k - 15 := by omega
    have e7 : ((k : Int) - 7).toNat = k - 7 := by omega
    have e2 : ((k : Int) - 2).toNat = k - 2 := by omega
    have r7 : mRot [aU b, aI (-7)] = some (rU (rotr b 7)) := mRot_eq b 7 l15 (by omega) (by omega)
    have r18 : mRot [aU b, aI (-18)] = some (rU (rotr b 18)) := mRot_eq b 18 l15 (by omega) (by omega)
    have r17 : mRot [aU d, aI (-17)] = some (rU (rotr d 17)) := mRot_eq d 17 l2 (by omega) (by omega)
    have r19 : mRot [aU d, aI (-19)] = some (rU (rotr d 19)) := mRot_eq d 19 l2 (by omega) (by omega)
    have m3 : min 3 IntKind.u32.bits = 3 := rfl
    have m10 : min 10 IntKind.u32.bits = 10 := rfl
    have f3 := fdiv_nat b 3
    have f10 := fdiv_nat d 10
    have x1 := xor_u32 (rotr_lt b 7) (rotr_lt b 18)
    have y1 := Nat.xor_lt_two_pow (n := 32) (x := rotr b 7) (y := rotr b 18) (rotr_lt _ _) (rotr_lt _ _)
    have x2 := xor_u32 (a := rotr b 7 ^^^ rotr b 18) (b := b / 2 ^ 3) (by omega) (by omega)
    have x3 := xor_u32 (rotr_lt d 17) (rotr_lt d 19)
    have y3 := Nat.xor_lt_two_pow (n := 32) (x := rotr d 17) (y := rotr d 19) (rotr_lt _ _) (rotr_lt _ _)
    have x4 := xor_u32 (a := rotr d 17 ^^^ rotr d 19) (b := d / 2 ^ 10) (by omega) (by omega)
    have hadd := add4_u32 a (rotr b 7 ^^^ rotr b 18 ^^^ b / 2 ^ 3) c (rotr d 17 ^^^ rotr d 19 ^^^ d / 2 ^ 10)
    have hset : ((mem s k).map pU).take k ++ [pU ((a + (rotr b 7 ^^^ rotr b 18 ^^^ b / 2 ^ 3) + c + (rotr d 17 ^^^ rotr d 19 ^^^ d / 2 ^ 10)) % 4294967296)] ++ ((mem s k).map pU).drop (k + 1) = (mem s (k + 1)).map pU := by
      rw [boxU_set _ (by rw [mem_len s (by omega)]; omega)]
      exact congrArg (List.map pU) (mem_set s hlt hnx)
    clear hnx y1 y3
    refine zR ?_
    refine W.drawB hΓ 10 [[], [0], [0, 1], [0, 1, 2], [], [4], [4, 5], [4, 5, 6], [0, 1, 2, 3], [0, 1, 2, 3, 4, 5, 6, 7, 8]] (Es := ?Es7) (rest := ?rest7) (st1 := ?st17) ?_
    refine zL ?_
    refine zE ?_
    refine zR ?_
    refine W.drawB hΓ 15 [[], [], [1], [1, 2], [1, 2, 3], [], [1, 2, 3, 4, 5], [], [7], [7, 8], [7, 8, 9], [1, 2, 3, 4, 5, 6, 7, 8, 9, 10], [], [1, 2, 3, 4, 5, 6, 7, 8, 9, 10, 11, 12], [0, 1, 2, 3, 4, 5, 6, 7, 8, 9, 10, 11, 12, 13], [0, 1, 2, 3, 4, 5, 6, 7, 8, 9, 10, 11, 12, 13, 14]] (Es := ?Es9) (rest := ?rest9) (st1 := ?st19) ?_
    refine zL ?_
    refine zE ?_
    refine zR ?_
    exact At.roundA (k + 1) ⟨by omega, by omega⟩ (by omega)
  have hk64 : k = 64 := by omega
  subst hk64
  have hr0 : rnds s h 0 = h := rfl
  refine zR ?_
  refine W.loopA (fun k => k ≤ 64) (fun k : Nat => [.slot 77 (vI k), .slot 12 (one (.ptr 12 0)), .slot 5 (one (.ptr 5 0)), .slot 4 (one (.ptr 4 0)), .slot 2 (one (.ptr 2 0)), .blk 12 (.box (rnds s h k).pl), .blk 5 (.box ((mem s 64).map pU)), .blk 2 (.box h.pl), .blk 4 (.box (W8.pl ⟨0, 0, 0, 0, 0, 0, 0, 0⟩))]) (fun k => 64 - k) 0 (Nat.zero_le _) (h := ?_)
  rintro k hk
  by_cases hlt : k < 64
  · obtain ⟨⟨ba, bb, bc, bd⟩, be, bf, bg, bh⟩ := rnds_ok s hok k
    have hgl := ev_shaW
    have hK := shaL_get hlt
    have hW := boxU_get (mem_get s (k := 64) (j := k) hlt)
    have na : (rnds s h (k + 1)).a = (rnd (rnds s h k) (shaK k + (sch s 64).getD k 0)).a := rfl
    have nb : (rnds s h (k + 1)).b = (rnds s h k).a := rfl
    have nc : (rnds s h (k + 1)).c = (rnds s h k).b := rfl
    have nd : (rnds s h (k + 1)).d = (rnds s h k).c := rfl
    have ne : (rnds s h (k + 1)).e = (rnd (rnds s h k) (shaK k + (sch s 64).getD k 0)).e := rfl
    have nf : (rnds s h (k + 1)).f = (rnds s h k).e := rfl
    have ng : (rnds s h (k + 1)).g = (rnds s h k).f := rfl
    have nh : (rnds s h (k + 1)).h = (rnds s h k).g := rfl
    generalize rnds s h k = v at *
    generalize shaK k = K at hK na ne
    generalize (sch s 64).getD k 0 = Wk at hW na ne
    obtain ⟨a, b, c, d, e, f, g, q⟩ := v
    dsimp only at ba bb bc bd be bf bg bh nb nc nd nf ng nh
    dsimp only [rnd] at na ne
    have r6 : mRot [aU e, aI (-6)] = some (rU (rotr e 6)) := mRot_eq e 6 be (by omega) (by omega)
    have r11 : mRot [aU e, aI (-11)] = some (rU (rotr e 11)) := mRot_eq e 11 be (by omega) (by omega)
    have r25 : mRot [aU e, aI (-25)] = some (rU (rotr e 25)) := mRot_eq e 25 be (by omega) (by omega)
    have r2 : mRot [aU a, aI (-2)] = some (rU (rotr a 2)) := mRot_eq a 2 ba (by omega) (by omega)
    have r13 : mRot [aU a, aI (-13)] = some (rU (rotr a 13)) := mRot_eq a 13 ba (by omega) (by omega)
    have r22 : mRot [aU a, aI (-22)] = some (rU (rotr a 22)) := mRot_eq a 22 ba (by omega) (by omega)
    have y1 := Nat.xor_lt_two_pow (n := 32) (x := rotr e 6) (y := rotr e 11) (rotr_lt _ _) (rotr_lt _ _)
    have y2 := Nat.xor_lt_two_pow (n := 32) (x := rotr a 2) (y := rotr a 13) (rotr_lt _ _) (rotr_lt _ _)
    have x1 := xor_u32 (rotr_lt e 6) (rotr_lt e 11)
    have x2 : bits .xor .u32 ((rotr e 6 ^^^ rotr e 11 : Nat) : Int) ((rotr e 25 : Nat) : Int) = ((big1 e : Nat) : Int) := xor_u32 y1 (rotr_lt e 25)
    have x3 := xor_u32 (rotr_lt a 2) (rotr_lt a 13)
    have x4 : bits .xor .u32 ((rotr a 2 ^^^ rotr a 13 : Nat) : Int) ((rotr a 22 : Nat) : Int) = ((big0 a : Nat) : Int) := xor_u32 y2 (rotr_lt a 22)
    have n1 := not_u32 be
    have hn := Nat.xor_lt_two_pow (n := 32) (x := 4294967295) (y := e) (by omega) be
    have a1 := and_u32 be bf
    have a2 := and_u32 (a := 4294967295 ^^^ e) hn bg
    have p1 := Nat.and_lt_two_pow (n := 32) e bf
    have p2 := Nat.and_lt_two_pow (n := 32) (4294967295 ^^^ e) bg
    have x5 : bits .xor .u32 ((e &&& f : Nat) : Int) (((4294967295 ^^^ e) &&& g : Nat) : Int) = ((chs e f g : Nat) : Int) := xor_u32 p1 p2
    have a3 := and_u32 ba bb
    have a4 := and_u32 ba bc
    have a5 := and_u32 bb bc
    have p3 := Nat.and_lt_two_pow (n := 32) a bb
    have p4 := Nat.and_lt_two_pow (n := 32) a bc
    have p5 := Nat.and_lt_two_pow (n := 32) b bc
    have p6 := Nat.xor_lt_two_pow (n := 32) p3 p4
    have x6 := xor_u32 p3 p4
    have x7 : bits .xor .u32 (((a &&& b) ^^^ (a &&& c) : Nat) : Int) ((b &&& c : Nat) : Int) = ((maj a b c : Nat) : Int) := xor_u32 p6 p5
    clear y1 y2 hn p1 p2 p3 p4 p5 p6
    generalize big1 e = S1 at x2 na ne
    generalize big0 a = S0 at x4 na
    generalize chs e f g = C at x5 na ne
    generalize maj a b c = M at x7 na
    have ad := add4_u32 q S1 C K
    have ae := add2_u32 ((q + S1 + C + K) % 4294967296) Wk
    have af := add2_u32 (((q + S1 + C + K) % 4294967296 + Wk) % 4294967296) S0
    have ag := add2_u32 (((((q + S1 + C + K) % 4294967296 + Wk) % 4294967296) + S0) % 4294967296) M
    have ah := add2_u32 d (((q + S1 + C + K) % 4294967296 + Wk) % 4294967296)
    have na' : ((((q + S1 + C + K) % 4294967296 + Wk) % 4294967296 + S0) % 4294967296 + M) % 4294967296 = (rnds s h (k + 1)).a := by rw [na]; omega
    have ne' : (d + ((q + S1 + C + K) % 4294967296 + Wk) % 4294967296) % 4294967296 = (rnds s h (k + 1)).e := by rw [ne]; omega
    have hpl : (rnds s h (k + 1)).pl = [pU (rnds s h (k + 1)).a, pU a, pU b, pU c, pU (rnds s h (k + 1)).e, pU e, pU f, pU g] := by unfold W8.pl; rw [nb, nc, nd, nf, ng, nh]
    clear na ne nb nc nd nf ng nh
    refine zR ?_
    refine W.drawB hΓ 6 [[], [0], [], [2], [0, 1], [0, 1, 2, 3, 4]] (Es := ?Es13) (rest := ?rest13) (st1 := ?st113) ?_
    refine zL ?_
    refine zE ?_
    refine zR ?_
    refine W.drawB hΓ 15 [[], [0], [], [0, 1, 2], [], [0, 1, 2, 3, 4], [], [6], [6, 7], [0, 1, 2, 3, 4, 5, 6, 7, 8], [], [10], [10, 11], [0, 1, 2, 3, 4, 5, 6, 7, 8, 9, 10, 11, 12], [0, 1, 2, 3, 4, 5, 6, 7, 8, 9, 10, 11, 12, 13]] (Es := ?Es15) (rest := ?rest15) (st1 := ?st115) ?_
    refine zL ?_
    refine zE ?_
    refine zR ?_
    exact At.roundA (k + 1) (by omega) (by omega)
  have hk64 : k = 64 := by omega
  subst hk64
  clear hml hr0 hk1 hk2
  generalize hv : rnds s h 64 = v
  refine zR ?_
  refine W.loopA (fun k => k ≤ 8) (fun k : Nat => [.slot 162 (vI k), .slot 12 (one (.ptr 12 0)), .slot 4 (one (.ptr 4 0)), .slot 2 (one (.ptr 2 0)), .blk 12 (.box (v.lst.map pU)), .blk 2 (.box ((mixL h v k).map pU)), .blk 4 (.box (W8.pl ⟨0, 0, 0, 0, 0, 0, 0, 0⟩))]) (fun k => 8 - k) 0 (Nat.zero_le _) (h := ?_)
  rintro k hk
  have hml : ((mixL h v k).map pU).length = 8 := by rw [List.length_map, mixL_len]
  by_cases hlt : k < 8
  · have g1 := boxU_get (mixL_get h v hlt)
    have g2 := boxU_get (v.lst_get hlt)
    have hml2 : (v.lst.map pU).length = 8 := rfl
    have ha := add2_u32 (h.lst.getD k 0) (v.lst.getD k 0)
    have hset : ((mixL h v k).map pU).take k ++ [pU ((h.lst.getD k 0 + v.lst.getD k 0) % 4294967296)] ++ ((mixL h v k).map pU).drop (k + 1) = (mixL h v (k + 1)).map pU := by
      rw [boxU_set _ (by rw [mixL_len]; exact hlt), mixL_set h v hlt]
    clear hv
    generalize h.lst.getD k 0 = x1 at *
    generalize v.lst.getD k 0 = x2 at *
    refine zR ?_
    refine W.drawB hΓ 9 [[], [], [1], [1, 2], [], [4], [4, 5], [1, 2, 3, 4, 5, 6], [0, 1, 2, 3, 4, 5, 6, 7], [0, 1, 2, 3, 4, 5, 6, 7, 8]] (Es := ?Es19) (rest := ?rest19) (st1 := ?st119) ?_
    refine zL ?_
    refine zE ?_
    refine zR ?_
    exact At.roundA (k + 1) (by omega) (by omega)
  have hk8 : k = 8 := by omega
  subst hk8
  have he : (mixL h v 8).map pU = (block h s).pl := by rw [mixL_all, ← hv]; rfl
  refine zR ?_
  refine At.retA (by rw [Tryz.results225]) (he := rfl)
end Go.Proofs.YtfgkfcfplodaoaaGreatDoor

end
section
namespace Go.Proofs.YtfgkfcfplodaoaaGreatDoor
open Go Go.RowKit
set_option maxHeartbeats 4000000
abbrev aHd (h : THeader) : Arg := .val true [.sc (.int .i64 h.1), .sc (.int .i64 h.2.1), .sc (.string h.2.2.1), .sc (.string h.2.2.2.1), .sc (.string h.2.2.2.2.1), .sc (.string h.2.2.2.2.2)]
theorem aHd_inj : ∀ x y : THeader, [aHd x] = [aHd y] → x = y := by
  rintro ⟨a, b, c, d, e, f⟩ ⟨a', b', c', d', e', f'⟩ h
  simpa [aHd] using h
def lastN (h : Int) : Int := if h = 1 then 0 else 8
def headOk (h : THeader) : Prop := (1 ≤ h.1 ∧ h.1 ≤ 1000000) ∧ (0 ≤ h.2.1 ∧ h.2.1 ≤ 1000000) ∧ (h.2.2.2.1.size : Int) = 8 ∧ (h.2.2.2.2.1.size : Int) = 8 ∧ (h.2.2.1.size : Int) = lastN h.1 ∧ (h.2.2.2.2.2.size : Int) ≤ 20
instance (h : THeader) : Decidable (headOk h) := by unfold headOk; infer_instance
theorem cases6 (a b c d e f : Prop) : (a ∧ b ∧ c ∧ d ∧ e ∧ f) ∨ ¬ a ∨ (a ∧ ¬ b) ∨ (a ∧ b ∧ ¬ c) ∨ (a ∧ b ∧ c ∧ ¬ d) ∨ (a ∧ b ∧ c ∧ d ∧ ¬ e) ∨ (a ∧ b ∧ c ∧ d ∧ e ∧ ¬ f) := by
  by_cases ha : a <;> by_cases hb : b <;> by_cases hc : c <;> by_cases hd : d <;> by_cases he : e <;> by_cases hf : f <;> simp_all
theorem cases5 (a b c d e : Prop) : (a ∧ b ∧ c ∧ d ∧ e) ∨ ¬ a ∨ (a ∧ ¬ b) ∨ (a ∧ b ∧ ¬ c) ∨ (a ∧ b ∧ c ∧ ¬ d) ∨ (a ∧ b ∧ c ∧ d ∧ ¬ e) := by
  by_cases ha : a <;> by_cases hb : b <;> by_cases hc : c <;> by_cases hd : d <;> by_cases he : e <;> simp_all
noncomputable def mHead := mdl (fun _ : THeader => True) (fun h => [aHd h]) (fun h => rB (decide (headOk h)))
theorem mHead_eq (h : THeader) : mHead [aHd h] = some (rB (decide (headOk h))) := mdl_eq aHd_inj h trivial
noncomputable def mTime := mdl (fun _ : Int => True) (fun n => [aI n]) (fun n => rB (decide (0 ≤ n ∧ n ≤ 1000000)))
theorem mTime_eq (n : Int) : mTime [aI n] = some (rB (decide (0 ≤ n ∧ n ≤ 1000000))) := mdl_eq (by intro a b h; simpa using h) n trivial
noncomputable def mHeight := mdl (fun _ : Int => True) (fun n => [aI n]) (fun n => rB (decide (1 ≤ n ∧ n ≤ 1000000)))
theorem mHeight_eq (n : Int) : mHeight [aI n] = some (rB (decide (1 ≤ n ∧ n ≤ 1000000))) := mdl_eq (by intro a b h; simpa using h) n trivial
theorem isTime_s : Sound Tryz.prog 125 mTime := by
  refine Sound.mdl Tryz.func125 rfl Tryz.ntmps125 ?_
  rintro n w -
  refine ⟨by simp, ?_⟩
  have hΓ : GSound Tryz.prog (look [(139, mWithin)]) := env_cons (has_of Tryz.func139 rfl rfl) within_s env_nil
  have c1 := mWithin_eq n 0 1000000
  simp only [initS, argPV, List.map_cons, List.map_nil, toPL, Nat.zero_add]
  refine zR ?_
  refine At.retA (by rw [Tryz.results125]) (he := rfl)
theorem isHeight_s : Sound Tryz.prog 213 mHeight := by
  refine Sound.mdl Tryz.func213 rfl Tryz.ntmps213 ?_
  rintro n w -
  refine ⟨by simp, ?_⟩
  have hΓ : GSound Tryz.prog (look [(139, mWithin)]) := env_cons (has_of Tryz.func139 rfl rfl) within_s env_nil
  have c1 := mWithin_eq n 1 1000000
  simp only [initS, argPV, List.map_cons, List.map_nil, toPL, Nat.zero_add]
  refine zR ?_
  refine At.retA (by rw [Tryz.results213]) (he := rfl)
end Go.Proofs.YtfgkfcfplodaoaaGreatDoor

end
section
namespace Go.Proofs.YtfgkfcfplodaoaaGreatDoor
open Go Go.RowKit
set_option maxHeartbeats 4000000
def fixB : Nat → Nat → List Nat
  | 0, _ => []
  | k + 1, n => (n / 256 ^ k % 256) :: fixB k n
theorem fixB_len : ∀ k n, (fixB k n).length = k
  | 0, _ => rfl
  | k + 1, n => by simp [fixB, fixB_len k n]
theorem fixB_get (n : Nat) : ∀ k i, i < k → (fixB k n)[i]? = some (n / 256 ^ (k - 1 - i) % 256)
  | 0, i, h => by omega
  | k + 1, 0, _ => by simp [fixB]
  | k + 1, i + 1, h => by
    have := fixB_get n k i (by omega)
    simp only [fixB, List.getElem?_cons_succ, this]
    congr 4
    omega
theorem bsS_app (a b : List Nat) : bsS a ++ bsS b = bsS (a ++ b) := by
  unfold bsS
  apply ByteArray.ext
  simp
theorem fixB_top {n : Nat} (h : n < 72057594037927936) : fixB 8 n = 0 :: fixB 7 n := by
  show (n / 256 ^ 7 % 256) :: fixB 7 n = _
  have : n / 256 ^ 7 = 0 := Nat.div_eq_of_lt (by omega)
  rw [this]
def zPd (n : Nat) : Nat := (64 - (n + 9) % 64) % 64
def padZ (i : Nat) : List Nat := 128 :: List.replicate i 0
theorem padZ_len (i : Nat) : (padZ i).length = i + 1 := by simp [padZ]
theorem padZ_succ (i : Nat) : padZ i ++ [0] = padZ (i + 1) := by
  unfold padZ
  rw [List.replicate_succ', List.cons_append]
def padS (s : ByteArray) : ByteArray := s ++ bsS (padZ (zPd s.size) ++ fixB 8 (8 * s.size))
theorem padS_size (s : ByteArray) : (padS s).size = s.size + 9 + zPd s.size := by
  unfold padS
  rw [ByteArray.size_append, bsS_size, List.length_append, padZ_len, fixB_len]
  omega
theorem padS_64 (s : ByteArray) : ∃ q, (padS s).size = 64 * q ∧ q ≤ s.size + 2 := by
  refine ⟨(padS s).size / 64, ?_, ?_⟩
  · rw [padS_size]; unfold zPd; omega
  · rw [padS_size]; unfold zPd; omega
theorem padS_impl {s : ByteArray} (h : s.size ≤ 16777216) : s ++ (⟨#[128]⟩ : ByteArray) ++ bsS (List.replicate (zPd s.size + 1) 0) ++ bsS (fixB 7 (8 * s.size)) = padS s := by
  have e : (⟨#[128]⟩ : ByteArray) = bsS [128] := rfl
  rw [e, ByteArray.append_assoc, ByteArray.append_assoc, bsS_app, bsS_app]
  unfold padS
  rw [fixB_top (by omega)]
  congr 2
  unfold padZ
  rw [List.replicate_succ']
  simp
theorem rowsF_repU (n x : Nat) : rowsF cU8 (List.replicate n x) = List.replicate n [Leaf.sc (.int .u8 (x : Int))] := List.map_replicate
def H0 : W8 := ⟨0x6a09e667, 0xbb67ae85, 0x3c6ef372, 0xa54ff53a, 0x510e527f, 0x9b05688c, 0x1f83d9ab, 0x5be0cd19⟩
theorem H0_ok : H0.ok := by unfold W8.ok H0; decide
def foldK (t : ByteArray) : Nat → W8
  | 0 => H0
  | j + 1 => block (foldK t j) (t.extract (64 * j) (64 * j + 64))
theorem foldK_ok (t : ByteArray) : ∀ j, (foldK t j).ok
  | 0 => H0_ok
  | j + 1 => addW_ok _ _
def outL (v : W8) (k : Nat) : List Nat := (v.lst.take k).flatMap (fixB 4)
theorem outL_succ (v : W8) {k : Nat} (hk : k < 8) : outL v (k + 1) = outL v k ++ fixB 4 (v.lst.getD k 0) := by
  have hl : k < v.lst.length := hk
  unfold outL
  rw [List.take_succ_eq_append_getElem hl, List.flatMap_append, List.getD_eq_getElem?_getD, List.getElem?_eq_getElem hl]
  simp
theorem outL_len (v : W8) : ∀ k, k ≤ 8 → (outL v k).length = 4 * k
  | 0, _ => rfl
  | k + 1, hk => by rw [outL_succ v (by omega), List.length_append, outL_len v k (by omega), fixB_len]; omega
def shaW8 (s : ByteArray) : W8 := foldK (padS s) ((padS s).size / 64)
def shaS (s : ByteArray) : ByteArray := bsS (outL (shaW8 s) 8)
theorem shaS_size (s : ByteArray) : (shaS s).size = 32 := by unfold shaS; rw [bsS_size, outL_len _ _ (Nat.le_refl _)]
noncomputable def mSha := mdl (fun s : ByteArray => s.size ≤ 16777216) (fun s => [aS s]) (fun s => rS (shaS s))
theorem mSha_eq (s : ByteArray) (h : s.size ≤ 16777216) : mSha [aS s] = some (rS (shaS s)) := mdl_eq (by intro a b h; simpa using h) s h
def fixP (w n j : Nat) : List Nat := List.replicate (w - j) 0 ++ fixB j n
theorem fixP_len {w n j : Nat} (h : j ≤ w) : (fixP w n j).length = w := by simp [fixP, fixB_len]; omega
theorem fixP_set {w n j : Nat} (h : j < w) : (fixP w n j).set (w - 1 - j) (n / 256 ^ j % 256) = fixP w n (j + 1) := by
  unfold fixP
  have e : w - j = (w - (j + 1)) + 1 := by omega
  have e2 : w - 1 - j = w - (j + 1) := by omega
  rw [e, e2, List.replicate_succ', List.append_assoc, List.set_append_right _ _ (by simp), List.length_replicate, Nat.sub_self]
  rfl
theorem fixP_old {w n j : Nat} (h : j < w) : (fixP w n j)[w - 1 - j]? = some 0 := by
  unfold fixP
  rw [List.getElem?_append_left (by simp; omega), List.getElem?_replicate, if_pos (by omega)]
theorem rowU {l : List Nat} {k v : Nat} (h : l[k]? = some v) : (rowsF cU8 l)[k]? = some [.sc (.int .u8 (v : Int))] := by
  unfold rowsF
  rw [List.getElem?_map, h]
  rfl
noncomputable def mFixed := mdl (fun x : Nat × Nat => (x.2 = 4 ∨ x.2 = 7) ∧ x.1 < 256 ^ x.2) (fun x => [aI (x.1 : Int), aI (x.2 : Int)]) (fun x => rS (bsS (fixB x.2 x.1)))
theorem mFixed4 (n : Nat) (h : n < 4294967296) : mFixed [aI (n : Int), aI 4] = some (rS (bsS (fixB 4 n))) := mdl_eq (by rintro ⟨a, b⟩ ⟨d, e⟩ h; simp at h; simp; omega) (n, 4) ⟨.inl rfl, h⟩
theorem mFixed7 (n : Nat) (h : n < 72057594037927936) : mFixed [aI (n : Int), aI 7] = some (rS (bsS (fixB 7 n))) := mdl_eq (by rintro ⟨a, b⟩ ⟨d, e⟩ h; simp at h; simp; omega) (n, 7) ⟨.inr rfl, h⟩
theorem and255 {m : Nat} (h : m < 9223372036854775808) : bits .and .i64 (m : Int) 255 = ((m % 256 : Nat) : Int) := by
  have := and_i64 (a := m) (b := 255) h (by omega)
  rw [show (255 : Nat) = 2 ^ 8 - 1 from rfl, Nat.and_two_pow_sub_one_eq_mod] at this
  exact this
theorem fixed_s : Sound Tryz.prog 224 mFixed := by
  refine Sound.mdl Tryz.func224 rfl Tryz.ntmps224 ?_
  rintro ⟨n, wd⟩ w ⟨hw, hn⟩
  refine ⟨by simp, ?_⟩
  dsimp only at hw hn
  have hΓ : GSound Tryz.prog (look [(139, mWithin)]) := env_cons (has_of Tryz.func139 rfl rfl) within_s env_nil
  rcases hw with rfl | rfl
  · have hn : n < 4294967296 := hn
    have c1 : mWithin [aI ((4 : Nat) : Int), aI 1, aI 7] = some (rB (decide ((1 : Int) ≤ ((4 : Nat) : Int) ∧ ((4 : Nat) : Int) ≤ 7))) := mWithin_eq _ 1 7
    have e84 : (8 : Int) * 4 = 32 := rfl
    have e32 : min 32 IntKind.i64.bits = 32 := rfl
    have n4 : ((4 : Nat) : Int) = 4 := rfl
    have ha : ar .i64 (1 * 2 ^ 32) = some (.int .i64 4294967296) := rfl
    have hz : List.replicate 4 [Leaf.sc (.int .u8 0)] = rowsF cU8 (fixP 4 n 0) := rfl
    rw [n4] at c1
    simp only [initS, argPV, List.map_cons, List.map_nil, toPL, Nat.zero_add]
    rw [n4]
    refine zR ?_
    refine W.loopA (fun j => j ≤ 4) (fun j : Nat => [.slot 6 (vI (3 - (j : Int))), .slot 0 (vI ((n / 256 ^ j : Nat) : Int)), .slot 5 (one (.all 22)), .blk 22 (.arr .ft 5 1 (rowsF cU8 (fixP 4 n j)))]) (fun j => 4 - j) 0 (Nat.zero_le _) (by simp only [Nat.pow_zero, Nat.div_one]; exact subP) (h := ?_)
    clear hz c1 e32 ha e84
    rintro j hj
    have hpl := fixP_len (n := n) hj
    have hpr := rowsF_len cU8 (fixP 4 n j)
    by_cases hlt : j < 4
    · have hold := rowU (fixP_old (n := n) hlt)
      have hset : (rowsF cU8 (fixP 4 n j)).set (4 - 1 - j) [.sc (.int .u8 ((n / 256 ^ j % 256 : Nat) : Int))] = rowsF cU8 (fixP 4 n (j + 1)) := by rw [← fixP_set (n := n) hlt]; exact rowsF_set cU8 _ _ _
      have hnx : n / 256 ^ j / 256 = n / 256 ^ (j + 1) := by rw [Nat.div_div_eq_div_mul, Nat.pow_succ]
      have hm : n / 256 ^ j < 9223372036854775808 := Nat.lt_of_le_of_lt (Nat.div_le_self _ _) (by omega)
      have ei : ((3 : Int) - (j : Int)).toNat = 4 - 1 - j := by omega
      generalize n / 256 ^ j = m at *
      have t1 := and255 hm
      have hw := wrap_u8n (n := m % 256) (by omega)
      have m8 : min 8 IntKind.i64.bits = 8 := rfl
      have t2 : (m : Int).fdiv (2 ^ 8) = ((m / 256 : Nat) : Int) := fdiv_nat m 8
      have t3 : (3 : Int) - (j : Int) - 1 = 3 - ((j + 1 : Nat) : Int) := by omega
      refine zR ?_
      exact At.roundA (j + 1) (by omega) (by omega)
    · have hj4 : j = 4 := by omega
      subst hj4
      have hb := bytes_rows (fixP 4 n 4)
      refine zR ?_
      refine At.retA (by rw [Tryz.results224]) (he := rfl)
  · have hn : n < 72057594037927936 := hn
    have c1 : mWithin [aI ((7 : Nat) : Int), aI 1, aI 7] = some (rB (decide ((1 : Int) ≤ ((7 : Nat) : Int) ∧ ((7 : Nat) : Int) ≤ 7))) := mWithin_eq _ 1 7
    have e84 : (8 : Int) * 7 = 56 := rfl
    have e32 : min 56 IntKind.i64.bits = 56 := rfl
    have n4 : ((7 : Nat) : Int) = 7 := rfl
    have ha : ar .i64 (1 * 2 ^ 56) = some (.int .i64 72057594037927936) := rfl
    have hz : List.replicate 7 [Leaf.sc (.int .u8 0)] = rowsF cU8 (fixP 7 n 0) := rfl
    rw [n4] at c1
    simp only [initS, argPV, List.map_cons, List.map_nil, toPL, Nat.zero_add]
    rw [n4]
    refine zR ?_
    refine W.loopA (fun j => j ≤ 7) (fun j : Nat => [.slot 6 (vI (6 - (j : Int))), .slot 0 (vI ((n / 256 ^ j : Nat) : Int)), .slot 5 (one (.all 22)), .blk 22 (.arr .ft 5 1 (rowsF cU8 (fixP 7 n j)))]) (fun j => 7 - j) 0 (Nat.zero_le _) (by simp only [Nat.pow_zero, Nat.div_one]; exact subP) (h := ?_)
    clear hz c1 e32 ha e84
    rintro j hj
    have hpl := fixP_len (n := n) hj
    have hpr := rowsF_len cU8 (fixP 7 n j)
    by_cases hlt : j < 7
    · have hold := rowU (fixP_old (n := n) hlt)
      have hset : (rowsF cU8 (fixP 7 n j)).set (7 - 1 - j) [.sc (.int .u8 ((n / 256 ^ j % 256 : Nat) : Int))] = rowsF cU8 (fixP 7 n (j + 1)) := by rw [← fixP_set (n := n) hlt]; exact rowsF_set cU8 _ _ _
      have hnx : n / 256 ^ j / 256 = n / 256 ^ (j + 1) := by rw [Nat.div_div_eq_div_mul, Nat.pow_succ]
      have hm : n / 256 ^ j < 9223372036854775808 := Nat.lt_of_le_of_lt (Nat.div_le_self _ _) (by omega)
      have ei : ((6 : Int) - (j : Int)).toNat = 7 - 1 - j := by omega
      generalize n / 256 ^ j = m at *
      have t1 := and255 hm
      have hw := wrap_u8n (n := m % 256) (by omega)
      have m8 : min 8 IntKind.i64.bits = 8 := rfl
      have t2 : (m : Int).fdiv (2 ^ 8) = ((m / 256 : Nat) : Int) := fdiv_nat m 8
      have t3 : (6 : Int) - (j : Int) - 1 = 6 - ((j + 1 : Nat) : Int) := by omega
      refine zR ?_
      exact At.roundA (j + 1) (by omega) (by omega)
    · have hj4 : j = 7 := by omega
      subst hj4
      have hb := bytes_rows (fixP 7 n 7)
      refine zR ?_
      refine At.retA (by rw [Tryz.results224]) (he := rfl)
end Go.Proofs.YtfgkfcfplodaoaaGreatDoor

end
