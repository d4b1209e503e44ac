
import Derived.Test.YtfgkfcfplodaoaaGreatDoorG40
set_option linter.unusedSimpArgs false
set_option linter.unusedVariables false
set_option maxRecDepth 100000
namespace Go.Proofs.YtfgkfcfplodaoaaGreatDoor
open Go Go.RowKit
set_option maxHeartbeats 16000000
def stB (p : TBlock) : TChS := (p.2.2.1, p.1.2.1, headId p.1)
abbrev TBo := ByteArray × Nat × TBlock
abbrev okBo (x : TBo) : Prop := x.1.size ≤ 1048576 ∧ x.2.1 < 12 ∧ okBkS x.2.2 ∧ CnOk x.1 x.2.1 (stB x.2.2)
abbrev aBo (x : TBo) : List Arg := [aS x.1, aI ((x.2.1 + 1 : Nat) : Int), aBk x.2.2]
theorem aBo_inj : ∀ x y, aBo x = aBo y → x = y := by
  rintro ⟨s, k, p⟩ ⟨s', k', p'⟩ h
  have h1 : aS s = aS s' := by injection h
  have h2 : aI ((k + 1 : Nat) : Int) = aI ((k' + 1 : Nat) : Int) := by injection h with _ h; injection h
  have h3 : [aBk p] = [aBk p'] := by injection h with _ h; injection h
  have h4 : s = s' := by simpa using h1
  have h5 : ((k + 1 : Nat) : Int) = ((k' + 1 : Nat) : Int) := by
    injection h2 with _ h2
    injection h2 with h2 _
    injection h2 with h2
    injection h2
  rw [h4, aBk_inj _ _ h3, show k = k' by omega]
noncomputable def mBlkOf := mdl okBo aBo (fun x => rBk (cnBlk x.1 x.2.1 (stB x.2.2)))
theorem mBlkOf_eq (s : ByteArray) (k : Nat) (p : TBlock) (h : okBo (s, k, p)) : mBlkOf [aS s, aI ((k + 1 : Nat) : Int), aBk p] = some (rBk (cnBlk s k (stB p))) := mdl_eq aBo_inj (s, k, p) h
def asEvBkOf0 : List (List Nat) := [[], [0], [0, 1], [], [3], [], [5], [], [7], [5, 6, 7, 8], [3, 4, 5, 6, 7, 8, 9], [3, 4, 5, 6, 7, 8, 9, 10], [0, 1, 2, 3, 4, 5, 6, 7, 8, 9, 10, 11], [0, 1, 2, 3, 4, 5, 6, 7, 8, 9, 10, 11, 12], [0, 1, 2, 3, 4, 5, 6, 7, 8, 9, 10, 11, 12, 13], [0, 1, 2, 3, 4, 5, 6, 7, 8, 9, 10, 11, 12, 13, 14]]
def asEvBkOf1 : List (List Nat) := [[], [], [1], [1, 2], [1, 2, 3], [], [5], [5, 6], [5, 6, 7], [1, 2, 3, 4, 5, 6, 7, 8], [], [10], [10, 11], [], [13], [10, 11, 12, 13, 14], [], [16], [10, 11, 12, 13, 14, 15, 16, 17], [], [19], [19, 20], [10, 11, 12, 13, 14, 15, 16, 17, 18, 19, 20, 21], [0, 1, 2, 3, 4, 5, 6, 7, 8, 9, 10, 11, 12, 13, 14, 15, 16, 17, 18, 19, 20, 21, 22], [0, 1, 2, 3, 4, 5, 6, 7, 8, 9, 10, 11, 12, 13, 14, 15, 16, 17, 18, 19, 20, 21, 22, 23], [0, 1, 2, 3, 4, 5, 6, 7, 8, 9, 10, 11, 12, 13, 14, 15, 16, 17, 18, 19, 20, 21, 22, 23, 24]]
def asEvBkOf2 : List (List Nat) := [[], [0], [], [2], [2, 3], [2, 3, 4], [2, 3, 4, 5], [], [7], [7, 8], [7, 8, 9], [2, 3, 4, 5, 6, 7, 8, 9, 10], [2, 3, 4, 5, 6, 7, 8, 9, 10, 11], [0, 1, 2, 3, 4, 5, 6, 7, 8, 9, 10, 11, 12], [0, 1, 2, 3, 4, 5, 6, 7, 8, 9, 10, 11, 12, 13], [0, 1, 2, 3, 4, 5, 6, 7, 8, 9, 10, 11, 12, 13, 14], [0, 1, 2, 3, 4, 5, 6, 7, 8, 9, 10, 11, 12, 13, 14], [0, 1, 2, 3, 4, 5, 6, 7, 8, 9, 10, 11, 12, 13, 14, 15], [0, 1, 2, 3, 4, 5, 6, 7, 8, 9, 10, 11, 12, 13, 14, 15, 17]]
def asEvBkOf3 : List (List Nat) := [[], [0], [], [2], [], [], [4, 5], [4, 5, 6], [4, 5, 6, 7], [4, 5, 6, 7, 8], [2, 3, 4, 5, 6, 7, 8, 9], [2, 3, 4, 5, 6, 7, 8, 9, 10], [0, 1, 2, 3, 4, 5, 6, 7, 8, 9, 10, 11], [0, 1, 2, 3, 4, 5, 6, 7, 8, 9, 10, 11, 12], [0, 1, 2, 3, 4, 5, 6, 7, 8, 9, 10, 11, 12, 13]]
theorem blkOf_s : Sound Tryz.prog 140 mBlkOf := by
  refine Sound.mdl Tryz.func140 rfl Tryz.ntmps140 ?_
  rintro ⟨s, k, ⟨⟨ph, pt, pla, pva, pne, pda⟩, pb1, pb2, ⟨pch, pcr, pci, pcs⟩⟩⟩ w ⟨hs, hk, ⟨hb1, hb2, hb3⟩, hok⟩
  refine ⟨by simp, ?_⟩
  replace hs : s.size ≤ 1048576 := hs
  replace hk : k < 12 := hk
  dsimp only at hb1 hb2 hb3 hok
  have hΓ : GSound Tryz.prog (look [(101, mDecZ), (180, mSha), (181, mChV), (166, mVHash), (70, mCopyV), (144, mHeadId), (183, mDig), (182, mSign)]) := env_cons (has_of Tryz.func101 rfl rfl) decZI_s (env_cons (has_of Tryz.func180 rfl rfl) shaImpl_s (env_cons (has_of Tryz.func181 rfl rfl) chVI_s (env_cons (has_of Tryz.func166 rfl rfl) vhashI_s (env_cons (has_of Tryz.func70 rfl rfl) copyV_s (env_cons (has_of Tryz.func144 rfl rfl) headIdI_s (env_cons (has_of Tryz.func183 rfl rfl) digI_s (env_cons (has_of Tryz.func182 rfl rfl) signI_s env_nil)))))))
  have c1 := mDecZ_eq ((k + 1 : Nat) : Int) ⟨by omega, by omega⟩
  have hdl := (decZ_len ((k + 1 : Nat) : Int)).2
  have c2 := mSha_eq (s ++ bsS (decZ ((k + 1 : Nat) : Int))) (by rw [ByteArray.size_append, bsS_size']; omega)
  have hsh : shaS (s ++ bsS (decZ ((k + 1 : Nat) : Int))) = shaH s (k + 1) := rfl
  rw [hsh] at c2
  clear hsh
  have hcs : (s ++ bsS (decZ ((k + 1 : Nat) : Int))).size ≤ 16777216 := by rw [ByteArray.size_append, bsS_size']; omega
  have h32 : (shaH s (k + 1)).size = 32 := shaS_size _
  have hbs : (bsS (decZ ((k + 1 : Nat) : Int))).size ≤ 11 := by rw [bsS_size']; exact hdl
  have c0 := mCopyV_eq pb2 hb2
  have hlp := rowsF_len cVal pb2
  have v7 := hok.vals.1
  have n7 : (cnNext s k (stB ((ph, pt, pla, pva, pne, pda), pb1, pb2, (pch, pcr, pci, pcs)))).length ≤ 7 := hok.next.1.2
  have t0 : 0 ≤ pt := hok.t0
  have t1 : pt ≤ 5 * k := hok.t1
  have cH := mHeadId_eq (ph, pt, pla, pva, pne, pda)
  have hres : cnBlk s k (stB ((ph, pt, pla, pva, pne, pda), pb1, pb2, (pch, pcr, pci, pcs))) = ((((k + 1 : Nat) : Int), pt + 1 + ((byteN (shaH s (k + 1)) 6 : Nat) : Int).tmod 5, headId (ph, pt, pla, pva, pne, pda), vhash (cnVals s k (stB ((ph, pt, pla, pva, pne, pda), pb1, pb2, (pch, pcr, pci, pcs)))), vhash (cnNext s k (stB ((ph, pt, pla, pva, pne, pda), pb1, pb2, (pch, pcr, pci, pcs)))), bsS (decZ ((byteN (shaH s (k + 1)) 7 : Nat) : Int))), cnVals s k (stB ((ph, pt, pla, pva, pne, pda), pb1, pb2, (pch, pcr, pci, pcs))), cnNext s k (stB ((ph, pt, pla, pva, pne, pda), pb1, pb2, (pch, pcr, pci, pcs))), cmFor (((k + 1 : Nat) : Int), pt + 1 + ((byteN (shaH s (k + 1)) 6 : Nat) : Int).tmod 5, headId (ph, pt, pla, pva, pne, pda), vhash (cnVals s k (stB ((ph, pt, pla, pva, pne, pda), pb1, pb2, (pch, pcr, pci, pcs)))), vhash (cnNext s k (stB ((ph, pt, pla, pva, pne, pda), pb1, pb2, (pch, pcr, pci, pcs)))), bsS (decZ ((byteN (shaH s (k + 1)) 7 : Nat) : Int))) 0 (idsV (cnVals s k (stB ((ph, pt, pla, pva, pne, pda), pb1, pb2, (pch, pcr, pci, pcs)))))) := rfl
  have hnx : cnNext s k (stB ((ph, pt, pla, pva, pne, pda), pb1, pb2, (pch, pcr, pci, pcs))) = (chV (cnVals s k (stB ((ph, pt, pla, pva, pne, pda), pb1, pb2, (pch, pcr, pci, pcs)))) (1 + ((byteN (shaH s (k + 1)) 4 : Nat) : Int).tmod 6, ((byteN (shaH s (k + 1)) 5 : Nat) : Int).tmod 4)).1 := rfl
  have hcv : cnVals s k (stB ((ph, pt, pla, pva, pne, pda), pb1, pb2, (pch, pcr, pci, pcs))) = if k = 0 then vals0 (shaH s 1) 4 else pb2 := rfl
  rw [hnx] at n7 hres
  clear hnx hok
  dsimp only [aHd] at cH
  generalize headId (ph, pt, pla, pva, pne, pda) = lid at *
  by_cases hk0 : k = 0
  · subst hk0
    simp only [Nat.zero_add] at *
    rw [if_pos trivial] at hcv
    rw [hcv] at n7 hres v7
    clear hcv
    have hvl := vals0_len (shaH s 1) 4
    have hN := byteN_eq (shaH s 1)
    obtain ⟨J, hJ0, hJs⟩ := twoC (α := St) [.slot 1 (vI ((1 : Nat) : Int)), .slot 5 (one (.ptr 5 0)), .blk 5 (.box [.sc (.int .i64 ph), .sc (.int .i64 pt), .sc (.string pla), .sc (.string pva), .sc (.string pne), .sc (.string pda), .sl (rowsF cVal pb1), .sl (rowsF cVal pb2), .sc (.int .i64 pch), .sc (.int .i64 pcr), .sc (.string pci), .sl (rowsF cCSig pcs)]), .slot 6 (one (.ptr 6 0)), .blk 6 (.box [.sc (.int .i64 0), .sc (.int .i64 0), .sc (.string ByteArray.empty), .sc (.string ByteArray.empty), .sc (.string ByteArray.empty), .sc (.string ByteArray.empty), .nil, .nil, .sc (.int .i64 0), .sc (.int .i64 0), .sc (.string ByteArray.empty), .nil]), .slot 7 (one (.sc (.string (shaH s 1)))), .slot 8 (one (.ptr 8 0)), .blk 8 (.box [.sc (.int .i64 0), .sc (.int .i64 0), .sc (.string ByteArray.empty), .sc (.string ByteArray.empty), .sc (.string ByteArray.empty), .sc (.string ByteArray.empty), .nil, .nil, .sc (.int .i64 0), .sc (.int .i64 0), .sc (.string ByteArray.empty), .nil]), .slot 25 (vI ((0 : Nat) : Int))] (fun j => [.slot 1 (vI ((1 : Nat) : Int)), .slot 5 (one (.ptr 5 0)), .blk 5 (.box [.sc (.int .i64 ph), .sc (.int .i64 pt), .sc (.string pla), .sc (.string pva), .sc (.string pne), .sc (.string pda), .sl (rowsF cVal pb1), .sl (rowsF cVal pb2), .sc (.int .i64 pch), .sc (.int .i64 pcr), .sc (.string pci), .sl (rowsF cCSig pcs)]), .slot 6 (one (.ptr 6 0)), .blk 6 (.box [.sc (.int .i64 0), .sc (.int .i64 0), .sc (.string ByteArray.empty), .sc (.string ByteArray.empty), .sc (.string ByteArray.empty), .sc (.string ByteArray.empty), .nil, .nil, .sc (.int .i64 0), .sc (.int .i64 0), .sc (.string ByteArray.empty), .nil]), .slot 7 (one (.sc (.string (shaH s 1)))), .slot 8 (one (.ptr 8 0)), .blk 8 (.box [.sc (.int .i64 0), .sc (.int .i64 0), .sc (.string ByteArray.empty), .sc (.string ByteArray.empty), .sc (.string ByteArray.empty), .sc (.string ByteArray.empty), .all 40, .nil, .sc (.int .i64 0), .sc (.int .i64 0), .sc (.string ByteArray.empty), .nil]), .blk 40 (.arr .ft 76 2 (rowsF cVal (vals0 (shaH s 1) (j + 1)))), .slot 25 (vI ((j + 1 : Nat) : Int))])
    replace hres := Lib.hid hres
    simp only [initS, argPV, List.map_cons, List.map_nil, toPL, Nat.zero_add]
    refine zR ?_
    refine W.loopA (fun j => j ≤ 4) J (fun j => 4 - j) 0 (Nat.zero_le _) (hs := ?_) (h := ?_)
    · rw [hJ0]
      exact subP
    rintro j hj
    by_cases hj4 : j < 4
    · have ib := byte_at (s := shaH s 1) (i := j) (by omega)
      have bl := byteN_lt (shaH s 1) j
      have tm := tmod_in (a := ((byteN (shaH s 1) j : Nat) : Int)) (m := 5) (by omega) (by omega)
      have e1 := cVal_app (vals0 (shaH s 1) j) ((j : Int) + 1) (1 + (bytZ (shaH s 1) j).tmod 5)
      rw [← vals0_next] at e1
      unfold bytZ at e1
      have hvj := vals0_len (shaH s 1) j
      have hj1 := hJs j
      rcases Nat.eq_zero_or_pos j with rfl | hp0
      · have hn1 : rowsF cVal (vals0 (shaH s 1) 0) = [] := rfl
        rw [hn1, List.nil_append] at e1
        replace e1 := Lib.hid e1
        rw [hJ0]
        clear hn1 v7 n7 c1 c2
        refine zR ?_
        refine W.drawB hΓ 12 asEvBkOf3 (Es := ?Es5) (rest := ?rest5) (st1 := ?st15) ?_
        refine zL ?_
        refine zE ?_
        refine zR ?_
        refine At.roundA (0 + 1) (by omega) (by omega) (hs := ?_)
        rw [hj1, ← e1.out]
        exact subP
      · obtain ⟨i, rfl⟩ : ∃ i, j = i + 1 := ⟨j - 1, by omega⟩
        rw [hJs i]
        replace hj1 := Lib.hid hj1
        clear v7 n7 c1 c2
        refine zR ?_
        refine W.drawB hΓ 12 asEvBkOf3 (Es := ?Es8) (rest := ?rest8) (st1 := ?st18) ?_
        refine zL ?_
        refine zE ?_
        refine zR ?_
        refine At.roundA (i + 1 + 1) (by omega) (by omega) (hs := ?_)
        rw [hj1.out]
        exact subP
    · have hj4 : j = 3 + 1 := by omega
      rw [hj4, hJs 3]
      clear hj4 hj hJ0 hJs
      generalize hvv : vals0 (shaH s 1) (3 + 1) = vv at *
      have hlv := rowsF_len cVal vv
      have c3 := mChV_eq vv (1 + ((byteN (shaH s 1) 4 : Nat) : Int).tmod 6, ((byteN (shaH s 1) 5 : Nat) : Int).tmod 4) (by omega)
      have hrw : rowsF cVal [(1 + ((byteN (shaH s 1) 4 : Nat) : Int).tmod 6, ((byteN (shaH s 1) 5 : Nat) : Int).tmod 4)] = [[.sc (.int .i64 (1 + ((byteN (shaH s 1) 4 : Nat) : Int).tmod 6)), .sc (.int .i64 (((byteN (shaH s 1) 5 : Nat) : Int).tmod 4))]] := rfl
      dsimp only [aL] at c3
      rw [hrw] at c3
      generalize hx : chV vv (1 + ((byteN (shaH s 1) 4 : Nat) : Int).tmod 6, ((byteN (shaH s 1) 5 : Nat) : Int).tmod 4) = nxp at *
      obtain ⟨nx, nb⟩ := nxp
      dsimp only at n7 c3
      have hln := rowsF_len cVal nx
      clear hx hrw
      generalize hbb : shaH s 1 = b at *
      have i4 := byte_at (s := b) (i := 4) (by omega)
      have i5 := byte_at (s := b) (i := 5) (by omega)
      have i6 := byte_at (s := b) (i := 6) (by omega)
      have i7 := byte_at (s := b) (i := 7) (by omega)
      have hN := byteN_eq b
      have l4 := byteN_lt b 4
      have l5 := byteN_lt b 5
      have l6 := byteN_lt b 6
      have l7 := byteN_lt b 7
      have m4 := tmod_in (a := ((byteN b 4 : Nat) : Int)) (m := 6) (by omega) (by omega)
      have m5 := tmod_in (a := ((byteN b 5 : Nat) : Int)) (m := 4) (by omega) (by omega)
      have m6 := tmod_in (a := ((byteN b 6 : Nat) : Int)) (m := 5) (by omega) (by omega)
      have c4 := mVHash_eq vv (by omega)
      have c5 := mVHash_eq nx (by omega)
      have c6 := mDecZ_eq ((byteN b 7 : Nat) : Int) ⟨by omega, by omega⟩
      have c8 := mHeadId_eq (((1 : Nat) : Int), pt + 1 + ((byteN b 6 : Nat) : Int).tmod 5, lid, vhash vv, vhash nx, bsS (decZ ((byteN b 7 : Nat) : Int)))
      have hcm : cmFor (((1 : Nat) : Int), pt + 1 + ((byteN b 6 : Nat) : Int).tmod 5, lid, vhash vv, vhash nx, bsS (decZ ((byteN b 7 : Nat) : Int))) 0 (idsV vv) = (((1 : Nat) : Int), 0, headId (((1 : Nat) : Int), pt + 1 + ((byteN b 6 : Nat) : Int).tmod 5, lid, vhash vv, vhash nx, bsS (decZ ((byteN b 7 : Nat) : Int))), vv.map fun v => cmSig (((1 : Nat) : Int), pt + 1 + ((byteN b 6 : Nat) : Int).tmod 5, lid, vhash vv, vhash nx, bsS (decZ ((byteN b 7 : Nat) : Int))) 0 v.1) := by
        unfold cmFor idsV
        rw [List.map_map]
        rfl
      have hsig : ∀ v, cmSig (((1 : Nat) : Int), pt + 1 + ((byteN b 6 : Nat) : Int).tmod 5, lid, vhash vv, vhash nx, bsS (decZ ((byteN b 7 : Nat) : Int))) 0 v = (v, signS v (digS (((1 : Nat) : Int), 0, 2, headId (((1 : Nat) : Int), pt + 1 + ((byteN b 6 : Nat) : Int).tmod 5, lid, vhash vv, vhash nx, bsS (decZ ((byteN b 7 : Nat) : Int))), v))) := fun v => rfl
      replace hres := hres.out
      rw [hcm] at hres
      dsimp only [aHd] at c8
      generalize cmSig (((1 : Nat) : Int), pt + 1 + ((byteN b 6 : Nat) : Int).tmod 5, lid, vhash vv, vhash nx, bsS (decZ ((byteN b 7 : Nat) : Int))) 0 = sg at *
      generalize headId (((1 : Nat) : Int), pt + 1 + ((byteN b 6 : Nat) : Int).tmod 5, lid, vhash vv, vhash nx, bsS (decZ ((byteN b 7 : Nat) : Int))) = hid at *
      generalize vhash vv = h1 at *
      generalize vhash nx = h2 at *
      generalize bsS (decZ ((byteN b 7 : Nat) : Int)) = da at *
      replace hres := Lib.hid hres
      clear hcm
      refine zR ?_
      refine W.lateB hΓ 18 asEvBkOf2 [16] (rest := ?rest11) (Es := ?Es11) (st1 := ?st111) (stA := ?stA11) (t := ?t11) (x := ?x11) (y := ?y11) (ty := ?ty11) (pos := ?pos11) (after := ?af11) (n := ?n11) (b := ?b11) ?_
      refine zL ?_
      refine zE ?_
      refine zR ?_
      refine W.drawB hΓ 25 asEvBkOf1 (Es := ?Es13) (rest := ?rest13) (st1 := ?st113) ?_
      refine zL ?_
      refine zE ?_
      refine zR ?_
      clear i4 i5 i6 i7 hN m4 m5 c3 c4 c5 c6 c8 l4 l5 l7
      obtain ⟨K, hK0, hKs⟩ := twoC (α := St) [.slot 1 (vI ((1 : Nat) : Int)), .slot 6 (one (.ptr 6 0)), .blk 6 (.box [.sc (.int .i64 0), .sc (.int .i64 0), .sc (.string ByteArray.empty), .sc (.string ByteArray.empty), .sc (.string ByteArray.empty), .sc (.string ByteArray.empty), .nil, .nil, .sc (.int .i64 0), .sc (.int .i64 0), .sc (.string ByteArray.empty), .nil]), .slot 8 (one (.ptr 8 0)), .slot 93 (one (.all 40)), .slot 94 (vI vv.length), .blk 40 (.arr .ft 76 2 (rowsF cVal vv)), .blk 57 (.arr .ft 76 2 (rowsF cVal nx)), .blk 8 (.box [.sc (.int .i64 ((1 : Nat) : Int)), .sc (.int .i64 (pt + 1 + ((byteN b 6 : Nat) : Int).tmod 5)), .sc (.string lid), .sc (.string h1), .sc (.string h2), .sc (.string da), .all 40, .all 57, .sc (.int .i64 ((1 : Nat) : Int)), .sc (.int .i64 0), .sc (.string hid), .nil]), .slot 95 (vI ((0 : Nat) : Int))] (fun j => [.slot 1 (vI ((1 : Nat) : Int)), .slot 6 (one (.ptr 6 0)), .blk 6 (.box [.sc (.int .i64 0), .sc (.int .i64 0), .sc (.string ByteArray.empty), .sc (.string ByteArray.empty), .sc (.string ByteArray.empty), .sc (.string ByteArray.empty), .nil, .nil, .sc (.int .i64 0), .sc (.int .i64 0), .sc (.string ByteArray.empty), .nil]), .slot 8 (one (.ptr 8 0)), .slot 93 (one (.all 40)), .slot 94 (vI vv.length), .blk 40 (.arr .ft 76 2 (rowsF cVal vv)), .blk 57 (.arr .ft 76 2 (rowsF cVal nx)), .blk 8 (.box [.sc (.int .i64 ((1 : Nat) : Int)), .sc (.int .i64 (pt + 1 + ((byteN b 6 : Nat) : Int).tmod 5)), .sc (.string lid), .sc (.string h1), .sc (.string h2), .sc (.string da), .all 40, .all 57, .sc (.int .i64 ((1 : Nat) : Int)), .sc (.int .i64 0), .sc (.string hid), .all 118]), .blk 118 (.arr .ft 127 2 (rowsF cCSig ((vv.take (j + 1)).map fun v => sg v.1))), .slot 95 (vI ((j + 1 : Nat) : Int))])
      refine W.loopA (fun j => j ≤ vv.length) K (fun j => vv.length - j) 0 (Nat.zero_le _) (hs := ?_) (h := ?_)
      · rw [hK0]
        exact subP
      rintro j hj
      have hsigv : ∀ v : Int, mSign [aI v, aS (digS (((1 : Nat) : Int), 0, 2, hid, v))] = some (rS (signS v (digS (((1 : Nat) : Int), 0, 2, hid, v)))) := fun v => mSign_eq v _ (Nat.le_trans (digS_size _) (by omega))
      by_cases hlt : j < vv.length
      · have hrow : (rowsF cVal vv)[j]? = some [.sc (.int .i64 vv[j].1), .sc (.int .i64 vv[j].2)] := rowsF_get cVal vv j hlt
        have e1 := cCSig_app ((vv.take j).map fun v => sg v.1) (sg vv[j].1)
        have e2 : ((vv.take j).map fun v => sg v.1) ++ [sg vv[j].1] = (vv.take (j + 1)).map fun v => sg v.1 := by rw [List.take_succ_eq_append_getElem hlt, List.map_append]; rfl
        rw [e2, hsig] at e1
        dsimp only at e1
        have hkl : ((vv.take j).map fun v => sg v.1).length ≤ 1048576 := by rw [List.length_map, List.length_take]; omega
        have d4 := hsigv vv[j].1
        have d3 := mDig_eq (((1 : Nat) : Int), 0, 2, hid, vv[j].1)
        dsimp only [aVt] at d3
        clear hsig e2 hsigv hres
        have hj1 := hKs j
        rcases Nat.eq_zero_or_pos j with rfl | hp0
        · have hnil : rowsF cCSig ((vv.take 0).map fun v => sg v.1) = [] := rfl
          rw [hnil, List.nil_append] at e1
          replace e1 := Lib.hid e1
          generalize vv[0] = v at *
          obtain ⟨i, q⟩ := v
          dsimp only at e1 d3 d4 hrow
          rw [hK0]
          clear hkl hnil
          refine zR ?_
          refine W.drawB hΓ 12 asEvBkOf0 (Es := ?Es16) (rest := ?rest16) (st1 := ?st116) ?_
          refine zL ?_
          refine zE ?_
          refine zR ?_
          refine At.roundA (0 + 1) (by omega) (by omega) (hs := ?_)
          rw [hj1, ← e1.out]
          exact subP
        · obtain ⟨i, rfl⟩ : ∃ i, j = i + 1 := ⟨j - 1, by omega⟩
          rw [hKs i]
          generalize (vv.take (i + 1)).map (fun v => sg v.1) = L at *
          generalize vv[i + 1] = v at *
          obtain ⟨i', q⟩ := v
          dsimp only at e1 d3 d4 hrow
          replace hj1 := Lib.hid hj1
          refine zR ?_
          refine W.drawB hΓ 12 asEvBkOf0 (Es := ?Es19) (rest := ?rest19) (st1 := ?st119) ?_
          refine zL ?_
          refine zE ?_
          refine zR ?_
          refine At.roundA (i + 1 + 1) (by omega) (by omega) (hs := ?_)
          rw [hj1.out]
          exact subP
      · obtain ⟨i, rfl⟩ : ∃ i, j = i + 1 := ⟨j - 1, by omega⟩
        have hv : ((vv.take (i + 1)).map fun v => sg v.1) = vv.map fun v => sg v.1 := by rw [List.take_of_length_le (by omega)]
        rw [hKs i, hv]
        clear hsig hsigv hv
        refine zR ?_
        refine At.retA (by rw [Tryz.results140]) (he := ?_)
        rw [hres.out]
  · have hne : ¬ ((k + 1 : Nat) : Int) = 1 := by omega
    rw [if_neg hk0] at hcv
    rw [hcv] at n7 hres v7
    clear hcv
    replace hres := Lib.hid hres
    simp only [initS, argPV, List.map_cons, List.map_nil, toPL, Nat.zero_add]
    generalize hvv : pb2 = vv at *
    have hlv := rowsF_len cVal vv
    have c3 := mChV_eq vv (1 + ((byteN (shaH s (k + 1)) 4 : Nat) : Int).tmod 6, ((byteN (shaH s (k + 1)) 5 : Nat) : Int).tmod 4) (by omega)
    have hrw : rowsF cVal [(1 + ((byteN (shaH s (k + 1)) 4 : Nat) : Int).tmod 6, ((byteN (shaH s (k + 1)) 5 : Nat) : Int).tmod 4)] = [[.sc (.int .i64 (1 + ((byteN (shaH s (k + 1)) 4 : Nat) : Int).tmod 6)), .sc (.int .i64 (((byteN (shaH s (k + 1)) 5 : Nat) : Int).tmod 4))]] := rfl
    dsimp only [aL] at c3
    rw [hrw] at c3
    generalize hx : chV vv (1 + ((byteN (shaH s (k + 1)) 4 : Nat) : Int).tmod 6, ((byteN (shaH s (k + 1)) 5 : Nat) : Int).tmod 4) = nxp at *
    obtain ⟨nx, nb⟩ := nxp
    dsimp only at n7 c3
    have hln := rowsF_len cVal nx
    clear hx hrw
    generalize hbb : shaH s (k + 1) = b at *
    have i4 := byte_at (s := b) (i := 4) (by omega)
    have i5 := byte_at (s := b) (i := 5) (by omega)
    have i6 := byte_at (s := b) (i := 6) (by omega)
    have i7 := byte_at (s := b) (i := 7) (by omega)
    have hN := byteN_eq b
    have l4 := byteN_lt b 4
    have l5 := byteN_lt b 5
    have l6 := byteN_lt b 6
    have l7 := byteN_lt b 7
    have m4 := tmod_in (a := ((byteN b 4 : Nat) : Int)) (m := 6) (by omega) (by omega)
    have m5 := tmod_in (a := ((byteN b 5 : Nat) : Int)) (m := 4) (by omega) (by omega)
    have m6 := tmod_in (a := ((byteN b 6 : Nat) : Int)) (m := 5) (by omega) (by omega)
    have c4 := mVHash_eq vv (by omega)
    have c5 := mVHash_eq nx (by omega)
    have c6 := mDecZ_eq ((byteN b 7 : Nat) : Int) ⟨by omega, by omega⟩
    have c8 := mHeadId_eq (((k + 1 : Nat) : Int), pt + 1 + ((byteN b 6 : Nat) : Int).tmod 5, lid, vhash vv, vhash nx, bsS (decZ ((byteN b 7 : Nat) : Int)))
    have hcm : cmFor (((k + 1 : Nat) : Int), pt + 1 + ((byteN b 6 : Nat) : Int).tmod 5, lid, vhash vv, vhash nx, bsS (decZ ((byteN b 7 : Nat) : Int))) 0 (idsV vv) = (((k + 1 : Nat) : Int), 0, headId (((k + 1 : Nat) : Int), pt + 1 + ((byteN b 6 : Nat) : Int).tmod 5, lid, vhash vv, vhash nx, bsS (decZ ((byteN b 7 : Nat) : Int))), vv.map fun v => cmSig (((k + 1 : Nat) : Int), pt + 1 + ((byteN b 6 : Nat) : Int).tmod 5, lid, vhash vv, vhash nx, bsS (decZ ((byteN b 7 : Nat) : Int))) 0 v.1) := by
      unfold cmFor idsV
      rw [List.map_map]
      rfl
    have hsig : ∀ v, cmSig (((k + 1 : Nat) : Int), pt + 1 + ((byteN b 6 : Nat) : Int).tmod 5, lid, vhash vv, vhash nx, bsS (decZ ((byteN b 7 : Nat) : Int))) 0 v = (v, signS v (digS (((k + 1 : Nat) : Int), 0, 2, headId (((k + 1 : Nat) : Int), pt + 1 + ((byteN b 6 : Nat) : Int).tmod 5, lid, vhash vv, vhash nx, bsS (decZ ((byteN b 7 : Nat) : Int))), v))) := fun v => rfl
    replace hres := hres.out
    rw [hcm] at hres
    dsimp only [aHd] at c8
    generalize cmSig (((k + 1 : Nat) : Int), pt + 1 + ((byteN b 6 : Nat) : Int).tmod 5, lid, vhash vv, vhash nx, bsS (decZ ((byteN b 7 : Nat) : Int))) 0 = sg at *
    generalize headId (((k + 1 : Nat) : Int), pt + 1 + ((byteN b 6 : Nat) : Int).tmod 5, lid, vhash vv, vhash nx, bsS (decZ ((byteN b 7 : Nat) : Int))) = hid at *
    generalize vhash vv = h1 at *
    generalize vhash nx = h2 at *
    generalize bsS (decZ ((byteN b 7 : Nat) : Int)) = da at *
    replace hres := Lib.hid hres
    clear hcm
    refine zR ?_
    refine W.lateB hΓ 18 asEvBkOf2 [16] (rest := ?rest25) (Es := ?Es25) (st1 := ?st125) (stA := ?stA25) (t := ?t25) (x := ?x25) (y := ?y25) (ty := ?ty25) (pos := ?pos25) (after := ?af25) (n := ?n25) (b := ?b25) ?_
    refine zL ?_
    refine zE ?_
    refine zR ?_
    refine W.drawB hΓ 25 asEvBkOf1 (Es := ?Es27) (rest := ?rest27) (st1 := ?st127) ?_
    refine zL ?_
    refine zE ?_
    refine zR ?_
    clear i4 i5 i6 i7 hN m4 m5 c3 c4 c5 c6 c8 l4 l5 l7
    obtain ⟨K, hK0, hKs⟩ := twoC (α := St) [.slot 1 (vI ((k + 1 : Nat) : Int)), .slot 6 (one (.ptr 6 0)), .blk 6 (.box [.sc (.int .i64 0), .sc (.int .i64 0), .sc (.string ByteArray.empty), .sc (.string ByteArray.empty), .sc (.string ByteArray.empty), .sc (.string ByteArray.empty), .nil, .nil, .sc (.int .i64 0), .sc (.int .i64 0), .sc (.string ByteArray.empty), .nil]), .slot 8 (one (.ptr 8 0)), .slot 93 (one (.all 20)), .slot 94 (vI vv.length), .blk 20 (.arr .ft 76 2 (rowsF cVal vv)), .blk 57 (.arr .ft 76 2 (rowsF cVal nx)), .blk 8 (.box [.sc (.int .i64 ((k + 1 : Nat) : Int)), .sc (.int .i64 (pt + 1 + ((byteN b 6 : Nat) : Int).tmod 5)), .sc (.string lid), .sc (.string h1), .sc (.string h2), .sc (.string da), .all 20, .all 57, .sc (.int .i64 ((k + 1 : Nat) : Int)), .sc (.int .i64 0), .sc (.string hid), .nil]), .slot 95 (vI ((0 : Nat) : Int))] (fun j => [.slot 1 (vI ((k + 1 : Nat) : Int)), .slot 6 (one (.ptr 6 0)), .blk 6 (.box [.sc (.int .i64 0), .sc (.int .i64 0), .sc (.string ByteArray.empty), .sc (.string ByteArray.empty), .sc (.string ByteArray.empty), .sc (.string ByteArray.empty), .nil, .nil, .sc (.int .i64 0), .sc (.int .i64 0), .sc (.string ByteArray.empty), .nil]), .slot 8 (one (.ptr 8 0)), .slot 93 (one (.all 20)), .slot 94 (vI vv.length), .blk 20 (.arr .ft 76 2 (rowsF cVal vv)), .blk 57 (.arr .ft 76 2 (rowsF cVal nx)), .blk 8 (.box [.sc (.int .i64 ((k + 1 : Nat) : Int)), .sc (.int .i64 (pt + 1 + ((byteN b 6 : Nat) : Int).tmod 5)), .sc (.string lid), .sc (.string h1), .sc (.string h2), .sc (.string da), .all 20, .all 57, .sc (.int .i64 ((k + 1 : Nat) : Int)), .sc (.int .i64 0), .sc (.string hid), .all 118]), .blk 118 (.arr .ft 127 2 (rowsF cCSig ((vv.take (j + 1)).map fun v => sg v.1))), .slot 95 (vI ((j + 1 : Nat) : Int))])
    refine W.loopA (fun j => j ≤ vv.length) K (fun j => vv.length - j) 0 (Nat.zero_le _) (hs := ?_) (h := ?_)
    · rw [hK0]
      exact subP
    rintro j hj
    have hsigv : ∀ v : Int, mSign [aI v, aS (digS (((k + 1 : Nat) : Int), 0, 2, hid, v))] = some (rS (signS v (digS (((k + 1 : Nat) : Int), 0, 2, hid, v)))) := fun v => mSign_eq v _ (Nat.le_trans (digS_size _) (by omega))
    by_cases hlt : j < vv.length
    · have hrow : (rowsF cVal vv)[j]? = some [.sc (.int .i64 vv[j].1), .sc (.int .i64 vv[j].2)] := rowsF_get cVal vv j hlt
      have e1 := cCSig_app ((vv.take j).map fun v => sg v.1) (sg vv[j].1)
      have e2 : ((vv.take j).map fun v => sg v.1) ++ [sg vv[j].1] = (vv.take (j + 1)).map fun v => sg v.1 := by rw [List.take_succ_eq_append_getElem hlt, List.map_append]; rfl
      rw [e2, hsig] at e1
      dsimp only at e1
      have hkl : ((vv.take j).map fun v => sg v.1).length ≤ 1048576 := by rw [List.length_map, List.length_take]; omega
      have d4 := hsigv vv[j].1
      have d3 := mDig_eq (((k + 1 : Nat) : Int), 0, 2, hid, vv[j].1)
      dsimp only [aVt] at d3
      clear hsig e2 hsigv hres
      have hj1 := hKs j
      rcases Nat.eq_zero_or_pos j with rfl | hp0
      · have hnil : rowsF cCSig ((vv.take 0).map fun v => sg v.1) = [] := rfl
        rw [hnil, List.nil_append] at e1
        replace e1 := Lib.hid e1
        generalize vv[0] = v at *
        obtain ⟨i, q⟩ := v
        dsimp only at e1 d3 d4 hrow
        rw [hK0]
        clear hkl hnil
        refine zR ?_
        refine W.drawB hΓ 12 asEvBkOf0 (Es := ?Es30) (rest := ?rest30) (st1 := ?st130) ?_
        refine zL ?_
        refine zE ?_
        refine zR ?_
        refine At.roundA (0 + 1) (by omega) (by omega) (hs := ?_)
        rw [hj1, ← e1.out]
        exact subP
      · obtain ⟨i, rfl⟩ : ∃ i, j = i + 1 := ⟨j - 1, by omega⟩
        rw [hKs i]
        generalize (vv.take (i + 1)).map (fun v => sg v.1) = L at *
        generalize vv[i + 1] = v at *
        obtain ⟨i', q⟩ := v
        dsimp only at e1 d3 d4 hrow
        replace hj1 := Lib.hid hj1
        refine zR ?_
        refine W.drawB hΓ 12 asEvBkOf0 (Es := ?Es33) (rest := ?rest33) (st1 := ?st133) ?_
        refine zL ?_
        refine zE ?_
        refine zR ?_
        refine At.roundA (i + 1 + 1) (by omega) (by omega) (hs := ?_)
        rw [hj1.out]
        exact subP
    · obtain ⟨i, rfl⟩ : ∃ i, j = i + 1 := ⟨j - 1, by omega⟩
      have hv : ((vv.take (i + 1)).map fun v => sg v.1) = vv.map fun v => sg v.1 := by rw [List.take_of_length_le (by omega)]
      rw [hKs i, hv]
      clear hsig hsigv hv
      refine zR ?_
      refine At.retA (by rw [Tryz.results140]) (he := ?_)
      rw [hres.out]
end Go.Proofs.YtfgkfcfplodaoaaGreatDoor
