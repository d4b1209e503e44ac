/-
  Bisect of both programs.
-/
import Derived.Test.YtfgkfcfplodaoaaGreatDoorG29
import Derived.Test.YtfgkfcfplodaoaaGreatDoorHPEvAll
namespace Go.Proofs.YtfgkfcfplodaoaaGreatDoor
set_option maxRecDepth 100000
set_option linter.unusedVariables false
set_option linter.unusedSimpArgs false
open Go Go.RowKit
set_option maxHeartbeats 16000000
set_option linter.unusedVariables false
set_option linter.unusedSimpArgs false

theorem At.nilA {γ0 : Nat → Option Nat} {w0 : World} {N : Nat} {st : St} {x : Exit} {B : Exit → Act → World → Prop} (t n e s : Nat) (ht : getS st t = one .nil := by exact evsP) (hn : getB st n = none := by exact evsP) (hN : t < N := by decide) (hn9 : n ≠ 999 := by decide)
    (h : At γ0 w0 N (.slot t (one (.all n)) :: .blk n (.arr .ft e s []) :: st) x B) : At γ0 w0 N st x B := fun a w hR => h a w (hR.nil hn9 ht hn hN)
abbrev TBi := TTrust × TAnchor × List TBlock × Int × Int
abbrev okBi (x : TBi) : Prop := x.2.1.2.length ≤ 1048576 ∧ okBl x.2.2.1 ∧ x.2.2.2.1 ≤ 9223372036854775807 ∧ -9223372036854775808 ≤ x.2.1.1.1
abbrev aBi (x : TBi) : List Arg := [aTr x.1, aAn x.2.1, aBS x.2.2.1, aI x.2.2.2.1, aI x.2.2.2.2]
theorem aBi_inj : ∀ x y, aBi x = aBi y → x = y := by
  rintro ⟨⟨p, s⟩, ⟨⟨a, b, c, d, e, f⟩, l⟩, bl, to, nw⟩ ⟨⟨p', s'⟩, ⟨⟨a', b', c', d', e', f'⟩, l'⟩, bl', to', nw'⟩ h
  simp only [aBi, List.cons.injEq, and_true] at h
  obtain ⟨h1, h2, h3, h4, h5⟩ := h
  have e1 := aTr_inj (p, s) (p', s') (by rw [h1])
  have e2 := aAn_inj ((a, b, c, d, e, f), l) ((a', b', c', d', e', f'), l') (by rw [h2])
  have e3 := aBS_inj bl bl' (by rw [h3])
  have e4 : to = to' := by simpa using h4
  have e5 : nw = nw' := by simpa using h5
  rw [e1, e2, e3, e4, e5]
abbrev rBi (y : TBis) : Res := .tup [(true, rowsAn y.1), (false, [.own .ft 3 1 (rowsF cInt y.2.1)]), rSc (.int .i64 y.2.2)]
abbrev gBi (x : TBi) : Res := rBi (bis x.1 x.2.1 x.2.2.1 x.2.2.2.1 x.2.2.2.2)
abbrev μBi (x : TBi) : Nat := (x.2.2.2.1 - x.2.1.1.1).toNat
def asEvBis0 : List (List Nat) := [[], [], [], [], [2, 3], [2, 3, 4], [2, 3, 4, 5], [], [], [7, 8], [7, 8, 9], [7, 8, 9, 10], [], [], [12, 13], [12, 13, 14], [12, 13, 14, 15], [], [0, 1, 2, 3, 4, 5, 6, 7, 8, 9, 10, 11, 12, 13, 14, 15, 16, 17], [0, 1, 2, 3, 4, 5, 6, 7, 8, 9, 10, 11, 12, 13, 14, 15, 16, 17, 18], [0, 1, 2, 3, 4, 5, 6, 7, 8, 9, 10, 11, 12, 13, 14, 15, 16, 17, 18, 19], [0, 1, 2, 3, 4, 5, 6, 7, 8, 9, 10, 11, 12, 13, 14, 15, 16, 17, 18, 19], [], [0, 1, 2, 3, 4, 5, 6, 7, 8, 9, 10, 11, 12, 13, 14, 15, 16, 17, 18, 19, 20, 22], [0, 1, 2, 3, 4, 5, 6, 7, 8, 9, 10, 11, 12, 13, 14, 15, 16, 17, 18, 19, 20, 21, 22, 23]]
theorem bisI_s : Sound Tryz.prog 17 (mdl okBi aBi gBi) := by
  refine Sound.again μBi aBi_inj fun N ih => ?_
  refine Sound.mdl Tryz.func17 rfl Tryz.ntmps17 ?_
  rintro ⟨⟨p, s⟩, ⟨⟨ah, at_, ala, ava, ane, ada⟩, al⟩, l, to, now⟩ w ⟨⟨hal, hl, hto, hah⟩, hμ⟩
  refine ⟨by simp, ?_⟩
  dsimp only at hal hl hto hah hμ
  replace hμ : (to - ah).toNat < N + 1 := hμ
  have hΓ : GSound Tryz.prog (look [(59, mBkAt), (60, mCopyA), (61, mVerify), (21, mSkip), (17, mdl (fun x => okBi x ∧ μBi x < N) aBi gBi)]) := env_cons (has_of Tryz.func59 rfl rfl) bkAt_s (env_cons (has_of Tryz.func60 rfl rfl) copyAI_s (env_cons (has_of Tryz.func61 rfl rfl) verifyI_s (env_cons (has_of Tryz.func21 rfl rfl) skipI_s (env_cons (has_of Tryz.func17 rfl rfl) ih env_nil))))
  have hlen := bkRows_len l
  have c1 := mBkAt_eq l to (by have := hl.1; omega)
  have c2 := mCopyA_eq ((ah, at_, ala, ava, ane, ada), al) hal
  have hnil : rowsF cInt [] = [] := rfl
  dsimp only [aAn, rAn, rowsAn] at c2
  rcases bkAt_cases l to with ⟨k, hk, e1, e2, e3⟩ | ⟨e1, e2⟩
  · rw [e1] at c1
    have hb := bkOf_some hk e2 e3
    have hrow := bkRows_get hk
    have hok := hl.2 l[k] (List.getElem_mem hk)
    clear e3 e1
    have hlt : k < (bkRows l).length := by rw [hlen]; exact hk
    by_cases q1 : to ≤ ah
    · have hv := bis_low (t := (p, s)) (a := ((ah, at_, ala, ava, ane, ada), al)) (l := l) (to := to) (now := now) q1
      clear hb e2 hok hrow
      simp only [initS, argPV, List.map_cons, List.map_nil, toPL, Nat.zero_add]
      refine zR ?_
      refine At.nilA 11 777 3 1 (h := ?_)
      refine At.retA (by rw [Tryz.results17]) (he := ?_)
      simp only [gBi, hv]
      rfl
    · generalize hbk : l[k] = b at *
      clear hbk
      obtain ⟨⟨h, t, la, va, ne, da⟩, b1, b2, ⟨ch, cr, ci, cs⟩⟩ := b
      replace e2 : h = to := e2
      subst e2
      obtain ⟨o1, o2, o3⟩ := hok
      dsimp only at o1 o2 o3
      dsimp only [bkRow] at hrow
      by_cases q2 : h = ah + 1
      · have hv := bis_next (t := (p, s)) (now := now) hb (a := ((ah, at_, ala, ava, ane, ada), al)) q1 q2
        have c3 := mVerify_eq (p, s) ((ah, at_, ala, ava, ane, ada), al) (h, t, la, va, ne, da) b2 (ch, cr, ci, cs) now ⟨hal, o2, o3⟩
        have hA : verifyA (p, s) ((ah, at_, ala, ava, ane, ada), al) (h, t, la, va, ne, da) b2 (ch, cr, ci, cs) now = if verifyC (p, s) ((ah, at_, ala, ava, ane, ada), al) (h, t, la, va, ne, da) b2 (ch, cr, ci, cs) now = 0 then ((h, t, la, va, ne, da), b2) else ((ah, at_, ala, ava, ane, ada), al) := rfl
        dsimp only [aTr, aAn, aHd, aCm, rSk, rowsAn] at c3
        dsimp only at hv
        generalize verifyA (p, s) ((ah, at_, ala, ava, ane, ada), al) (h, t, la, va, ne, da) b2 (ch, cr, ci, cs) now = y at *
        generalize verifyC (p, s) ((ah, at_, ala, ava, ane, ada), al) (h, t, la, va, ne, da) b2 (ch, cr, ci, cs) now = code at *
        clear hb c2
        subst q2
        by_cases h0 : code = 0
        · subst h0
          rw [if_pos rfl] at hA hv
          subst hA
          simp only [initS, argPV, List.map_cons, List.map_nil, toPL, Nat.zero_add]
          refine zR ?_
          refine W.lateB hΓ 23 asEvBis0 [21] (rest := ?rest8) (Es := ?Es8) (st1 := ?st18) (stA := ?stA8) (t := ?t8) (x := ?x8) (y := ?y8) (ty := ?ty8) (pos := ?pos8) (after := ?af8) (n := ?n8) (b := ?b8) ?_
          refine zL ?_
          refine zE ?_
          refine zR ?_
          refine At.retA (by rw [Tryz.results17]) (he := ?_)
          simp only [gBi, hv]
          rfl
        · rw [if_neg h0] at hA hv
          subst hA
          simp only [initS, argPV, List.map_cons, List.map_nil, toPL, Nat.zero_add]
          refine zR ?_
          refine W.lateB hΓ 23 asEvBis0 [21] (rest := ?rest13) (Es := ?Es13) (st1 := ?st113) (stA := ?stA13) (t := ?t13) (x := ?x13) (y := ?y13) (ty := ?ty13) (pos := ?pos13) (after := ?af13) (n := ?n13) (b := ?b13) ?_
          refine zL ?_
          refine zE ?_
          refine zR ?_
          refine At.nilA 11 777 3 1 (h := ?_)
          refine At.retA (by rw [Tryz.results17]) (he := ?_)
          simp only [gBi, hv]
          rfl
      · have hA : skipA (p, s) ((ah, at_, ala, ava, ane, ada), al) ((h, t, la, va, ne, da), b1, b2, (ch, cr, ci, cs)) now = if skipC (p, s) ((ah, at_, ala, ava, ane, ada), al) ((h, t, la, va, ne, da), b1, b2, (ch, cr, ci, cs)) now = 0 then ((h, t, la, va, ne, da), b2) else ((ah, at_, ala, ava, ane, ada), al) := rfl
        have c3 := mSkip_eq (p, s) ((ah, at_, ala, ava, ane, ada), al) ((h, t, la, va, ne, da), b1, b2, (ch, cr, ci, cs)) now ⟨hal, o1, o2, o3⟩
        dsimp only [aTr, aAn, aBk, rSk, rowsAn] at c3
        generalize skipA (p, s) ((ah, at_, ala, ava, ane, ada), al) ((h, t, la, va, ne, da), b1, b2, (ch, cr, ci, cs)) now = y at *
        by_cases h0 : skipC (p, s) ((ah, at_, ala, ava, ane, ada), al) ((h, t, la, va, ne, da), b1, b2, (ch, cr, ci, cs)) now = 0
        · have hv := bis_skip (t := (p, s)) (now := now) hb (a := ((ah, at_, ala, ava, ane, ada), al)) q1 q2 h0
          rw [h0] at hA c3
          rw [if_pos rfl] at hA
          subst hA
          clear hb c2 h0
          dsimp only at hv
          simp only [initS, argPV, List.map_cons, List.map_nil, toPL, Nat.zero_add]
          refine zR ?_
          refine W.lateB hΓ 12 [[], [], [], [], [2, 3], [2, 3, 4], [], [0, 1, 2, 3, 4, 5, 6], [0, 1, 2, 3, 4, 5, 6, 7], [0, 1, 2, 3, 4, 5, 6, 7, 8], [0, 1, 2, 3, 4, 5, 6, 7, 8], [], [0, 1, 2, 3, 4, 5, 6, 7, 8, 9, 11], [0, 1, 2, 3, 4, 5, 6, 7, 8, 9, 10, 11, 12]] [10] (rest := ?rest18) (Es := ?Es18) (st1 := ?st118) (stA := ?stA18) (t := ?t18) (x := ?x18) (y := ?y18) (ty := ?ty18) (pos := ?pos18) (after := ?af18) (n := ?n18) (b := ?b18) ?_
          refine zL ?_
          refine zE ?_
          refine zR ?_
          refine At.retA (by rw [Tryz.results17]) (he := ?_)
          simp only [gBi, hv]
          rfl
        · rw [if_neg h0] at hA
          subst hA
          by_cases h9 : skipC (p, s) ((ah, at_, ala, ava, ane, ada), al) ((h, t, la, va, ne, da), b1, b2, (ch, cr, ci, cs)) now = 9
          · rw [h9] at c3
            obtain ⟨m1, m2, m3, m4⟩ := mid_in hb (a := ((ah, at_, ala, ava, ane, ada), al)) q1 q2 h9
            obtain ⟨d1, d2⟩ := bis_deep hb (a := ((ah, at_, ala, ava, ane, ada), al)) q1 q2 h9
            dsimp only at m1 m2 m3 m4 d1 d2
            have c4 : mdl (fun x => okBi x ∧ μBi x < N) aBi gBi [aTr (p, s), aAn ((ah, at_, ala, ava, ane, ada), al), aBS l, aI ((ah + h).tdiv 2), aI now] = some (rBi (bis (p, s) ((ah, at_, ala, ava, ane, ada), al) l ((ah + h).tdiv 2) now)) := mdl_eq aBi_inj ((p, s), ((ah, at_, ala, ava, ane, ada), al), l, (ah + h).tdiv 2, now) ⟨⟨hal, hl, show (ah + h).tdiv 2 ≤ 9223372036854775807 by omega, hah⟩, show ((ah + h).tdiv 2 - ah).toNat < N by omega⟩
            have zr := bis_ok (t := (p, s)) (a := ((ah, at_, ala, ava, ane, ada), al)) (to := (ah + h).tdiv 2) (now := now) hl hal
            have zl := bis_len (t := (p, s)) (a := ((ah, at_, ala, ava, ane, ada), al)) (l := l) (to := (ah + h).tdiv 2) (now := now)
            have zt := bis_to (t := (p, s)) (a := ((ah, at_, ala, ava, ane, ada), al)) (l := l) (to := (ah + h).tdiv 2) (now := now)
            have c5 : ∀ x : TAnchor, x.2.length ≤ 1048576 → x.1.1 = (ah + h).tdiv 2 → mdl (fun x => okBi x ∧ μBi x < N) aBi gBi [aTr (p, s), aAn x, aBS l, aI h, aI now] = some (rBi (bis (p, s) x l h now)) := fun x hx1 hx2 => mdl_eq (ok := fun x => okBi x ∧ μBi x < N) (g := gBi) aBi_inj ((p, s), x, l, h, now) ⟨⟨hx1, hl, hto, show -9223372036854775808 ≤ x.1.1 by omega⟩, show (h - x.1.1).toNat < N by omega⟩
            have zl2 := fun x : TAnchor => bis_len (t := (p, s)) (a := x) (l := l) (to := h) (now := now)
            dsimp only at zr zl
            clear hb h9 h0 c2
            generalize bis (p, s) ((ah, at_, ala, ava, ane, ada), al) l ((ah + h).tdiv 2) now = r1 at *
            obtain ⟨⟨⟨rh, rt, rla, rva, rne, rda⟩, rl⟩, hs1, rc⟩ := r1
            dsimp only at zr zl zt d1 d2
            dsimp only [aTr, aAn, rBi, rowsAn] at c4
            by_cases h0 : rc = 0
            · subst h0
              replace zt := zt rfl
              have hv := d2 rfl
              replace c5 := c5 ((rh, rt, rla, rva, rne, rda), rl) zr zt
              replace zl2 := zl2 ((rh, rt, rla, rva, rne, rda), rl)
              clear d1 d2
              generalize bis (p, s) ((rh, rt, rla, rva, rne, rda), rl) l h now = r2 at *
              obtain ⟨⟨⟨th, tt, tla, tva, tne, tda⟩, tl⟩, hs2, tc⟩ := r2
              dsimp only [aTr, aAn, rBi, rowsAn] at c5
              dsimp only at zl2 hv
              have k1 := rowsF_len cInt hs1
              have k2 := rowsF_len cInt hs2
              have ka : rowsF cInt hs1 ++ rowsF cInt hs2 = rowsF cInt (hs1 ++ hs2) := by unfold rowsF; rw [List.map_append]
              have w2 : wid 1 (rowsF cInt hs2) := rowsF_wid (f := cInt) (s := 1) (fun _ => rfl) hs2
              have kl : (hs1 ++ hs2).length ≤ 2000000 := by rw [List.length_append]; omega
              have kl1 : hs1.length ≤ 2000000 := by omega
              have kl2 : hs2.length ≤ 2000000 := by omega
              clear zl zl2 zt zr
              simp only [initS, argPV, List.map_cons, List.map_nil, toPL, Nat.zero_add]
              refine zR ?_
              refine W.lateB hΓ 12 [[], [], [], [], [2, 3], [2, 3, 4], [], [0, 1, 2, 3, 4, 5, 6], [0, 1, 2, 3, 4, 5, 6, 7], [0, 1, 2, 3, 4, 5, 6, 7, 8], [0, 1, 2, 3, 4, 5, 6, 7, 8], [], [0, 1, 2, 3, 4, 5, 6, 7, 8, 9, 11], [0, 1, 2, 3, 4, 5, 6, 7, 8, 9, 10, 11, 12]] [10] (rest := ?rest23) (Es := ?Es23) (st1 := ?st123) (stA := ?stA23) (t := ?t23) (x := ?x23) (y := ?y23) (ty := ?ty23) (pos := ?pos23) (after := ?af23) (n := ?n23) (b := ?b23) ?_
              refine zL ?_
              refine zE ?_
              refine zR ?_
              refine W.subA [.slot 21 (one (.ptr 21 0)), .blk 21 (.box [.sc (.int .i64 th), .sc (.int .i64 tt), .sc (.string tla), .sc (.string tva), .sc (.string tne), .sc (.string tda), .all 6120]), .blk 6120 (.arr .ft 76 2 (rowsF cVal tl)), .slot 19 (one (.all 64105)), .blk 64105 (.arr .ft 3 1 (rowsF cInt hs1)), .slot 22 (one (.all 64120)), .blk 64120 (.arr .ft 3 1 (rowsF cInt hs2)), .slot 23 (vI tc), .slot 10 (one (.ptr 10 0)), .blk 10 (.box [.sc (.int .i64 0), .sc (.int .i64 0), .sc (.string ByteArray.empty), .sc (.string ByteArray.empty), .sc (.string ByteArray.empty), .sc (.string ByteArray.empty), .nil])] (h := ?_)
              refine AllGo.start hΓ (h := ?_)
              refine AllGo.add 0 0 (h := ?_)
              refine AllGo.add 0 1 (h := ?_)
              refine AllGo.add 1 1 (h := ?_)
              refine AllGo.add 0 2 (h := ?_)
              refine AllGo.add 1 2 (h := ?_)
              refine AllGo.add 2 2 (h := ?_)
              refine AllGo.add 3 2 (h := ?_)
              refine AllGo.add 6 3 (h := ?_)
              refine AllGo.add 7 3 (h := ?_)
              refine AllGo.add 0 4 (h := ?_)
              refine AllGo.add 1 4 (h := ?_)
              refine AllGo.add 2 4 (h := ?_)
              refine AllGo.add 3 4 (h := ?_)
              refine AllGo.add 4 4 (h := ?_)
              refine AllGo.add 5 4 (h := ?_)
              refine AllGo.add 6 4 (h := ?_)
              refine AllGo.add 7 4 (h := ?_)
              refine AllGo.add 14 4 (h := ?_)
              refine AllGo.add 15 4 (h := ?_)
              refine AllGo.add 15 5 (h := ?_)
              refine AllGo.add 31 5 (h := ?_)
              refine AllGo.add 47 6 (h := ?_)
              refine AllGo.add 63 6 (h := ?_)
              refine AllGo.add 127 7 (h := ?_)
              refine AllGo.done hΓ [(0, 0), (0, 1), (0, 2), (0, 4), (1, 1), (1, 2), (1, 4), (2, 0), (2, 2), (2, 4), (3, 2), (3, 4), (4, 0), (4, 1), (4, 4), (5, 1), (5, 4), (6, 0), (6, 3), (6, 4), (7, 3), (7, 4), (14, 0), (14, 4), (15, 4), (15, 5), (16, 0), (16, 1), (16, 2), (17, 1), (17, 2), (18, 0), (18, 2), (19, 2), (20, 0), (20, 1), (21, 1), (22, 0), (22, 3), (23, 3), (30, 0), (31, 5), (47, 4), (47, 6), (63, 6), (111, 4), (127, 7)] (hp := ?hp1) (hD := ?hD1) (h0 := ?h01) (hS := ?hS1) (stE := ?stE1) (hE := ?hE1) (hT := ?hT1)
              case hp1 => kernel_rfl
              case hD1 => kernel_rfl
              case h01 => rfl
              case hS1 =>
                repeat (refine List.forall_mem_cons.2 ⟨StepAt.mk' (ho := by rfl) (hg := by rfl) (hm := by simp only [tabJ, eq_self, Nat.reduceEqDiff, reduceIte] <;> rfl) (hn := by simp only [tabJ, eq_self, Nat.reduceEqDiff, Nat.reduceAdd, Nat.reducePow, reduceIte] <;> rfl) (hs := by exact evsP) (hb := by simp (disch := omega) only [Sub, SubL, getS_hit, getS_miss, getS_blk, getS_kill, getS_nil, getB_nil, getB_slot, getB_hit, getB_miss, getB_kill0, getB_kill1, lsNms, vsNms, PL.nms, PV.nms, Blk.nms, bound, PV.kill, PL.kill, PL.names, List.append_nil, List.nil_append, List.cons_append, and_true, true_and, and_self, *] <;> (repeat' apply And.intro) <;> rfl), ?_⟩)
                exact List.forall_mem_nil _
              case hE1 => simp only [tabJ, eq_self, Nat.reduceEqDiff, List.length_cons, List.length_nil, Nat.reduceAdd, Nat.reducePow, Nat.reduceSub, reduceIte] <;> rfl
              with_reducible apply WL.nil
              refine zR ?_
              refine At.retA (by rw [Tryz.results17]) (he := ?_)
              simp only [gBi, hv]
            · have hv := d1 h0
              clear d1 d2 c5 zl2 zl zt zr
              simp only [initS, argPV, List.map_cons, List.map_nil, toPL, Nat.zero_add]
              refine zR ?_
              refine W.lateB hΓ 12 [[], [], [], [], [2, 3], [2, 3, 4], [], [0, 1, 2, 3, 4, 5, 6], [0, 1, 2, 3, 4, 5, 6, 7], [0, 1, 2, 3, 4, 5, 6, 7, 8], [0, 1, 2, 3, 4, 5, 6, 7, 8], [], [0, 1, 2, 3, 4, 5, 6, 7, 8, 9, 11], [0, 1, 2, 3, 4, 5, 6, 7, 8, 9, 10, 11, 12]] [10] (rest := ?rest29) (Es := ?Es29) (st1 := ?st129) (stA := ?stA29) (t := ?t29) (x := ?x29) (y := ?y29) (ty := ?ty29) (pos := ?pos29) (after := ?af29) (n := ?n29) (b := ?b29) ?_
              refine zL ?_
              refine zE ?_
              refine zR ?_
              refine At.retA (by rw [Tryz.results17]) (he := ?_)
              simp only [gBi, hv]
          · have hv := bis_stop (t := (p, s)) (now := now) hb (a := ((ah, at_, ala, ava, ane, ada), al)) q1 q2 h0 h9
            generalize skipC (p, s) ((ah, at_, ala, ava, ane, ada), al) ((h, t, la, va, ne, da), b1, b2, (ch, cr, ci, cs)) now = code at *
            clear hb c2
            simp only [initS, argPV, List.map_cons, List.map_nil, toPL, Nat.zero_add]
            refine zR ?_
            refine W.lateB hΓ 12 [[], [], [], [], [2, 3], [2, 3, 4], [], [0, 1, 2, 3, 4, 5, 6], [0, 1, 2, 3, 4, 5, 6, 7], [0, 1, 2, 3, 4, 5, 6, 7, 8], [0, 1, 2, 3, 4, 5, 6, 7, 8], [], [0, 1, 2, 3, 4, 5, 6, 7, 8, 9, 11], [0, 1, 2, 3, 4, 5, 6, 7, 8, 9, 10, 11, 12]] [10] (rest := ?rest34) (Es := ?Es34) (st1 := ?st134) (stA := ?stA34) (t := ?t34) (x := ?x34) (y := ?y34) (ty := ?ty34) (pos := ?pos34) (after := ?af34) (n := ?n34) (b := ?b34) ?_
            refine zL ?_
            refine zE ?_
            refine zR ?_
            refine At.nilA 11 777 3 1 (h := ?_)
            refine At.retA (by rw [Tryz.results17]) (he := ?_)
            simp only [gBi, hv]
            rfl
  · rw [e1] at c1
    have hv := bis_none (t := (p, s)) (a := ((ah, at_, ala, ava, ane, ada), al)) (to := to) (now := now) (bkOf_none e2)
    clear e1 e2
    simp only [initS, argPV, List.map_cons, List.map_nil, toPL, Nat.zero_add]
    refine zR ?_
    refine At.nilA 11 777 3 1 (h := ?_)
    refine At.retA (by rw [Tryz.results17]) (he := ?_)
    simp only [gBi, hv]
    rfl
end Go.Proofs.YtfgkfcfplodaoaaGreatDoor
