/-
  Put together: PEvBisS PEvFresh PEvOld PEvGrown PEvStrLaw PEvGrownS.
-/
import Derived.Test.YtfgkfcfplodaoaaGreatDoorHPEvBis
import Derived.Test.YtfgkfcfplodaoaaGreatDoorHPEvCu
import Derived.Test.YtfgkfcfplodaoaaGreatDoorG29
section
/-!
  Bisect of spec.
-/
namespace Go.Proofs.YtfgkfcfplodaoaaGreatDoor
set_option maxRecDepth 100000
set_option linter.unusedVariables false
set_option linter.unusedSimpArgs false
open Go Go.RowKit
set_option maxHeartbeats 16000000
set_option linter.unusedVariables false
set_option linter.unusedSimpArgs false

theorem bisS_s : Sound Tryz.prog 19 (mdl okBi aBi gBi) := by
  refine Sound.again μBi aBi_inj fun N ih => ?_
  refine Sound.mdl Tryz.func19 rfl Tryz.ntmps19 ?_
  rintro ⟨⟨p, s⟩, ⟨⟨ah, at_, ala, ava, ane, ada⟩, al⟩, l, to, now⟩ w ⟨⟨hal, hl, hto, hah⟩, hμ⟩
  refine ⟨by simp, ?_⟩
  dsimp only at hal hl hto hah hμ
  replace hμ : (to - ah).toNat < N + 1 := hμ
  have hAt : Has Tryz.prog 64 := has_of Tryz.func64 rfl rfl
  have hΓ : GSound Tryz.prog (look [(65, mCopyA), (66, mVerify), (22, mSkip), (19, mdl (fun x => okBi x ∧ μBi x < N) aBi gBi)]) := env_cons (has_of Tryz.func65 rfl rfl) copyAS_s (env_cons (has_of Tryz.func66 rfl rfl) verifyS_s (env_cons (has_of Tryz.func22 rfl rfl) skipS_s (env_cons (has_of Tryz.func19 rfl rfl) ih env_nil)))
  have hlen := bkRows_len l
  have c2 := mCopyA_eq ((ah, at_, ala, ava, ane, ada), al) hal
  have hnil : rowsF cInt [] = [] := rfl
  have hone : rowsF cInt [to] = [[.sc (.int .i64 to)]] := rfl
  dsimp only [aAn, rAn, rowsAn] at c2
  simp only [initS, argPV, List.map_cons, List.map_nil, toPL, Nat.zero_add]
  refine zR ?_
  refine zO ?_
  refine zL ?_
  refine WL.opAt l to hAt (by have := hl.1; omega) (hyes := ?_) (hno := ?_)
  · intro k hk e2 e3
    have hb := bkOf_some hk e2 e3
    have hok := hl.2 l[k] (List.getElem_mem hk)
    clear e3
    generalize l[k] = b at *
    obtain ⟨⟨h, t, la, va, ne, da⟩, b1, b2, ⟨ch, cr, ci, cs⟩⟩ := b
    replace e2 : h = to := e2
    subst e2
    obtain ⟨o1, o2, o3⟩ := hok
    dsimp only at o1 o2 o3
    dsimp only [bkPL]
    by_cases q1 : h ≤ ah
    · have hv := bis_low (t := (p, s)) (a := ((ah, at_, ala, ava, ane, ada), al)) (l := l) (to := h) (now := now) q1
      clear hb
      refine zL ?_
      refine zE ?_
      refine zR ?_
      refine At.retA (by rw [Tryz.results19]) (he := ?_)
      simp only [gBi, hv]
      rfl
    · by_cases q2 : h = ah + 1
      · have hv := bis_next (t := (p, s)) (now := now) hb (a := ((ah, at_, ala, ava, ane, ada), al)) q1 q2
        have c3 := mVerify_eq (p, s) ((ah, at_, ala, ava, ane, ada), al) (h, t, la, va, ne, da) b2 (ch, cr, ci, cs) now ⟨hal, o2, o3⟩
        have c6 := mCopyA_eq ((h, t, la, va, ne, da), b2) o2
        have hA : verifyA (p, s) ((ah, at_, ala, ava, ane, ada), al) (h, t, la, va, ne, da) b2 (ch, cr, ci, cs) now = if verifyC (p, s) ((ah, at_, ala, ava, ane, ada), al) (h, t, la, va, ne, da) b2 (ch, cr, ci, cs) now = 0 then ((h, t, la, va, ne, da), b2) else ((ah, at_, ala, ava, ane, ada), al) := rfl
        dsimp only [aTr, aAn, aHd, aCm, rSk, rAn, rowsAn] at c3 c6
        dsimp only at hv
        generalize verifyA (p, s) ((ah, at_, ala, ava, ane, ada), al) (h, t, la, va, ne, da) b2 (ch, cr, ci, cs) now = y at *
        generalize verifyC (p, s) ((ah, at_, ala, ava, ane, ada), al) (h, t, la, va, ne, da) b2 (ch, cr, ci, cs) now = code at *
        clear hb
        subst q2
        by_cases h0 : code = 0
        · subst h0
          rw [if_pos rfl] at hA hv
          subst hA
          refine zL ?_
          refine zE ?_
          refine zR ?_
          refine At.retA (by rw [Tryz.results19]) (he := ?_)
          simp only [gBi, hv]
          rfl
        · rw [if_neg h0] at hA hv
          subst hA
          by_cases h9 : code = 9
          · subst h9
            clear h0
            refine zL ?_
            refine zE ?_
            refine zR ?_
            refine At.retA (by rw [Tryz.results19]) (he := ?_)
            simp only [gBi, hv]
            rfl
          · (repeat (first | refine za hΓ ?_ | refine zb hΓ ?_ | refine zc ?_ | refine zd ?_))
            refine zE ?_
            refine zR ?_
            refine At.retA (by rw [Tryz.results19]) (he := ?_)
            simp only [gBi, hv]
            rfl
      · have hA : skipA (p, s) ((ah, at_, ala, ava, ane, ada), al) ((h, t, la, va, ne, da), b1, b2, (ch, cr, ci, cs)) now = if skipC (p, s) ((ah, at_, ala, ava, ane, ada), al) ((h, t, la, va, ne, da), b1, b2, (ch, cr, ci, cs)) now = 0 then ((h, t, la, va, ne, da), b2) else ((ah, at_, ala, ava, ane, ada), al) := rfl
        have c3 := mSkip_eq (p, s) ((ah, at_, ala, ava, ane, ada), al) ((h, t, la, va, ne, da), b1, b2, (ch, cr, ci, cs)) now ⟨hal, o1, o2, o3⟩
        have c6 := mCopyA_eq ((h, t, la, va, ne, da), b2) o2
        dsimp only [aTr, aAn, aBk, rSk, rAn, rowsAn] at c3 c6
        generalize skipA (p, s) ((ah, at_, ala, ava, ane, ada), al) ((h, t, la, va, ne, da), b1, b2, (ch, cr, ci, cs)) now = y at *
        by_cases h0 : skipC (p, s) ((ah, at_, ala, ava, ane, ada), al) ((h, t, la, va, ne, da), b1, b2, (ch, cr, ci, cs)) now = 0
        · have hv := bis_skip (t := (p, s)) (now := now) hb (a := ((ah, at_, ala, ava, ane, ada), al)) q1 q2 h0
          rw [h0] at hA c3
          rw [if_pos rfl] at hA
          subst hA
          clear hb h0
          dsimp only at hv
          refine zL ?_
          refine zE ?_
          refine zR ?_
          refine At.retA (by rw [Tryz.results19]) (he := ?_)
          simp only [gBi, hv]
          rfl
        · rw [if_neg h0] at hA
          subst hA
          by_cases h9 : skipC (p, s) ((ah, at_, ala, ava, ane, ada), al) ((h, t, la, va, ne, da), b1, b2, (ch, cr, ci, cs)) now = 9
          · rw [h9] at c3
            obtain ⟨m1, m2, m3, m4⟩ := mid_in hb (a := ((ah, at_, ala, ava, ane, ada), al)) q1 q2 h9
            obtain ⟨d1, d2⟩ := bis_deep hb (a := ((ah, at_, ala, ava, ane, ada), al)) q1 q2 h9
            dsimp only at m1 m2 m3 m4 d1 d2
            have c4 : mdl (fun x => okBi x ∧ μBi x < N) aBi gBi [aTr (p, s), aAn ((ah, at_, ala, ava, ane, ada), al), aBS l, aI ((ah + h).tdiv 2), aI now] = some (rBi (bis (p, s) ((ah, at_, ala, ava, ane, ada), al) l ((ah + h).tdiv 2) now)) := mdl_eq aBi_inj ((p, s), ((ah, at_, ala, ava, ane, ada), al), l, (ah + h).tdiv 2, now) ⟨⟨hal, hl, show (ah + h).tdiv 2 ≤ 9223372036854775807 by omega, hah⟩, show ((ah + h).tdiv 2 - ah).toNat < N by omega⟩
            have zr := bis_ok (t := (p, s)) (a := ((ah, at_, ala, ava, ane, ada), al)) (to := (ah + h).tdiv 2) (now := now) hl hal
            have zl := bis_len (t := (p, s)) (a := ((ah, at_, ala, ava, ane, ada), al)) (l := l) (to := (ah + h).tdiv 2) (now := now)
            have zt := bis_to (t := (p, s)) (a := ((ah, at_, ala, ava, ane, ada), al)) (l := l) (to := (ah + h).tdiv 2) (now := now)
            have c5 : ∀ x : TAnchor, x.2.length ≤ 1048576 → x.1.1 = (ah + h).tdiv 2 → mdl (fun x => okBi x ∧ μBi x < N) aBi gBi [aTr (p, s), aAn x, aBS l, aI h, aI now] = some (rBi (bis (p, s) x l h now)) := fun x hx1 hx2 => mdl_eq (ok := fun x => okBi x ∧ μBi x < N) (g := gBi) aBi_inj ((p, s), x, l, h, now) ⟨⟨hx1, hl, hto, show -9223372036854775808 ≤ x.1.1 by omega⟩, show (h - x.1.1).toNat < N by omega⟩
            have zl2 := fun x : TAnchor => bis_len (t := (p, s)) (a := x) (l := l) (to := h) (now := now)
            dsimp only at zr zl
            clear hb h9 h0 c2 c6
            generalize bis (p, s) ((ah, at_, ala, ava, ane, ada), al) l ((ah + h).tdiv 2) now = r1 at *
            obtain ⟨⟨⟨rh, rt, rla, rva, rne, rda⟩, rl⟩, hs1, rc⟩ := r1
            dsimp only at zr zl zt d1 d2
            dsimp only [aTr, aAn, rBi, rowsAn] at c4
            by_cases h0 : rc = 0
            · subst h0
              replace zt := zt rfl
              have hv := d2 rfl
              replace c5 := c5 ((rh, rt, rla, rva, rne, rda), rl) zr zt
              replace zl2 := zl2 ((rh, rt, rla, rva, rne, rda), rl)
              clear d1 d2
              generalize bis (p, s) ((rh, rt, rla, rva, rne, rda), rl) l h now = r2 at *
              obtain ⟨⟨⟨th, tt, tla, tva, tne, tda⟩, tl⟩, hs2, tc⟩ := r2
              dsimp only [aTr, aAn, rBi, rowsAn] at c5
              dsimp only at zl2 hv
              have k1 := rowsF_len cInt hs1
              have k2 := rowsF_len cInt hs2
              have ka : rowsF cInt hs1 ++ rowsF cInt hs2 = rowsF cInt (hs1 ++ hs2) := by unfold rowsF; rw [List.map_append]
              have w2 : wid 1 (rowsF cInt hs2) := rowsF_wid (f := cInt) (s := 1) (fun _ => rfl) hs2
              have kl : (hs1 ++ hs2).length ≤ 2000000 := by rw [List.length_append]; omega
              have kl1 : hs1.length ≤ 2000000 := by omega
              have kl2 : hs2.length ≤ 2000000 := by omega
              clear zl zl2 zt zr
              refine zL ?_
              refine zE ?_
              refine zR ?_
              refine W.subA [.slot 25 (one (.ptr 25 0)), .blk 25 (.box [.sc (.int .i64 th), .sc (.int .i64 tt), .sc (.string tla), .sc (.string tva), .sc (.string tne), .sc (.string tda), .all 6126]), .blk 6126 (.arr .ft 76 2 (rowsF cVal tl)), .slot 23 (one (.all 64111)), .blk 64111 (.arr .ft 3 1 (rowsF cInt hs1)), .slot 26 (one (.all 64126)), .blk 64126 (.arr .ft 3 1 (rowsF cInt hs2)), .slot 27 (vI tc), .slot 10 (one (.ptr 10 0)), .blk 10 (.box [.sc (.int .i64 0), .sc (.int .i64 0), .sc (.string ByteArray.empty), .sc (.string ByteArray.empty), .sc (.string ByteArray.empty), .sc (.string ByteArray.empty), .nil])] (h := ?_)
              refine AllGo.start hΓ (h := ?_)
              refine AllGo.add 0 0 (h := ?_)
              refine AllGo.add 0 1 (h := ?_)
              refine AllGo.add 1 1 (h := ?_)
              refine AllGo.add 0 2 (h := ?_)
              refine AllGo.add 1 2 (h := ?_)
              refine AllGo.add 2 2 (h := ?_)
              refine AllGo.add 3 2 (h := ?_)
              refine AllGo.add 6 3 (h := ?_)
              refine AllGo.add 7 3 (h := ?_)
              refine AllGo.add 0 4 (h := ?_)
              refine AllGo.add 1 4 (h := ?_)
              refine AllGo.add 2 4 (h := ?_)
              refine AllGo.add 3 4 (h := ?_)
              refine AllGo.add 4 4 (h := ?_)
              refine AllGo.add 5 4 (h := ?_)
              refine AllGo.add 6 4 (h := ?_)
              refine AllGo.add 7 4 (h := ?_)
              refine AllGo.add 14 4 (h := ?_)
              refine AllGo.add 15 4 (h := ?_)
              refine AllGo.add 15 5 (h := ?_)
              refine AllGo.add 31 5 (h := ?_)
              refine AllGo.add 47 6 (h := ?_)
              refine AllGo.add 63 6 (h := ?_)
              refine AllGo.add 127 7 (h := ?_)
              refine AllGo.done hΓ [(0, 0), (0, 1), (0, 2), (0, 4), (1, 1), (1, 2), (1, 4), (2, 0), (2, 2), (2, 4), (3, 2), (3, 4), (4, 0), (4, 1), (4, 4), (5, 1), (5, 4), (6, 0), (6, 3), (6, 4), (7, 3), (7, 4), (14, 0), (14, 4), (15, 4), (15, 5), (16, 0), (16, 1), (16, 2), (17, 1), (17, 2), (18, 0), (18, 2), (19, 2), (20, 0), (20, 1), (21, 1), (22, 0), (22, 3), (23, 3), (30, 0), (31, 5), (47, 4), (47, 6), (63, 6), (111, 4), (127, 7)] (hp := ?hp1) (hD := ?hD1) (h0 := ?h01) (hS := ?hS1) (stE := ?stE1) (hE := ?hE1) (hT := ?hT1)
              case hp1 => kernel_rfl
              case hD1 => kernel_rfl
              case h01 => rfl
              case hS1 =>
                repeat (refine List.forall_mem_cons.2 ⟨StepAt.mk' (ho := by rfl) (hg := by rfl) (hm := by simp only [tabJ, eq_self, Nat.reduceEqDiff, reduceIte] <;> rfl) (hn := by simp only [tabJ, eq_self, Nat.reduceEqDiff, Nat.reduceAdd, Nat.reducePow, reduceIte] <;> rfl) (hs := by exact evsP) (hb := by simp (disch := omega) only [Sub, SubL, getS_hit, getS_miss, getS_blk, getS_kill, getS_nil, getB_nil, getB_slot, getB_hit, getB_miss, getB_kill0, getB_kill1, lsNms, vsNms, PL.nms, PV.nms, Blk.nms, bound, PV.kill, PL.kill, PL.names, List.append_nil, List.nil_append, List.cons_append, and_true, true_and, and_self, *] <;> (repeat' apply And.intro) <;> rfl), ?_⟩)
                exact List.forall_mem_nil _
              case hE1 => simp only [tabJ, eq_self, Nat.reduceEqDiff, List.length_cons, List.length_nil, Nat.reduceAdd, Nat.reducePow, Nat.reduceSub, reduceIte] <;> rfl
              with_reducible apply WL.nil
              refine zR ?_
              refine At.retA (by rw [Tryz.results19]) (he := ?_)
              simp only [gBi, hv]
            · have hv := d1 h0
              clear d1 d2 c5 zl2 zl zt zr
              refine zL ?_
              refine zE ?_
              refine zR ?_
              refine At.retA (by rw [Tryz.results19]) (he := ?_)
              simp only [gBi, hv]
          · have hv := bis_stop (t := (p, s)) (now := now) hb (a := ((ah, at_, ala, ava, ane, ada), al)) q1 q2 h0 h9
            generalize skipC (p, s) ((ah, at_, ala, ava, ane, ada), al) ((h, t, la, va, ne, da), b1, b2, (ch, cr, ci, cs)) now = code at *
            clear hb
            refine zL ?_
            refine zE ?_
            refine zR ?_
            refine At.retA (by rw [Tryz.results19]) (he := ?_)
            simp only [gBi, hv]
            rfl
  · intro e2
    have hv := bis_none (t := (p, s)) (a := ((ah, at_, ala, ava, ane, ada), al)) (to := to) (now := now) (bkOf_none e2)
    clear e2
    dsimp only [zPL]
    refine zL ?_
    refine zE ?_
    refine zR ?_
    refine At.retA (by rw [Tryz.results19]) (he := ?_)
    simp only [gBi, hv]
    rfl
end Go.Proofs.YtfgkfcfplodaoaaGreatDoor

end
section
/-!
  A code that follows from another one; small functions of the laws.
-/
namespace Go.Proofs.YtfgkfcfplodaoaaGreatDoor
set_option maxRecDepth 100000
set_option linter.unusedVariables false
set_option linter.unusedSimpArgs false
open Go Go.RowKit
set_option maxHeartbeats 4000000

theorem CodeOk.le {bs : List Nat} (h : bs.length ≤ 1048576) (hb : ∀ n ∈ bs, n < 256) : CodeOk bs := ⟨hb, by omega⟩
noncomputable def mBig := mdl (fun bs : List Nat => bs.length ≤ 9223372036854775807) (fun bs => [aL cU8 bs]) (fun bs => rB (decide (1048576 < bs.length)))
theorem rowsF_U8 {a b : List Nat} : rowsF cU8 a = rowsF cU8 b ↔ a = b := rowsF_iff fun x y h => by
  simp only [cU8, List.cons.injEq, Value.int.injEq, and_true, true_and] at h
  omega
theorem mBig_eq (bs : List Nat) (h : bs.length ≤ 9223372036854775807) : mBig [aL cU8 bs] = some (rB (decide (1048576 < bs.length))) := mdl_eq (by intro a b h; simpa [rowsF_U8] using h) bs h
theorem big_s : Sound Tryz.prog 8 mBig := by
  refine Sound.mdl Tryz.func8 rfl Tryz.ntmps8 ?_
  rintro bs w hl
  refine ⟨by simp, ?_⟩
  replace hl : bs.length ≤ 9223372036854775807 := hl
  have hΓ : GSound Tryz.prog (look []) := env_nil
  simp only [initS, argPV, List.map_cons, List.map_nil, toPL, Nat.zero_add]
  refine zR ?_
  refine At.retA (by rw [Tryz.results8]) (he := ?_)
  by_cases h : 1048576 < bs.length
  · have h2 : (1048576 : Int) < bs.length := by omega
    simp [h, h2]
  · have h2 : ¬ (1048576 : Int) < bs.length := by omega
    simp [h, h2]
end Go.Proofs.YtfgkfcfplodaoaaGreatDoor

end
section
/-!
  OldRoots and Grown of both programs.
-/
namespace Go.Proofs.YtfgkfcfplodaoaaGreatDoor
set_option maxRecDepth 100000
set_option linter.unusedVariables false
set_option linter.unusedSimpArgs false
open Go Go.RowKit
set_option maxHeartbeats 4000000

abbrev okP (p : List ByteArray) : Prop := p.length ≤ 8796093022207 ∧ ∀ x ∈ p, x.size ≤ 1048576
theorem okP.take {p : List ByteArray} (h : okP p) (k : Nat) : okP (p.take k) := okT.take h k
theorem okP.drop {p : List ByteArray} (h : okP p) (k : Nat) : okP (p.drop k) := okT.drop h k
end Go.Proofs.YtfgkfcfplodaoaaGreatDoor

end
section
/-!
  Grown of both programs; the words of the laws.
-/
namespace Go.Proofs.YtfgkfcfplodaoaaGreatDoor
set_option maxRecDepth 100000
set_option linter.unusedVariables false
set_option linter.unusedSimpArgs false
open Go Go.RowKit
set_option maxHeartbeats 4000000


end Go.Proofs.YtfgkfcfplodaoaaGreatDoor

end
section
/-!
  The laws' own functions for a row of texts: its size, copy, equality.
-/
namespace Go.Proofs.YtfgkfcfplodaoaaGreatDoor
set_option maxRecDepth 100000
set_option linter.unusedVariables false
set_option linter.unusedSimpArgs false
open Go Go.RowKit
set_option maxHeartbeats 4000000

end Go.Proofs.YtfgkfcfplodaoaaGreatDoor

end
section
/-!
  Small functions of the law of Grown: at, sameTexts, MuchAlike.
-/
namespace Go.Proofs.YtfgkfcfplodaoaaGreatDoor
set_option maxRecDepth 100000
set_option linter.unusedVariables false
set_option linter.unusedSimpArgs false
open Go Go.RowKit
set_option maxHeartbeats 4000000

/-- byte i of a code, or one that follows from it -/
def atC (bs : List Nat) (i : Int) : Int := if i < bs.length then ((bs.getD i.toNat 0 : Nat) : Int) else (i * 37 + bs.length * 11).tmod 256
abbrev okAt (x : List Nat × Int) : Prop := ((∀ n ∈ x.1, n < 256) ∧ x.1.length ≤ 1048576) ∧ 0 ≤ x.2 ∧ x.2 ≤ 1000
noncomputable def mAt := mdl okAt (fun x => [aL cU8 x.1, aI x.2]) (fun x => rI (atC x.1 x.2))
theorem encAt_inj : ∀ x y : List Nat × Int, ([aL cU8 x.1, aI x.2] : List Arg) = [aL cU8 y.1, aI y.2] → x = y := by
  rintro ⟨a, b⟩ ⟨d, e⟩ h
  simpa [rowsF_U8] using h
theorem mAt_eq (bs : List Nat) (i : Int) (h : okAt (bs, i)) : mAt [aL cU8 bs, aI i] = some (rI (atC bs i)) := mdl_eq encAt_inj (bs, i) h
theorem atC_range {bs : List Nat} {i : Int} (h : okAt (bs, i)) : 0 ≤ atC bs i ∧ atC bs i < 256 := by
  obtain ⟨⟨h1, h2⟩, h3, h4⟩ := h
  dsimp only at h1 h2 h3 h4
  unfold atC
  split
  · rename_i hl
    rw [List.getD_eq_getElem?_getD, List.getElem?_eq_getElem (by omega)]
    have := h1 (bs[i.toNat]'(by omega)) (List.getElem_mem _)
    simp only [Option.getD_some]
    omega
  · rw [Int.tmod_eq_emod_of_nonneg (by omega)]
    omega
theorem at_s : Sound Tryz.prog 9 mAt := by
  refine Sound.mdl Tryz.func9 rfl Tryz.ntmps9 ?_
  rintro ⟨bs, i⟩ w ⟨⟨hb, hl⟩, h0, h1⟩
  refine ⟨by simp, ?_⟩
  dsimp only at hb hl h0 h1
  have hΓ : GSound Tryz.prog (look []) := env_nil
  have hlen := rowsF_len cU8 bs
  simp only [initS, argPV, List.map_cons, List.map_nil, toPL, Nat.zero_add]
  by_cases hi : i < bs.length
  · have hrow : (rowsF cU8 bs)[i.toNat]? = some [.sc (.int .u8 ((bs[i.toNat]'(by omega) : Nat) : Int))] := rowsF_get cU8 bs i.toNat (by omega)
    have hn := hb (bs[i.toNat]'(by omega)) (List.getElem_mem _)
    have hv : atC bs i = ((bs[i.toNat]'(by omega) : Nat) : Int) := by
      unfold atC
      rw [if_pos hi, List.getD_eq_getElem?_getD, List.getElem?_eq_getElem (by omega)]
      rfl
    clear hb
    generalize bs[i.toNat]'(by omega) = n at hrow hn hv
    refine zR ?_
    refine At.retA (by rw [Tryz.results9]) (he := ?_)
    rw [hv]
  · have hv : atC bs i = (i * 37 + bs.length * 11).tmod 256 := by unfold atC; rw [if_neg hi]
    have hnz : ((256 : Int) = 0) = False := by simp
    clear hb
    refine zR ?_
    refine At.retA (by rw [Tryz.results9]) (he := ?_)
    rw [hv]
end Go.Proofs.YtfgkfcfplodaoaaGreatDoor

end
