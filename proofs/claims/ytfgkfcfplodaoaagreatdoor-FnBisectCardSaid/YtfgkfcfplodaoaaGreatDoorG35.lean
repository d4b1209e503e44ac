/-
  Put together: PEvBent PEvLoose.
-/
import Derived.Test.YtfgkfcfplodaoaaGreatDoorG13
import Derived.Test.YtfgkfcfplodaoaaGreatDoorG33
import Derived.Test.YtfgkfcfplodaoaaGreatDoorHPEvOneD
import Derived.Test.YtfgkfcfplodaoaaGreatDoorG20
import Derived.Test.YtfgkfcfplodaoaaGreatDoorG12
section
/-!
  Drawn trust and times, and a bent block.
-/
namespace Go.Proofs.YtfgkfcfplodaoaaGreatDoor
set_option maxRecDepth 100000
set_option linter.unusedVariables false
set_option linter.unusedSimpArgs false
open Go Go.RowKit
set_option maxHeartbeats 8000000
set_option linter.unusedVariables false

/-- what several ways come to, walked once -/
theorem W.meet {P : Program} {γ0 : Nat → Option Nat} {w0 : World} {N : Nat} {st : St} {c0 c : Code} {Q0 Q : Exit → Act → World → Prop} {ι : Type} (I : ι → Prop) (J : ι → St) (main : (∀ i, I i → W P γ0 w0 N (J i) c Q) → W P γ0 w0 N st c0 Q0) (part : ∀ i, I i → W P γ0 w0 N (J i) c Q) : W P γ0 w0 N st c0 Q0 := main part
def rAt (_ : Unit) (n : Int) : Prop := -1 ≤ n ∧ n ≤ 1000001
theorem l10At_s : SoundCu Tryz.prog 67 (fun _ : Unit => True) (fun _ => []) rAt (fun _ n => rI n) := by
  refine SoundCu.of Tryz.func67 rfl Tryz.ntmps67 ?_
  rintro k0 - b w hc - hB
  refine ⟨by simp, ?_⟩
  simp only [initC]
  have hΓ : GSound Tryz.prog (look []) := env_nil
  have hBe : Has Tryz.prog 56 := has_of Tryz.func56 rfl rfl
  have hOn : Has Tryz.prog 55 := has_of Tryz.func55 rfl rfl
  have hPi : Has Tryz.prog 121 := has_of Tryz.func121 rfl rfl
  have hcu := lsNms_cu
  have hck := kill_cu
  simp only [initS, argPV, List.map_cons, List.map_nil, toPL, Nat.zero_add]
  refine zR ?_
  refine zO ?_
  refine zL ?_
  refine WL.opCu hOn l1Once_s k0 hc 10 (by decide) (h := ?_)
  rintro k1 o hk1 -
  refine zL ?_
  refine zE ?_
  cases o with
  | false =>
    refine zR ?_
    refine zO ?_
    refine zL ?_
    refine WL.opCu hBe l1Below_s k1 hk1.ok 150 (by decide) (h := ?_)
    rintro k2 r hk2 ⟨hr0, hr1, -⟩
    replace hr1 : r < 150 := hr1 (by decide)
    refine zL ?_
    refine zE ?_
    refine zR ?_
    refine At.retCu (by rw [Tryz.results67]) hB (hls := ?_) (he := ?_) k2 r (hk1.trans hk2) ⟨by omega, by omega⟩
    · rfl
    · rfl
  | true =>
    refine zR ?_
    refine zO ?_
    refine zL ?_
    refine WL.opCu hPi l1PickInt_s k1 hk1.ok [-1, 1000000, 1000001] ⟨by decide, by decide⟩ (h := ?_)
    rintro k2 r hk2 hr
    have hri : -1 ≤ r ∧ r ≤ 1000001 := by
      simp only [List.mem_cons, List.not_mem_nil, or_false] at hr
      omega
    clear hr
    refine zL ?_
    refine zE ?_
    refine zR ?_
    refine At.retCu (by rw [Tryz.results67]) hB (hls := ?_) (he := ?_) k2 r (hk1.trans hk2) hri
    · rfl
    · rfl
def rTr (_ : Unit) (t : Int × Int) : Prop := (0 ≤ t.1 ∧ t.1 ≤ 100001) ∧ -1 ≤ t.2 ∧ t.2 ≤ 1001
abbrev bxT (a b : Int) : Blk := .box [.sc (.int .i64 a), .sc (.int .i64 b)]
abbrev rTrR (t : Int × Int) : Res := .comp true [.ro (.sc (.int .i64 t.1)), .ro (.sc (.int .i64 t.2))]
theorem l10Trust_s : SoundCu Tryz.prog 68 (fun _ : Unit => True) (fun _ => []) rTr (fun _ t => rTrR t) := by
  refine SoundCu.of Tryz.func68 rfl Tryz.ntmps68 ?_
  rintro k0 - b w hc - hB
  refine ⟨by simp, ?_⟩
  simp only [initC]
  have hΓ : GSound Tryz.prog (look []) := env_nil
  have hBe : Has Tryz.prog 56 := has_of Tryz.func56 rfl rfl
  have hOn : Has Tryz.prog 55 := has_of Tryz.func55 rfl rfl
  have hPi : Has Tryz.prog 121 := has_of Tryz.func121 rfl rfl
  have hcu := lsNms_cu
  have hck := kill_cu
  simp only [initS, argPV, List.map_cons, List.map_nil, toPL, Nat.zero_add]
  refine zR ?_
  refine zO ?_
  refine zL ?_
  refine WL.opCu hBe l1Below_s k0 hc 90 (by decide) (h := ?_)
  rintro k1 p hk1 ⟨hp0, hp1, -⟩
  replace hp1 : p < 90 := hp1 (by decide)
  refine zL ?_
  refine WL.opCu hBe l1Below_s k1 hk1.ok 10 (by decide) (h := ?_)
  rintro k2 s hk2 ⟨hs0, hs1, -⟩
  replace hs1 : s < 10 := hs1 (by decide)
  refine zL ?_
  refine zE ?_
  refine zR ?_
  refine zO ?_
  refine zL ?_
  refine WL.opCu hOn l1Once_s k2 hk2.ok 12 (by decide) (h := ?_)
  rintro k3 o hk3 -
  have hk30 := (hk1.trans hk2).trans hk3
  refine zL ?_
  refine zE ?_
  refine W.meet (c := ?codeK) (Q := ?postK) (fun x : Cu × Int => CuTo k0 x.1 ∧ 0 ≤ x.2 ∧ x.2 ≤ 100001) (fun x => [.slot 0 (one (.ptr 999 0)), .blk 999 (.box (cuL x.1)), .slot 2 (one (.ptr 2 0)), .blk 2 (bxT 0 0), .slot 3 (one (.ptr 3 0)), .blk 3 (bxT x.2 s)]) ?main ?part
  case main =>
    intro key
    cases o with
    | false =>
      refine zR ?_
      refine W.subA [.slot 0 (one (.ptr 999 0)), .blk 999 (.box (cuL k3)), .slot 2 (one (.ptr 2 0)), .blk 2 (bxT 0 0), .slot 3 (one (.ptr 3 0)), .blk 3 (bxT (10 + p) s)] (h := ?_)
      exact key (k3, 10 + p) ⟨hk30, by dsimp only; omega⟩
    | true =>
      refine zR ?_
      refine zO ?_
      refine zL ?_
      refine WL.opCu hPi l1PickInt_s k3 hk3.ok [0, 1, 100000, 100001] ⟨by decide, by decide⟩ (h := ?_)
      rintro k4 r hk4 hr
      have hri : 0 ≤ r ∧ r ≤ 100001 := by
        simp only [List.mem_cons, List.not_mem_nil, or_false] at hr
        omega
      clear hr
      refine zL ?_
      refine zE ?_
      refine zR ?_
      refine W.subA [.slot 0 (one (.ptr 999 0)), .blk 999 (.box (cuL k4)), .slot 2 (one (.ptr 2 0)), .blk 2 (bxT 0 0), .slot 3 (one (.ptr 3 0)), .blk 3 (bxT r s)] (h := ?_)
      exact key (k4, r) ⟨hk30.trans hk4, hri⟩
  case part =>
    rintro ⟨k, q⟩ ⟨hk, hq0, hq1⟩
    dsimp only at hk hq0 hq1 ⊢
    refine zR ?_
    refine zO ?_
    refine zL ?_
    refine WL.opCu hOn l1Once_s k hk.ok 12 (by decide) (h := ?_)
    rintro k5 o5 hk5 -
    have hk50 := hk.trans hk5
    refine zL ?_
    refine zE ?_
    cases o5 with
    | false =>
      refine zR ?_
      refine At.retCu (by rw [Tryz.results68]) hB (hls := ?_) (he := ?_) k5 (q, s) hk50 ⟨⟨hq0, hq1⟩, by dsimp only; omega, by dsimp only; omega⟩
      · rfl
      · rfl
    | true =>
      refine zR ?_
      refine zO ?_
      refine zL ?_
      refine WL.opCu hPi l1PickInt_s k5 hk5.ok [-1, 1000, 1001] ⟨by decide, by decide⟩ (h := ?_)
      rintro k6 r hk6 hr
      have hri : -1 ≤ r ∧ r ≤ 1001 := by
        simp only [List.mem_cons, List.not_mem_nil, or_false] at hr
        omega
      clear hr
      refine zL ?_
      refine zE ?_
      refine zR ?_
      refine At.retCu (by rw [Tryz.results68]) hB (hls := ?_) (he := ?_) k6 (q, r) (hk50.trans hk6) ⟨⟨hq0, hq1⟩, hri.1, hri.2⟩
      · rfl
      · rfl

section
variable {γ0 : Nat → Option Nat} {w0 : World} {N : Nat} {st : St} {Q : Exit → Act → World → Prop}
theorem WL.cutA {ops : Array Oper} {r : List Oper} {el s : Nat} {fl : Fl} {rows : List (List Leaf)} (t n m : Nat) (ht : getS st t = one (.ref n 0 m) := by exact evsP) (hb : getB st n = some (.arr fl el s rows) := by exact evsP) (hN : t < N := by decide) (hn9 : n ≠ 999 := by decide) (hns : fl.nst = false := by rfl)
    (h : WL Tryz.prog γ0 w0 N ops r (.slot t (one (.all n)) :: .blk n (.arr fl el s (rows.take m)) :: .kill n :: st) Q) : WL Tryz.prog γ0 w0 N ops r st Q := fun a w hR => h a w (R.cutA hR ht hb hN hn9 hns)
end
/-- a block whose numbers are small and whose rows are short -/
abbrev smBk (n : Int) (b : TBlock) : Prop := ((0 ≤ b.1.1 ∧ b.1.1 ≤ n) ∧ 0 ≤ b.1.2.1 ∧ b.1.2.1 ≤ n) ∧ b.2.1.length ≤ 100 ∧ b.2.2.1.length ≤ 100 ∧ b.2.2.2.2.2.2.length ≤ 100
theorem bent_s : SoundCu Tryz.prog 63 (smBk 1000) (fun x => [aBk x]) (fun _ y => smBk 1001 y) (fun _ y => rBk y) := by
  refine SoundCu.of Tryz.func63 rfl Tryz.ntmps63 ?_
  rintro k0 ⟨⟨h, t, la, va, ne, da⟩, b1, b2, ⟨ch, cr, ci, cs⟩⟩ b w hc ⟨⟨⟨h0, h1⟩, t0, t1⟩, l1, l2, l3⟩ hB
  refine ⟨by simp, ?_⟩
  simp only [initC]
  dsimp only at h0 h1 t0 t1 l1 l2 l3
  have hΓ : GSound Tryz.prog (look [(46, mCopyB), (44, mFor), (43, mVHash), (51, mShort)]) := env_cons (has_of Tryz.func46 rfl rfl) copyBS_s (env_cons (has_of Tryz.func44 rfl rfl) for_s (env_cons (has_of Tryz.func43 rfl rfl) vhashS_s (env_cons (has_of Tryz.func51 rfl rfl) short_s env_nil)))
  have hBe : Has Tryz.prog 56 := has_of Tryz.func56 rfl rfl
  have hOn : Has Tryz.prog 55 := has_of Tryz.func55 rfl rfl
  have hSo : Has Tryz.prog 119 := has_of Tryz.func119 rfl rfl
  have c9 := mCopyB_eq ((h, t, la, va, ne, da), b1, b2, (ch, cr, ci, cs)) ⟨show b1.length ≤ _ by omega, show b2.length ≤ _ by omega, show cs.length ≤ _ by omega⟩
  dsimp only [aBk, rBk, rowsBk] at c9
  have hcu := lsNms_cu
  have hck := kill_cu
  simp only [initS, argPV, List.map_cons, List.map_nil, toPL, Nat.zero_add]
  refine zR ?_
  refine zO ?_
  refine zL ?_
  refine WL.opCu hBe l1Below_s k0 hc 8 (by decide) (h := ?_)
  rintro k1 q hk1 ⟨hq0, hq1, -⟩
  replace hq1 : q < 8 := hq1 (by decide)
  refine zL ?_
  refine zE ?_
  by_cases e0 : q = 0
  · subst e0
    refine zR ?_
    refine zO ?_
    refine zL ?_
    refine WL.opCu hOn l1Once_s k1 (hk1).ok 3 (by decide) (h := ?_)
    rintro k4 o hk4 -
    refine zL ?_
    refine zE ?_
    cases o with
    | false =>
      refine zR ?_
      refine At.retCu (by rw [Tryz.results63]) hB (hls := ?_) (he := ?_) k4 (((h, t, la, va, ne, (⟨#[108, 105, 101]⟩ : ByteArray)), b1, b2, (ch, cr, ci, cs)) : TBlock) ((hk1).trans hk4) (by refine ⟨⟨⟨?_, ?_⟩, ?_, ?_⟩, ?_, ?_, ?_⟩ <;> dsimp only <;> omega)
      · rfl
      · rfl
    | true =>
      have c8 := mFor_eq ((h, t, la, va, ne, (⟨#[108, 105, 101]⟩ : ByteArray)) : THeader) 0 [1] (by decide) (by decide)
      have cl : (cmFor ((h, t, la, va, ne, (⟨#[108, 105, 101]⟩ : ByteArray)) : THeader) 0 [1]).2.2.2.length = 1 := rfl
      have hrw : rowsF cInt [(1 : Int)] = [[.sc (.int .i64 1)]] := rfl
      dsimp only [aHd, aL] at c8
      rw [hrw] at c8
      generalize cmFor ((h, t, la, va, ne, (⟨#[108, 105, 101]⟩ : ByteArray)) : THeader) 0 [1] = cm at *
      obtain ⟨m1, m2, m3, m4⟩ := cm
      dsimp only [rowsCm] at c8 cl
      refine zR ?_
      refine At.retCu (by rw [Tryz.results63]) hB (hls := ?_) (he := ?_) k4 (((h, t, la, va, ne, (⟨#[108, 105, 101]⟩ : ByteArray)), b1, b2, (m1, m2, m3, m4)) : TBlock) ((hk1).trans hk4) (by refine ⟨⟨⟨?_, ?_⟩, ?_, ?_⟩, ?_, ?_, ?_⟩ <;> dsimp only <;> omega)
      · rfl
      · rfl
  · skip
    by_cases e1 : q = 1
    · subst e1
      refine zR ?_
      refine zO ?_
      refine zL ?_
      refine WL.opCu hOn l1Once_s k1 (hk1).ok 3 (by decide) (h := ?_)
      rintro k4 o hk4 -
      refine zL ?_
      refine zE ?_
      cases o with
      | false =>
        refine zR ?_
        refine At.retCu (by rw [Tryz.results63]) hB (hls := ?_) (he := ?_) k4 (((h, (t + 1), la, va, ne, da), b1, b2, (ch, cr, ci, cs)) : TBlock) ((hk1).trans hk4) (by refine ⟨⟨⟨?_, ?_⟩, ?_, ?_⟩, ?_, ?_, ?_⟩ <;> dsimp only <;> omega)
        · rfl
        · rfl
      | true =>
        have c8 := mFor_eq ((h, (t + 1), la, va, ne, da) : THeader) 0 [1] (by decide) (by decide)
        have cl : (cmFor ((h, (t + 1), la, va, ne, da) : THeader) 0 [1]).2.2.2.length = 1 := rfl
        have hrw : rowsF cInt [(1 : Int)] = [[.sc (.int .i64 1)]] := rfl
        dsimp only [aHd, aL] at c8
        rw [hrw] at c8
        generalize cmFor ((h, (t + 1), la, va, ne, da) : THeader) 0 [1] = cm at *
        obtain ⟨m1, m2, m3, m4⟩ := cm
        dsimp only [rowsCm] at c8 cl
        refine zR ?_
        refine At.retCu (by rw [Tryz.results63]) hB (hls := ?_) (he := ?_) k4 (((h, (t + 1), la, va, ne, da), b1, b2, (m1, m2, m3, m4)) : TBlock) ((hk1).trans hk4) (by refine ⟨⟨⟨?_, ?_⟩, ?_, ?_⟩, ?_, ?_, ?_⟩ <;> dsimp only <;> omega)
        · rfl
        · rfl
    · skip
      by_cases e2 : q = 2
      · subst e2
        have hcl := rowsF_len cCSig cs
        refine zR ?_
        refine W.oneDA hΓ 13 [[], [0], [0, 1], [], [], [4], [4, 5], [4, 5, 6], [4, 5, 6, 7], [3, 4, 5, 6, 7, 8], [0, 1, 2, 3, 4, 5, 6, 7, 8, 9], [0, 1, 2, 3, 4, 5, 6, 7, 8, 9, 10], [0, 1, 2, 3, 4, 5, 6, 7, 8, 9, 10, 11], [0, 1, 2, 3, 4, 5, 6, 7, 8, 9, 10, 11, 12]] 9 hBe l1Below_s k1 hk1.ok ((cs.length : Int) + 1) ⟨by omega, by omega⟩ (fun r => vI r) (EsA := ?EsA63) (EsB := ?EsB63) (restA := ?rA63) (rest := ?rest63) (stX := ?stX63) (d := ?d63) (t0 := ?t063) (xs := ?xs63) (ts := ?ts63) (ty := ?ty63) (pos := ?pos63) (after := ?after63) (m := 999) (h := ?h63) (hxp := by decide) (hoX := ?hoX63) (hN := ?hN63) (hfA := ?hfA63) (hpA := ?hpA63) (hdA := ?hdA63) (hfrA := ?hfr63) (hneA := ?hne63) (hpk := ?hpk63) (ht := ?ht63) (hb := ?hb63) (ha := ?ha63) (hst := ?hst63) (hB := ?hB63)
        case h63 => kernel_rfl
        case hoX63 => rfl
        case hN63 => decide
        case hfA63 =>
          iterate 13 (first | refine FlowX.skA 9 (h := ?_) | refine FlowX.opA (h := ?_))
          exact FlowX.done
        case hpA63 => rfl
        case hdA63 => rfl
        case hfr63 => rfl
        case hne63 => rfl
        case hpk63 =>
          simp (disch := decide) only [pick_nil, pick_t, pick_f, List.cons_append, List.nil_append, Nat.reduceAdd]
          rfl
        case ht63 => exact evsP
        case hb63 => exact evcP
        case ha63 =>
          intro st hg
          have hg1 := hg _ List.mem_cons_self
          simp only [datasO, dataO, ev_tmp, hg1]
          exact evcP
        case hst63 =>
          intro c' b st
          exact evcP
        rotate_left 2
        intro c' r hto hrel
        obtain ⟨hr0, hr1, -⟩ := hrel
        replace hr1 : r < cs.length + 1 := hr1 (by omega)
        have htk := rowsF_take cCSig cs r.toNat
        have htl : (cs.take r.toNat).length ≤ 100 := by rw [List.length_take]; omega
        have hto2 := hk1.trans hto
        refine ⟨?_, ?_, ?_, ?_, ?_, ?_, ?_, ?_⟩
        · iterate 13 (first | refine FlowX.skB 9 (h := ?_) | refine FlowX.opA (h := ?_))
          exact FlowX.done
        · rfl
        · rfl
        · rfl
        · rfl
        · rfl
        · rfl
        · refine WL.cast (st' := ?st1) ?hst1 ?hw1
          case hst1 =>
            simp only [pick_nil, pick_all, List.cons_append, List.nil_append]
            rfl
          refine WL.cutA 39 11006 r.toNat (h := ?_)
          rw [htk]
          generalize cs.take r.toNat = cs2 at *
          refine zL ?_
          refine zE ?_
          refine zR ?_
          refine zO ?_
          refine zL ?_
          refine WL.opCu hOn l1Once_s c' (hto2).ok 3 (by decide) (h := ?_)
          rintro k4 o hk4 -
          refine zL ?_
          refine zE ?_
          cases o with
          | false =>
            refine zR ?_
            refine At.retCu (by rw [Tryz.results63]) hB (hls := ?_) (he := ?_) k4 (((h, t, la, va, ne, da), b1, b2, (ch, cr, ci, cs2)) : TBlock) ((hto2).trans hk4) (by refine ⟨⟨⟨?_, ?_⟩, ?_, ?_⟩, ?_, ?_, ?_⟩ <;> dsimp only <;> omega)
            · rfl
            · rfl
          | true =>
            have c8 := mFor_eq ((h, t, la, va, ne, da) : THeader) 0 [1] (by decide) (by decide)
            have cl : (cmFor ((h, t, la, va, ne, da) : THeader) 0 [1]).2.2.2.length = 1 := rfl
            have hrw : rowsF cInt [(1 : Int)] = [[.sc (.int .i64 1)]] := rfl
            dsimp only [aHd, aL] at c8
            rw [hrw] at c8
            generalize cmFor ((h, t, la, va, ne, da) : THeader) 0 [1] = cm at *
            obtain ⟨m1, m2, m3, m4⟩ := cm
            dsimp only [rowsCm] at c8 cl
            refine zR ?_
            refine At.retCu (by rw [Tryz.results63]) hB (hls := ?_) (he := ?_) k4 (((h, t, la, va, ne, da), b1, b2, (m1, m2, m3, m4)) : TBlock) ((hto2).trans hk4) (by refine ⟨⟨⟨?_, ?_⟩, ?_, ?_⟩, ?_, ?_, ?_⟩ <;> dsimp only <;> omega)
            · rfl
            · rfl
      · skip
        by_cases e3 : q = 3
        · subst e3
          refine zR ?_
          refine zO ?_
          refine zL ?_
          refine WL.opCu hSo l6Some_s k1 hk1.ok () trivial (h := ?_)
          rintro k2 v2 hk2 ⟨hv0, hv1⟩
          have hk20 := hk1.trans hk2
          refine zL ?_
          refine zE ?_
          refine zR ?_
          refine zO ?_
          refine zL ?_
          refine WL.opCu hOn l1Once_s k2 (hk20).ok 3 (by decide) (h := ?_)
          rintro k4 o hk4 -
          refine zL ?_
          refine zE ?_
          cases o with
          | false =>
            refine zR ?_
            refine At.retCu (by rw [Tryz.results63]) hB (hls := ?_) (he := ?_) k4 (((h, t, la, va, ne, da), b1, v2, (ch, cr, ci, cs)) : TBlock) ((hk20).trans hk4) (by refine ⟨⟨⟨?_, ?_⟩, ?_, ?_⟩, ?_, ?_, ?_⟩ <;> dsimp only <;> omega)
            · rfl
            · rfl
          | true =>
            have c8 := mFor_eq ((h, t, la, va, ne, da) : THeader) 0 [1] (by decide) (by decide)
            have cl : (cmFor ((h, t, la, va, ne, da) : THeader) 0 [1]).2.2.2.length = 1 := rfl
            have hrw : rowsF cInt [(1 : Int)] = [[.sc (.int .i64 1)]] := rfl
            dsimp only [aHd, aL] at c8
            rw [hrw] at c8
            generalize cmFor ((h, t, la, va, ne, da) : THeader) 0 [1] = cm at *
            obtain ⟨m1, m2, m3, m4⟩ := cm
            dsimp only [rowsCm] at c8 cl
            refine zR ?_
            refine At.retCu (by rw [Tryz.results63]) hB (hls := ?_) (he := ?_) k4 (((h, t, la, va, ne, da), b1, v2, (m1, m2, m3, m4)) : TBlock) ((hk20).trans hk4) (by refine ⟨⟨⟨?_, ?_⟩, ?_, ?_⟩, ?_, ?_, ?_⟩ <;> dsimp only <;> omega)
            · rfl
            · rfl
        · skip
          by_cases e4 : q = 4
          · subst e4
            refine zR ?_
            refine zO ?_
            refine zL ?_
            refine WL.opCu hSo l6Some_s k1 hk1.ok () trivial (h := ?_)
            rintro k2 v2 hk2 ⟨hv0, hv1⟩
            have hk20 := hk1.trans hk2
            have c5 := mVHash_eq v2 (by omega)
            generalize vhash v2 = hv2 at *
            refine zL ?_
            refine zE ?_
            refine zR ?_
            refine zO ?_
            refine zL ?_
            refine WL.opCu hOn l1Once_s k2 (hk20).ok 3 (by decide) (h := ?_)
            rintro k4 o hk4 -
            refine zL ?_
            refine zE ?_
            cases o with
            | false =>
              refine zR ?_
              refine At.retCu (by rw [Tryz.results63]) hB (hls := ?_) (he := ?_) k4 (((h, t, la, va, hv2, da), b1, v2, (ch, cr, ci, cs)) : TBlock) ((hk20).trans hk4) (by refine ⟨⟨⟨?_, ?_⟩, ?_, ?_⟩, ?_, ?_, ?_⟩ <;> dsimp only <;> omega)
              · rfl
              · rfl
            | true =>
              have c8 := mFor_eq ((h, t, la, va, hv2, da) : THeader) 0 [1] (by decide) (by decide)
              have cl : (cmFor ((h, t, la, va, hv2, da) : THeader) 0 [1]).2.2.2.length = 1 := rfl
              have hrw : rowsF cInt [(1 : Int)] = [[.sc (.int .i64 1)]] := rfl
              dsimp only [aHd, aL] at c8
              rw [hrw] at c8
              generalize cmFor ((h, t, la, va, hv2, da) : THeader) 0 [1] = cm at *
              obtain ⟨m1, m2, m3, m4⟩ := cm
              dsimp only [rowsCm] at c8 cl
              refine zR ?_
              refine At.retCu (by rw [Tryz.results63]) hB (hls := ?_) (he := ?_) k4 (((h, t, la, va, hv2, da), b1, v2, (m1, m2, m3, m4)) : TBlock) ((hk20).trans hk4) (by refine ⟨⟨⟨?_, ?_⟩, ?_, ?_⟩, ?_, ?_, ?_⟩ <;> dsimp only <;> omega)
              · rfl
              · rfl
          · skip
            by_cases e5 : q = 5
            · subst e5
              have c6 := mShort_eq (⟨#[108, 105, 101]⟩ : ByteArray) (by decide)
              generalize shortS (⟨#[108, 105, 101]⟩ : ByteArray) = sl at *
              refine zR ?_
              refine zO ?_
              refine zL ?_
              refine WL.opCu hOn l1Once_s k1 (hk1).ok 3 (by decide) (h := ?_)
              rintro k4 o hk4 -
              refine zL ?_
              refine zE ?_
              cases o with
              | false =>
                refine zR ?_
                refine At.retCu (by rw [Tryz.results63]) hB (hls := ?_) (he := ?_) k4 (((h, t, sl, va, ne, da), b1, b2, (ch, cr, ci, cs)) : TBlock) ((hk1).trans hk4) (by refine ⟨⟨⟨?_, ?_⟩, ?_, ?_⟩, ?_, ?_, ?_⟩ <;> dsimp only <;> omega)
                · rfl
                · rfl
              | true =>
                have c8 := mFor_eq ((h, t, sl, va, ne, da) : THeader) 0 [1] (by decide) (by decide)
                have cl : (cmFor ((h, t, sl, va, ne, da) : THeader) 0 [1]).2.2.2.length = 1 := rfl
                have hrw : rowsF cInt [(1 : Int)] = [[.sc (.int .i64 1)]] := rfl
                dsimp only [aHd, aL] at c8
                rw [hrw] at c8
                generalize cmFor ((h, t, sl, va, ne, da) : THeader) 0 [1] = cm at *
                obtain ⟨m1, m2, m3, m4⟩ := cm
                dsimp only [rowsCm] at c8 cl
                refine zR ?_
                refine At.retCu (by rw [Tryz.results63]) hB (hls := ?_) (he := ?_) k4 (((h, t, sl, va, ne, da), b1, b2, (m1, m2, m3, m4)) : TBlock) ((hk1).trans hk4) (by refine ⟨⟨⟨?_, ?_⟩, ?_, ?_⟩, ?_, ?_, ?_⟩ <;> dsimp only <;> omega)
                · rfl
                · rfl
            · skip
              by_cases e6 : q = 6
              · subst e6
                refine zR ?_
                refine zO ?_
                refine zL ?_
                refine WL.opCu hSo l6Some_s k1 hk1.ok () trivial (h := ?_)
                rintro k2 v2 hk2 ⟨hv0, hv1⟩
                have hk20 := hk1.trans hk2
                refine zL ?_
                refine zE ?_
                refine zR ?_
                refine zO ?_
                refine zL ?_
                refine WL.opCu hOn l1Once_s k2 (hk20).ok 3 (by decide) (h := ?_)
                rintro k4 o hk4 -
                refine zL ?_
                refine zE ?_
                cases o with
                | false =>
                  refine zR ?_
                  refine At.retCu (by rw [Tryz.results63]) hB (hls := ?_) (he := ?_) k4 (((h, t, la, va, ne, da), v2, b2, (ch, cr, ci, cs)) : TBlock) ((hk20).trans hk4) (by refine ⟨⟨⟨?_, ?_⟩, ?_, ?_⟩, ?_, ?_, ?_⟩ <;> dsimp only <;> omega)
                  · rfl
                  · rfl
                | true =>
                  have c8 := mFor_eq ((h, t, la, va, ne, da) : THeader) 0 [1] (by decide) (by decide)
                  have cl : (cmFor ((h, t, la, va, ne, da) : THeader) 0 [1]).2.2.2.length = 1 := rfl
                  have hrw : rowsF cInt [(1 : Int)] = [[.sc (.int .i64 1)]] := rfl
                  dsimp only [aHd, aL] at c8
                  rw [hrw] at c8
                  generalize cmFor ((h, t, la, va, ne, da) : THeader) 0 [1] = cm at *
                  obtain ⟨m1, m2, m3, m4⟩ := cm
                  dsimp only [rowsCm] at c8 cl
                  refine zR ?_
                  refine At.retCu (by rw [Tryz.results63]) hB (hls := ?_) (he := ?_) k4 (((h, t, la, va, ne, da), v2, b2, (m1, m2, m3, m4)) : TBlock) ((hk20).trans hk4) (by refine ⟨⟨⟨?_, ?_⟩, ?_, ?_⟩, ?_, ?_, ?_⟩ <;> dsimp only <;> omega)
                  · rfl
                  · rfl
              · skip
                refine zR ?_
                refine zO ?_
                refine zL ?_
                refine WL.opCu hOn l1Once_s k1 (hk1).ok 3 (by decide) (h := ?_)
                rintro k4 o hk4 -
                refine zL ?_
                refine zE ?_
                cases o with
                | false =>
                  refine zR ?_
                  refine At.retCu (by rw [Tryz.results63]) hB (hls := ?_) (he := ?_) k4 ((((h + 1), t, la, va, ne, da), b1, b2, (ch, cr, ci, cs)) : TBlock) ((hk1).trans hk4) (by refine ⟨⟨⟨?_, ?_⟩, ?_, ?_⟩, ?_, ?_, ?_⟩ <;> dsimp only <;> omega)
                  · rfl
                  · rfl
                | true =>
                  have c8 := mFor_eq (((h + 1), t, la, va, ne, da) : THeader) 0 [1] (by decide) (by decide)
                  have cl : (cmFor (((h + 1), t, la, va, ne, da) : THeader) 0 [1]).2.2.2.length = 1 := rfl
                  have hrw : rowsF cInt [(1 : Int)] = [[.sc (.int .i64 1)]] := rfl
                  dsimp only [aHd, aL] at c8
                  rw [hrw] at c8
                  generalize cmFor (((h + 1), t, la, va, ne, da) : THeader) 0 [1] = cm at *
                  obtain ⟨m1, m2, m3, m4⟩ := cm
                  dsimp only [rowsCm] at c8 cl
                  refine zR ?_
                  refine At.retCu (by rw [Tryz.results63]) hB (hls := ?_) (he := ?_) k4 ((((h + 1), t, la, va, ne, da), b1, b2, (m1, m2, m3, m4)) : TBlock) ((hk1).trans hk4) (by refine ⟨⟨⟨?_, ?_⟩, ?_, ?_⟩, ?_, ?_, ?_⟩ <;> dsimp only <;> omega)
                  · rfl
                  · rfl
end Go.Proofs.YtfgkfcfplodaoaaGreatDoor

end
section
/-!
  A row that holds rows of its own is one that holds data.
-/
namespace Go.Proofs.YtfgkfcfplodaoaaGreatDoor
set_option maxRecDepth 100000
set_option linter.unusedVariables false
set_option linter.unusedSimpArgs false
open Go Go.RowKit
set_option linter.unusedVariables false
section
variable {γ0 : Nat → Option Nat} {w0 : World} {N : Nat} {st : St} {a : Act} {w : World} {Q : Exit → Act → World → Prop} {c : Code} {x : Exit}
theorem R.loose (h : R γ0 w0 N st a w) {n e s : Nat} {rows : List (List Leaf)} (hb : getB st n = some (.arr .nd e s rows)) : R γ0 w0 N (.blk n (.arr .no e s rows) :: st) a w := by
  obtain ⟨η, γ, hI⟩ := h
  have hget : ∀ m, m ≠ n → getB (.blk n (.arr .no e s rows) :: st) m = getB st m := fun m hm => if_neg (fun e => hm e.symm)
  let γ' : Nat → Option Nat := fun b => if γ b = some n ∧ (η n).ownBlock ≠ some b then none else γ b
  have hk : Kp w w γ γ' := ⟨Nat.le_refl _, fun b _ hg => ⟨by simp [γ', hg], rfl⟩⟩
  have hm' : ∀ m b, m ≠ n → γ b = some m → γ' b = some m := fun m b hm hb => by
    simp only [γ']
    rw [if_neg (fun h => hm (by have := h.1; rw [hb] at this; injection this)), hb]
  have hnm : Nm (getB st) (getB (.blk n (.arr .no e s rows) :: st)) η η (fun _ => True) := by
    intro m b' _ hb'
    refine ⟨rfl, ?_⟩
    by_cases hm : m = n
    · subst hm
      rw [hb] at hb'
      cases hb'
      exact ⟨.no, rows, getB_hit _ _ _, rfl⟩
    · cases b' with
      | arr fl e s rows => exact ⟨fl, rows, by rw [hget m hm]; exact hb', rfl⟩
      | box ls => exact ⟨ls, by rw [hget m hm]; exact hb'⟩
  obtain ⟨xs, h1, h2, h3, h4, h5⟩ := hI.blks n _ hb
  refine ⟨η, γ', { hI with slots := fun k => (hI.slots k).kp hnm hk, blks := fun m b' hb' => ?_, live := fun b m hb' => ?_, low := fun b hb hg => ⟨by simp [γ', (hI.low b hb hg).1], (hI.low b hb hg).2⟩, pin := fun h9 b ls hb' hbx => ?_, pinA := hI.pinA.to fun h9 fl e s rows' hbx => ⟨rfl, ?_⟩ }⟩
  · by_cases hm : m = n
    · subst hm
      rw [getB_hit] at hb'
      cases hb'
      refine ⟨xs, h1, h2.kp ⟨Nat.le_refl _, fun b _ hg => ⟨?_, rfl⟩⟩, h3, fun b hb => ?_, ⟨fun e => (by cases e), fun e => (by cases e), fun _ _ e => (by cases e)⟩⟩
      · simp only [vw, Fl.nst, if_true] at hg
        rw [vw_of rfl]
        split at hg
        · rename_i h9
          simp only [γ']
          rw [if_pos h9]
        · cases hg
      · simp only [γ']
        rw [if_neg (fun h => h.2 hb)]
        exact h4 b hb
    · rw [hget m hm] at hb'
      have h1 := hI.blks m b' hb'
      cases b' with
      | box ls => exact RepB.kp_box hnm hk h1 rfl (fun b hb => ⟨hm' m b hm hb, rfl⟩)
      | arr fl e s rows => exact RepB.kp_arr hk h1 rfl (fun b hb => ⟨hm' m b hm hb, rfl⟩)
  · have hg : γ b = some m ∧ (m = n → (η n).ownBlock = some b) := by
      simp only [γ'] at hb'
      split at hb'
      · cases hb'
      · rename_i h9
        refine ⟨hb', fun e' => ?_⟩
        by_cases ho : (η n).ownBlock = some b
        · exact ho
        · exact absurd ⟨e' ▸ hb', ho⟩ h9
    obtain ⟨g1, g2, g3⟩ := hI.live b m hg.1
    by_cases hm : m = n
    · subst hm
      exact ⟨g1, .inl ((hdr_own h1).2 (hg.2 rfl)), by rw [getB_hit]; rfl⟩
    · rw [hget m hm]
      exact ⟨g1, g2, g3⟩
  · have hg : γ b = some 999 := by
      simp only [γ'] at hb'
      split at hb'
      · cases hb'
      · exact hb'
    by_cases hm : (999 : Nat) = n
    · subst hm
      rw [getB_hit] at hbx
      cases hbx
    · rw [hget 999 hm] at hbx
      exact hI.pin h9 b ls hg hbx
  · by_cases hm : (999 : Nat) = n
    · subst hm
      rw [getB_hit] at hbx
      cases hbx
      exact ⟨_, _, hb, rfl⟩
    · rw [hget 999 hm] at hbx
      exact ⟨_, _, hbx, rfl⟩
theorem W.loose (n : Nat) {e s : Nat} {rows : List (List Leaf)} (hb : getB st n = some (.arr .nd e s rows) := by exact evsP) (h : W Tryz.prog γ0 w0 N (.blk n (.arr .no e s rows) :: st) c Q) : W Tryz.prog γ0 w0 N st c Q := fun a w hR => h a w (hR.loose hb)
end
end Go.Proofs.YtfgkfcfplodaoaaGreatDoor

end
