/-
  Put together: PEvDrS PEvRow.
-/
import Derived.Test.YtfgkfcfplodaoaaGreatDoorHPEvDrB
import Derived.Test.YtfgkfcfplodaoaaGreatDoorHPEvDk
section
/-!
  What the law of bisection draws, part 2.
-/
namespace Go.Proofs.YtfgkfcfplodaoaaGreatDoor
set_option maxRecDepth 100000
set_option linter.unusedVariables false
set_option linter.unusedSimpArgs false
open Go Go.RowKit
set_option maxHeartbeats 8000000
set_option linter.unusedVariables false

abbrev bxBk (b : TBlock) : Blk := .box [.sc (.int .i64 b.1.1), .sc (.int .i64 b.1.2.1), .sc (.string b.1.2.2.1), .sc (.string b.1.2.2.2.1), .sc (.string b.1.2.2.2.2.1), .sc (.string b.1.2.2.2.2.2), .sl (rowsF cVal b.2.1), .sl (rowsF cVal b.2.2.1), .sc (.int .i64 b.2.2.2.1), .sc (.int .i64 b.2.2.2.2.1), .sc (.string b.2.2.2.2.2.1), .sl (rowsF cCSig b.2.2.2.2.2.2)]
abbrev bxB0 : Blk := .box [.sc (.int .i64 0), .sc (.int .i64 0), .sc (.string ByteArray.empty), .sc (.string ByteArray.empty), .sc (.string ByteArray.empty), .sc (.string ByteArray.empty), .nil, .nil, .sc (.int .i64 0), .sc (.int .i64 0), .sc (.string ByteArray.empty), .nil]
abbrev drBk (b : TBlock) : List RL := [.ro (.sc (.int .i64 b.1.1)), .ro (.sc (.int .i64 b.1.2.1)), .ro (.sc (.string b.1.2.2.1)), .ro (.sc (.string b.1.2.2.2.1)), .ro (.sc (.string b.1.2.2.2.2.1)), .ro (.sc (.string b.1.2.2.2.2.2)), .ro (.sl (rowsF cVal b.2.1)), .ro (.sl (rowsF cVal b.2.2.1)), .ro (.sc (.int .i64 b.2.2.2.1)), .ro (.sc (.int .i64 b.2.2.2.2.1)), .ro (.sc (.string b.2.2.2.2.2.1)), .ro (.sl (rowsF cCSig b.2.2.2.2.2.2))]
abbrev TDS := TTrust × TAnchor × TBlock × Int
/-- a block with short rows -/
abbrev shBk (b : TBlock) : Prop := ((0 ≤ b.1.1 ∧ b.1.1 ≤ 1001) ∧ 0 ≤ b.1.2.1 ∧ b.1.2.1 ≤ 1001) ∧ b.2.1.length ≤ 100 ∧ b.2.2.1.length ≤ 100 ∧ b.2.2.2.2.2.2.length ≤ 100
def rDS (_ : List Nat) (y : TDS) : Prop := ((0 ≤ y.2.1.1.1 ∧ y.2.1.1.1 ≤ 1000) ∧ y.2.1.2.length ≤ 100) ∧ shBk y.2.2.1
abbrev resDS (_ : List Nat) (y : TDS) : Res := .tup [(true, [.ro (.sc (.int .i64 y.1.1)), .ro (.sc (.int .i64 y.1.2))]), (true, [.ro (.sc (.int .i64 y.2.1.1.1)), .ro (.sc (.int .i64 y.2.1.1.2.1)), .ro (.sc (.string y.2.1.1.2.2.1)), .ro (.sc (.string y.2.1.1.2.2.2.1)), .ro (.sc (.string y.2.1.1.2.2.2.2.1)), .ro (.sc (.string y.2.1.1.2.2.2.2.2)), .ro (.sl (rowsF cVal y.2.1.2))]), (true, drBk y.2.2.1), rSc (.int .i64 y.2.2.2)]
theorem DrawSkip_s : SoundNR Tryz.prog 20 CodeOk (fun bs => [aL cU8 bs]) rDS resDS := by
  refine SoundNR.ofXA Tryz.func20 rfl Tryz.ntmps20 (by decide) ?_
  rintro bs v w hcode
  simp only [initX]
  have hΓ : GSound Tryz.prog (look [(44, mFor), (43, mVHash)]) := env_cons (has_of Tryz.func44 rfl rfl) for_s (env_cons (has_of Tryz.func43 rfl rfl) vhashS_s env_nil)
  have hNw : Has Tryz.prog 54 := has_of Tryz.func54 rfl rfl
  have hCh : Has Tryz.prog 62 := has_of Tryz.func62 rfl rfl
  have hBe : Has Tryz.prog 56 := has_of Tryz.func56 rfl rfl
  have hOn : Has Tryz.prog 55 := has_of Tryz.func55 rfl rfl
  have hBn : Has Tryz.prog 63 := has_of Tryz.func63 rfl rfl
  have hAt : Has Tryz.prog 67 := has_of Tryz.func67 rfl rfl
  have hTr : Has Tryz.prog 68 := has_of Tryz.func68 rfl rfl
  have hcu := lsNms_cu
  have hck := kill_cu
  refine zR ?_
  refine zO ?_
  refine zL ?_
  refine WL.opNew hNw l1New_s v bs hcode (h := ?_)
  intro k0 hk0
  refine zL ?_
  refine zE ?_
  refine zR ?_
  refine zO ?_
  refine zL ?_
  refine WL.opCuF hCh l32Chain_s k0 hk0 () trivial (ha := rfl) (h := ?_)
  rintro k1 ⟨l, ⟨⟨ah, at', al, av, an, ad⟩, nx⟩⟩ hk1 ⟨⟨⟨hl1, hl7⟩, hsm⟩, ⟨ha0, ha1⟩, hnx⟩
  dsimp only at hl1 hl7 hsm ha0 ha1 hnx
  have hll := bkRows_len l
  refine zL ?_
  refine zE ?_
  refine W.frzB 8 (h := ?_)
  refine zR ?_
  refine zO ?_
  refine zL ?_
  refine WL.opCu hBe l1Below_s k1 hk1.ok (l.length : Int) ⟨by omega, by omega⟩ (h := ?_)
  rintro k2 r hk2 ⟨hr0, hr1, -⟩
  replace hr1 : r < (l.length : Int) := hr1 (by omega)
  have hk20 := hk1.trans hk2
  obtain ⟨i, rfl⟩ : ∃ i : Nat, r = i := ⟨r.toNat, by omega⟩
  have hi : i < l.length := by omega
  have hrow := bkRows_get hi
  have hsi := hsm l[i] (List.getElem_mem hi)
  generalize l[i] = b at *
  dsimp only [bkRow] at hrow
  refine zL ?_
  refine zE ?_
  refine W.subA [.slot 2 (one (.ptr 2 0)), .blk 2 (bxT 0 0), .slot 3 (one (.ptr 3 0)), .blk 3 bxA0, .slot 4 (one (.ptr 4 0)), .blk 4 bxB0, .slot 6 (one (.ptr 12 0)), .blk 12 (.box (cuL k2)), .slot 8 (one (.ptr 8 0)), .blk 8 (bxAn ((ah, at', al, av, an, ad), nx)), .slot 9 (one (.ptr 9 0)), .blk 9 (bxBk b)] (h := ?_)
  clear hrow hi hll hsm
  refine zR ?_
  refine zO ?_
  refine zL ?_
  refine WL.opCu hOn l1Once_s k2 hk20.ok 4 (by decide) (h := ?_)
  rintro k3 o hk3 -
  have hk30 := hk20.trans hk3
  refine zL ?_
  refine zE ?_
  refine W.meet (c := ?codeK) (Q := ?postK) (fun x : Cu × TBlock => CuTo k0 x.1 ∧ shBk x.2) (fun x => [.slot 2 (one (.ptr 2 0)), .blk 2 (bxT 0 0), .slot 3 (one (.ptr 3 0)), .blk 3 bxA0, .slot 4 (one (.ptr 4 0)), .blk 4 bxB0, .slot 6 (one (.ptr 12 0)), .blk 12 (.box (cuL x.1)), .slot 8 (one (.ptr 8 0)), .blk 8 (bxAn ((ah, at', al, av, an, ad), nx)), .slot 9 (one (.ptr 9 0)), .blk 9 (bxBk x.2)]) ?main ?part
  case main =>
    intro key
    cases o with
    | false =>
      refine zR ?_
      refine W.subA [.slot 2 (one (.ptr 2 0)), .blk 2 (bxT 0 0), .slot 3 (one (.ptr 3 0)), .blk 3 bxA0, .slot 4 (one (.ptr 4 0)), .blk 4 bxB0, .slot 6 (one (.ptr 12 0)), .blk 12 (.box (cuL k3)), .slot 8 (one (.ptr 8 0)), .blk 8 (bxAn ((ah, at', al, av, an, ad), nx)), .slot 9 (one (.ptr 9 0)), .blk 9 (bxBk b)] (h := ?_)
      exact key (k3, b) ⟨hk30, smBk_up hsi⟩
    | true =>
      refine zR ?_
      refine zO ?_
      refine zL ?_
      refine WL.opCu hBn bent_s k3 hk30.ok b hsi (h := ?_)
      rintro k4 b4 hk4 hb4
      replace hb4 : smBk 1001 b4 := hb4
      refine zL ?_
      refine zE ?_
      refine zR ?_
      refine W.frzB 9 (h := ?_)
      refine W.subA [.slot 2 (one (.ptr 2 0)), .blk 2 (bxT 0 0), .slot 3 (one (.ptr 3 0)), .blk 3 bxA0, .slot 4 (one (.ptr 4 0)), .blk 4 bxB0, .slot 6 (one (.ptr 12 0)), .blk 12 (.box (cuL k4)), .slot 8 (one (.ptr 8 0)), .blk 8 (bxAn ((ah, at', al, av, an, ad), nx)), .slot 9 (one (.ptr 9 0)), .blk 9 (bxBk b4)] (h := ?_)
      exact key (k4, b4) ⟨hk30.trans hk4, hb4⟩
  case part =>
    clear hsi hk20 hk30 hk3 hk2 hk1
    clear b
    rintro ⟨k, b⟩ ⟨hk, hb⟩
    dsimp only at hk hb ⊢
    refine zR ?_
    refine zO ?_
    refine zL ?_
    refine WL.opCu hOn l1Once_s k hk.ok 3 (by decide) (h := ?_)
    rintro k5 o hk5 -
    have hk50 := hk.trans hk5
    refine zL ?_
    refine zE ?_
    refine W.meet (c := ?codeM) (Q := ?postM) (fun x : Cu × TBlock => CuTo k0 x.1 ∧ shBk x.2) (fun x => [.slot 2 (one (.ptr 2 0)), .blk 2 (bxT 0 0), .slot 3 (one (.ptr 3 0)), .blk 3 bxA0, .slot 4 (one (.ptr 4 0)), .blk 4 bxB0, .slot 6 (one (.ptr 12 0)), .blk 12 (.box (cuL x.1)), .slot 8 (one (.ptr 8 0)), .blk 8 (bxAn ((ah, at', al, av, an, ad), nx)), .slot 9 (one (.ptr 9 0)), .blk 9 (bxBk x.2)]) ?mainM ?partM
    case mainM =>
      intro key
      cases o with
      | false =>
        refine zR ?_
        refine W.subA [.slot 2 (one (.ptr 2 0)), .blk 2 (bxT 0 0), .slot 3 (one (.ptr 3 0)), .blk 3 bxA0, .slot 4 (one (.ptr 4 0)), .blk 4 bxB0, .slot 6 (one (.ptr 12 0)), .blk 12 (.box (cuL k5)), .slot 8 (one (.ptr 8 0)), .blk 8 (bxAn ((ah, at', al, av, an, ad), nx)), .slot 9 (one (.ptr 9 0)), .blk 9 (bxBk b)] (h := ?_)
        exact key (k5, b) ⟨hk50, hb⟩
      | true =>
        obtain ⟨⟨h, t, la, va, ne, da⟩, b1, b2, ⟨ch, cr, ci, cs⟩⟩ := b
        obtain ⟨⟨⟨h0, h1⟩, t0, t1⟩, l1, l2, l3⟩ := hb
        dsimp only at h0 h1 t0 t1 l1 l2 l3
        have c5 := mVHash_eq [(5, 1), (6, 1)] (by decide)
        have hrv : rowsF cVal [((5 : Int), (1 : Int)), (6, 1)] = [[.sc (.int .i64 5), .sc (.int .i64 1)], [.sc (.int .i64 6), .sc (.int .i64 1)]] := rfl
        have hrv2 : rowsF cVal [((5 : Int), (1 : Int)), (6, 1)] = [[.sc (.int .i64 5), .sc (.int .i64 1)], [.sc (.int .i64 6), .sc (.int .i64 1)]] := rfl
        dsimp only [aL] at c5
        rw [hrv] at c5
        generalize vhash [((5 : Int), (1 : Int)), (6, 1)] = vh at *
        have c8 := mFor_eq ((h, t, la, va, ne, da) : THeader) 0 [5, 6] (by decide) (by decide)
        have c9 := mFor_eq ((h, t, la, vh, ne, da) : THeader) 0 [5, 6] (by decide) (by decide)
        have cl : (cmFor ((h, t, la, vh, ne, da) : THeader) 0 [5, 6]).2.2.2.length = 2 := rfl
        have hrw : rowsF cInt [(5 : Int), 6] = [[.sc (.int .i64 5)], [.sc (.int .i64 6)]] := rfl
        dsimp only [aHd, aL] at c8 c9
        rw [hrw] at c8 c9
        generalize cmFor ((h, t, la, va, ne, da) : THeader) 0 [5, 6] = cm at *
        generalize cmFor ((h, t, la, vh, ne, da) : THeader) 0 [5, 6] = cn at *
        obtain ⟨m1, m2, m3, m4⟩ := cm
        obtain ⟨n1, n2, n3, n4⟩ := cn
        dsimp only [rowsCm] at c8 c9 cl
        refine zR ?_
        refine W.frzB 9 (h := ?_)
        refine W.subA [.slot 2 (one (.ptr 2 0)), .blk 2 (bxT 0 0), .slot 3 (one (.ptr 3 0)), .blk 3 bxA0, .slot 4 (one (.ptr 4 0)), .blk 4 bxB0, .slot 6 (one (.ptr 12 0)), .blk 12 (.box (cuL k5)), .slot 8 (one (.ptr 8 0)), .blk 8 (bxAn ((ah, at', al, av, an, ad), nx)), .slot 9 (one (.ptr 9 0)), .blk 9 (bxBk (((h, t, la, vh, ne, da), [((5 : Int), (1 : Int)), (6, 1)], b2, (n1, n2, n3, n4)) : TBlock))] (h := ?_)
        exact key (k5, ((h, t, la, vh, ne, da), [(5, 1), (6, 1)], b2, (n1, n2, n3, n4))) ⟨hk50, ⟨⟨h0, h1⟩, t0, t1⟩, by simp, l2, by dsimp only; omega⟩
    case partM =>
      clear hb hk hk50 hk5
      clear b
      rintro ⟨k, b⟩ ⟨hk, hb⟩
      dsimp only at hk hb ⊢
      obtain ⟨⟨h, t, la, va, ne, da⟩, b1, b2, ⟨ch, cr, ci, cs⟩⟩ := b
      obtain ⟨⟨⟨h0, h1⟩, t0, t1⟩, l1, l2, l3⟩ := hb
      dsimp only at h0 h1 t0 t1 l1 l2 l3
      refine zR ?_
      refine W.oneA hΓ 7 [[], [0], [0, 1], [], [3], [0, 1, 2, 3, 4], [0, 1, 2, 3, 4, 5]] 4 hBe l1Below_s k hk.ok 6 (by decide) (fun r => vI r) (EsA := ?EsA26) (EsB := ?EsB26) (restA := ?rA26) (rest := ?rest26) (stX := ?stX26) (d := ?d26) (t0 := ?t026) (xs := ?xs26) (ts := ?ts26) (ty := ?ty26) (pos := ?pos26) (after := ?after26) (m := 12) (h := ?h26) (hxp := by decide) (hoX := ?hoX26) (hN := ?hN26) (hfA := ?hfA26) (hpA := ?hpA26) (hdA := ?hdA26) (hfrA := ?hfr26) (hneA := ?hne26) (hpk := ?hpk26) (ht := ?ht26) (hb := ?hb26) (ha := ?ha26) (hst := ?hst26) (hB := ?hB26)
      case h26 => kernel_rfl
      case hoX26 => rfl
      case hN26 => decide
      case hfA26 =>
        repeat (first | refine FlowX.skA 4 (h := ?_) | refine FlowX.opA (h := ?_))
        exact FlowX.done
      case hpA26 => rfl
      case hdA26 => rfl
      case hfr26 => rfl
      case hne26 => rfl
      case hpk26 =>
        simp (disch := decide) only [pick_nil, pick_t, pick_f, List.cons_append, List.nil_append, Nat.reduceAdd]
        rfl
      case ht26 => exact evsP
      case hb26 => exact evcP
      case ha26 =>
        intro st
        exact evcP
      case hst26 =>
        intro c' b st
        exact evcP
      rotate_left 2
      intro k6 r hk6 hrel
      obtain ⟨hr0, hr1, -⟩ := hrel
      replace hr1 : r < 6 := hr1 (by decide)
      have hk60 := hk.trans hk6
      refine ⟨?_, ?_, ?_, ?_, ?_, ?_, ?_, ?_⟩
      · repeat (first | refine FlowX.skB 4 (h := ?_) | refine FlowX.opA (h := ?_))
        exact FlowX.done
      · rfl
      · rfl
      · rfl
      · rfl
      · rfl
      · rfl
      refine WL.cast (st' := ?stQ) ?hstQ ?hwQ
      case hstQ =>
        simp only [pick_nil, pick_all, List.cons_append, List.nil_append]
        rfl
      with_reducible apply WL.nil
      refine zR ?_
      refine zO ?_
      refine zL ?_
      refine WL.opCu hOn l1Once_s k6 hk60.ok 8 (by decide) (h := ?_)
      rintro k7 o hk7 -
      have hk70 := hk60.trans hk7
      refine zL ?_
      refine zE ?_
      refine W.meet (c := ?codeP) (Q := ?postP) (fun x : Cu × Int => CuTo k0 x.1) (fun x => [.slot 2 (one (.ptr 2 0)), .blk 2 (bxT 0 0), .slot 3 (one (.ptr 3 0)), .blk 3 bxA0, .slot 4 (one (.ptr 4 0)), .blk 4 bxB0, .slot 6 (one (.ptr 12 0)), .blk 12 (.box (cuL x.1)), .slot 8 (one (.ptr 8 0)), .blk 8 (bxAn ((ah, at', al, av, an, ad), nx)), .slot 9 (one (.ptr 9 0)), .blk 9 (bxBk (((h, t, la, va, ne, da), b1, b2, (ch, cr, ci, cs)) : TBlock)), .slot 10 (vI x.2)]) ?mainP ?partP
      case mainP =>
        intro key
        cases o with
        | false =>
          refine zR ?_
          refine W.subA [.slot 2 (one (.ptr 2 0)), .blk 2 (bxT 0 0), .slot 3 (one (.ptr 3 0)), .blk 3 bxA0, .slot 4 (one (.ptr 4 0)), .blk 4 bxB0, .slot 6 (one (.ptr 12 0)), .blk 12 (.box (cuL k7)), .slot 8 (one (.ptr 8 0)), .blk 8 (bxAn ((ah, at', al, av, an, ad), nx)), .slot 9 (one (.ptr 9 0)), .blk 9 (bxBk (((h, t, la, va, ne, da), b1, b2, (ch, cr, ci, cs)) : TBlock)), .slot 10 (vI (t + r))] (h := ?_)
          exact key (k7, t + r) hk70
        | true =>
          refine zR ?_
          refine zO ?_
          refine zL ?_
          refine WL.opCu hAt l10At_s k7 hk70.ok () trivial (ha := rfl) (h := ?_)
          rintro k8 n hk8 -
          refine zL ?_
          refine zE ?_
          refine zR ?_
          refine W.subA [.slot 2 (one (.ptr 2 0)), .blk 2 (bxT 0 0), .slot 3 (one (.ptr 3 0)), .blk 3 bxA0, .slot 4 (one (.ptr 4 0)), .blk 4 bxB0, .slot 6 (one (.ptr 12 0)), .blk 12 (.box (cuL k8)), .slot 8 (one (.ptr 8 0)), .blk 8 (bxAn ((ah, at', al, av, an, ad), nx)), .slot 9 (one (.ptr 9 0)), .blk 9 (bxBk (((h, t, la, va, ne, da), b1, b2, (ch, cr, ci, cs)) : TBlock)), .slot 10 (vI n)] (h := ?_)
          exact key (k8, n) (hk70.trans hk8)
      case partP =>
        clear hk70 hk7 hk60 hk6 hk
        rintro ⟨k, n⟩ hk
        dsimp only at hk ⊢
        refine zR ?_
        refine W.ph13C (d1 := ?d1) (m := 12) (t1 := ?t1) (n2 := ?n2) (n3 := ?n3) (n4 := ?n4) (xs1 := ?xs1) (ts1 := ?ts1) (ty1 := ?ty1) (ty2 := ?ty2) (ty3 := ?ty3) (ty4 := ?ty4) (t2 := ?t2) (t3 := ?t3) (t4 := ?t4) (po1 := ?po1) (po2 := ?po2) (po3 := ?po3) (po4 := ?po4) (af1 := ?af1) (af2 := ?af2) (af3 := ?af3) (af4 := ?af4) (xo2 := ?xo2) (yo2 := ?yo2) (xo3 := ?xo3) (yo3 := ?yo3) (xo4 := ?xo4) (yo4 := ?yo4) (E0 := ?E0) (E1 := ?E1) (E2 := ?E2) (E3 := ?E3) (E4 := ?E4) (k2 := ?k2) (k3 := ?k3) (k4 := ?k4) follows_mixed hΓ 9 1 5 6 7 [[], [0], [], [], [], [0, 1], [0, 1, 2, 5], [0, 1, 2, 3, 5, 6], [0, 1, 2, 3, 4, 5, 6, 7]] hTr l10Trust_s k hk.ok () trivial (v := fun r => .comp true [.sc (.int .i64 r.1), .sc (.int .i64 r.2)]) ?h (by decide) (by decide) (by decide) (by decide) (by decide) (by decide) (by decide) (by decide) (by decide) (ho1 := ?ho1) (ho2 := ?ho2) (ho3 := ?ho3) (ho4 := ?ho4) (hN1 := ?hN1) (hb := ?hb) (ha1 := ?ha1) (hst1 := ?hst1) (S0 := ?S0) (S1 := ?S1) (S2 := ?S2) (S3 := ?S3) (S4 := ?S4) (hT := ?hT)
        case h => kernel_rfl
        case ho1 => rfl
        case ho2 => rfl
        case ho3 => rfl
        case ho4 => rfl
        case hN1 => decide
        case hb => exact evsP
        case ha1 =>
          intro st
          rfl
        case hst1 =>
          intro c' b st
          dsimp only [stC]
          exact evcP
        case S0 =>
          refine ⟨stepsX_of (rest := ?r0) (by kernel_rfl) ?f0 ?yp0 ?yd0 ?ye0, ?yn0, ?g0⟩
          case f0 =>
            iterate 9 (first | refine FlowX.skP [1, 5, 6, 7] [1, 5, 6, 7] (h := ?_) | refine FlowX.opA (h := ?_))
            exact FlowX.done
          case yp0 => rfl
          case yd0 => rfl
          case ye0 => rfl
          case yn0 => rfl
          case g0 =>
            simp (disch := decide) only [pick_nil, pick_t, pick_f, List.cons_append, List.nil_append, Nat.reduceAdd]
            exact evsP
        case S1 =>
          intro c1 tr q1 rt
          dsimp only [stC]
          refine ⟨stepsX_of (rest := ?r1) (by kernel_rfl) ?f1 ?yp1 ?yd1 ?ye1, ?yn1, ?g1, emp_at ?z11, ?z12, ?z13⟩
          case f1 =>
            iterate 9 (first | refine FlowX.skP [1, 5, 6, 7] [5, 6, 7] (h := ?_) | refine FlowX.opA (h := ?_))
            exact FlowX.done
          case yp1 => rfl
          case yd1 => rfl
          case ye1 => rfl
          case yn1 => rfl
          case z11 => rfl
          case z12 => rfl
          case z13 => rfl
          case g1 =>
            simp (disch := decide) only [pick_nil, pick_t, pick_f, List.cons_append, List.nil_append, Nat.reduceAdd]
            unfold storeL
            exact evxP
        case S2 =>
          intro c1 tr q1 rt
          dsimp only [stC]
          refine ⟨stepsX_of (rest := ?r2) (by kernel_rfl) ?f2 ?yp2 ?yd2 ?ye2, ?yn2, ?g2, emp_at ?z21, ?z22⟩
          case f2 =>
            iterate 9 (first | refine FlowX.skP [1, 5, 6, 7] [6, 7] (h := ?_) | refine FlowX.opA (h := ?_))
            exact FlowX.done
          case yp2 => rfl
          case yd2 => rfl
          case ye2 => rfl
          case yn2 => rfl
          case z21 => rfl
          case z22 => rfl
          case g2 =>
            simp (disch := decide) only [pick_nil, pick_t, pick_f, List.cons_append, List.nil_append, Nat.reduceAdd]
            unfold storeL
            exact evxP
        case S3 =>
          intro c1 tr q1 rt
          dsimp only [stC]
          refine ⟨stepsX_of (rest := ?r3) (by kernel_rfl) ?f3 ?yp3 ?yd3 ?ye3, ?yn3, ?g3, emp_at ?z31, ?z32⟩
          case f3 =>
            iterate 9 (first | refine FlowX.skP [1, 5, 6, 7] [7] (h := ?_) | refine FlowX.opA (h := ?_))
            exact FlowX.done
          case yp3 => rfl
          case yd3 => rfl
          case ye3 => rfl
          case yn3 => rfl
          case z31 => rfl
          case z32 => rfl
          case g3 =>
            simp (disch := decide) only [pick_nil, pick_t, pick_f, List.cons_append, List.nil_append, Nat.reduceAdd]
            unfold storeL
            exact evxP
        case S4 =>
          intro c1 tr q1 rt
          dsimp only [stC]
          refine ⟨stepsX_of (rest := ?r4) (by kernel_rfl) ?f4 ?yp4 ?yd4 ?ye4, ?yn4, emp_at ?z41, ?z42⟩
          case f4 =>
            iterate 9 (first | refine FlowX.skP [1, 5, 6, 7] [] (h := ?_) | refine FlowX.opA (h := ?_))
            exact FlowX.done
          case yp4 => rfl
          case yd4 => rfl
          case ye4 => rfl
          case yn4 => rfl
          case z41 => rfl
          case z42 => rfl
        case hT =>
          intro c1 tr q1 rt
          dsimp only [stC]
          refine WL.cast (st' := ?stR) ?hstR ?hwR
          case hstR =>
            simp only [pick_nil, pick_all, List.cons_append, List.nil_append]
            rfl
          simp only [List.drop_succ_cons, List.drop_zero]
          refine zL ?_
          refine zE ?_
          refine zR ?_
          refine At.retNRA (by rw [Tryz.results20]) (he := ?_) (tr, ((ah, at', al, av, an, ad), nx), (((h, t, la, va, ne, da), b1, b2, (ch, cr, ci, cs)) : TBlock), n) ⟨⟨⟨ha0, ha1⟩, hnx⟩, ⟨⟨h0, h1⟩, t0, t1⟩, l1, l2, l3⟩
          rfl
end Go.Proofs.YtfgkfcfplodaoaaGreatDoor

end
section
/-!
  A variable that is only read from now on: its address is a pointer to data.
-/
namespace Go.Proofs.YtfgkfcfplodaoaaGreatDoor
set_option maxRecDepth 100000
set_option linter.unusedVariables false
set_option linter.unusedSimpArgs false
open Go Go.RowKit
set_option linter.unusedVariables false
section
variable {P : Program} {γ0 : Nat → Option Nat} {w0 : World} {N : Nat} {st : St} {a : Act} {w : World} {Q : Exit → Act → World → Prop} {c : Code}
theorem R.rowB (h : R γ0 w0 N st a w) {t n : Nat} {ls : List PL} {xs : List Leaf} (ht : getS st t = one (.ptr n 0)) (hb : getB st n = some (.box ls)) (hx : dtLs ls = some xs) : R γ0 w0 N (.slot t (one (.prow xs 0)) :: .kill n :: st) a w := by
  obtain ⟨η, γ, hI⟩ := h
  have h1 := hI.drop n
  have hu := hI.slots t
  rw [ht] at hu
  obtain ⟨ls', b', h3, h4, h5⟩ := RepV.one_iff.1 hu
  obtain ⟨b, us, ty, g1, g2, g3, g4⟩ := hI.blks n _ hb
  rw [g1] at h4
  have hbb : b = b' := by cases h4; rfl
  subst hbb
  have hk : Kp w w γ (fun b => if γ b = some n then none else γ b) := ⟨Nat.le_refl _, fun b _ hg => ⟨by simp [hg], rfl⟩⟩
  refine ⟨η, _, { h1 with slots := fun k => ?_ }⟩
  show RepV (getB (.kill n :: st)) η _ w (if t = k then one (.prow xs 0) else getS (.kill n :: st) k) (a.tmps.getD k undef)
  by_cases e : t = k
  · subst e
    rw [if_pos rfl]
    refine RepV.one_iff.2 ⟨b, 0, us.toList, by simp [g2], heap_lt g3, h5, (dtLs_sound g4 hx).kp hk, fun j v hj => ?_⟩
    have hj' : us[j]? = some v := by simpa using hj
    simp [World.cell?, g3, hj']
  · rw [if_neg e]
    exact h1.slots k
end
section
variable {γ0 : Nat → Option Nat} {w0 : World} {N : Nat} {st : St} {Q : Exit → Act → World → Prop} {c : Code}
theorem W.rowB (t n : Nat) {ls : List PL} {xs : List Leaf} (ht : getS st t = one (.ptr n 0) := by exact evsP) (hb : getB st n = some (.box ls) := by exact evsP) (hx : dtLs ls = some xs := by rfl)
    (h : W Tryz.prog γ0 w0 N (.slot t (one (.prow xs 0)) :: .kill n :: st) c Q) : W Tryz.prog γ0 w0 N st c Q := fun a w hR => h a w (R.rowB hR ht hb hx)
end
end Go.Proofs.YtfgkfcfplodaoaaGreatDoor

end
