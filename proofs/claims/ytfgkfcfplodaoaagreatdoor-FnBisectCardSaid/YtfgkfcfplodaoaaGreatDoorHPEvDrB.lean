/-
  What the law of bisection draws, part 1.
-/
import Derived.Test.YtfgkfcfplodaoaaGreatDoorG36
import Derived.Test.YtfgkfcfplodaoaaGreatDoorHPEvPh2
import Derived.Test.YtfgkfcfplodaoaaGreatDoorHPEvDk
namespace Go.Proofs.YtfgkfcfplodaoaaGreatDoor
set_option maxRecDepth 100000
set_option linter.unusedVariables false
set_option linter.unusedSimpArgs false
open Go Go.RowKit
set_option maxHeartbeats 8000000
set_option linter.unusedVariables false

section
variable {P : Program} {Γ : Models} {γ0 : Nat → Option Nat} {w0 : World} {N : Nat} {Q : Exit → Act → World → Prop} {l : List Oper} {p : Nat} {As : List (List Nat)} {Es : List (List Entry)} {st0 : St}
theorem stepsX_of (h : chk l p As = true) {rest : List Oper} (hF : FlowX P Γ N l.toArray As st0 0 l [] Es rest) (hp : p + rest.length = l.length) (hd : distB Es = true) (hfr : freeB st0 Es = true) : StepsX P Γ N l p As st0 Es := (flowX_all h hF hp hd hfr).1
theorem FlowX.skP {ops : Array Oper} {st0 : St} (xs un : List Nat) {i : Nat} {o : Oper} {r rest : List Oper} {Es Es' F : List (List Entry)} (hk : (xs.contains i || un.any fun x => (ancO As i).contains x) = true := by decide) (hE : Es ++ [[]] = Es' := by simp only [List.cons_append, List.nil_append]; rfl)
    (h : FlowX P Γ N ops As st0 (i + 1) r Es' F rest) : FlowX P Γ N ops As st0 i (o :: r) Es F rest := .skip (hE ▸ h)
theorem emp_at {x : Nat} (h : Es[x]? = some []) : ∀ j E, Es[j]? = some E → j = x → E = [] := fun j E hj e => by
  subst e
  rw [h] at hj
  cases hj
  rfl
end
abbrev bxAn (a : TAnchor) : Blk := .box [.sc (.int .i64 a.1.1), .sc (.int .i64 a.1.2.1), .sc (.string a.1.2.2.1), .sc (.string a.1.2.2.2.1), .sc (.string a.1.2.2.2.2.1), .sc (.string a.1.2.2.2.2.2), .sl (rowsF cVal a.2)]
abbrev bxA0 : Blk := .box [.sc (.int .i64 0), .sc (.int .i64 0), .sc (.string ByteArray.empty), .sc (.string ByteArray.empty), .sc (.string ByteArray.empty), .sc (.string ByteArray.empty), .nil]
theorem smBk_up {b : TBlock} (h : smBk 1000 b) : smBk 1001 b := ⟨⟨⟨h.1.1.1, by have := h.1.1.2; omega⟩, h.1.2.1, by have := h.1.2.2; omega⟩, h.2⟩
theorem bkRows_set (l : List TBlock) (k : Nat) (b : TBlock) : (bkRows l).set k (bkRow b) = bkRows (l.set k b) := by
  unfold bkRows
  rw [List.map_set]
theorem bkRows_cut (l : List TBlock) (k : Nat) : (bkRows l).take k ++ ((bkRows l).drop (k + 1)).take (l.length - (k + 1)) = bkRows (l.take k ++ l.drop (k + 1)) := by
  unfold bkRows
  rw [List.take_of_length_le (i := l.length - (k + 1)) (by simp), List.map_append, List.map_take, List.map_drop]
abbrev TDB := TTrust × TAnchor × List TBlock × Int × Int
def rDB (_ : List Nat) (y : TDB) : Prop := ((0 ≤ y.2.1.1.1 ∧ y.2.1.1.1 ≤ 1000) ∧ y.2.1.2.length ≤ 100) ∧ (y.2.2.1.length ≤ 7 ∧ ∀ b ∈ y.2.2.1, smBk 1001 b) ∧ (0 ≤ y.2.2.2.1 ∧ y.2.2.2.1 ≤ 100)
abbrev resDB (_ : List Nat) (y : TDB) : Res := .tup [(true, [.ro (.sc (.int .i64 y.1.1)), .ro (.sc (.int .i64 y.1.2))]), (true, [.ro (.sc (.int .i64 y.2.1.1.1)), .ro (.sc (.int .i64 y.2.1.1.2.1)), .ro (.sc (.string y.2.1.1.2.2.1)), .ro (.sc (.string y.2.1.1.2.2.2.1)), .ro (.sc (.string y.2.1.1.2.2.2.2.1)), .ro (.sc (.string y.2.1.1.2.2.2.2.2)), .ro (.sl (rowsF cVal y.2.1.2))]), (false, [.own .no 36 12 (bkRows y.2.2.1)]), rSc (.int .i64 y.2.2.2.1), rSc (.int .i64 y.2.2.2.2)]
theorem DrawBisect_s : SoundNR Tryz.prog 18 CodeOk (fun bs => [aL cU8 bs]) rDB resDB := by
  refine SoundNR.ofXA Tryz.func18 rfl Tryz.ntmps18 (by decide) ?_
  rintro bs v w hcode
  simp only [initX]
  have hΓ : GSound Tryz.prog (look []) := env_nil
  have hNw : Has Tryz.prog 54 := has_of Tryz.func54 rfl rfl
  have hCh : Has Tryz.prog 62 := has_of Tryz.func62 rfl rfl
  have hBe : Has Tryz.prog 56 := has_of Tryz.func56 rfl rfl
  have hOn : Has Tryz.prog 55 := has_of Tryz.func55 rfl rfl
  have hBn : Has Tryz.prog 63 := has_of Tryz.func63 rfl rfl
  have hcu := lsNms_cu
  have hck := kill_cu
  refine zR ?_
  refine zO ?_
  refine zL ?_
  refine WL.opNew hNw l1New_s v bs hcode (h := ?_)
  intro k0 hk0
  refine zL ?_
  refine zE ?_
  refine zR ?_
  refine zO ?_
  refine zL ?_
  refine WL.opCuF hCh l32Chain_s k0 hk0 () trivial (ha := rfl) (h := ?_)
  rintro k1 ⟨l, ⟨⟨ah, at', al, av, an, ad⟩, nx⟩⟩ hk1 ⟨⟨⟨hl1, hl7⟩, hsm⟩, ⟨ha0, ha1⟩, hnx⟩
  dsimp only at hl1 hl7 hsm ha0 ha1 hnx
  have hll := bkRows_len l
  refine zL ?_
  refine zE ?_
  refine W.frzB 9 (h := ?_)
  refine zR ?_
  refine zO ?_
  refine zL ?_
  refine WL.opCu hBe l1Below_s k1 hk1.ok ((l.length : Int) + 1) ⟨by omega, by omega⟩ (h := ?_)
  rintro k2 to hk2 ⟨ht0, ht1, -⟩
  replace ht1 : to < (l.length : Int) + 1 := ht1 (by omega)
  have hk20 := hk1.trans hk2
  refine zL ?_
  refine zE ?_
  refine zR ?_
  refine zO ?_
  refine zL ?_
  refine WL.opCu hOn l1Once_s k2 hk20.ok 3 (by decide) (h := ?_)
  rintro k3 o hk3 -
  have hk30 := hk20.trans hk3
  refine zL ?_
  refine zE ?_
  refine W.meet (c := ?codeK) (Q := ?postK) (fun x : Cu × List TBlock => CuTo k0 x.1 ∧ x.2.length = l.length ∧ ∀ b ∈ x.2, smBk 1001 b) (fun x => [.slot 2 (one (.ptr 2 0)), .blk 2 (bxT 0 0), .slot 3 (one (.ptr 3 0)), .blk 3 bxA0, .slot 7 (one (.ptr 14 0)), .blk 14 (.box (cuL x.1)), .slot 8 (one (.all 17)), .blk 17 (.arr .no 36 12 (bkRows x.2)), .slot 9 (one (.ptr 9 0)), .blk 9 (bxAn ((ah, at', al, av, an, ad), nx)), .slot 10 (vI (1 + to))]) ?main ?part
  case main =>
    intro key
    cases o with
    | false =>
      refine zR ?_
      refine W.subA [.slot 2 (one (.ptr 2 0)), .blk 2 (bxT 0 0), .slot 3 (one (.ptr 3 0)), .blk 3 bxA0, .slot 7 (one (.ptr 14 0)), .blk 14 (.box (cuL k3)), .slot 8 (one (.all 17)), .blk 17 (.arr .no 36 12 (bkRows l)), .slot 9 (one (.ptr 9 0)), .blk 9 (bxAn ((ah, at', al, av, an, ad), nx)), .slot 10 (vI (1 + to))] (h := ?_)
      exact key (k3, l) ⟨hk30, rfl, fun b hb => smBk_up (hsm b hb)⟩
    | true =>
      refine zR ?_
      refine zO ?_
      refine zL ?_
      refine WL.opCu hBe l1Below_s k3 hk30.ok (l.length : Int) ⟨by omega, by omega⟩ (h := ?_)
      rintro k4 r hk4 ⟨hr0, hr1, -⟩
      replace hr1 : r < (l.length : Int) := hr1 (by omega)
      obtain ⟨i, rfl⟩ : ∃ i : Nat, r = i := ⟨r.toNat, by omega⟩
      have hi : i < l.length := by omega
      have hrow := bkRows_get hi
      have hsi := hsm l[i] (List.getElem_mem hi)
      refine zL ?_
      refine zE ?_
      refine zR ?_
      refine zO ?_
      refine zL ?_
      refine WL.opCu hBn bent_s k4 (hk30.trans hk4).ok l[i] hsi (h := ?_)
      rintro k5 b5 hk5 hb5
      replace hb5 : smBk 1001 b5 := hb5
      have hset := bkRows_set l i b5
      refine zL ?_
      refine zE ?_
      refine zR ?_
      refine W.subA [.slot 2 (one (.ptr 2 0)), .blk 2 (bxT 0 0), .slot 3 (one (.ptr 3 0)), .blk 3 bxA0, .slot 7 (one (.ptr 14 0)), .blk 14 (.box (cuL k5)), .slot 8 (one (.all 17)), .blk 17 (.arr .no 36 12 (bkRows (l.set i b5))), .slot 9 (one (.ptr 9 0)), .blk 9 (bxAn ((ah, at', al, av, an, ad), nx)), .slot 10 (vI (1 + to))] (h := ?_)
      exact key (k5, l.set i b5) ⟨(hk30.trans hk4).trans hk5, by simp, fun b hb => by
        rcases List.mem_or_eq_of_mem_set hb with h | h
        · exact smBk_up (hsm b h)
        · rw [h]; exact hb5⟩
  case part =>
    rintro ⟨k, l⟩ ⟨hk, hlk, hsk⟩
    dsimp only at hk hlk hsk ⊢
    have hll := bkRows_len l
    have hb1 : 1 ≤ l.length := by omega
    have hb7 : l.length ≤ 7 := by omega
    clear hlk
    refine zR ?_
    refine zO ?_
    refine zL ?_
    refine WL.opCu hOn l1Once_s k hk.ok 8 (by decide) (h := ?_)
    rintro k6 o hk6 -
    have hk60 := hk.trans hk6
    refine zL ?_
    refine zE ?_
    refine W.meet (c := ?codeM) (Q := ?postM) (fun x : Cu × List TBlock => CuTo k0 x.1 ∧ x.2.length ≤ 7 ∧ ∀ b ∈ x.2, smBk 1001 b) (fun x => [.slot 2 (one (.ptr 2 0)), .blk 2 (bxT 0 0), .slot 3 (one (.ptr 3 0)), .blk 3 bxA0, .slot 7 (one (.ptr 14 0)), .blk 14 (.box (cuL x.1)), .slot 8 (one (.all 17)), .blk 17 (.arr .no 36 12 (bkRows x.2)), .slot 9 (one (.ptr 9 0)), .blk 9 (bxAn ((ah, at', al, av, an, ad), nx)), .slot 10 (vI (1 + to))]) ?mainM ?partM
    case mainM =>
      intro key
      cases o with
      | false =>
        refine zR ?_
        refine W.subA [.slot 2 (one (.ptr 2 0)), .blk 2 (bxT 0 0), .slot 3 (one (.ptr 3 0)), .blk 3 bxA0, .slot 7 (one (.ptr 14 0)), .blk 14 (.box (cuL k6)), .slot 8 (one (.all 17)), .blk 17 (.arr .no 36 12 (bkRows l)), .slot 9 (one (.ptr 9 0)), .blk 9 (bxAn ((ah, at', al, av, an, ad), nx)), .slot 10 (vI (1 + to))] (h := ?_)
        exact key (k6, l) ⟨hk60, by dsimp only; omega, hsk⟩
      | true =>
        refine zR ?_
        refine zO ?_
        refine zL ?_
        refine WL.opCu hBe l1Below_s k6 hk60.ok (l.length : Int) ⟨by omega, by omega⟩ (h := ?_)
        rintro k7 r hk7 ⟨hr0, hr1, -⟩
        replace hr1 : r < (l.length : Int) := hr1 (by omega)
        obtain ⟨i, rfl⟩ : ∃ i : Nat, r = i := ⟨r.toNat, by omega⟩
        have hi : i < l.length := by omega
        have hin : ((i : Int) + 1).toNat = i + 1 := by omega
        have hi0 : i - 0 = i := Nat.sub_zero i
        have hcut := bkRows_cut l i
        have hw12 := bkRows_wid l
        have hwc : wid 12 (((bkRows l).drop (i + 1)).take (l.length - (i + 1))) := fun row hr => hw12 row (List.mem_of_mem_drop (List.mem_of_mem_take hr))
        have hl1 : ((bkRows l).take i).length = i := by rw [List.length_take]; omega
        have hl2 : (((bkRows l).drop (i + 1)).take (l.length - (i + 1))).length = l.length - (i + 1) := by rw [List.length_take, List.length_drop]; omega
        have hend : CuTo k0 k7 ∧ (l.take i ++ l.drop (i + 1)).length ≤ 7 ∧ ∀ b ∈ l.take i ++ l.drop (i + 1), smBk 1001 b := ⟨hk60.trans hk7, by rw [List.length_append, List.length_take, List.length_drop]; omega, fun b hb => by
          rcases List.mem_append.1 hb with h | h
          · exact hsk b (List.mem_of_mem_take h)
          · exact hsk b (List.mem_of_mem_drop h)⟩
        by_cases hlast : i + 1 < l.length
        · generalize l.take i ++ l.drop (i + 1) = L at *
          refine zL ?_
          refine zE ?_
          refine zR ?_
          refine W.drawB hΓ 7 [[], [], [0, 1], [], [], [4], [3, 4, 5], [0, 1, 2, 3, 4, 5, 6], [0, 1, 2, 3, 4, 5, 6, 7]] (Es := ?Es30) (rest := ?rest30) (st1 := ?st130) ?_
          refine zL ?_
          refine zE ?_
          refine zR ?_
          refine W.subA [.slot 2 (one (.ptr 2 0)), .blk 2 (bxT 0 0), .slot 3 (one (.ptr 3 0)), .blk 3 bxA0, .slot 7 (one (.ptr 14 0)), .blk 14 (.box (cuL k7)), .slot 8 (one (.all 17)), .blk 17 (.arr .no 36 12 (bkRows L)), .slot 9 (one (.ptr 9 0)), .blk 9 (bxAn ((ah, at', al, av, an, ad), nx)), .slot 10 (vI (1 + to))] (h := ?_)
          exact key (k7, L) hend
        · have he : i + 1 = l.length := by omega
          have hcut2 : (bkRows l).take i ++ [] = bkRows (l.take i ++ l.drop (i + 1)) := by
            rw [← hcut, he, Nat.sub_self, List.take_zero]
          have hlz : (l.length : Int) = (i : Int) + 1 := by omega
          generalize l.take i ++ l.drop (i + 1) = L at *
          clear hwc hl2 hcut
          refine zL ?_
          refine zE ?_
          refine zR ?_
          refine W.drawB hΓ 7 [[], [], [0, 1], [], [], [4], [3, 4, 5], [0, 1, 2, 3, 4, 5, 6], [0, 1, 2, 3, 4, 5, 6, 7]] (Es := ?Es34) (rest := ?rest34) (st1 := ?st134) ?_
          refine zL ?_
          refine zE ?_
          refine zR ?_
          refine W.subA [.slot 2 (one (.ptr 2 0)), .blk 2 (bxT 0 0), .slot 3 (one (.ptr 3 0)), .blk 3 bxA0, .slot 7 (one (.ptr 14 0)), .blk 14 (.box (cuL k7)), .slot 8 (one (.all 17)), .blk 17 (.arr .no 36 12 (bkRows L)), .slot 9 (one (.ptr 9 0)), .blk 9 (bxAn ((ah, at', al, av, an, ad), nx)), .slot 10 (vI (1 + to))] (h := ?_)
          exact key (k7, L) hend
    case partM =>
      rintro ⟨k, l⟩ ⟨hk, hlk, hsk⟩
      dsimp only at hk hlk hsk ⊢
      have hll := bkRows_len l
      refine zR ?_
      refine W.ph32C (d1 := ?d1) (d2 := ?d2) (d3 := ?d3) (m := 14) (t1 := ?t1) (t2 := ?t2) (t3 := ?t3) (n4 := ?n4) (n5 := ?n5) (xs1 := ?xs1) (xs2 := ?xs2) (xs3 := ?xs3) (ts1 := ?ts1) (ts2 := ?ts2) (ts3 := ?ts3) (ty1 := ?ty1) (ty2 := ?ty2) (ty3 := ?ty3) (ty4 := ?ty4) (ty5 := ?ty5) (t4 := ?t4) (t5 := ?t5) (po1 := ?po1) (po2 := ?po2) (po3 := ?po3) (po4 := ?po4) (po5 := ?po5) (af1 := ?af1) (af2 := ?af2) (af3 := ?af3) (af4 := ?af4) (af5 := ?af5) (xo4 := ?xo4) (yo4 := ?yo4) (xo5 := ?xo5) (yo5 := ?yo5) (E0 := ?E0) (E1 := ?E1) (E2 := ?E2) (E3 := ?E3) (E4 := ?E4) (E5 := ?E5) (k4 := ?k4) (k5 := ?k5) follows_mixed hΓ 17 1 4 10 12 13 [[], [0], [0, 1], [], [0, 1, 3], [0, 1, 2, 3, 4], [], [], [], [], [0, 1, 3, 4, 9], [0, 1, 3, 4, 9, 10], [0, 1, 2, 3, 4, 5, 9, 10], [0, 1, 2, 3, 4, 5, 6, 9, 10, 12], [0, 1, 2, 3, 4, 5, 6, 7, 9, 10, 12, 13], [0, 1, 2, 3, 4, 5, 6, 7, 8, 9, 10, 12, 13, 14], [0, 1, 2, 3, 4, 5, 6, 7, 8, 9, 10, 11, 12, 13, 14, 15]] hBe l1Below_s k hk.ok 50 20 40 (by decide) (by decide) (by decide) (v := fun r => vI r) ?h (by decide) (by decide) (by decide) (by decide) (by decide) (by decide) (by decide) (by decide) (by decide) (by decide) (by decide) (ho1 := ?ho1) (ho2 := ?ho2) (ho3 := ?ho3) (ho4 := ?ho4) (ho5 := ?ho5) (hN1 := ?hN1) (hN2 := ?hN2) (hN3 := ?hN3) (hb := ?hb) (ha1 := ?ha1) (ha2 := ?ha2) (ha3 := ?ha3) (hst1 := ?hst1) (hst2 := ?hst2) (hst3 := ?hst3) (S0 := ?S0) (S1 := ?S1) (S2 := ?S2) (S3 := ?S3) (S4 := ?S4) (S5 := ?S5) (hT := ?hT)
      case h => kernel_rfl
      case ho1 => rfl
      case ho2 => rfl
      case ho3 => rfl
      case ho4 => rfl
      case ho5 => rfl
      case hN1 => decide
      case hN2 => decide
      case hN3 => decide
      case hb => exact evsP
      case ha1 =>
        intro st
        exact evcP
      case ha2 =>
        intro st
        exact evcP
      case ha3 =>
        intro st
        exact evcP
      case hst1 =>
        intro c' b st
        dsimp only [stC]
        exact evcP
      case hst2 =>
        intro c' b st
        dsimp only [stC]
        exact evcP
      case hst3 =>
        intro c' b st
        dsimp only [stC]
        exact evcP
      case S0 =>
        refine ⟨stepsX_of (rest := ?r0) (by kernel_rfl) ?f0 ?yp0 ?yd0 ?ye0, ?yn0, ?g0⟩
        case f0 =>
          iterate 17 (first | refine FlowX.skP [1, 4, 10, 12, 13] [1, 4, 10, 12, 13] (h := ?_) | refine FlowX.opA (h := ?_))
          exact FlowX.done
        case yp0 => rfl
        case yd0 => rfl
        case ye0 => rfl
        case yn0 => rfl
        case g0 =>
          simp (disch := decide) only [pick_nil, pick_t, pick_f, List.cons_append, List.nil_append, Nat.reduceAdd]
          exact evsP
      case S1 =>
        intro c1 b1 q1 ⟨r1, r1', _⟩
        replace r1' : b1 < 50 := r1' (by decide)
        dsimp only [stC]
        refine ⟨stepsX_of (rest := ?r1) (by kernel_rfl) ?f1 ?yp1 ?yd1 ?ye1, ?yn1, ?g1, emp_at ?z11, ?z12, ?z13⟩
        case f1 =>
          iterate 17 (first | refine FlowX.skP [1, 4, 10, 12, 13] [4, 10, 12, 13] (h := ?_) | refine FlowX.opA (h := ?_))
          exact FlowX.done
        case yp1 => rfl
        case yd1 => rfl
        case ye1 => rfl
        case yn1 => rfl
        case z11 => rfl
        case z12 => rfl
        case z13 => rfl
        case g1 =>
          simp (disch := decide) only [pick_nil, pick_t, pick_f, List.cons_append, List.nil_append, Nat.reduceAdd]
          exact evsP
      case S2 =>
        intro c1 b1 c2 b2 q1 ⟨r1, r1', _⟩ q2 ⟨r2, r2', _⟩
        replace r1' : b1 < 50 := r1' (by decide)
        replace r2' : b2 < 20 := r2' (by decide)
        dsimp only [stC]
        refine ⟨stepsX_of (rest := ?r2) (by kernel_rfl) ?f2 ?yp2 ?yd2 ?ye2, ?yn2, ?g2, emp_at ?z21, ?z22, ?z23⟩
        case f2 =>
          iterate 17 (first | refine FlowX.skP [1, 4, 10, 12, 13] [10, 12, 13] (h := ?_) | refine FlowX.opA (h := ?_))
          exact FlowX.done
        case yp2 => rfl
        case yd2 => rfl
        case ye2 => rfl
        case yn2 => rfl
        case z21 => rfl
        case z22 => rfl
        case z23 => rfl
        case g2 =>
          simp (disch := decide) only [pick_nil, pick_t, pick_f, List.cons_append, List.nil_append, Nat.reduceAdd]
          exact evsP
      case S3 =>
        intro c1 b1 c2 b2 c3 b3 q1 ⟨r1, r1', _⟩ q2 ⟨r2, r2', _⟩ q3 ⟨r3, r3', _⟩
        replace r1' : b1 < 50 := r1' (by decide)
        replace r2' : b2 < 20 := r2' (by decide)
        replace r3' : b3 < 40 := r3' (by decide)
        dsimp only [stC]
        refine ⟨stepsX_of (rest := ?r3) (by kernel_rfl) ?f3 ?yp3 ?yd3 ?ye3, ?yn3, ?g3, emp_at ?z31, ?z32, ?z33⟩
        case f3 =>
          iterate 17 (first | refine FlowX.skP [1, 4, 10, 12, 13] [12, 13] (h := ?_) | refine FlowX.opA (h := ?_))
          exact FlowX.done
        case yp3 => rfl
        case yd3 => rfl
        case ye3 => rfl
        case yn3 => rfl
        case z31 => rfl
        case z32 => rfl
        case z33 => rfl
        case g3 =>
          simp (disch := decide) only [pick_nil, pick_t, pick_f, List.cons_append, List.nil_append, Nat.reduceAdd]
          unfold storeL
          exact evxP
      case S4 =>
        intro c1 b1 c2 b2 c3 b3 q1 ⟨r1, r1', _⟩ q2 ⟨r2, r2', _⟩ q3 ⟨r3, r3', _⟩
        replace r1' : b1 < 50 := r1' (by decide)
        replace r2' : b2 < 20 := r2' (by decide)
        replace r3' : b3 < 40 := r3' (by decide)
        dsimp only [stC]
        refine ⟨stepsX_of (rest := ?r4) (by kernel_rfl) ?f4 ?yp4 ?yd4 ?ye4, ?yn4, ?g4, emp_at ?z41, ?z42⟩
        case f4 =>
          iterate 17 (first | refine FlowX.skP [1, 4, 10, 12, 13] [13] (h := ?_) | refine FlowX.opA (h := ?_))
          exact FlowX.done
        case yp4 => rfl
        case yd4 => rfl
        case ye4 => rfl
        case yn4 => rfl
        case z41 => rfl
        case z42 => rfl
        case g4 =>
          simp (disch := decide) only [pick_nil, pick_t, pick_f, List.cons_append, List.nil_append, Nat.reduceAdd]
          unfold storeL
          exact evxP
      case S5 =>
        intro c1 b1 c2 b2 c3 b3 q1 ⟨r1, r1', _⟩ q2 ⟨r2, r2', _⟩ q3 ⟨r3, r3', _⟩
        replace r1' : b1 < 50 := r1' (by decide)
        replace r2' : b2 < 20 := r2' (by decide)
        replace r3' : b3 < 40 := r3' (by decide)
        dsimp only [stC]
        refine ⟨stepsX_of (rest := ?r5) (by kernel_rfl) ?f5 ?yp5 ?yd5 ?ye5, ?yn5, emp_at ?z51, ?z52⟩
        case f5 =>
          iterate 17 (first | refine FlowX.skP [1, 4, 10, 12, 13] [] (h := ?_) | refine FlowX.opA (h := ?_))
          exact FlowX.done
        case yp5 => rfl
        case yd5 => rfl
        case ye5 => rfl
        case yn5 => rfl
        case z51 => rfl
        case z52 => rfl
      case hT =>
        intro c1 b1 c2 b2 c3 b3 q1 ⟨r1, r1', _⟩ q2 ⟨r2, r2', _⟩ q3 ⟨r3, r3', _⟩
        replace r1' : b1 < 50 := r1' (by decide)
        replace r2' : b2 < 20 := r2' (by decide)
        replace r3' : b3 < 40 := r3' (by decide)
        dsimp only [stC]
        refine WL.cast (st' := ?st1) ?hst1 ?hw1
        case hst1 =>
          simp only [pick_nil, pick_all, List.cons_append, List.nil_append]
          rfl
        simp only [List.drop_succ_cons, List.drop_zero]
        refine zL ?_
        refine zE ?_
        refine zR ?_
        refine At.retNRA (by rw [Tryz.results18]) (he := ?_) ((50 + b1, b2), ((ah, at', al, av, an, ad), nx), l, 1 + to, 5 + b3) ⟨⟨⟨ha0, ha1⟩, hnx⟩, ⟨hlk, hsk⟩, by dsimp only; omega, by dsimp only; omega⟩
        rfl
end Go.Proofs.YtfgkfcfplodaoaaGreatDoor
