/-
  Put together: MarkAddr EvMarkP EvRdL.
-/
import Derived.Test.YteaohgacgcjkjaaG37
import Derived.Test.YteaohgacgcjkjaaG14
import Derived.Test.YteaohgacgcjkjaaHEvMark
import Derived.Test.YteaohgacgcjkjaaHEvPMsg
import Derived.Test.YteaohgacgcjkjaaHEvPFn
import Derived.Test.YteaohgacgcjkjaaHEvRdPM
section
/-!
  Marking and holding slices of Addr, by contracts.
-/
namespace Go.Proofs.Yteaohgacgcjkjaa
set_option maxRecDepth 100000
set_option linter.unusedVariables false
set_option linter.unusedSimpArgs false
open Go.RowKit

def mkAddr (k : Nat) : TAddr := ((k : Int), (k : Int) + 1)
theorem cAddr_len (x : TAddr) : (cAddr x).length = 2 := rfl
set_option maxHeartbeats 2000000 in
theorem markAddrS_any (v : Value) (l : List TAddr) (k B0 : Nat) (w : World) (h : OwnS w B0 2 cAddr v l) (h0 : 0 < k) (hn : k + 2 * l.length ≤ 1099511627776) :
    Calls Try.prog 62 #[v, .int .i64 (k : Int)] w (Marks B0 2 cAddr v (marked mkAddr 2 k l.length) (k + 2 * l.length) w) := by
  by_cases hne : l = []
  · subst hne
    obtain ⟨A, c, rfl, h1, h2, h3⟩ := h
    go_enter Try.func62, Try.ntmps62
    go_wp2_with fail
    refine wp_loop_rounds 1 ?_
    rw [rounds_succ]
    go_wp2_with fail
    go_ret
    exact ⟨rfl, ⟨A, c, rfl, h1, h2, fun e => absurd rfl e⟩, fun _ => rfl, World.grownBy.refl _ _⟩
  obtain ⟨b, off, c, rfl, hlc, hcm, hat⟩ := h.at_ hne
  clear h
  go_enter Try.func62, Try.ntmps62
  go_wp2_with fail
  go_loopw [1, 5] (fun q i wr => ∃ j m : Nat, j ≤ l.length ∧ m = k + 2 * j ∧ i = .int .i64 j ∧ q = .int .i64 m ∧ OwnAt wr B0 2 cAddr b off (marks mkAddr 2 k j l) ∧ w.grownBy wr (some b)) (fun _ i _ => l.length - (intOf i).toNat)
  case atStart => exact ⟨0, k, Nat.zero_le _, rfl, rfl, rfl, by rw [marks_zero]; exact hat, World.grownBy.refl _ _⟩
  case round =>
    obtain ⟨j, m, hj, hm, rfl, rfl, ho, hg⟩ := hrel
    have hm1 : 0 < m := by omega
    have hm2 : m + 2 * (l.length - j) ≤ 1099511627776 := by omega
    have HM := Lib.hid hm
    clear hm
    by_cases hlt : j < l.length
    · have hml : j < (marks mkAddr 2 k j l).length := by rw [length_marks hj]; exact hlt
      obtain ⟨x, hx⟩ : ∃ x, (marks mkAddr 2 k j l)[j]? = some x := ⟨_, List.getElem?_eq_getElem hml⟩
      obtain ⟨u0, hx0⟩ := ho.old cAddr_len (i := j) (by simpa using hml) (j := 0) (by omega)
      have hf0 := ho.2.2.1 (off + j * 2 + 0)
      simp only [Nat.add_zero] at hx0 hf0
      obtain ⟨u1, hx1⟩ := ho.old cAddr_len (i := j) (by simpa using hml) (j := 1) (by omega)
      have hf1 := ho.2.2.1 (off + j * 2 + 1)
      have oc0 := ho.field (i := j) (j := 0) (u := .int .i64 ((m : Int))) (y := (((m : Int), x.2) : TAddr)) cAddr_len (by simpa using hml) (by omega) (by rw [(List.getElem?_eq_some_iff.1 hx).2]; rfl)
      have hy0 := List.getElem?_set_self (l := (marks mkAddr 2 k j l)) (i := j) (a := (((m : Int), x.2) : TAddr)) (by simpa using hml)
      have gc0 := only_setCell hg (p := ⟨b, off + j * 2 + 0, none⟩) rfl (.int .i64 ((m : Int)))
      simp only [Nat.add_zero] at oc0 gc0
      have oc1 := oc0.field (i := j) (j := 1) (u := .int .i64 ((m : Int) + 1)) (y := (((m : Int), (m : Int) + 1) : TAddr)) cAddr_len (by simpa using hml) (by omega) (by rw [(List.getElem?_eq_some_iff.1 hy0).2]; rfl)
      have hy1 := List.getElem?_set_self (l := ((marks mkAddr 2 k j l).set j (((m : Int), x.2) : TAddr))) (i := j) (a := (((m : Int), (m : Int) + 1) : TAddr)) (by simpa using hml)
      have gc1 := only_setCell gc0 (p := ⟨b, off + j * 2 + 1, none⟩) rfl (.int .i64 ((m : Int) + 1))
      try simp only [List.set_set] at oc1
      rw [marks_next hlt _ (by rw [← HM.out]; rfl)] at oc1
      have HO' := Lib.hid oc1
      have HG' := Lib.hid gc1
      clear hy1 oc1 gc1 hy0 oc0 gc0 ho hg hx hml hat
      go_wp2_with fail
      go_roundw
      case rel => exact ⟨j + 1, m + 2, by omega, by rw [HM.out]; omega, by go_num, by go_num, HO'.out, HG'.out⟩
      case measure => simp [intOf]; omega
    · go_wp2_with fail
      go_ret
      have e : j = l.length := by omega
      subst e
      rw [marks_all] at ho
      have hl : (marked mkAddr 2 k l.length).length = l.length := length_marked
      refine ⟨ret_int (by rw [HM.out]), ?_, fun e => absurd (List.length_eq_zero_iff.1 (by rw [e] at hl; simpa using hl.symm)) hne, hg⟩
      have := ho.slice (c := c) (by rw [hl]; exact hlc) hcm
      rwa [hl] at this
theorem markAddrS_at (v : Value) (l : List TAddr) (k : Nat) (q : Int) (k' : Nat) (w : World) (lo hi : Nat) (h : OwnI w lo hi 2 cAddr v l) (hk : k' = k + 2 * l.length) (h0 : 0 < k ∧ q = k) (hn : k' ≤ 1099511627776) :
    Calls Try.prog 62 #[v, .int .i64 q] w fun e w' => e = .returned (.int .i64 (k' : Int)) ∧ OwnI w' lo hi 2 cAddr v (marked mkAddr 2 k l.length) ∧ Only lo hi w w' := by
  obtain ⟨h0, rfl⟩ := h0
  subst hk
  exact (markAddrS_any v l k lo w h.1 h0 hn).mono fun _ _ hh => hh.own h rfl length_marked

set_option maxHeartbeats 2000000 in
theorem heldAddrS_any (v : Value) (n : Nat) (k : Nat) (w : World) (h : RdS w w.heap.size 2 cAddr v (marked mkAddr 2 k n)) (h0 : 0 < k) (hn : k + 2 * n ≤ 1099511627776) :
    Calls Try.prog 63 #[v, .int .i64 (k : Int)] w (Held (k + 2 * n) w) := by
  obtain ⟨A, c, rfl, hlc, hcm, hcell⟩ := h
  have hml : (marked mkAddr 2 k n).length = n := length_marked
  rw [hml] at hlc ⊢
  go_enter Try.func63, Try.ntmps63
  go_wp2_with fail
  go_loopw [1, 5] (fun q i wr => ∃ j m : Nat, j ≤ n ∧ m = k + 2 * j ∧ i = .int .i64 j ∧ q = .int .i64 m ∧ Below w.heap.size w wr) (fun _ i _ => n - (intOf i).toNat)
  case atStart => exact ⟨0, k, Nat.zero_le _, rfl, rfl, rfl, Below.refl _ _⟩
  case round =>
    obtain ⟨j, m, hj, hm, rfl, rfl, hb⟩ := hrel
    have hm1 : 0 < m := by omega
    have hm2 : m + 2 * (n - j) ≤ 1099511627776 := by omega
    by_cases hlt : j < n
    · obtain ⟨b, off, rfl, hbb, hc⟩ := hcell (by intro e; rw [e] at hml; simp at hml; omega)
      have gx0 := (hb.cell (p := ⟨b, off + j * 2 + 0, none⟩) hbb).trans (hc j _ (marked_get hlt) 0 _ rfl)
      rw [← hm] at gx0
      have hx0 : wr.cell? ⟨b, off + j * 2 + 0, none⟩ = some (.int .i64 ((m : Int))) := gx0
      clear gx0
      simp only [Nat.add_zero] at hx0
      have gx1 := (hb.cell (p := ⟨b, off + j * 2 + 1, none⟩) hbb).trans (hc j _ (marked_get hlt) 1 _ rfl)
      rw [← hm] at gx1
      have hx1 : wr.cell? ⟨b, off + j * 2 + 1, none⟩ = some (.int .i64 ((m : Int) + 1)) := gx1
      clear gx1
      have HM := Lib.hid hm
      have hbw : b < wr.heap.size := Nat.lt_of_lt_of_le hbb hb.size
      clear hm hc hcell hml
      go_wp2_with fail
      go_roundw
      case rel => exact ⟨j + 1, m + 2, by omega, by rw [HM.out]; omega, by go_num, by go_num, hb⟩
      case measure => simp [intOf]; omega
    · go_wp2_with fail
      go_ret
      have e : j = n := by omega
      subst e
      exact ⟨ret_int (by rw [hm]), hb⟩
theorem heldAddrS_at (v : Value) (n k : Nat) (q : Int) (k' : Nat) (w : World) (h : RdS w w.heap.size 2 cAddr v (marked mkAddr 2 k n)) (hk : k' = k + 2 * n) (h0 : 0 < k ∧ q = k) (hn : k' ≤ 1099511627776) :
    Calls Try.prog 63 #[v, .int .i64 q] w (Held k' w) := by
  obtain ⟨h0, rfl⟩ := h0
  subst hk
  exact heldAddrS_any v n k w h h0 hn

end Go.Proofs.Yteaohgacgcjkjaa

end
section
/-!
  Marking and holding a PMsg.
-/
namespace Go.Proofs.Yteaohgacgcjkjaa
set_option maxRecDepth 100000
set_option linter.unusedVariables false
set_option linter.unusedSimpArgs false
open Go Go.RowKit
set_option maxHeartbeats 4000000

theorem Marks.toW {α : Type} {s k' : Nat} {f : α → List Value} {v : Value} {l : List α} {w w' : World} {e : Ending} (h : Marks 0 s f v l k' w e w') : MarksW s f v l k' w e w' := ⟨h.1, h.2.1, h.2.2.2⟩
theorem MarksW.after {α : Type} {s k' : Nat} {f : α → List Value} {v : Value} {l : List α} {w w1 w' : World} {e : Ending} (hk : Below w.heap.size w w1) (h : MarksW s f v l k' w1 e w') : MarksW s f v l k' w e w' := by
  obtain ⟨h1, h2, h3⟩ := h
  refine ⟨h1, h2, h3.os.trans hk.os, h3.tape.trans hk.tape, h3.output.trans hk.output, Nat.le_trans hk.size h3.size, fun k hlt hne => ?_⟩
  rw [h3.block k (Nat.lt_of_lt_of_le hlt hk.size) hne]
  exact hk.block k hlt
abbrev lsPM (k f : Int) (q : TReq) (hd : THeader) (a : PL) : List PL := [.sc (.int .i64 k), .sc (.int .i64 f), .sc (.int .i64 q.1), .sc (.int .i64 q.2.1), .sc (.int .i64 q.2.2), .sc (.int .i64 hd.1), .sc (.int .i64 hd.2.1), .sc (.string hd.2.2.1), .sc (.string hd.2.2.2.1), .sc (.string hd.2.2.2.2.1), .sc (.string hd.2.2.2.2.2), a]
theorem markPM_own (k f : Int) (q : TReq) (hd : THeader) (n : Nat) (l : List TAddr) (m m' : Nat) (hm0 : 0 < m) (hm : m' = m + 2 * l.length) (hn : m' ≤ 1099511627776) (v : Value) (w : World) (h : OwnS w 0 2 cAddr v l) :
    Calls Try.prog 24 #[.agg ((lsPM k f q hd (.all n)).map (plV v)).toArray, .int .i64 (m : Int)] w (MarksW 2 cAddr v (marked mkAddr 2 m l.length) m' w) := by
  subst hm
  obtain ⟨A, c, rfl⟩ := h.shape
  have H := Lib.hid h
  clear h
  simp only [List.map_cons, List.map_nil, plV]
  go_enter Try.func24, Try.ntmps24
  go_wp2_with fail
  refine (markAddrS_any _ l m 0 _ (H.out.keeps ?g1) hm0 hn).mono ?_
  case g1 => exact show Below _ _ _ by go_grown
  rintro e w1 hmk
  obtain ⟨rfl, o1, y1⟩ := (Marks.toW hmk).after (w := w) (show Below _ _ _ by go_grown)
  have O1 := Lib.hid o1
  have Y1 := Lib.hid y1
  clear o1 y1 hmk
  go_wp2_with fail
  go_ret
  exact ⟨rfl, O1.out, Y1.out⟩
end Go.Proofs.Yteaohgacgcjkjaa

end
section
/-!
  The law of ReadPMsg.
-/
namespace Go.Proofs.Yteaohgacgcjkjaa
set_option maxRecDepth 100000
set_option linter.unusedVariables false
set_option linter.unusedSimpArgs false
open Go Go.RowKit
set_option maxHeartbeats 4000000

/-- a row that was marked from 1 on -/
abbrev okHl (l : List TAddr) : Prop := l = marked mkAddr 2 1 l.length ∧ 1 + 2 * l.length ≤ 1099511627776
noncomputable def mHeldA := mdl okHl (fun l => [aL cAddr l, aI 1]) (fun l => rI ((1 + 2 * l.length : Nat) : Int))
theorem mHeldA_eq (l : List TAddr) (h : okHl l) : mHeldA [aL cAddr l, aI 1] = some (rI ((1 + 2 * l.length : Nat) : Int)) := mdl_eq (by intro a b h; simpa using h) l h
theorem heldA_s : Sound Try.prog 63 mHeldA := Sound.says (fun _ => rfl) fun l vs w hok hr => by
  obtain ⟨h1, h2⟩ := hr
  obtain ⟨v0, e0, r0⟩ := h2 0 _ rfl
  obtain ⟨v1, e1, r1⟩ := h2 1 _ rfl
  obtain ⟨x, ex, rx⟩ := r1
  cases ex
  cases rx
  match vs, h1 with
  | [a, b], _ =>
    cases e0
    cases e1
    have h3 : RdS w w.heap.size 2 cAddr v0 l := rep_RdS (fun _ => rfl) (repA_list_inv r0)
    rw [hok.1] at h3
    exact (heldAddrS_any v0 l.length 1 w h3 (by omega) hok.2).mono fun e w' hq => hq
noncomputable def mHeldP := mdl (fun m : TPMsg => okHl m.2.2.2.2) (fun m => [aPM m, aI 1]) (fun m => rI ((1 + 2 * m.2.2.2.2.length : Nat) : Int))
theorem mHeldP_eq (m : TPMsg) (h : okHl m.2.2.2.2) : mHeldP [aPM m, aI 1] = some (rI ((1 + 2 * m.2.2.2.2.length : Nat) : Int)) := mdl_eq (enc := fun m => [aPM m, aI 1]) (by
  intro x y h
  exact aPM_inj x y (by simp only [List.cons.injEq, and_true] at h ⊢; exact h)) m h
theorem heldP_s : Sound Try.prog 25 mHeldP := by
  refine Sound.mdl Try.func25 rfl Try.ntmps25 ?_
  rintro ⟨k, f, ⟨r1, r2, r3⟩, ⟨h1, h2, la, va, ne, da⟩, l⟩ w hl
  refine ⟨by simp, ?_⟩
  replace hl : okHl l := hl
  have hΓ : GSound Try.prog (look [(63, mHeldA)]) := env_cons (has_of Try.func63 rfl rfl) heldA_s env_nil
  have c1 := mHeldA_eq l hl
  obtain ⟨-, hl2⟩ := hl
  simp only [initS, argPV, List.map_cons, List.map_nil, toPL, Nat.zero_add]
  repeat (first | with_reducible (first | apply W.seq | apply W.block | apply W.skip | apply W.exit | apply W.ret | apply At.seqN | apply At.blkN | apply At.blkE | apply At.blkR | apply At.thenX | apply At.thenR | apply At.blkX rfl) | ((with_reducible apply W.ops); (repeat (first | refine WL.opA hΓ (h := ?_) | refine WL.opX hΓ (h := ?_) | refine WL.opY (h := ?_) | refine WL.opZ (h := ?_))); with_reducible apply WL.nil) | refine W.condT (h := ?_) | refine W.condF (h := ?_))
  refine At.retA (by rw [Try.results25]) (he := rfl)
/-- marking no address -/
noncomputable def mMarkP0 := mdl (fun m : TPMsg => m.2.2.2.2 = []) (fun m => [aPM m, aI 1]) (fun _ => rI 1)
theorem mMarkP0_eq (m : TPMsg) (h : m.2.2.2.2 = []) : mMarkP0 [aPM m, aI 1] = some (rI 1) := mdl_eq (enc := fun m => [aPM m, aI 1]) (by
  intro x y h
  exact aPM_inj x y (by simp only [List.cons.injEq, and_true] at h ⊢; exact h)) m h
noncomputable def mMarkA0 := mdl (fun _ : Unit => True) (fun _ => [aL cAddr [], aI 1]) (fun _ => rI 1)
theorem mMarkA0_eq : mMarkA0 [aL cAddr [], aI 1] = some (rI 1) := mdl_eq (enc := fun _ : Unit => [aL cAddr [], aI 1]) (by intro a b _; rfl) () trivial
theorem markA0_s : Sound Try.prog 62 mMarkA0 := Sound.says (fun _ => rfl) fun _ vs w hok hr => by
  obtain ⟨h1, h2⟩ := hr
  obtain ⟨v0, e0, r0⟩ := h2 0 _ rfl
  obtain ⟨v1, e1, r1⟩ := h2 1 _ rfl
  obtain ⟨x, ex, rx⟩ := r1
  cases ex
  cases rx
  match vs, h1 with
  | [a, b], _ =>
    cases e0
    cases e1
    obtain ⟨A, c, rfl, h4, h5, _⟩ : RdS w w.heap.size 2 cAddr v0 [] := rep_RdS (fun _ => rfl) (repA_list_inv r0)
    refine (markAddrS_any _ [] 1 0 w ⟨A, c, rfl, h4, h5, fun h => absurd rfl h⟩ (by omega) (by simp)).mono fun e w' hq => ⟨hq.1, ?_⟩
    rw [hq.2.2.1 rfl]
    exact Below.refl _ _
theorem markP0_s : Sound Try.prog 24 mMarkP0 := by
  refine Sound.mdl Try.func24 rfl Try.ntmps24 ?_
  rintro ⟨k, f, ⟨r1, r2, r3⟩, ⟨h1, h2, la, va, ne, da⟩, l⟩ w hl
  refine ⟨by simp, ?_⟩
  replace hl : l = [] := hl
  subst hl
  have hΓ : GSound Try.prog (look [(62, mMarkA0)]) := env_cons (has_of Try.func62 rfl rfl) markA0_s env_nil
  have c1 := mMarkA0_eq
  simp only [initS, argPV, List.map_cons, List.map_nil, toPL, Nat.zero_add]
  repeat (first | with_reducible (first | apply W.seq | apply W.block | apply W.skip | apply W.exit | apply W.ret | apply At.seqN | apply At.blkN | apply At.blkE | apply At.blkR | apply At.thenX | apply At.thenR | apply At.blkX rfl) | ((with_reducible apply W.ops); (repeat (first | refine WL.opA hΓ (h := ?_) | refine WL.opX hΓ (h := ?_) | refine WL.opY (h := ?_) | refine WL.opZ (h := ?_))); with_reducible apply WL.nil) | refine W.condT (h := ?_) | refine W.condF (h := ?_))
  refine At.retA (by rw [Try.results24]) (he := rfl)
theorem adN_ten {s : ByteArray} : ∀ m, candM s = some m → m.2.2.2.2.length ≤ 10 := by
  intro m hm
  unfold candM at hm
  split at hm
  · split at hm
    · cases hm
    · unfold candK at hm
      split at hm
      · cases hm; simp
      · split at hm
        · cases hm; simp
        · split at hm
          · split at hm
            · cases hm
            · rename_i h
              cases hm
              dsimp only
              rw [adN_len]
              omega
          · cases hm; simp
  · cases hm
theorem rdPM_ten (s : ByteArray) : (rdPM s).1.2.2.2.2.length ≤ 10 := by
  unfold rdPM
  split
  · rename_i m hm
    split
    · exact adN_ten m hm
    · simp
  · simp
theorem lawRead_s : Sound Try.prog 5 (mdl (fun s : ByteArray => s.size ≤ 9223372036854775807) (fun s => [aS s]) fun _ => rB true) := by
  refine Sound.mdl Try.func5 rfl Try.ntmps5 ?_
  rintro s w hs
  refine ⟨by simp, ?_⟩
  replace hs : s.size ≤ 9223372036854775807 := hs
  have hΓ : GSound Try.prog (look [(21, mRdPM), (22, mRdPM), (23, mEqPM), (25, mHeldP), (24, mMarkP0)]) := env_cons (has_of Try.func21 rfl rfl) readPMS_s (env_cons (has_of Try.func22 rfl rfl) readPMI_s (env_cons (has_of Try.func23 rfl rfl) eqPM_s (env_cons (has_of Try.func25 rfl rfl) heldP_s (env_cons (has_of Try.func24 rfl rfl) markP0_s env_nil))))
  have hMk : Has Try.prog 24 := has_of Try.func24 rfl rfl
  by_cases hb : 1048576 < s.size
  · simp only [initS, argPV, List.map_cons, List.map_nil, toPL, Nat.zero_add]
    repeat (first | with_reducible (first | apply W.seq | apply W.block | apply W.skip | apply W.exit | apply W.ret | apply At.seqN | apply At.blkN | apply At.blkE | apply At.blkR | apply At.thenX | apply At.thenR | apply At.blkX rfl) | ((with_reducible apply W.ops); (repeat (first | refine WL.opA hΓ (h := ?_) | refine WL.opX hΓ (h := ?_) | refine WL.opY (h := ?_) | refine WL.opZ (h := ?_))); with_reducible apply WL.nil) | refine W.condT (h := ?_) | refine W.condF (h := ?_))
    refine At.retA (by rw [Try.results5]) (he := rfl)
  · have c1 := mRdPM_eq s (show s.size ≤ _ by omega)
    have h10 := rdPM_ten s
    generalize rdPM s = x at c1 h10
    obtain ⟨⟨k, f, ⟨r1, r2, r3⟩, ⟨h1, h2, la, va, ne, da⟩, l⟩, b⟩ := x
    have c2 := mEqPM_eq (k, f, (r1, r2, r3), (h1, h2, la, va, ne, da), l) (k, f, (r1, r2, r3), (h1, h2, la, va, ne, da), l) (by dsimp only [okPM] at h10 ⊢; omega) (by dsimp only [okPM] at h10 ⊢; omega)
    rw [eqPB_self] at c2
    dsimp only at h10
    have hbb : (b == b) = true := by simp
    cases l with
    | nil =>
      have c3 := mMarkP0_eq (k, f, (r1, r2, r3), (h1, h2, la, va, ne, da), []) rfl
      have c4 := mHeldP_eq (k, f, (r1, r2, r3), (h1, h2, la, va, ne, da), []) ⟨rfl, by simp⟩
      dsimp only [aPM, rPMB, adRL] at c1 c2 c3 c4
      have hn0 : rowsF cAddr [] = [] := rfl
      rw [hn0] at c2 c3 c4
      have e1 : ((1 + 2 * ([] : List TAddr).length : Nat) : Int) = 1 := rfl
      rw [e1] at c4
      simp only [initS, argPV, List.map_cons, List.map_nil, toPL, Nat.zero_add]
      repeat (first | with_reducible (first | apply W.seq | apply W.block | apply W.skip | apply W.exit | apply W.ret | apply At.seqN | apply At.blkN | apply At.blkE | apply At.blkR | apply At.thenX | apply At.thenR | apply At.blkX rfl) | ((with_reducible apply W.ops); (repeat (first | refine WL.opA hΓ (h := ?_) | refine WL.opX hΓ (h := ?_) | refine WL.opY (h := ?_) | refine WL.opZ (h := ?_))); with_reducible apply WL.nil) | refine W.condT (h := ?_) | refine W.condF (h := ?_))
      refine At.retA (by rw [Try.results5]) (he := rfl)
    | cons a r =>
      have hml : (marked mkAddr 2 1 (a :: r).length).length = (a :: r).length := length_marked
      have c4 := mHeldP_eq (k, f, (r1, r2, r3), (h1, h2, la, va, ne, da), marked mkAddr 2 1 (a :: r).length) ⟨by dsimp only; rw [hml], by dsimp only; rw [hml]; omega⟩
      dsimp only [aPM, rPMB, adRL] at c1 c2 c4
      rw [hml] at c4
      generalize a :: r = l at *
      have hmk := markPM_own k f (r1, r2, r3) (h1, h2, la, va, ne, da) 11021 l 1 (1 + 2 * l.length) (by omega) rfl (by omega)
      dsimp only [lsPM] at hmk
      generalize hm : marked mkAddr 2 1 l.length = ml at *
      clear hm hml
      simp only [initS, argPV, List.map_cons, List.map_nil, toPL, Nat.zero_add]
      repeat (first | with_reducible (first | apply W.seq | apply W.block | apply W.skip | apply W.exit | apply W.ret | apply At.seqN | apply At.blkN | apply At.blkE | apply At.blkR | apply At.thenX | apply At.thenR | apply At.blkX rfl) | ((with_reducible apply W.ops); (repeat (first | refine WL.opA hΓ (h := ?_) | refine WL.opX hΓ (h := ?_) | refine WL.opY (h := ?_) | refine WL.opZ (h := ?_))); with_reducible apply WL.nil) | refine W.condT (h := ?_) | refine W.condF (h := ?_))
      with_reducible apply W.ops
      repeat (first | refine WL.opA hΓ (h := ?_) | refine WL.opX hΓ (h := ?_) | refine WL.opY (h := ?_) | refine WL.opZ (h := ?_))
      refine WL.opMarkS 11021 1 (1 + 2 * l.length) ml hMk hmk cAddr_len (fun x u hu => by simp [cAddr] at hu; rcases hu with rfl | rfl <;> rfl) (h := ?_)
      (repeat (first | refine WL.opA hΓ (h := ?_) | refine WL.opX hΓ (h := ?_) | refine WL.opY (h := ?_) | refine WL.opZ (h := ?_)))
      with_reducible apply WL.nil
      repeat (first | with_reducible (first | apply W.seq | apply W.block | apply W.skip | apply W.exit | apply W.ret | apply At.seqN | apply At.blkN | apply At.blkE | apply At.blkR | apply At.thenX | apply At.thenR | apply At.blkX rfl) | ((with_reducible apply W.ops); (repeat (first | refine WL.opA hΓ (h := ?_) | refine WL.opX hΓ (h := ?_) | refine WL.opY (h := ?_) | refine WL.opZ (h := ?_))); with_reducible apply WL.nil) | refine W.condT (h := ?_) | refine W.condF (h := ?_))
      refine At.retA (by rw [Try.results5]) (he := rfl)
end Go.Proofs.Yteaohgacgcjkjaa

end
