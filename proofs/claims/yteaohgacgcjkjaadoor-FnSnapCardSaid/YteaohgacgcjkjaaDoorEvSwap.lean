/-
  Two names of rows and boxes of one's own are swapped.
-/
import Derived.Test.YteaohgacgcjkjaaDoorEvCu
namespace Go.Proofs.YteaohgacgcjkjaaDoor
set_option maxRecDepth 100000
set_option linter.unusedVariables false
set_option linter.unusedSimpArgs false
open Go Go.RowKit
set_option linter.unusedVariables false
set_option linter.unusedSimpArgs false

def sw (p q k : Nat) : Nat := if k = p then q else if k = q then p else k
theorem sw_sw (p q k : Nat) : sw p q (sw p q k) = k := by
  unfold sw
  by_cases h1 : k = p
  · rw [if_pos h1]
    by_cases h2 : q = p
    · rw [if_pos h2]; omega
    · rw [if_neg h2, if_pos rfl]; omega
  · rw [if_neg h1]
    by_cases h2 : k = q
    · rw [if_pos h2, if_pos rfl]; omega
    · rw [if_neg h2, if_neg h1, if_neg h2]
theorem sw_inj {p q a b : Nat} (h : sw p q a = sw p q b) : a = b := by rw [← sw_sw p q a, h, sw_sw]
theorem sw_iff {p q a b : Nat} : sw p q a = b ↔ a = sw p q b := ⟨fun h => by rw [← h, sw_sw], fun h => by rw [h, sw_sw]⟩
theorem sw_no {p q k : Nat} (h1 : k ≠ p) (h2 : k ≠ q) : sw p q k = k := by unfold sw; rw [if_neg h1, if_neg h2]

def PL.sw (p q : Nat) : PL → PL
  | .all m => .all (Go.Proofs.YteaohgacgcjkjaaDoor.sw p q m)
  | .ref m o l => .ref (Go.Proofs.YteaohgacgcjkjaaDoor.sw p q m) o l
  | .ptr m o => .ptr (Go.Proofs.YteaohgacgcjkjaaDoor.sw p q m) o
  | .pel m i o => .pel (Go.Proofs.YteaohgacgcjkjaaDoor.sw p q m) i o
  | .fn f cap => .fn f (cap.map (Go.Proofs.YteaohgacgcjkjaaDoor.sw p q))
  | .sc v => .sc v
  | .nil => .nil
  | .sl rows => .sl rows
  | .prow cells off => .prow cells off
  | .clo f boxes => .clo f boxes
  | .xl v rows => .xl v rows
  | .dead => .dead
  | .udf => .udf
def swL (p q : Nat) : List PL → List PL
  | [] => []
  | l :: r => l.sw p q :: swL p q r
def swT (p q : Nat) : List (Bool × List PL) → List (Bool × List PL)
  | [] => []
  | v :: r => (v.1, swL p q v.2) :: swT p q r
theorem swL_map (p q : Nat) : ∀ ls : List PL, swL p q ls = ls.map (PL.sw p q)
  | [] => rfl
  | l :: r => by rw [swL, swL_map p q r]; rfl
theorem swT_map (p q : Nat) : ∀ vs : List (Bool × List PL), swT p q vs = vs.map fun v => (v.1, v.2.map (PL.sw p q))
  | [] => rfl
  | v :: r => by rw [swT, swT_map p q r, swL_map]; rfl
def PV.sw (p q : Nat) : PV → PV
  | .comp g ls => .comp g (swL p q ls)
  | .tup vs => .tup (swT p q vs)
def Blk.sw (p q : Nat) : Blk → Blk
  | .box ls => .box (swL p q ls)
  | .arr fl e s rows => .arr fl e s rows
def Entry.sw (p q : Nat) : Entry → Entry
  | .slot t v => .slot t (v.sw p q)
  | .blk n b => .blk (Go.Proofs.YteaohgacgcjkjaaDoor.sw p q n) (b.sw p q)
  | .kill n => .kill (Go.Proofs.YteaohgacgcjkjaaDoor.sw p q n)
def swS (p q : Nat) (st : St) : St := st.map (Entry.sw p q)

section
variable {p q : Nat}
theorem PL.sw_names (l : PL) (k : Nat) : (l.sw p q).names (Go.Proofs.YteaohgacgcjkjaaDoor.sw p q k) = l.names k := by
  have hb : ∀ m : Nat, (Go.Proofs.YteaohgacgcjkjaaDoor.sw p q m == Go.Proofs.YteaohgacgcjkjaaDoor.sw p q k) = (m == k) := fun m => by
    by_cases h : m = k
    · subst h; rw [beq_self_eq_true, beq_self_eq_true]
    · have : ¬ Go.Proofs.YteaohgacgcjkjaaDoor.sw p q m = Go.Proofs.YteaohgacgcjkjaaDoor.sw p q k := fun e => h (sw_inj e)
      rw [beq_eq_false_iff_ne.2 this, beq_eq_false_iff_ne.2 h]
  cases l with
  | all m => exact hb m
  | ref m o l => exact hb m
  | ptr m o => exact hb m
  | pel m i o => exact hb m
  | fn f cap =>
    simp only [PL.sw, PL.names]
    induction cap with
    | nil => rfl
    | cons c r ih =>
      simp only [List.map_cons, List.contains_cons, ih]
      congr 1
      have := hb c
      rw [BEq.comm (a := k), BEq.comm (a := Go.Proofs.YteaohgacgcjkjaaDoor.sw p q k)]
      exact this
  | _ => rfl
theorem PL.sw_kill (l : PL) (k : Nat) : (l.kill k).sw p q = (l.sw p q).kill (Go.Proofs.YteaohgacgcjkjaaDoor.sw p q k) := by
  unfold PL.kill
  rw [PL.sw_names]
  cases l.names k <;> rfl
theorem swL_kill (ls : List PL) (k : Nat) : swL p q (ls.map (PL.kill k)) = (swL p q ls).map (PL.kill (Go.Proofs.YteaohgacgcjkjaaDoor.sw p q k)) := by
  induction ls with
  | nil => rfl
  | cons l r ih => simp only [List.map_cons, swL, ih, PL.sw_kill]
theorem PV.sw_kill (v : PV) (k : Nat) : (v.kill k).sw p q = (v.sw p q).kill (Go.Proofs.YteaohgacgcjkjaaDoor.sw p q k) := by
  cases v with
  | comp g ls => simp only [PV.kill, PV.sw, swL_kill]
  | tup vs =>
    simp only [PV.kill, PV.sw]
    congr 1
    induction vs with
    | nil => rfl
    | cons v r ih => simp only [List.map_cons, swT, ih, swL_kill]
theorem Blk.sw_kill (b : Blk) (k : Nat) : (b.kill k).sw p q = (b.sw p q).kill (Go.Proofs.YteaohgacgcjkjaaDoor.sw p q k) := by
  cases b with
  | box ls => simp only [Blk.kill, Blk.sw, swL_kill]
  | arr fl e s rows => rfl
theorem getS_sw (st : St) (t : Nat) : getS (swS p q st) t = (getS st t).sw p q := by
  unfold swS
  induction st with
  | nil => rfl
  | cons e r ih =>
    cases e with
    | slot s v =>
      simp only [List.map_cons, Entry.sw, getS]
      split
      · rfl
      · exact ih
    | blk n b => exact ih
    | kill n =>
      simp only [List.map_cons, Entry.sw, getS, ih, PV.sw_kill]
theorem getB_sw (st : St) (k : Nat) : getB (swS p q st) k = (getB st (sw p q k)).map (Blk.sw p q) := by
  unfold swS
  induction st with
  | nil => rfl
  | cons e r ih =>
    cases e with
    | slot s v => exact ih
    | blk n b =>
      simp only [List.map_cons, Entry.sw, getB]
      by_cases h : n = sw p q k
      · rw [if_pos h, if_pos (sw_iff.2 h)]; rfl
      · rw [if_neg h, if_neg (fun e => h (sw_iff.1 e))]; exact ih
    | kill n =>
      simp only [List.map_cons, Entry.sw, getB]
      by_cases h : n = sw p q k
      · rw [if_pos h, if_pos (sw_iff.2 h)]; rfl
      · rw [if_neg h, if_neg (fun e => h (sw_iff.1 e)), ih]
        rw [Option.map_map, Option.map_map]
        congr 1
        funext b
        exact (Blk.sw_kill b n).symm
end
section
variable {hb hb' : Nat → Option Blk} {η : Nat → Value} {γ : Nat → Option Nat} {w : World} {p q : Nat}
theorem RepP.sw (hbb : ∀ k, hb' k = (hb (Go.Proofs.YteaohgacgcjkjaaDoor.sw p q k)).map (Blk.sw p q)) (hk : Kp w w γ (fun b => (γ b).map (Go.Proofs.YteaohgacgcjkjaaDoor.sw p q))) {l : PL} {u : Value} (h : RepP hb η γ w l u) : RepP hb' (fun k => η (Go.Proofs.YteaohgacgcjkjaaDoor.sw p q k)) (fun b => (γ b).map (Go.Proofs.YteaohgacgcjkjaaDoor.sw p q)) w (l.sw p q) u := by
  have hA : ∀ m fl e s rows, hb m = some (.arr fl e s rows) → hb' (Go.Proofs.YteaohgacgcjkjaaDoor.sw p q m) = some (.arr fl e s rows) := fun m fl e s rows h => by rw [hbb, sw_sw, h]; rfl
  have hX : ∀ m ls, hb m = some (.box ls) → hb' (Go.Proofs.YteaohgacgcjkjaaDoor.sw p q m) = some (.box (swL p q ls)) := fun m ls h => by rw [hbb, sw_sw, h]; rfl
  cases l with
  | sc v => exact h
  | nil => exact h
  | sl rows => exact RepL.kp hk h
  | all m =>
    obtain ⟨h1, fl, e, s, rows, h2⟩ := h
    exact ⟨by simp only [sw_sw]; exact h1, fl, e, s, rows, hA _ _ _ _ _ h2⟩
  | ref m off len =>
    obtain ⟨fl, e, s, rows, h2, h3, h4⟩ := h
    refine ⟨fl, e, s, rows, hA _ _ _ _ _ h2, h3, ?_⟩
    simp only [sw_sw]
    exact h4
  | ptr m off =>
    obtain ⟨ls, b, h1, h2, h3⟩ := h
    exact ⟨_, b, hX _ _ h1, by simp only [sw_sw]; exact h2, h3⟩
  | pel m i off =>
    obtain ⟨fl, e, s, rows, b, c, h2, h3, h4, h5⟩ := h
    exact ⟨fl, e, s, rows, b, c, hA _ _ _ _ _ h2, h3, by simp only [sw_sw]; exact h4, h5⟩
  | prow cells off =>
    obtain ⟨b, o, us, h1, h2, h3, h4, h5⟩ := h
    exact ⟨b, o, us, by simp [h1], h2, h3, h4.kp hk, h5⟩
  | fn f cap =>
    obtain ⟨h1, h2⟩ := h
    refine ⟨?_, fun m hm => ?_⟩
    · rw [h1, List.map_map]
      congr 3
      funext k
      simp only [Function.comp, sw_sw]
    · obtain ⟨m0, hm0, rfl⟩ := List.mem_map.1 hm
      obtain ⟨ls, b, h3, h4⟩ := h2 m0 hm0
      exact ⟨_, b, hX _ _ h3, by simp only [sw_sw]; exact h4⟩
  | clo f boxes =>
    obtain ⟨bs, h1, h2, h3⟩ := h
    refine ⟨bs, h1, h2, fun j b c hj hc => ?_⟩
    obtain ⟨g1, g2, us, g3, g4⟩ := h3 j b c hj hc
    exact ⟨by simp [g1], g2, us, g3.kp hk, g4⟩
  | xl v rows => exact ⟨h.1, RepL.kp hk h.2⟩
  | dead => trivial
  | udf => exact h
theorem RepPs.sw (hbb : ∀ k, hb' k = (hb (Go.Proofs.YteaohgacgcjkjaaDoor.sw p q k)).map (Blk.sw p q)) (hk : Kp w w γ (fun b => (γ b).map (Go.Proofs.YteaohgacgcjkjaaDoor.sw p q))) {ls : List PL} {us : List Value} (h : RepPs hb η γ w ls us) : RepPs hb' (fun k => η (Go.Proofs.YteaohgacgcjkjaaDoor.sw p q k)) (fun b => (γ b).map (Go.Proofs.YteaohgacgcjkjaaDoor.sw p q)) w (swL p q ls) us := by
  rw [swL_map]
  refine ⟨by rw [List.length_map]; exact h.1, fun j l hj => ?_⟩
  rw [List.getElem?_map] at hj
  obtain ⟨l0, h1, rfl⟩ := Option.map_eq_some_iff.1 hj
  obtain ⟨u, h2, h3⟩ := h.2 j l0 h1
  exact ⟨u, h2, h3.sw hbb hk⟩
theorem RepC.sw (hbb : ∀ k, hb' k = (hb (Go.Proofs.YteaohgacgcjkjaaDoor.sw p q k)).map (Blk.sw p q)) (hk : Kp w w γ (fun b => (γ b).map (Go.Proofs.YteaohgacgcjkjaaDoor.sw p q))) {g : Bool} {ls : List PL} {u : Value} (h : RepC hb η γ w g ls u) : RepC hb' (fun k => η (Go.Proofs.YteaohgacgcjkjaaDoor.sw p q k)) (fun b => (γ b).map (Go.Proofs.YteaohgacgcjkjaaDoor.sw p q)) w g (swL p q ls) u := by
  cases g with
  | true =>
    obtain ⟨us, h1, h2⟩ := h
    exact ⟨us, h1, h2.sw hbb hk⟩
  | false =>
    obtain ⟨l, rfl, h2⟩ := h
    exact ⟨l.sw p q, rfl, h2.sw hbb hk⟩
theorem RepV.sw (hbb : ∀ k, hb' k = (hb (Go.Proofs.YteaohgacgcjkjaaDoor.sw p q k)).map (Blk.sw p q)) (hk : Kp w w γ (fun b => (γ b).map (Go.Proofs.YteaohgacgcjkjaaDoor.sw p q))) {v : PV} {u : Value} (h : RepV hb η γ w v u) : RepV hb' (fun k => η (Go.Proofs.YteaohgacgcjkjaaDoor.sw p q k)) (fun b => (γ b).map (Go.Proofs.YteaohgacgcjkjaaDoor.sw p q)) w (v.sw p q) u := by
  cases v with
  | comp g ls => exact RepC.sw hbb hk h
  | tup vs =>
    obtain ⟨us, h1, h2, h3⟩ := h
    refine ⟨us, h1, by rw [swT_map, List.length_map]; exact h2, fun j g ls hj => ?_⟩
    rw [swT_map, List.getElem?_map] at hj
    obtain ⟨⟨g0, l0⟩, h4, h5⟩ := Option.map_eq_some_iff.1 hj
    simp only [Prod.mk.injEq] at h5
    obtain ⟨rfl, rfl⟩ := h5
    obtain ⟨u, h6, h7⟩ := h3 j _ _ h4
    refine ⟨u, h6, ?_⟩
    rw [← swL_map]
    exact h7.sw hbb hk
end
section
variable {γ0 : Nat → Option Nat} {w0 : World} {N : Nat} {st : St} {a : Act} {w : World} {Q : Exit → Act → World → Prop} {e : Exit} {p q : Nat}
theorem R.sw (h : R γ0 w0 N st a w) (hp : p ≠ 999) (hq : q ≠ 999) : R γ0 w0 N (swS p q st) a w := by
  obtain ⟨η, γ, hI⟩ := h
  have h9 : Go.Proofs.YteaohgacgcjkjaaDoor.sw p q 999 = 999 := sw_no (fun e => hp e.symm) (fun e => hq e.symm)
  have hbb : ∀ k, getB (swS p q st) k = (getB st (Go.Proofs.YteaohgacgcjkjaaDoor.sw p q k)).map (Blk.sw p q) := fun k => getB_sw st k
  have hk : Kp w w γ (fun b => (γ b).map (Go.Proofs.YteaohgacgcjkjaaDoor.sw p q)) := ⟨Nat.le_refl _, fun b _ hg => ⟨by simp [hg], rfl⟩⟩
  refine ⟨fun k => η (Go.Proofs.YteaohgacgcjkjaaDoor.sw p q k), fun b => (γ b).map (Go.Proofs.YteaohgacgcjkjaaDoor.sw p q), { hI with slots := fun t => ?_, blks := fun k b hbk => ?_, live := fun b k hgb => ?_, low := fun b hb0 hg0 => ?_, pin := fun h9' b ls hgb hbx => ?_, pinA := fun h9' fl e s rows hbx => ?_ }⟩
  · rw [getS_sw]
    exact (hI.slots t).sw hbb hk
  · rw [hbb] at hbk
    obtain ⟨b0, hb0, rfl⟩ := Option.map_eq_some_iff.1 hbk
    have h1 := hI.blks _ b0 hb0
    cases b0 with
    | box ls =>
      obtain ⟨b, us, t2, h2, h3, h4, h5⟩ := h1
      exact ⟨b, us, t2, h2, by simp [h3, sw_sw], h4, h5.sw hbb hk⟩
    | arr fl e s rows =>
      obtain ⟨xs, h2, h3, h4, h5, h6⟩ := h1
      exact ⟨xs, h2, h3.kp hk, h4, fun b hb => by simp [h5 b hb, sw_sw], h6⟩
  · obtain ⟨n, h1, h2⟩ := Option.map_eq_some_iff.1 hgb
    obtain ⟨h3, h4, h5⟩ := hI.live b n h1
    have e : Go.Proofs.YteaohgacgcjkjaaDoor.sw p q k = n := by rw [← h2, sw_sw]
    refine ⟨h3, by simp only [e]; exact h4, ?_⟩
    rw [hbb, e]
    simpa using h5
  · obtain ⟨h1, h2⟩ := hI.low b hb0 hg0
    exact ⟨by simp [h1], h2⟩
  · obtain ⟨n, h1, h2⟩ := Option.map_eq_some_iff.1 hgb
    have e : n = 999 := by rw [sw_iff, h9] at h2; exact h2
    subst e
    rw [hbb, h9] at hbx
    obtain ⟨b0, hb0, h3⟩ := Option.map_eq_some_iff.1 hbx
    cases b0 with
    | box ls0 => exact hI.pin h9' b ls0 h1 hb0
    | arr fl e s rows => cases h3
  · rw [hbb, h9] at hbx
    obtain ⟨b0, hb0, h3⟩ := Option.map_eq_some_iff.1 hbx
    cases b0 with
    | box ls0 => cases h3
    | arr fl0 e0 s0 rows0 =>
      cases h3
      simp only [h9]
      exact hI.pinA h9' _ _ _ _ hb0
theorem At.sw (p q : Nat) (hp : p ≠ 999) (hq : q ≠ 999) (h : At γ0 w0 N (swS p q st) e Q) : At γ0 w0 N st e Q := fun a w hR => h a w (hR.sw hp hq)
theorem W.sw {P : Program} {c : Code} (p q : Nat) (hp : p ≠ 999) (hq : q ≠ 999) (h : W P γ0 w0 N (swS p q st) c Q) : W P γ0 w0 N st c Q := fun a w hR => h a w (hR.sw hp hq)
/-- a state of some entries, after names are swapped, one pair after another -/
theorem At.sw1 (p q : Nat) (st' : St) (hp : p ≠ 999 := by decide) (hq : q ≠ 999 := by decide) (hs : Sub st' (swS p q st) := by simp (disch := omega) only [Sub, SubL, getS_hit, getS_miss, getS_blk, getS_kill, getS_nil, getB_nil, getB_slot, getB_hit, getB_miss, getB_kill0, getB_kill1, lsNms, vsNms, PL.nms, PV.nms, Blk.nms, bound, PV.kill, PL.kill, PL.names, List.append_nil, List.nil_append, List.cons_append, and_true, true_and, and_self, getS_sw, getB_sw, sw, PV.sw, PL.sw, Blk.sw, swL, swT, Nat.reduceEqDiff, reduceIte, Option.map_some, *] <;> (repeat' apply And.intro) <;> rfl) (h : At γ0 w0 N st' e Q) : At γ0 w0 N st e Q :=
  At.sw p q hp hq (At.sub hs h)
theorem At.sw2 (p q p2 q2 : Nat) (st' : St) (hp : p ≠ 999 := by decide) (hq : q ≠ 999 := by decide) (hp2 : p2 ≠ 999 := by decide) (hq2 : q2 ≠ 999 := by decide) (hs : Sub st' (swS p2 q2 (swS p q st)) := by simp (disch := omega) only [Sub, SubL, getS_hit, getS_miss, getS_blk, getS_kill, getS_nil, getB_nil, getB_slot, getB_hit, getB_miss, getB_kill0, getB_kill1, lsNms, vsNms, PL.nms, PV.nms, Blk.nms, bound, PV.kill, PL.kill, PL.names, List.append_nil, List.nil_append, List.cons_append, and_true, true_and, and_self, getS_sw, getB_sw, sw, PV.sw, PL.sw, Blk.sw, swL, swT, Nat.reduceEqDiff, reduceIte, Option.map_some, *] <;> (repeat' apply And.intro) <;> rfl) (h : At γ0 w0 N st' e Q) : At γ0 w0 N st e Q :=
  At.sw p q hp hq (At.sw p2 q2 hp2 hq2 (At.sub hs h))
end
end Go.Proofs.YteaohgacgcjkjaaDoor
