/-
  Put together: PEvPeer PEvValF PEvShaF PEvEnough.
-/
import Derived.Test.YtfgkfcfplodaoaaGreatDoorG19
set_option linter.unusedSimpArgs false
set_option linter.unusedVariables false
set_option maxRecDepth 100000
section
namespace Go.Proofs.YtfgkfcfplodaoaaGreatDoor
open Go Go.RowKit
set_option maxHeartbeats 4000000
abbrev TPeer := Int × Bool × Int × Int
def cPeer (p : TPeer) : List Value := [.int .i64 p.1, .bool p.2.1, .int .i64 p.2.2.1, .int .i64 p.2.2.2]
@[simp] theorem rowsF_Peer {a b : List TPeer} : rowsF cPeer a = rowsF cPeer b ↔ a = b := rowsF_iff fun x y h => by simpa [cPeer, Prod.ext_iff] using h
abbrev TTab := List TPeer × Int
abbrev aTab (t : TTab) : Arg := .val true [.sl (rowsF cPeer t.1), .sc (.int .i64 t.2)]
abbrev rTab (t : TTab) : List RL := [.own .ft 209 4 (rowsF cPeer t.1), .ro (.sc (.int .i64 t.2))]
abbrev bxTab (t : TTab) : Blk := .box [.sl (rowsF cPeer t.1), .sc (.int .i64 t.2)]
theorem aTab_inj {a b : TTab} (h : aTab a = aTab b) : a = b := by
  obtain ⟨a1, a2⟩ := a
  obtain ⟨b1, b2⟩ := b
  simpa using h
theorem cPeer_row (l : List TPeer) (k : Nat) (h : k < l.length) : (rowsF cPeer l)[k]? = some [.sc (.int .i64 l[k].1), .sc (.bool l[k].2.1), .sc (.int .i64 l[k].2.2.1), .sc (.int .i64 l[k].2.2.2)] := rowsF_get cPeer l k h
theorem cPeer_app (l : List TPeer) (a : Int) (b : Bool) (c d : Int) : rowsF cPeer l ++ [[Leaf.sc (.int .i64 a), .sc (.bool b), .sc (.int .i64 c), .sc (.int .i64 d)]] = rowsF cPeer (l ++ [(a, b, c, d)]) := by rw [← rowsF_app]; rfl
def atP (l : List TPeer) (id : Int) : Int := idxP (fun p => decide (p.1 = id)) l
theorem idxP_cases' {α : Type} (p : α → Bool) (l : List α) : (∃ k, ∃ hk : k < l.length, idxP p l = (k : Int) ∧ p l[k] = true ∧ ∀ j, (hj : j < k) → p l[j] = false) ∨ (idxP p l = -1 ∧ ∀ j, (hj : j < l.length) → p l[j] = false) := by
  unfold idxP
  by_cases h : l.findIdx p < l.length
  · left
    rw [if_pos h]
    exact ⟨_, h, rfl, List.findIdx_getElem (w := h), fun j hj => by simpa using List.not_of_lt_findIdx hj⟩
  · right
    rw [if_neg h]
    refine ⟨rfl, fun j hj => ?_⟩
    cases hp : p l[j] with
    | false => rfl
    | true => exact absurd (List.findIdx_lt_length_of_exists ⟨l[j], List.getElem_mem hj, hp⟩) h
theorem atP_cases (l : List TPeer) (id : Int) : (∃ k, ∃ hk : k < l.length, atP l id = (k : Int) ∧ l[k].1 = id) ∨ atP l id = -1 := by
  rcases idxP_cases' (fun p : TPeer => decide (p.1 = id)) l with ⟨k, hk, h1, h2, _⟩ | ⟨h1, _⟩
  · exact .inl ⟨k, hk, h1, of_decide_eq_true h2⟩
  · exact .inr h1
theorem atP_in (l : List TPeer) (id : Int) (h : l.length ≤ 8796093022207) : -1 ≤ atP l id ∧ atP l id ≤ 8796093022207 := by
  rcases atP_cases l id with ⟨k, hk, h1, _⟩ | h1
  · rw [h1]; omega
  · rw [h1]; omega
def peerD (l : List TPeer) (j : Nat) : TPeer := l.getD j (0, false, 0, 0)
theorem peerD_get {l : List TPeer} {j : Nat} (h : j < l.length) : peerD l j = l[j] := by
  unfold peerD
  rw [List.getD_eq_getElem?_getD, List.getElem?_eq_getElem h]
  rfl
theorem peerD_row {l : List TPeer} {k : Nat} (h : k < l.length) : (rowsF cPeer l)[k]? = some [.sc (.int .i64 (peerD l k).1), .sc (.bool (peerD l k).2.1), .sc (.int .i64 (peerD l k).2.2.1), .sc (.int .i64 (peerD l k).2.2.2)] := by
  rw [cPeer_row l k h, peerD_get h]
def peerOk (p : TPeer) : Prop := (1 ≤ p.1 ∧ p.1 ≤ 99) ∧ (0 ≤ p.2.2.1 ∧ p.2.2.1 ≤ 1000320) ∧ (0 ≤ p.2.2.2 ∧ p.2.2.2 ≤ 20)
def peerAt (l : List TPeer) (j : Nat) : Prop := peerOk (peerD l j) ∧ atP l (peerD l j).1 = (j : Int)
def tabOk (t : TTab) : Prop := (t.1.length ≤ 6 ∧ 0 ≤ t.2 ∧ t.2 ≤ 1000000) ∧ ∀ j, j < t.1.length → peerAt t.1 j
open Classical in
noncomputable instance (t : TTab) : Decidable (tabOk t) := Classical.propDecidable _
theorem peer_next {l : List TPeer} {k : Nat} (hI : ∀ j, j < k → peerAt l j) (h : peerAt l k) : ∀ j, j < k + 1 → peerAt l j := fun j hj => by
  rcases Nat.lt_or_ge j k with h1 | h1
  · exact hI j h1
  · have : j = k := by omega
    subst this
    exact h
abbrev okTab (t : TTab) : Prop := t.1.length ≤ 1048576
noncomputable def mCopyT := mdl okTab (fun t => [aTab t]) (fun t => .comp true (rTab t))
theorem mCopyT_eq (t : TTab) (h : okTab t) : mCopyT [aTab t] = some (.comp true (rTab t)) := mdl_eq (fun a b h => aTab_inj (by simpa using h)) t h
theorem copyTI_s : Sound Tryz.prog 190 mCopyT := by
  refine Sound.mdl Tryz.func190 rfl Tryz.ntmps190 ?_
  rintro ⟨l, n⟩ w hl
  refine ⟨by simp, ?_⟩
  replace hl : l.length ≤ 1048576 := hl
  have hΓ : GSound Tryz.prog (look []) := env_nil
  have hw : wid 4 (rowsF cPeer l) := rowsF_wid (f := cPeer) (fun _ => rfl) l
  have hlen := rowsF_len cPeer l
  have hnil : ([] : List (List Leaf)) ++ rowsF cPeer l = rowsF cPeer l := rfl
  simp only [initS, argPV, List.map_cons, List.map_nil, toPL, Nat.zero_add]
  refine zR ?_
  refine W.subA [.slot 2 (one (.ptr 2 0)), .blk 2 (.box [.nil, .sc (.int .i64 0)]), .slot 1 (one (.ptr 1 0)), .blk 1 (bxTab (l, n))] (h := ?_)
  refine AllGo.start hΓ (h := ?_)
  refine AllGo.add 0 0 (h := ?_)
  refine AllGo.add 1 1 (h := ?_)
  refine AllGo.add 3 2 (h := ?_)
  refine AllGo.add 0 3 (h := ?_)
  refine AllGo.add 1 3 (h := ?_)
  refine AllGo.add 3 3 (h := ?_)
  refine AllGo.add 7 3 (h := ?_)
  refine AllGo.add 8 4 (h := ?_)
  refine AllGo.add 9 4 (h := ?_)
  refine AllGo.add 11 4 (h := ?_)
  refine AllGo.add 15 4 (h := ?_)
  refine AllGo.add 31 5 (h := ?_)
  refine AllGo.add 63 6 (h := ?_)
  refine AllGo.done hΓ [(0, 0), (0, 3), (1, 1), (1, 3), (3, 2), (3, 3), (7, 3), (8, 0), (8, 4), (9, 1), (9, 4), (11, 2), (11, 4), (15, 4), (24, 0), (25, 1), (27, 2), (31, 5), (63, 6)] (hp := ?hp1) (hD := ?hD1) (h0 := ?h01) (hS := ?hS1) (stE := ?stE1) (hE := ?hE1) (hT := ?hT1)
  case hp1 => kernel_rfl
  case hD1 => kernel_rfl
  case h01 => rfl
  case hS1 =>
    repeat (refine List.forall_mem_cons.2 ⟨StepAt.mk' (ho := by rfl) (hg := by rfl) (hm := by simp only [tabJ, eq_self, Nat.reduceEqDiff, reduceIte] <;> rfl) (hn := by simp only [tabJ, eq_self, Nat.reduceEqDiff, Nat.reduceAdd, Nat.reducePow, reduceIte] <;> rfl) (hs := by exact evsP) (hb := by simp (disch := omega) only [Sub, SubL, getS_hit, getS_miss, getS_blk, getS_kill, getS_nil, getB_nil, getB_slot, getB_hit, getB_miss, getB_kill0, getB_kill1, lsNms, vsNms, PL.nms, PV.nms, Blk.nms, bound, PV.kill, PL.kill, PL.names, List.append_nil, List.nil_append, List.cons_append, and_true, true_and, and_self, *] <;> (repeat' apply And.intro) <;> rfl), ?_⟩)
    exact List.forall_mem_nil _
  case hE1 => simp only [tabJ, eq_self, Nat.reduceEqDiff, List.length_cons, List.length_nil, Nat.reduceAdd, Nat.reducePow, Nat.reduceSub, reduceIte] <;> rfl
  with_reducible apply WL.nil
  refine zR ?_
  refine At.retA (by rw [Tryz.results190]) (he := rfl)
abbrev aPeer (p : TPeer) : Arg := .val true [.sc (.int .i64 p.1), .sc (.bool p.2.1), .sc (.int .i64 p.2.2.1), .sc (.int .i64 p.2.2.2)]
noncomputable def mAtP := mdl (fun x : TTab × Int => x.1.1.length ≤ 8796093022207) (fun x => [aTab x.1, aI x.2]) (fun x => rI (atP x.1.1 x.2))
theorem mAtP_eq (t : TTab) (id : Int) (h : t.1.length ≤ 8796093022207) : mAtP [aTab t, aI id] = some (rI (atP t.1 id)) := mdl_eq (by
  rintro ⟨⟨a, b⟩, c⟩ ⟨⟨d, e⟩, f⟩ h
  simp at h
  simp [h]) (t, id) h
noncomputable def mIdP := mdl (fun _ : TPeer × Int => True) (fun x => [aPeer x.1, .row [.sc (.int .i64 x.2)] 0]) (fun x => rB (decide (x.1.1 = x.2)))
theorem mIdP_eq (p : TPeer) (id : Int) : mIdP [aPeer p, .row [.sc (.int .i64 id)] 0] = some (rB (decide (p.1 = id))) := mdl_eq (by
  rintro ⟨⟨a, b, c, d⟩, e⟩ ⟨⟨a', b', c', d'⟩, e'⟩ h
  simp at h
  simp [h]) (p, id) trivial
theorem idP_s : Sound Tryz.prog 234 mIdP := by
  refine Sound.mdl Tryz.func234 rfl Tryz.ntmps234 ?_
  rintro ⟨⟨a, b, c, d⟩, e⟩ w -
  refine ⟨by simp, ?_⟩
  have hΓ : GSound Tryz.prog (look []) := env_nil
  simp only [initS, argPV, List.map_cons, List.map_nil, toPL, Nat.zero_add]
  refine zR ?_
  refine At.retA (by rw [Tryz.results234]) (he := rfl)
noncomputable def mIdxP (f : FuncId) (boxes : List (List Leaf)) (p : TPeer → Bool) := mdl (fun l : List TPeer => l.length ≤ 8796093022207) (fun l => [aL cPeer l, .clo f boxes]) (fun l => rI (idxP p l))
theorem mIdxP_eq (f : FuncId) (boxes : List (List Leaf)) (p : TPeer → Bool) (l : List TPeer) (h : l.length ≤ 8796093022207) : mIdxP f boxes p [aL cPeer l, .clo f boxes] = some (rI (idxP p l)) := mdl_eq (by intro a b h; simpa using h) l h
theorem idxP_s {f : FuncId} {boxes : List (List Leaf)} {p : TPeer → Bool} {mf : List Arg → Option Res} (hf : Has Tryz.prog f) (hs : Sound Tryz.prog f mf) (hm : ∀ x, mf ([aPeer x] ++ boxes.map fun c => .row c 0) = some (rB (p x))) : Sound Tryz.prog 191 (mIdxP f boxes p) := by
  refine Sound.mdl Tryz.func191 rfl Tryz.ntmps191 ?_
  rintro l w hl
  refine ⟨by simp, ?_⟩
  replace hl : l.length ≤ 8796093022207 := hl
  have hΓ : GSound Tryz.prog (look [(f, mf)]) := env_cons hf hs env_nil
  clear hs hf
  have hlen := rowsF_len cPeer l
  simp only [initS, argPV, List.map_cons, List.map_nil, toPL, Nat.zero_add]
  refine zR ?_
  refine W.loopA (fun k => k ≤ l.length ∧ ∀ j, (h : j < k) → ∀ hj : j < l.length, p l[j] = false) (fun k : Nat => [.slot 8 (vI k), .slot 7 (vI l.length), .slot 0 (vL cPeer l), .slot 1 (one (.clo f boxes))]) (fun k => l.length - k) 0 ⟨Nat.zero_le _, fun j hj => by omega⟩ (h := ?_)
  rintro k ⟨hk, hn⟩
  by_cases hlt : k < l.length
  · have hrow := cPeer_row l k hlt
    have hm := hm l[k]
    simp only [List.cons_append, List.nil_append] at hm
    cases hp : p l[k] with
    | true =>
      have hv := idxP_at (p := p) hlt (fun j hj => hn j hj _) hp
      rw [hp] at hm
      clear hn hp
      generalize l[k] = x at hrow hm
      obtain ⟨x1, x2, x3, x4⟩ := x
      dsimp only [aPeer] at hm hrow
      refine zR ?_
      refine At.retA (by rw [Tryz.results191]) (he := ?_)
      rw [hv]
    | false =>
      have hnx : ∀ j, (h : j < k + 1) → ∀ hj : j < l.length, p l[j] = false := fun j h hj => by
        rcases Nat.lt_or_ge j k with h1 | h1
        · exact hn j h1 hj
        · have : j = k := by omega
          subst this
          exact hp
      rw [hp] at hm
      clear hn hp
      generalize l[k] = x at hrow hm
      obtain ⟨x1, x2, x3, x4⟩ := x
      dsimp only [aPeer] at hm hrow
      refine zR ?_
      exact At.roundA (k + 1) ⟨by omega, hnx⟩ (by omega)
  · have hv := idxP_no (p := p) (l := l) (fun j hj => hn j (by omega) hj)
    clear hn
    refine zR ?_
    refine At.retA (by rw [Tryz.results191]) (he := ?_)
    rw [hv]
theorem atPI_s : Sound Tryz.prog 193 mAtP := by
  refine Sound.mdl Tryz.func193 rfl Tryz.ntmps193 ?_
  rintro ⟨⟨l, n⟩, id⟩ w hl
  refine ⟨by simp, ?_⟩
  replace hl : l.length ≤ 8796093022207 := hl
  have hΓ : GSound Tryz.prog (look [(191, mIdxP 234 [[.sc (.int .i64 id)]] (fun p => decide (p.1 = id)))]) := env_cons (has_of Tryz.func191 rfl rfl) (idxP_s (has_of Tryz.func234 rfl rfl) idP_s (fun x => mIdP_eq x id)) env_nil
  have c := mIdxP_eq 234 [[.sc (.int .i64 id)]] (fun p => decide (p.1 = id)) l hl
  simp only [initS, argPV, List.map_cons, List.map_nil, toPL, Nat.zero_add]
  refine zR ?_
  refine At.retA (by rw [Tryz.results193]) (he := rfl)
end Go.Proofs.YtfgkfcfplodaoaaGreatDoor

end
section
namespace Go.Proofs.YtfgkfcfplodaoaaGreatDoor
open Go Go.RowKit
set_option maxHeartbeats 8000000
theorem val_row {l : List TVal} {k : Nat} (h : k < l.length) : (rowsF cVal l)[k]? = some [.sc (.int .i64 l[k].1), .sc (.int .i64 l[k].2)] := rowsF_get cVal l k h
def SameK {α : Type} (a b : List α) (k : Nat) : Prop := ∀ j, j < k → a[j]? = b[j]?
theorem SameK.next {α : Type} {a b : List α} {k : Nat} (h : SameK a b k) (h1 : k < a.length) (h2 : k < b.length) (he : a[k] = b[k]) : SameK a b (k + 1) := fun j hj => by
  rcases Nat.lt_succ_iff_lt_or_eq.1 hj with h3 | rfl
  · exact h j h3
  · rw [List.getElem?_eq_getElem h1, List.getElem?_eq_getElem h2, he]
theorem SameK.all {α : Type} {a b : List α} (hl : a.length = b.length) (h : SameK a b a.length) : a = b := List.ext_getElem? fun j => by
  rcases Nat.lt_or_ge j a.length with h1 | h1
  · exact h j h1
  · rw [List.getElem?_eq_none h1, List.getElem?_eq_none (by omega)]
end Go.Proofs.YtfgkfcfplodaoaaGreatDoor

end
section
namespace Go.Proofs.YtfgkfcfplodaoaaGreatDoor
open Go Go.RowKit
set_option maxHeartbeats 4000000
noncomputable def fce {α : Type} (x : Nat) (f : Nat → α) : α := Nat.rec (f 0) (fun n _ => f (n + 1)) x
theorem fce_eq {α : Type} (x : Nat) (f : Nat → α) : fce x f = f x := by cases x <;> rfl
noncomputable def nth (l : List Nat) : Nat → Nat := List.rec (motive := fun _ => Nat → Nat) (fun _ => 0) (fun x _ ih i => Nat.rec x (fun j _ => ih j) i) l
theorem nth_eq : ∀ (l : List Nat) (i : Nat), nth l i = l.getD i 0
  | [], i => by simp [nth]
  | x :: l, 0 => rfl
  | x :: l, i + 1 => by
    show nth l i = _
    rw [nth_eq l i]
    simp
noncomputable def goR (ks : List Nat) : Nat → Nat → Nat → Nat → Nat → Nat → Nat → Nat → Nat → Nat → Nat → Nat → Nat → Nat → Nat → Nat → Nat → Nat → Nat → Nat → Nat → Nat → Nat → Nat → Nat :=
  List.rec (motive := fun _ => Nat → Nat → Nat → Nat → Nat → Nat → Nat → Nat → Nat → Nat → Nat → Nat → Nat → Nat → Nat → Nat → Nat → Nat → Nat → Nat → Nat → Nat → Nat → Nat → Nat)
    (fun a b _ _ _ _ _ _ _ _ _ _ _ _ _ _ _ _ _ _ _ _ _ _ => (1779033703 + a) % 4294967296 * 4294967296 + (3144134277 + b) % 4294967296)
    (fun k _ ih a b c d e f g h w0 w1 w2 w3 w4 w5 w6 w7 w8 w9 w10 w11 w12 w13 w14 w15 =>
      fce (h + big1 e + chs e f g + (k + w0)) fun t => fce ((t + (big0 a + maj a b c)) % 4294967296) fun a' => fce ((d + t) % 4294967296) fun e' =>
      fce ((w0 + sig0 w1 + w9 + sig1 w14) % 4294967296) fun w => ih a' a b c e' e f g w1 w2 w3 w4 w5 w6 w7 w8 w9 w10 w11 w12 w13 w14 w15 w) ks
theorem goR_nil (a b c d e f g h w0 w1 w2 w3 w4 w5 w6 w7 w8 w9 w10 w11 w12 w13 w14 w15 : Nat) : goR [] a b c d e f g h w0 w1 w2 w3 w4 w5 w6 w7 w8 w9 w10 w11 w12 w13 w14 w15 = (1779033703 + a) % 4294967296 * 4294967296 + (3144134277 + b) % 4294967296 := rfl
theorem goR_cons (k : Nat) (ks : List Nat) (a b c d e f g h w0 w1 w2 w3 w4 w5 w6 w7 w8 w9 w10 w11 w12 w13 w14 w15 : Nat) : goR (k :: ks) a b c d e f g h w0 w1 w2 w3 w4 w5 w6 w7 w8 w9 w10 w11 w12 w13 w14 w15 =
    goR ks ((h + big1 e + chs e f g + (k + w0) + (big0 a + maj a b c)) % 4294967296) a b c ((d + (h + big1 e + chs e f g + (k + w0))) % 4294967296) e f g w1 w2 w3 w4 w5 w6 w7 w8 w9 w10 w11 w12 w13 w14 w15 ((w0 + sig0 w1 + w9 + sig1 w14) % 4294967296) := by
  unfold goR
  simp only [fce_eq]
def shBk (l : List Nat) : List Nat := l ++ (padZ (55 - l.length) ++ fixB 8 (8 * l.length))
noncomputable def wL (p : List Nat) (i : Nat) : Nat := be4 (nth p (4 * i)) (nth p (4 * i + 1)) (nth p (4 * i + 2)) (nth p (4 * i + 3))
noncomputable def hash1 (l : List Nat) : Nat :=
  fce (wL (shBk l) 0) fun w0 => fce (wL (shBk l) 1) fun w1 => fce (wL (shBk l) 2) fun w2 => fce (wL (shBk l) 3) fun w3 =>
  fce (wL (shBk l) 4) fun w4 => fce (wL (shBk l) 5) fun w5 => fce (wL (shBk l) 6) fun w6 => fce (wL (shBk l) 7) fun w7 =>
  fce (wL (shBk l) 8) fun w8 => fce (wL (shBk l) 9) fun w9 => fce (wL (shBk l) 10) fun w10 => fce (wL (shBk l) 11) fun w11 =>
  fce (wL (shBk l) 12) fun w12 => fce (wL (shBk l) 13) fun w13 => fce (wL (shBk l) 14) fun w14 => fce (wL (shBk l) 15) fun w15 =>
  goR shaW 1779033703 3144134277 1013904242 2773480762 1359893119 2600822924 528734635 1541459225 w0 w1 w2 w3 w4 w5 w6 w7 w8 w9 w10 w11 w12 w13 w14 w15
def sW (s : ByteArray) (k : Nat) : Nat := (sch s (k + 1)).getD k 0
theorem sch_get (s : ByteArray) {k : Nat} : ∀ n, k < n → (sch s n).getD k 0 = sW s k
  | 0, h => by omega
  | n + 1, h => by
    rcases Nat.lt_or_ge k n with h1 | h1
    · rw [← sch_get s n h1]
      show (sch s n ++ [_]).getD k 0 = _
      rw [List.getD_eq_getElem?_getD, List.getElem?_append_left (by rw [sch_len]; exact h1), ← List.getD_eq_getElem?_getD]
    · have : k = n := by omega
      subst this
      rfl
theorem sW_lo (s : ByteArray) {k : Nat} (h : k < 16) : sW s k = wAt s k := by
  unfold sW
  rw [sch, if_pos h, List.getD_eq_getElem?_getD, List.getElem?_append_right (by rw [sch_len]; exact Nat.le_refl _), sch_len, Nat.sub_self, List.getElem?_cons_zero, Option.getD_some]
theorem sW_hi (s : ByteArray) (k : Nat) : sW s (k + 16) = (sW s k + sig0 (sW s (k + 1)) + sW s (k + 9) + sig1 (sW s (k + 14))) % 4294967296 := by
  have e : sW s (k + 16) = ((sch s (k + 16)).getD (k + 16 - 16) 0 + sig0 ((sch s (k + 16)).getD (k + 16 - 15) 0) + (sch s (k + 16)).getD (k + 16 - 7) 0 + sig1 ((sch s (k + 16)).getD (k + 16 - 2) 0)) % 4294967296 := by
    unfold sW
    rw [sch, if_neg (by omega), List.getD_eq_getElem?_getD, List.getElem?_append_right (by rw [sch_len]; exact Nat.le_refl _), sch_len, Nat.sub_self, List.getElem?_cons_zero, Option.getD_some]
  rw [e, show k + 16 - 16 = k by omega, show k + 16 - 15 = k + 1 by omega, show k + 16 - 7 = k + 9 by omega, show k + 16 - 2 = k + 14 by omega,
    sch_get s _ (by omega), sch_get s _ (by omega), sch_get s _ (by omega), sch_get s _ (by omega)]
def two64 (v : W8) : Nat := v.a * 4294967296 + v.b
theorem shaW_len : shaW.length = 64 := by decide
theorem goR_eq (s : ByteArray) : ∀ n k, k + n = 64 → goR (shaW.drop k) (rnds s H0 k).a (rnds s H0 k).b (rnds s H0 k).c (rnds s H0 k).d (rnds s H0 k).e (rnds s H0 k).f (rnds s H0 k).g (rnds s H0 k).h
    (sW s k) (sW s (k + 1)) (sW s (k + 2)) (sW s (k + 3)) (sW s (k + 4)) (sW s (k + 5)) (sW s (k + 6)) (sW s (k + 7)) (sW s (k + 8)) (sW s (k + 9)) (sW s (k + 10)) (sW s (k + 11)) (sW s (k + 12)) (sW s (k + 13)) (sW s (k + 14)) (sW s (k + 15)) = two64 (block H0 s)
  | 0, k, h => by
    have hk : k = 64 := by omega
    subst hk
    have : shaW.drop 64 = [] := List.drop_eq_nil_of_le (by rw [shaW_len]; exact Nat.le_refl _)
    rw [this, goR_nil]
    rfl
  | n + 1, k, h => by
    have hk : k < shaW.length := by rw [shaW_len]; omega
    rw [List.drop_eq_getElem_cons hk, goR_cons, ← sW_hi s k]
    have ih := goR_eq s n (k + 1) (by omega)
    have e : rnds s H0 (k + 1) = rnd (rnds s H0 k) (shaW[k] + sW s k) := by
      show rnd (rnds s H0 k) (shaK k + (sch s 64).getD k 0) = _
      rw [sch_get s 64 (by omega)]
      unfold shaK
      rw [List.getD_eq_getElem?_getD, List.getElem?_eq_getElem hk]
      rfl
    rw [e] at ih
    exact ih
theorem byte_bsS {l : List Nat} (h : ∀ x ∈ l, x < 256) (i : Nat) : byteN (bsS l) i = nth l i := by
  rw [nth_eq]
  unfold byteN byteU bsS
  show ((l.map UInt8.ofNat).toArray.toList.getD i 0).toNat = _
  rw [List.getD_eq_getElem?_getD, List.getD_eq_getElem?_getD, List.getElem?_map]
  cases hg : l[i]? with
  | none => rfl
  | some x =>
    have := h x (List.mem_of_getElem? hg)
    show (UInt8.ofNat x).toNat = x
    exact Nat.mod_eq_of_lt this
theorem fixB_lt (k n : Nat) : ∀ x ∈ fixB k n, x < 256 := by
  induction k with
  | zero => intro x h; cases h
  | succ k ih =>
    intro x h
    rcases List.mem_cons.1 h with rfl | h
    · exact Nat.mod_lt _ (by omega)
    · exact ih x h
theorem shBk_lt {l : List Nat} (h : ∀ x ∈ l, x < 256) : ∀ x ∈ shBk l, x < 256 := by
  intro x hx
  unfold shBk padZ at hx
  rcases List.mem_append.1 hx with h1 | h1
  · exact h x h1
  · rcases List.mem_append.1 h1 with h1 | h1
    · rcases List.mem_cons.1 h1 with rfl | h1
      · omega
      · rw [List.eq_of_mem_replicate h1]; omega
    · exact fixB_lt _ _ x h1
theorem wL_eq {p : List Nat} (h : ∀ x ∈ p, x < 256) (i : Nat) : wAt (bsS p) i = wL p i := by
  unfold wAt wL
  rw [byte_bsS h, byte_bsS h, byte_bsS h, byte_bsS h]
theorem padS_short {l : List Nat} (h : l.length ≤ 55) : padS (bsS l) = bsS (shBk l) := by
  have hz : zPd l.length = 55 - l.length := by unfold zPd; omega
  unfold padS shBk
  rw [bsS_size, hz, bsS_app]
theorem shBk_len {l : List Nat} (h : l.length ≤ 55) : (shBk l).length = 64 := by
  unfold shBk
  rw [List.length_append, List.length_append, padZ_len, fixB_len]
  omega
theorem hash1_eq {l : List Nat} (hl : l.length ≤ 55) (h : ∀ x ∈ l, x < 256) : two64 (shaW8 (bsS l)) = hash1 l := by
  have hb := shBk_lt h
  have hx : (bsS (shBk l)).size = 64 := by rw [bsS_size, shBk_len hl]
  have e : shaW8 (bsS l) = block H0 (bsS (shBk l)) := by
    unfold shaW8
    rw [padS_short hl, hx]
    show block H0 ((bsS (shBk l)).extract 0 64) = _
    rw [show (bsS (shBk l)).extract 0 64 = bsS (shBk l) by rw [← hx]; exact ByteArray.extract_zero_size]
  rw [e, ← goR_eq (bsS (shBk l)) 64 0 rfl]
  simp only [Nat.zero_add]
  rw [sW_lo _ (by omega), sW_lo _ (by omega), sW_lo _ (by omega), sW_lo _ (by omega), sW_lo _ (by omega), sW_lo _ (by omega), sW_lo _ (by omega), sW_lo _ (by omega),
    sW_lo _ (by omega), sW_lo _ (by omega), sW_lo _ (by omega), sW_lo _ (by omega), sW_lo _ (by omega), sW_lo _ (by omega), sW_lo _ (by omega), sW_lo _ (by omega)]
  unfold hash1
  simp only [wL_eq hb, fce_eq]
  rfl
theorem fixB_low (a b : Nat) : ∀ k, fixB k (a * 256 ^ k + b) = fixB k b := by
  intro k
  have key : ∀ j, j ≤ k → fixB j (a * 256 ^ k + b) = fixB j b := by
    intro j
    induction j with
    | zero => intro _; rfl
    | succ j ih =>
      intro hj
      show ((a * 256 ^ k + b) / 256 ^ j % 256) :: fixB j (a * 256 ^ k + b) = (b / 256 ^ j % 256) :: fixB j b
      rw [ih (by omega)]
      congr 1
      obtain ⟨m, rfl⟩ : ∃ m, k = j + (m + 1) := ⟨k - j - 1, by omega⟩
      rw [Nat.pow_add, ← Nat.mul_assoc, Nat.mul_right_comm, Nat.add_comm, Nat.add_mul_div_right _ _ (Nat.pow_pos (by omega)), Nat.pow_succ, ← Nat.mul_assoc, Nat.add_mul_mod_self_right]
  exact key k (Nat.le_refl _)
theorem fixB_two {a b : Nat} (ha : a < 4294967296) (hb : b < 4294967296) : fixB 8 (a * 4294967296 + b) = fixB 4 a ++ fixB 4 b := by
  have e : fixB 4 (a * 4294967296 + b) = fixB 4 b := fixB_low a b 4
  have e2 : fixB 8 (a * 4294967296 + b) = [(a * 4294967296 + b) / 256 ^ 7 % 256, (a * 4294967296 + b) / 256 ^ 6 % 256, (a * 4294967296 + b) / 256 ^ 5 % 256, (a * 4294967296 + b) / 256 ^ 4 % 256] ++ fixB 4 (a * 4294967296 + b) := rfl
  rw [e2, e]
  congr 1
  show _ = [a / 256 ^ 3 % 256, a / 256 ^ 2 % 256, a / 256 ^ 1 % 256, a / 256 ^ 0 % 256]
  have q : (a * 4294967296 + b) / 256 ^ 4 = a := by
    show (a * 4294967296 + b) / 4294967296 = a
    omega
  have q7 : (a * 4294967296 + b) / 256 ^ 7 = a / 256 ^ 3 := by rw [show (256 : Nat) ^ 7 = 256 ^ 4 * 256 ^ 3 from rfl, ← Nat.div_div_eq_div_mul, q]
  have q6 : (a * 4294967296 + b) / 256 ^ 6 = a / 256 ^ 2 := by rw [show (256 : Nat) ^ 6 = 256 ^ 4 * 256 ^ 2 from rfl, ← Nat.div_div_eq_div_mul, q]
  have q5 : (a * 4294967296 + b) / 256 ^ 5 = a / 256 ^ 1 := by rw [show (256 : Nat) ^ 5 = 256 ^ 4 * 256 ^ 1 from rfl, ← Nat.div_div_eq_div_mul, q]
  rw [q7, q6, q5, q, show (256 : Nat) ^ 0 = 1 from rfl, Nat.div_one]
theorem outL_two (v : W8) (h : v.a < 4294967296 ∧ v.b < 4294967296) : ∃ r, outL v 8 = fixB 8 (two64 v) ++ r := by
  refine ⟨[v.c, v.d, v.e, v.f, v.g, v.h].flatMap (fixB 4), ?_⟩
  unfold two64
  rw [fixB_two h.1 h.2]
  show [v.a, v.b, v.c, v.d, v.e, v.f, v.g, v.h].flatMap (fixB 4) = _
  simp only [List.flatMap_cons, List.append_assoc]
end Go.Proofs.YtfgkfcfplodaoaaGreatDoor

end
section
namespace Go.Proofs.YtfgkfcfplodaoaaGreatDoor
open Go Go.RowKit
set_option maxHeartbeats 4000000
def enoughB (l : List TVal) (ids : List Int) : Bool := decide (valsOk l) && decide (2 * powerOf l < 3 * powSum (fun x => decide (x ∈ ids)) l)
theorem enough1_s : Sound Tryz.prog 240 mIn2 := by
  refine Sound.mdl Tryz.func240 rfl Tryz.ntmps240 ?_
  rintro ⟨ids, x⟩ w hi
  refine ⟨by simp, ?_⟩
  replace hi : ids.length ≤ 8796093022207 := hi
  have hΓ : GSound Tryz.prog (look [(171, mCont)]) := env_cons (has_of Tryz.func171 rfl rfl) cont_s env_nil
  have c1 := mCont_eq ids x hi
  simp only [initS, argPV, List.map_cons, List.map_nil, toPL, Nat.zero_add]
  refine zR ?_
  refine At.retA (by rw [Tryz.results240]) (he := rfl)
abbrev okEnough (x : List TVal × List Int) : Prop := x.1.length ≤ 8796093022207 ∧ x.2.length ≤ 8796093022207
noncomputable def mEnough := mdl okEnough (fun x => [aL cVal x.1, aL cInt x.2]) (fun x => rB (enoughB x.1 x.2))
theorem mEnough_eq (l : List TVal) (ids : List Int) (h1 : l.length ≤ 8796093022207) (h2 : ids.length ≤ 8796093022207) : mEnough [aL cVal l, aL cInt ids] = some (rB (enoughB l ids)) := mdl_eq (by rintro ⟨a, b⟩ ⟨d, e⟩ h; simpa using h) (l, ids) ⟨h1, h2⟩
theorem enoughI_s : Sound Tryz.prog 215 mEnough := by
  refine Sound.mdl Tryz.func215 rfl Tryz.ntmps215 ?_
  rintro ⟨l, ids⟩ w ⟨hl, hi⟩
  refine ⟨by simp, ?_⟩
  replace hl : l.length ≤ 8796093022207 := hl
  replace hi : ids.length ≤ 8796093022207 := hi
  have hΓ : GSound Tryz.prog (look [(168, mVals), (172, mPower), (169, mPow 240 [[.sl (rowsF cInt ids)]] fun x => decide (x ∈ ids))]) := env_cons (has_of Tryz.func168 rfl rfl) valsI_s (env_cons (has_of Tryz.func172 rfl rfl) powerI_s (env_cons (has_of Tryz.func169 rfl rfl) (pow_s (has_of Tryz.func240 rfl rfl) enough1_s (mIn2_eq ids hi)) env_nil))
  have c1 := mVals_eq l hl
  have c3 := mPower_eq l hl
  obtain ⟨p1, p2⟩ := powerOf_in l
  simp only [initS, argPV, List.map_cons, List.map_nil, toPL, Nat.zero_add]
  by_cases hv : valsOk l
  · have c2 := mPow_eq 240 [[.sl (rowsF cInt ids)]] (fun x => decide (x ∈ ids)) l hv
    obtain ⟨q1, q2⟩ := powSum_in (fun x => decide (x ∈ ids)) hv
    refine zR ?_
    refine At.retA (by rw [Tryz.results215]) (he := ?_)
    simp [enoughB, hv]
  · refine zR ?_
    refine At.retA (by rw [Tryz.results215]) (he := ?_)
    simp [enoughB, hv]
end Go.Proofs.YtfgkfcfplodaoaaGreatDoor

end
