/-
  Hear, Forget, Tell of impl.
-/
import Derived.Test.YtlogbmdfjnldlaaEvGosS
import Derived.Test.YtlogbmdfjnldlaaEvRef
import Derived.Test.YtlogbmdfjnldlaaSortL
namespace Go.Proofs.Ytlogbmdfjnldlaa
set_option maxRecDepth 100000
set_option linter.unusedVariables false
set_option linter.unusedSimpArgs false
open Go Go.RowKit Go.Shelf Go.Sort
set_option maxHeartbeats 8000000
set_option linter.unusedVariables false

def AdIn (a : TAddr) : Prop := (1 ≤ a.1 ∧ a.1 ≤ 99) ∧ 0 ≤ a.2 ∧ a.2 ≤ 1000000
def latI (a b : TAddr) : Int := if a.2 = b.2 then a.1 - b.1 else b.2 - a.2
theorem latI_lt (a b : TAddr) : latI a b < 0 ↔ ltL a b := by
  unfold latI ltL
  split <;> omega
theorem latest_says : CmpSays Try.prog 105 (fun x : {x // AdIn x} => cAddr x.1) (fun x y => latI x.1 y.1) := by
  rintro ⟨⟨a1, a2⟩, ⟨⟨h1, h2⟩, h3, h4⟩⟩ ⟨⟨b1, b2⟩, ⟨⟨h5, h6⟩, h7, h8⟩⟩ w
  show Calls _ _ #[.agg #[.int .i64 a1, .int .i64 a2], .agg #[.int .i64 b1, .int .i64 b2]] w _
  unfold latI
  dsimp only at h1 h2 h3 h4 h5 h6 h7 h8 ⊢
  by_cases he : a2 = b2
  · rw [if_pos he]
    subst he
    go_enter Try.func105, Try.ntmps105
    go_wp2
    go_ret
    exact ⟨rfl, _, by rw [alloc_eq_grow, alloc_eq_grow, grow_grow]⟩
  · rw [if_neg he]
    go_enter Try.func105, Try.ntmps105
    go_wp2
    go_ret
    exact ⟨rfl, _, by rw [alloc_eq_grow, alloc_eq_grow, grow_grow]⟩
theorem byId_says : CmpSays Try.prog 106 (fun x : {x // AdIn x} => cAddr x.1) (fun x y => x.1.1 - y.1.1) := by
  rintro ⟨⟨a1, a2⟩, ⟨⟨h1, h2⟩, h3, h4⟩⟩ ⟨⟨b1, b2⟩, ⟨⟨h5, h6⟩, h7, h8⟩⟩ w
  show Calls _ _ #[.agg #[.int .i64 a1, .int .i64 a2], .agg #[.int .i64 b1, .int .i64 b2]] w _
  dsimp only at h1 h2 h3 h4 h5 h6 h7 h8 ⊢
  go_enter Try.func106, Try.ntmps106
  go_wp2
  go_ret
  exact ⟨rfl, _, by rw [alloc_eq_grow, alloc_eq_grow, grow_grow]⟩
theorem latI_swo : SWO (ltOf fun x y : {x : TAddr // AdIn x} => latI x.1 y.1) where
  irrefl x := by simp only [ltOf, decide_eq_false_iff_not, latI_lt, ltL]; omega
  trans x y z h1 h2 := by simp only [ltOf, decide_eq_true_eq, latI_lt, ltL] at *; omega
  ntrans x y z h1 h2 := by simp only [ltOf, decide_eq_false_iff_not, latI_lt, ltL] at *; omega
theorem byId_swo : SWO (ltOf fun x y : {x : TAddr // AdIn x} => x.1.1 - y.1.1) where
  irrefl x := by simp only [ltOf, decide_eq_false_iff_not]; omega
  trans x y z h1 h2 := by simp only [ltOf, decide_eq_true_eq] at *; omega
  ntrans x y z h1 h2 := by simp only [ltOf, decide_eq_false_iff_not] at *; omega
theorem sortLat_s : SortsBy Try.prog 104 105 (fun x : {x // AdIn x} => cAddr x.1) 2 (fun x y => latI x.1 y.1) :=
  haveI : Inhabited {x : TAddr // AdIn x} := ⟨⟨(1, 0), by unfold AdIn; decide⟩⟩
  sorts_of Try.sortAddr Try.isAgg69 Try.sizeOf69 (fun _ => rfl) (fun x v hv => by simp only [cAddr, List.mem_cons, List.not_mem_nil, or_false] at hv; rcases hv with rfl | rfl <;> rfl) _ latI_swo (enters_of Try.func105 (by kernel_rfl) rfl) latest_says
theorem sortId_s : SortsBy Try.prog 104 106 (fun x : {x // AdIn x} => cAddr x.1) 2 (fun x y => x.1.1 - y.1.1) :=
  haveI : Inhabited {x : TAddr // AdIn x} := ⟨⟨(1, 0), by unfold AdIn; decide⟩⟩
  sorts_of Try.sortAddr Try.isAgg69 Try.sizeOf69 (fun _ => rfl) (fun x v hv => by simp only [cAddr, List.mem_cons, List.not_mem_nil, or_false] at hv; rcases hv with rfl | rfl <;> rfl) _ byId_swo (enters_of Try.func106 (by kernel_rfl) rfl) byId_says
section
variable {γ0 : Nat → Option Nat} {w0 : World} {N : Nat} {st : St} {Q : Exit → Act → World → Prop}
/-- a row of one's own, or its first m rows, is sorted, where the comparing function speaks of elements with a property alone -/
theorem WL.opSortQ {ops : Array Oper} {r : List Oper} {d F g n m : Nat} {x0 x1 : Operand} {ts : Array TypeId} {ty : TypeId} {pos : String} {after : Array Edge} {α : Type} {p : α → Prop} {enc : α → List Value} {s : Nat} {cf : α → α → Int} {fl : Bool} {e : Nat}
    (hf : Has Try.prog F) (hs : SortsBy Try.prog F g (fun x : {x // p x} => enc x.1) s (fun x y => cf x.1 y.1)) (hk : ∀ x, (enc x).length = s) (l : List α) (hp1 : ∀ x ∈ l, p x) (hl62 : l.length < 4611686018427387904) (hN : d < N)
    (hp : (ev st x0 = one (.all n) ∧ m = l.length) ∨ (ev st x0 = one (.ref n 0 m))) (hg : ev st x1 = one (.fn g [])) (hb : getB st n = some (.arr fl e s (rowsF enc l)))
    (h : ∀ l' : List α, l'.Perm (l.take m) → l'.Pairwise (fun x y => ¬ cf y x < 0) → WL Try.prog γ0 w0 N ops r (.slot d (.tup []) :: .blk n (.arr fl e s (rowsF enc (l' ++ l.drop m))) :: st) Q) :
    WL Try.prog γ0 w0 N ops (⟨some d, .call ⟨.value (.func F), #[x0, x1], ts⟩, ty, pos, after, none⟩ :: r) st Q := by
  have hr : ∀ q : List {x // p x}, rowsF (fun x : {x // p x} => enc x.1) q = rowsF enc (q.map Subtype.val) := fun q => by unfold rowsF; rw [List.map_map]; rfl
  have hv : (l.attachWith p hp1).map Subtype.val = l := List.attachWith_map_subtype_val _
  refine WL.opSort (m := m) (l := l.attachWith p hp1) hf hs (fun x => hk x.1) (by simpa using hl62) hN (by simpa using hp) hg (by rw [hr, hv]; exact hb) fun l' h1 h2 => ?_
  rw [hr, List.map_append, List.map_drop, hv]
  exact h _ (by have := h1.map Subtype.val; rwa [List.map_take, hv] at this) (List.pairwise_map.2 h2)
end
abbrev aAddr (t : TAddr) : Arg := .val true [.sc (.int .i64 t.1), .sc (.int .i64 t.2)]
abbrev bAd (t : TAddr) : List Leaf := [.sc (.int .i64 t.1), .sc (.int .i64 t.2)]
noncomputable def mKeyH := mdl (fun _ : TAddr × TAddr => True) (fun x => [aAddr x.1, .row (bAd x.2) 0]) (fun x => rB (decide (x.1.1 = x.2.1)))
theorem mKeyH_eq (x t : TAddr) : mKeyH [aAddr x, .row (bAd t) 0] = some (rB (decide (x.1 = t.1))) := mdl_eq (by
  rintro ⟨⟨a, b⟩, ⟨a2, b2⟩⟩ ⟨⟨d, e⟩, ⟨d2, e2⟩⟩ h
  simp at h
  simp [h]) (x, t) trivial
theorem keyH_s : Sound Try.prog 103 mKeyH := by
  refine Sound.mdl Try.func103 rfl Try.ntmps103 ?_
  rintro ⟨⟨a, b⟩, ⟨d, e⟩⟩ w -
  refine ⟨by simp, ?_⟩
  have hΓ : GSound Try.prog (look []) := env_nil
  simp only [initS, argPV, List.map_cons, List.map_nil, toPL, Nat.zero_add]
  repeat (first | with_reducible apply W.seq | with_reducible apply W.block | with_reducible apply W.skip | with_reducible apply W.exit | with_reducible apply W.ret | with_reducible apply At.seqN | with_reducible apply At.blkN | with_reducible apply At.blkE | with_reducible apply At.blkR | with_reducible apply At.thenX | with_reducible apply At.thenR | with_reducible apply At.blkX rfl | ((with_reducible apply W.ops); (repeat (first | refine WL.opA hΓ (h := ?_) | refine WL.opX hΓ (h := ?_) | refine WL.opY (h := ?_) | refine WL.opZ (h := ?_))); with_reducible apply WL.nil) | refine W.condT (h := ?_) | refine W.condF (h := ?_))
  refine At.retA (by rw [Try.results103]) (he := rfl)
noncomputable def mIdxA (f : FuncId) (boxes : List (List Leaf)) (p : TAddr → Bool) := mdl (fun l : List TAddr => l.length ≤ 8796093022207) (fun l => [aLA l, .clo f boxes]) (fun l => rI (idxP p l))
theorem mIdxA_eq (f : FuncId) (boxes : List (List Leaf)) (p : TAddr → Bool) (l : List TAddr) (h : l.length ≤ 8796093022207) : mIdxA f boxes p [aLA l, .clo f boxes] = some (rI (idxP p l)) := mdl_eq (by intro a b h; simpa using h) l h
theorem idxA_s {f : FuncId} {boxes : List (List Leaf)} {p : TAddr → Bool} {mf : List Arg → Option Res} (hf : Has Try.prog f) (hs : Sound Try.prog f mf) (hm : ∀ x, mf ([aAddr x] ++ boxes.map fun c => .row c 0) = some (rB (p x))) : Sound Try.prog 102 (mIdxA f boxes p) := by
  refine Sound.mdl Try.func102 rfl Try.ntmps102 ?_
  rintro l w hl
  refine ⟨by simp, ?_⟩
  replace hl : l.length ≤ 8796093022207 := hl
  have hΓ : GSound Try.prog (look [(f, mf)]) := env_cons hf hs env_nil
  clear hs hf
  simp only [initS, argPV, List.map_cons, List.map_nil, toPL, Nat.zero_add]
  repeat (first | with_reducible apply W.seq | with_reducible apply W.block | with_reducible apply W.skip | with_reducible apply W.exit | with_reducible apply W.ret | with_reducible apply At.seqN | with_reducible apply At.blkN | with_reducible apply At.blkE | with_reducible apply At.blkR | with_reducible apply At.thenX | with_reducible apply At.thenR | with_reducible apply At.blkX rfl | ((with_reducible apply W.ops); (repeat (first | refine WL.opA hΓ (h := ?_) | refine WL.opX hΓ (h := ?_) | refine WL.opY (h := ?_) | refine WL.opZ (h := ?_))); with_reducible apply WL.nil) | refine W.condT (h := ?_) | refine W.condF (h := ?_))
  refine W.loopA (fun k => k ≤ l.length ∧ ∀ j, (h : j < k) → ∀ hj : j < l.length, p l[j] = false) (fun k : Nat => [.slot 8 (vI k), .slot 7 (vI l.length), .slot 0 (vL cAddr l), .slot 1 (one (.clo f boxes))]) (fun k => l.length - k) 0 ⟨Nat.zero_le _, fun j hj => by omega⟩ (h := ?_)
  rintro k ⟨hk, hn⟩
  by_cases hlt : k < l.length
  · have hrow := addr_row hlt
    have hm := hm l[k]
    simp only [List.cons_append, List.nil_append] at hm
    cases hp : p l[k] with
    | true =>
      have hv := idxP_at (p := p) hlt (fun j hj => hn j hj _) hp
      rw [hp] at hm
      clear hn hp
      generalize l[k] = x at hrow hm
      obtain ⟨a, b⟩ := x
      dsimp only [aAddr] at hm hrow
      repeat (first | with_reducible apply W.seq | with_reducible apply W.block | with_reducible apply W.skip | with_reducible apply W.exit | with_reducible apply W.ret | with_reducible apply At.seqN | with_reducible apply At.blkN | with_reducible apply At.blkE | with_reducible apply At.blkR | with_reducible apply At.thenX | with_reducible apply At.thenR | with_reducible apply At.blkX rfl | ((with_reducible apply W.ops); (repeat (first | refine WL.opA hΓ (h := ?_) | refine WL.opX hΓ (h := ?_) | refine WL.opY (h := ?_) | refine WL.opZ (h := ?_))); with_reducible apply WL.nil) | refine W.condT (h := ?_) | refine W.condF (h := ?_))
      refine At.retA (by rw [Try.results102]) (he := ?_)
      rw [hv]
    | false =>
      have hnx : ∀ j, (h : j < k + 1) → ∀ hj : j < l.length, p l[j] = false := fun j h hj => by
        rcases Nat.lt_or_ge j k with h1 | h1
        · exact hn j h1 hj
        · have : j = k := by omega
          subst this
          exact hp
      rw [hp] at hm
      clear hn hp
      generalize l[k] = x at hrow hm
      obtain ⟨a, b⟩ := x
      dsimp only [aAddr] at hm hrow
      repeat (first | with_reducible apply W.seq | with_reducible apply W.block | with_reducible apply W.skip | with_reducible apply W.exit | with_reducible apply W.ret | with_reducible apply At.seqN | with_reducible apply At.blkN | with_reducible apply At.blkE | with_reducible apply At.blkR | with_reducible apply At.thenX | with_reducible apply At.thenR | with_reducible apply At.blkX rfl | ((with_reducible apply W.ops); (repeat (first | refine WL.opA hΓ (h := ?_) | refine WL.opX hΓ (h := ?_) | refine WL.opY (h := ?_) | refine WL.opZ (h := ?_))); with_reducible apply WL.nil) | refine W.condT (h := ?_) | refine W.condF (h := ?_))
      exact At.roundA (k + 1) ⟨by omega, hnx⟩ (by omega)
  · have hv := idxP_no (p := p) (l := l) (fun j hj => hn j (by omega) hj)
    clear hn
    repeat (first | with_reducible apply W.seq | with_reducible apply W.block | with_reducible apply W.skip | with_reducible apply W.exit | with_reducible apply W.ret | with_reducible apply At.seqN | with_reducible apply At.blkN | with_reducible apply At.blkE | with_reducible apply At.blkR | with_reducible apply At.thenX | with_reducible apply At.thenR | with_reducible apply At.blkX rfl | ((with_reducible apply W.ops); (repeat (first | refine WL.opA hΓ (h := ?_) | refine WL.opX hΓ (h := ?_) | refine WL.opY (h := ?_) | refine WL.opZ (h := ?_))); with_reducible apply WL.nil) | refine W.condT (h := ?_) | refine W.condF (h := ?_))
    refine At.retA (by rw [Try.results102]) (he := ?_)
    rw [hv]
open Classical in
noncomputable abbrev rForI (x : ForA) : Res := if okForget x.1 x.2.1 x.2.2 then rL 69 2 cAddr (forgetL x.1 x.2.1 x.2.2) else rN
noncomputable def mForI := mdl okFor encFor rForI
theorem mForI_yes (l : List TAddr) (now age : Int) (h : okFor (l, now, age)) (hk : okForget l now age) : mForI [aLA l, aI now, aI age] = some (rL 69 2 cAddr (forgetL l now age)) := by
  have := mdl_eq (ok := okFor) (g := rForI) encFor_inj (l, now, age) h
  simp only [rForI, if_pos hk] at this
  exact this
theorem mForI_no (l : List TAddr) (now age : Int) (h : okFor (l, now, age)) (hk : ¬ okForget l now age) : mForI [aLA l, aI now, aI age] = some rN := by
  have := mdl_eq (ok := okFor) (g := rForI) encFor_inj (l, now, age) h
  simp only [rForI, if_neg hk] at this
  exact this
theorem forgetI_s : Sound Try.prog 52 mForI := by
  refine Sound.mdl Try.func52 rfl Try.ntmps52 ?_
  rintro ⟨l, now, age⟩ w ⟨hl, hn, hg⟩
  refine ⟨by simp, ?_⟩
  dsimp only at hl hn hg
  unfold inI64 at hn hg
  have hΓ : GSound Try.prog (look [(100, mAddrs), (101, mTime)]) := env_cons (has_of Try.func100 rfl rfl) addrsI_s (env_cons (has_of Try.func101 rfl rfl) isTime_s env_nil)
  have c1 := mAddrs_eq l (by omega)
  have c2 := mTime_eq now
  have hnil : rowsF cAddr (forK l now age 0) = [] := rfl
  simp only [initS, argPV, List.map_cons, List.map_nil, toPL, Nat.zero_add]
  by_cases h2 : addrsOk l
  · rw [decide_eq_true h2] at c1
    by_cases h3 : 0 ≤ now ∧ now ≤ 1000000
    · rw [decide_eq_true h3] at c2
      by_cases h4 : 0 ≤ age
      · have hf : forgetL l now age = forK l now age l.length := by unfold forgetL forK; rw [if_pos ⟨h2, h3, h4⟩, List.take_length]
        have hr : rForI (l, now, age) = rL 69 2 cAddr (forgetL l now age) := by simp only [rForI]; exact if_pos ⟨h2, h3, h4⟩
        repeat (first | with_reducible apply W.seq | with_reducible apply W.block | with_reducible apply W.skip | with_reducible apply W.exit | with_reducible apply W.ret | with_reducible apply At.seqN | with_reducible apply At.blkN | with_reducible apply At.blkE | with_reducible apply At.blkR | with_reducible apply At.thenX | with_reducible apply At.thenR | with_reducible apply At.blkX rfl | ((with_reducible apply W.ops); (repeat (first | refine WL.opA hΓ (h := ?_) | refine WL.opX hΓ (h := ?_) | refine WL.opY (h := ?_) | refine WL.opZ (h := ?_))); with_reducible apply WL.nil) | refine W.condT (h := ?_) | refine W.condF (h := ?_))
        refine W.loopA (fun k : Nat => k ≤ l.length) (fun k : Nat => [.slot 25 (vI k), .slot 24 (vI l.length), .slot 23 (vL cAddr l), .slot 7 (one (.all 22)), .blk 22 (.arr true 69 2 (rowsF cAddr (forK l now age k))), .slot 1 (vI now), .slot 2 (vI age)]) (fun k => l.length - k) 0 (Nat.zero_le _) (h := ?_)
        intro k hk
        clear hnil
        have hfl := forK_len l now age k
        by_cases hlt : k < l.length
        · have hrow := addr_row hlt
          have hs := forK_succ (now := now) (age := age) hlt
          have hx := addrs_in h2 (List.getElem_mem hlt)
          generalize l[k] = x at hrow hs hx
          obtain ⟨xa, xb⟩ := x
          dsimp only at hx hs hrow
          by_cases h5 : now - xb ≤ age
          · rw [if_pos h5] at hs
            have h6 : now - age ≤ xb := by omega
            have e := cAddr_app (forK l now age k) xa xb
            rw [← hs] at e
            clear hs hr
            repeat (first | with_reducible apply W.seq | with_reducible apply W.block | with_reducible apply W.skip | with_reducible apply W.exit | with_reducible apply W.ret | with_reducible apply At.seqN | with_reducible apply At.blkN | with_reducible apply At.blkE | with_reducible apply At.blkR | with_reducible apply At.thenX | with_reducible apply At.thenR | with_reducible apply At.blkX rfl | ((with_reducible apply W.ops); (repeat (first | refine WL.opA hΓ (h := ?_) | refine WL.opX hΓ (h := ?_) | refine WL.opY (h := ?_) | refine WL.opZ (h := ?_))); with_reducible apply WL.nil) | refine W.condT (h := ?_) | refine W.condF (h := ?_))
            exact At.roundA (k + 1) (by omega) (by omega)
          · rw [if_neg h5, List.append_nil] at hs
            have h6 : ¬ now - age ≤ xb := by omega
            clear hr
            repeat (first | with_reducible apply W.seq | with_reducible apply W.block | with_reducible apply W.skip | with_reducible apply W.exit | with_reducible apply W.ret | with_reducible apply At.seqN | with_reducible apply At.blkN | with_reducible apply At.blkE | with_reducible apply At.blkR | with_reducible apply At.thenX | with_reducible apply At.thenR | with_reducible apply At.blkX rfl | ((with_reducible apply W.ops); (repeat (first | refine WL.opA hΓ (h := ?_) | refine WL.opX hΓ (h := ?_) | refine WL.opY (h := ?_) | refine WL.opZ (h := ?_))); with_reducible apply WL.nil) | refine W.condT (h := ?_) | refine W.condF (h := ?_))
            rw [← hs]
            exact At.roundA (k + 1) (by omega) (by omega)
        · have hke : k = l.length := by omega
          subst hke
          repeat (first | with_reducible apply W.seq | with_reducible apply W.block | with_reducible apply W.skip | with_reducible apply W.exit | with_reducible apply W.ret | with_reducible apply At.seqN | with_reducible apply At.blkN | with_reducible apply At.blkE | with_reducible apply At.blkR | with_reducible apply At.thenX | with_reducible apply At.thenR | with_reducible apply At.blkX rfl | ((with_reducible apply W.ops); (repeat (first | refine WL.opA hΓ (h := ?_) | refine WL.opX hΓ (h := ?_) | refine WL.opY (h := ?_) | refine WL.opZ (h := ?_))); with_reducible apply WL.nil) | refine W.condT (h := ?_) | refine W.condF (h := ?_))
          refine At.retA (by rw [Try.results52]) (he := ?_)
          rw [hr, hf]
      · have hr : rForI (l, now, age) = rN := by simp only [rForI]; exact if_neg fun h => h4 h.2.2
        repeat (first | with_reducible apply W.seq | with_reducible apply W.block | with_reducible apply W.skip | with_reducible apply W.exit | with_reducible apply W.ret | with_reducible apply At.seqN | with_reducible apply At.blkN | with_reducible apply At.blkE | with_reducible apply At.blkR | with_reducible apply At.thenX | with_reducible apply At.thenR | with_reducible apply At.blkX rfl | ((with_reducible apply W.ops); (repeat (first | refine WL.opA hΓ (h := ?_) | refine WL.opX hΓ (h := ?_) | refine WL.opY (h := ?_) | refine WL.opZ (h := ?_))); with_reducible apply WL.nil) | refine W.condT (h := ?_) | refine W.condF (h := ?_))
        refine At.retA (by rw [Try.results52]) (he := ?_)
        rw [hr]
    · rw [decide_eq_false h3] at c2
      have hr : rForI (l, now, age) = rN := by simp only [rForI]; exact if_neg fun h => h3 h.2.1
      repeat (first | with_reducible apply W.seq | with_reducible apply W.block | with_reducible apply W.skip | with_reducible apply W.exit | with_reducible apply W.ret | with_reducible apply At.seqN | with_reducible apply At.blkN | with_reducible apply At.blkE | with_reducible apply At.blkR | with_reducible apply At.thenX | with_reducible apply At.thenR | with_reducible apply At.blkX rfl | ((with_reducible apply W.ops); (repeat (first | refine WL.opA hΓ (h := ?_) | refine WL.opX hΓ (h := ?_) | refine WL.opY (h := ?_) | refine WL.opZ (h := ?_))); with_reducible apply WL.nil) | refine W.condT (h := ?_) | refine W.condF (h := ?_))
      refine At.retA (by rw [Try.results52]) (he := ?_)
      rw [hr]
  · rw [decide_eq_false h2] at c1
    have hr : rForI (l, now, age) = rN := by simp only [rForI]; exact if_neg fun h => h2 h.1
    repeat (first | with_reducible apply W.seq | with_reducible apply W.block | with_reducible apply W.skip | with_reducible apply W.exit | with_reducible apply W.ret | with_reducible apply At.seqN | with_reducible apply At.blkN | with_reducible apply At.blkE | with_reducible apply At.blkR | with_reducible apply At.thenX | with_reducible apply At.thenR | with_reducible apply At.blkX rfl | ((with_reducible apply W.ops); (repeat (first | refine WL.opA hΓ (h := ?_) | refine WL.opX hΓ (h := ?_) | refine WL.opY (h := ?_) | refine WL.opZ (h := ?_))); with_reducible apply WL.nil) | refine W.condT (h := ?_) | refine W.condF (h := ?_))
    refine At.retA (by rw [Try.results52]) (he := ?_)
    rw [hr]
end Go.Proofs.Ytlogbmdfjnldlaa
