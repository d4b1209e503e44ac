/-
  PoolAdd of spec and impl, by one contract.
-/
import Derived.Test.YtlchfjjoendimaaEvPAdd
namespace Go.Proofs.Ytlchfjjoendimaa
set_option maxRecDepth 100000
set_option linter.unusedVariables false
set_option linter.unusedSimpArgs false
open Go Go.RowKit Go.Shelf Go.Sort
set_option maxHeartbeats 4000000

def insTx (t : TTx) : List TTx → List TTx
  | [] => [t]
  | x :: r => if keyLt x t then x :: insTx t r else if keyEq x t then t :: r else t :: x :: r
theorem key_tri (a b : TTx) : keyLt a b ∨ keyEq a b ∨ keyLt b a := by unfold keyLt keyEq; omega
theorem keyLt_trans {a b c : TTx} (h1 : keyLt a b) (h2 : keyLt b c) : keyLt a c := by unfold keyLt at *; omega
theorem keyLt_irr {a b : TTx} (h1 : keyLt a b) (h2 : keyLt b a) : False := by unfold keyLt at *; omega
theorem keyEq_lt {a b c : TTx} (h1 : keyEq a b) (h2 : keyLt b c) : keyLt a c := by unfold keyLt keyEq at *; omega
theorem keyEq_sy {a b : TTx} (h1 : keyEq a b) : keyEq b a := ⟨h1.1.symm, h1.2.symm⟩
theorem keyLt_eq {a b c : TTx} (h1 : keyLt a b) (h2 : keyEq b c) : keyLt a c := by unfold keyLt keyEq at *; omega
theorem keyLt_ne {a b : TTx} (h1 : keyLt a b) (h2 : keyEq a b) : False := by unfold keyLt keyEq at *; omega
abbrev Str (l : List TTx) : Prop := l.Pairwise keyLt
theorem insTx_mem {t x : TTx} : ∀ {l : List TTx} (_ : x ∈ insTx t l), x = t ∨ x ∈ l
  | [], h => .inl (List.mem_singleton.1 h)
  | y :: r, h => by
    unfold insTx at h
    split at h
    · rcases List.mem_cons.1 h with rfl | h
      · exact .inr List.mem_cons_self
      · rcases insTx_mem h with h | h
        · exact .inl h
        · exact .inr (List.mem_cons_of_mem _ h)
    · split at h
      · rcases List.mem_cons.1 h with rfl | h
        · exact .inl rfl
        · exact .inr (List.mem_cons_of_mem _ h)
      · rcases List.mem_cons.1 h with rfl | h
        · exact .inl rfl
        · exact .inr h
theorem insTx_str {t : TTx} : ∀ {l : List TTx} (_ : Str l), Str (insTx t l)
  | [], _ => List.pairwise_singleton _ _
  | y :: r, h => by
    obtain ⟨h1, h2⟩ := List.pairwise_cons.1 h
    unfold insTx
    split
    · rename_i hlt
      refine List.pairwise_cons.2 ⟨fun z hz => ?_, insTx_str h2⟩
      rcases insTx_mem hz with rfl | hz
      · exact hlt
      · exact h1 z hz
    · split
      · rename_i heq
        exact List.pairwise_cons.2 ⟨fun z hz => keyEq_lt (keyEq_sy heq) (h1 z hz), h2⟩
      · rename_i n1 n2
        have hty : keyLt t y := by
          rcases key_tri y t with h | h | h
          · exact absurd h n1
          · exact absurd h n2
          · exact h
        refine List.pairwise_cons.2 ⟨fun z hz => ?_, h⟩
        rcases List.mem_cons.1 hz with rfl | hz
        · exact hty
        · exact keyLt_trans hty (h1 z hz)
theorem insTx_perm {t : TTx} : ∀ {l : List TTx} (_ : ∀ x ∈ l, ¬ keyEq x t), (insTx t l).Perm (l ++ [t])
  | [], _ => List.Perm.refl _
  | y :: r, h => by
    unfold insTx
    split
    · exact (insTx_perm fun x hx => h x (List.mem_cons_of_mem _ hx)).cons y
    · rw [if_neg (h y List.mem_cons_self)]
      exact (List.perm_append_singleton t (y :: r)).symm
theorem insTx_set {t : TTx} : ∀ {l : List TTx} {k : Nat} (_ : Str l) (hk : k < l.length) (_ : keyEq l[k] t), insTx t l = l.set k t
  | y :: r, 0, _, _, he => by
    have he : keyEq y t := he
    unfold insTx
    rw [if_neg (fun h => keyLt_ne h he), if_pos he]
    rfl
  | y :: r, k + 1, h, hk, he => by
    obtain ⟨h1, h2⟩ := List.pairwise_cons.1 h
    have hk' : k < r.length := by simpa using hk
    have he' : keyEq r[k] t := he
    unfold insTx
    rw [if_pos (keyLt_eq (h1 _ (List.getElem_mem hk')) he'), insTx_set h2 hk' he']
    rfl
theorem str_one {l : List TTx} (h : Str l) {x y : TTx} (hx : x ∈ l) (hy : y ∈ l) (he : keyEq x y) : x = y := by
  induction l with
  | nil => cases hx
  | cons z r ih =>
    obtain ⟨h1, h2⟩ := List.pairwise_cons.1 h
    rcases List.mem_cons.1 hx with e1 | hx1
    · rcases List.mem_cons.1 hy with e2 | hy1
      · rw [e1, e2]
      · rw [e1] at he
        exact (keyLt_ne (h1 _ hy1) he).elim
    · rcases List.mem_cons.1 hy with e2 | hy1
      · rw [e2] at he
        exact (keyLt_ne (h1 _ hx1) (keyEq_sy he)).elim
      · exact ih h2 hx1 hy1
theorem sort_one : ∀ {m l : List TTx} (_ : l.Perm m) (_ : l.Pairwise fun x y => ¬ cmpX y x < 0) (_ : Str m), l = m
  | [], l, hp, _, _ => List.Perm.eq_nil hp
  | a :: m, l, hp, hs, hm => by
    obtain ⟨m1, m2⟩ := List.pairwise_cons.1 hm
    cases l with
    | nil => exact absurd hp.symm (by simp)
    | cons c l =>
      obtain ⟨s1, s2⟩ := List.pairwise_cons.1 hs
      have hca : c = a := by
        rcases List.mem_cons.1 (hp.mem_iff.1 List.mem_cons_self) with h | h
        · exact h
        · rcases List.mem_cons.1 (hp.mem_iff.2 (List.mem_cons_self (a := a) (l := m))) with h' | h'
          · exact h'.symm
          · exact absurd ((cmpX_lt a c).2 (m1 c h)) (s1 a h')
      subst hca
      rw [sort_one hp.cons_inv s2 m2]
theorem pool_str {l : List TTx} (h : poolOk l) : Str l := by
  show l.Pairwise keyLt
  rw [List.pairwise_iff_getElem]
  intro i j hi hj hij
  have key : ∀ d i, (hd : i + d + 1 < l.length) → keyLt l[i] l[i + d + 1] := by
    intro d
    induction d with
    | zero =>
      intro i hd
      have := h.2 (i + 1) (by omega)
      unfold txAt at this
      simp only [List.getD_eq_getElem?_getD, List.getElem?_eq_getElem (show i + 1 < l.length by omega), List.getElem?_eq_getElem (show i < l.length by omega), Option.getD_some, Nat.add_sub_cancel] at this
      obtain ⟨_, _, _, _, _, _, h7⟩ := this
      have := h7 (by omega)
      unfold lexTx at this
      unfold keyLt
      simpa using this
    | succ d ih => 
      intro i hd
      exact keyLt_trans (ih i (by omega)) (by
        have := h.2 (i + d + 1 + 1) (by omega)
        unfold txAt at this
        simp only [List.getD_eq_getElem?_getD, List.getElem?_eq_getElem (show i + d + 1 + 1 < l.length by omega), List.getElem?_eq_getElem (show i + d + 1 < l.length by omega), Option.getD_some, Nat.add_sub_cancel] at this
        obtain ⟨_, _, _, _, _, _, h7⟩ := this
        have := h7 (by omega)
        show keyLt _ l[i + d + 1 + 1]
        unfold lexTx at this
        unfold keyLt
        simpa using this)
  have := key (j - i - 1) i (by omega)
  have e : i + (j - i - 1) + 1 = j := by omega
  simp only [e] at this
  exact this

def rejT (l : List TTx) (t : TTx) : Prop := ∃ x ∈ l, keyEq x t ∧ t.2.2 ≤ x.2.2
instance (l : List TTx) (t : TTx) : Decidable (rejT l t) := by unfold rejT; infer_instance
def pAddB (l : List TTx) (t : TTx) : Bool := decide (poolOk l) && !decide (rejT l t) && decide (poolOk (insTx t l))
def pAddL (l : List TTx) (t : TTx) : List TTx := if pAddB l t = true then insTx t l else if poolOk l then l else []
abbrev encPA (x : List TTx × TTx) : List Arg := [aL cTx x.1, aTx x.2]
abbrev rPAs (x : List TTx × TTx) : Res := rTL 44 3 cTx (pAddL x.1 x.2) [rSc (.bool (pAddB x.1 x.2))]
abbrev rPAi (x : List TTx × TTx) : Res := if poolOk x.1 then rTL 44 3 cTx (pAddL x.1 x.2) [rSc (.bool (pAddB x.1 x.2))] else rTN [rSc (.bool false)]
noncomputable def mPAs := mdl (fun x : List TTx × TTx => x.1.length ≤ 8796093022207) encPA rPAs
noncomputable def mPAi := mdl (fun x : List TTx × TTx => x.1.length ≤ 8796093022207) encPA rPAi
theorem encPA_inj : ∀ x y, encPA x = encPA y → x = y := by
  rintro ⟨l, ⟨a, b, c⟩⟩ ⟨l2, ⟨d, e, f⟩⟩ h
  simp [encPA] at h
  simp [h]
theorem insTx_len (t : TTx) (l : List TTx) : (insTx t l).length ≤ l.length + 1 := by
  induction l with
  | nil => simp [insTx]
  | cons x r ih =>
    unfold insTx
    split
    · simp; exact ih
    · split <;> simp
theorem idx_yes {l : List TTx} {t : TTx} (hs : Str l) {k : Nat} (hk : k < l.length) (he : keyEq l[k] t) : idxP (fun x => decide (keyEq x t)) l = k :=
  idxP_at hk (fun j hj => decide_eq_false fun h => keyLt_ne (List.pairwise_iff_getElem.1 hs j k (by omega) hk hj) ⟨h.1.trans he.1.symm, h.2.trans he.2.symm⟩) (decide_eq_true he)
theorem rej_yes {l : List TTx} {t : TTx} (hs : Str l) {k : Nat} (hk : k < l.length) (he : keyEq l[k] t) : rejT l t ↔ t.2.2 ≤ l[k].2.2 := by
  constructor
  · rintro ⟨x, hx, h1, h2⟩
    rw [← str_one hs hx (List.getElem_mem hk) ⟨h1.1.trans he.1.symm, h1.2.trans he.2.symm⟩]
    exact h2
  · intro h
    exact ⟨l[k], List.getElem_mem hk, he, h⟩
theorem pAddI_s : Sound Try.prog 27 mPAi := by
  refine Sound.mdl Try.func27 rfl Try.ntmps27 ?_
  rintro ⟨l, t⟩ w hl
  refine ⟨by simp, ?_⟩
  replace hl : l.length ≤ 8796093022207 := hl
  have hΓ : GSound Try.prog (look [(94, mPool), (95, mCpTx), (96, mIdxT 97 [bTx t] (fun x => decide (keyEq x t)))]) := env_cons (has_of Try.func94 rfl rfl) poolI_s (env_cons (has_of Try.func95 rfl rfl) cpTx_s (env_cons (has_of Try.func96 rfl rfl) (idxT_s (has_of Try.func97 rfl rfl) keyT_s (fun x => mKeyT_eq x t)) env_nil))
  have hSrt : Has Try.prog 98 := has_of Try.func98 rfl rfl
  have c1 := mPool_eq l (by omega)
  have c3 := mIdxT_eq 97 [bTx t] (fun x => decide (keyEq x t)) l (by omega)
  have hil := insTx_len t l
  by_cases hp : poolOk l
  · rw [decide_eq_true hp] at c1
    have hl14 : l.length ≤ 14 := hp.1
    have c2 := mCpTx_eq l (by omega)
    have c4 := mPool_eq (insTx t l) (by omega)
    have hs := pool_str hp
    by_cases hex : ∃ k, ∃ hk : k < l.length, keyEq l[k] t
    · obtain ⟨k, hk, he⟩ := hex
      rw [idx_yes hs hk he] at c3
      have hrow := tx_row hk
      have hset : (rowsF cTx l).set k (bTx t) = rowsF cTx (l.set k t) := rowsF_set cTx l k t
      have hrej := rej_yes hs hk he
      have hins := insTx_set hs hk he
      by_cases hfee : l[k].2.2 < t.2.2
      · have hnr : ¬ rejT l t := fun h => by have := hrej.1 h; omega
        have hB : pAddB l t = decide (poolOk (insTx t l)) := by simp [pAddB, hp, hnr]
        have hL : pAddL l t = if poolOk (insTx t l) then insTx t l else l := by simp [pAddL, hB, hp]
        clear hrej
        generalize l[k] = x at hrow he hfee
        obtain ⟨a, b, c⟩ := t
        obtain ⟨d, e, f⟩ := x
        dsimp only [bTx] at hrow he hfee c3 hset
        simp only [initS, argPV, List.map_cons, List.map_nil, toPL, Nat.zero_add]
        repeat (first | with_reducible apply W.seq | with_reducible apply W.block | with_reducible apply W.skip | with_reducible apply W.exit | with_reducible apply W.ret | with_reducible apply At.seqN | with_reducible apply At.blkN | with_reducible apply At.blkE | with_reducible apply At.blkR | with_reducible apply At.thenX | with_reducible apply At.thenR | with_reducible apply At.blkX rfl | ((with_reducible apply W.ops); (repeat (first | refine WL.opA hΓ (h := ?_) | refine WL.opX hΓ (h := ?_) | refine WL.opY (h := ?_) | refine WL.opZ (h := ?_))); with_reducible apply WL.nil) | refine W.condT (h := ?_) | refine W.condF (h := ?_))
        refine W.drawsA hΓ 9 [[], [], [0, 1], [0, 1, 2], [0, 1, 2, 3], [], [5], [0, 1, 2, 3, 4, 5, 6], [0, 1, 2, 3, 4, 5, 6, 7]] (rest := ?rest4) (Es := ?Es4) (st1 := ?st14) (h := ?h4) (hf := ?hf4) (hp := ?hp4) (hd := ?hd4) (hfr := ?hfr4) (hst := ?hst4) (hT := ?hT4)
        case h4 => kernel_rfl
        case hf4 =>
          repeat (first | refine FlowT.opA (h := ?_) | refine FlowT.opX (h := ?_) | refine FlowT.opY (h := ?_) | refine FlowT.opZ (h := ?_))
          exact FlowT.done
        case hp4 => rfl
        case hd4 => rfl
        case hfr4 => rfl
        case hst4 =>
          simp only [pick_nil, pick_all, List.cons_append, List.nil_append]
          rfl
        (repeat (first | refine WL.opA hΓ (h := ?_) | refine WL.opX hΓ (h := ?_) | refine WL.opY (h := ?_) | refine WL.opZ (h := ?_)))
        with_reducible apply WL.nil
        repeat (first | with_reducible apply W.seq | with_reducible apply W.block | with_reducible apply W.skip | with_reducible apply W.exit | with_reducible apply W.ret | with_reducible apply At.seqN | with_reducible apply At.blkN | with_reducible apply At.blkE | with_reducible apply At.blkR | with_reducible apply At.thenX | with_reducible apply At.thenR | with_reducible apply At.blkX rfl | ((with_reducible apply W.ops); (repeat (first | refine WL.opA hΓ (h := ?_) | refine WL.opX hΓ (h := ?_) | refine WL.opY (h := ?_) | refine WL.opZ (h := ?_))); with_reducible apply WL.nil) | refine W.condT (h := ?_) | refine W.condF (h := ?_))
        with_reducible apply W.ops
        repeat (first | refine WL.opA hΓ (h := ?_) | refine WL.opX hΓ (h := ?_) | refine WL.opY (h := ?_) | refine WL.opZ (h := ?_))
        refine WL.opSortA hSrt sortTx_s (fun _ => rfl) (l.set k (a, b, c)) (by simp; omega) (h := ?_)
        intro l' hl1 hl2
        have hl' : l' = insTx (a, b, c) l := sort_one (by rw [hins]; exact hl1) hl2 (insTx_str hs)
        subst hl'
        clear hl1 hl2 hins
        (repeat (first | refine WL.opA hΓ (h := ?_) | refine WL.opX hΓ (h := ?_) | refine WL.opY (h := ?_) | refine WL.opZ (h := ?_)))
        with_reducible apply WL.nil
        by_cases hok : poolOk (insTx (a, b, c) l)
        · rw [decide_eq_true hok] at c4 hB
          rw [if_pos hok] at hL
          repeat (first | with_reducible apply W.seq | with_reducible apply W.block | with_reducible apply W.skip | with_reducible apply W.exit | with_reducible apply W.ret | with_reducible apply At.seqN | with_reducible apply At.blkN | with_reducible apply At.blkE | with_reducible apply At.blkR | with_reducible apply At.thenX | with_reducible apply At.thenR | with_reducible apply At.blkX rfl | ((with_reducible apply W.ops); (repeat (first | refine WL.opA hΓ (h := ?_) | refine WL.opX hΓ (h := ?_) | refine WL.opY (h := ?_) | refine WL.opZ (h := ?_))); with_reducible apply WL.nil) | refine W.condT (h := ?_) | refine W.condF (h := ?_))
          refine At.retA (by rw [Try.results27]) (he := ?_)
          simp [rPAi, hp, hB, hL]
        · rw [decide_eq_false hok] at c4 hB
          rw [if_neg hok] at hL
          repeat (first | with_reducible apply W.seq | with_reducible apply W.block | with_reducible apply W.skip | with_reducible apply W.exit | with_reducible apply W.ret | with_reducible apply At.seqN | with_reducible apply At.blkN | with_reducible apply At.blkE | with_reducible apply At.blkR | with_reducible apply At.thenX | with_reducible apply At.thenR | with_reducible apply At.blkX rfl | ((with_reducible apply W.ops); (repeat (first | refine WL.opA hΓ (h := ?_) | refine WL.opX hΓ (h := ?_) | refine WL.opY (h := ?_) | refine WL.opZ (h := ?_))); with_reducible apply WL.nil) | refine W.condT (h := ?_) | refine W.condF (h := ?_))
          refine At.retA (by rw [Try.results27]) (he := ?_)
          simp [rPAi, hp, hB, hL]
      · have hrj : rejT l t := hrej.2 (by omega)
        have hB : pAddB l t = false := by simp [pAddB, hp, hrj]
        have hL : pAddL l t = l := by simp [pAddL, hB, hp]
        clear hrej hset hins hrj
        generalize l[k] = x at hrow he hfee
        obtain ⟨a, b, c⟩ := t
        obtain ⟨d, e, f⟩ := x
        dsimp only [bTx] at hrow he hfee c3
        simp only [initS, argPV, List.map_cons, List.map_nil, toPL, Nat.zero_add]
        repeat (first | with_reducible apply W.seq | with_reducible apply W.block | with_reducible apply W.skip | with_reducible apply W.exit | with_reducible apply W.ret | with_reducible apply At.seqN | with_reducible apply At.blkN | with_reducible apply At.blkE | with_reducible apply At.blkR | with_reducible apply At.thenX | with_reducible apply At.thenR | with_reducible apply At.blkX rfl | ((with_reducible apply W.ops); (repeat (first | refine WL.opA hΓ (h := ?_) | refine WL.opX hΓ (h := ?_) | refine WL.opY (h := ?_) | refine WL.opZ (h := ?_))); with_reducible apply WL.nil) | refine W.condT (h := ?_) | refine W.condF (h := ?_))
        refine W.drawsA hΓ 9 [[], [], [0, 1], [0, 1, 2], [0, 1, 2, 3], [], [5], [0, 1, 2, 3, 4, 5, 6], [0, 1, 2, 3, 4, 5, 6, 7]] (rest := ?rest14) (Es := ?Es14) (st1 := ?st114) (h := ?h14) (hf := ?hf14) (hp := ?hp14) (hd := ?hd14) (hfr := ?hfr14) (hst := ?hst14) (hT := ?hT14)
        case h14 => kernel_rfl
        case hf14 =>
          repeat (first | refine FlowT.opA (h := ?_) | refine FlowT.opX (h := ?_) | refine FlowT.opY (h := ?_) | refine FlowT.opZ (h := ?_))
          exact FlowT.done
        case hp14 => rfl
        case hd14 => rfl
        case hfr14 => rfl
        case hst14 =>
          simp only [pick_nil, pick_all, List.cons_append, List.nil_append]
          rfl
        (repeat (first | refine WL.opA hΓ (h := ?_) | refine WL.opX hΓ (h := ?_) | refine WL.opY (h := ?_) | refine WL.opZ (h := ?_)))
        with_reducible apply WL.nil
        repeat (first | with_reducible apply W.seq | with_reducible apply W.block | with_reducible apply W.skip | with_reducible apply W.exit | with_reducible apply W.ret | with_reducible apply At.seqN | with_reducible apply At.blkN | with_reducible apply At.blkE | with_reducible apply At.blkR | with_reducible apply At.thenX | with_reducible apply At.thenR | with_reducible apply At.blkX rfl | ((with_reducible apply W.ops); (repeat (first | refine WL.opA hΓ (h := ?_) | refine WL.opX hΓ (h := ?_) | refine WL.opY (h := ?_) | refine WL.opZ (h := ?_))); with_reducible apply WL.nil) | refine W.condT (h := ?_) | refine W.condF (h := ?_))
        refine At.retA (by rw [Try.results27]) (he := ?_)
        simp [rPAi, hp, hB, hL]
    · have hno : ∀ x ∈ l, ¬ keyEq x t := fun x hx h => by
        obtain ⟨k, hk, rfl⟩ := List.getElem_of_mem hx
        exact hex ⟨k, hk, h⟩
      have hnr : ¬ rejT l t := fun ⟨x, hx, h, _⟩ => hno x hx h
      have hB : pAddB l t = decide (poolOk (insTx t l)) := by simp [pAddB, hp, hnr]
      have hL : pAddL l t = if poolOk (insTx t l) then insTx t l else l := by simp [pAddL, hB, hp]
      have hidx : idxP (fun x => decide (keyEq x t)) l = -1 := idxP_no (fun j hj => decide_eq_false (hno _ (List.getElem_mem hj)))
      rw [hidx] at c3
      have hins := insTx_perm hno
      have e := cTx_app l t
      clear hno hex hnr
      obtain ⟨a, b, c⟩ := t
      dsimp only [bTx] at c3 e
      simp only [initS, argPV, List.map_cons, List.map_nil, toPL, Nat.zero_add]
      repeat (first | with_reducible apply W.seq | with_reducible apply W.block | with_reducible apply W.skip | with_reducible apply W.exit | with_reducible apply W.ret | with_reducible apply At.seqN | with_reducible apply At.blkN | with_reducible apply At.blkE | with_reducible apply At.blkR | with_reducible apply At.thenX | with_reducible apply At.thenR | with_reducible apply At.blkX rfl | ((with_reducible apply W.ops); (repeat (first | refine WL.opA hΓ (h := ?_) | refine WL.opX hΓ (h := ?_) | refine WL.opY (h := ?_) | refine WL.opZ (h := ?_))); with_reducible apply WL.nil) | refine W.condT (h := ?_) | refine W.condF (h := ?_))
      with_reducible apply W.ops
      repeat (first | refine WL.opA hΓ (h := ?_) | refine WL.opX hΓ (h := ?_) | refine WL.opY (h := ?_) | refine WL.opZ (h := ?_))
      refine WL.opSortA hSrt sortTx_s (fun _ => rfl) (l ++ [(a, b, c)]) (by simp; omega) (h := ?_)
      intro l' hl1 hl2
      have hl' : l' = insTx (a, b, c) l := sort_one (hl1.trans hins.symm) hl2 (insTx_str hs)
      subst hl'
      clear hl1 hl2 hins
      (repeat (first | refine WL.opA hΓ (h := ?_) | refine WL.opX hΓ (h := ?_) | refine WL.opY (h := ?_) | refine WL.opZ (h := ?_)))
      with_reducible apply WL.nil
      by_cases hok : poolOk (insTx (a, b, c) l)
      · rw [decide_eq_true hok] at c4 hB
        rw [if_pos hok] at hL
        repeat (first | with_reducible apply W.seq | with_reducible apply W.block | with_reducible apply W.skip | with_reducible apply W.exit | with_reducible apply W.ret | with_reducible apply At.seqN | with_reducible apply At.blkN | with_reducible apply At.blkE | with_reducible apply At.blkR | with_reducible apply At.thenX | with_reducible apply At.thenR | with_reducible apply At.blkX rfl | ((with_reducible apply W.ops); (repeat (first | refine WL.opA hΓ (h := ?_) | refine WL.opX hΓ (h := ?_) | refine WL.opY (h := ?_) | refine WL.opZ (h := ?_))); with_reducible apply WL.nil) | refine W.condT (h := ?_) | refine W.condF (h := ?_))
        refine At.retA (by rw [Try.results27]) (he := ?_)
        simp [rPAi, hp, hB, hL]
      · rw [decide_eq_false hok] at c4 hB
        rw [if_neg hok] at hL
        repeat (first | with_reducible apply W.seq | with_reducible apply W.block | with_reducible apply W.skip | with_reducible apply W.exit | with_reducible apply W.ret | with_reducible apply At.seqN | with_reducible apply At.blkN | with_reducible apply At.blkE | with_reducible apply At.blkR | with_reducible apply At.thenX | with_reducible apply At.thenR | with_reducible apply At.blkX rfl | ((with_reducible apply W.ops); (repeat (first | refine WL.opA hΓ (h := ?_) | refine WL.opX hΓ (h := ?_) | refine WL.opY (h := ?_) | refine WL.opZ (h := ?_))); with_reducible apply WL.nil) | refine W.condT (h := ?_) | refine W.condF (h := ?_))
        refine At.retA (by rw [Try.results27]) (he := ?_)
        simp [rPAi, hp, hB, hL]
  · rw [decide_eq_false hp] at c1
    obtain ⟨a, b, c⟩ := t
    simp only [initS, argPV, List.map_cons, List.map_nil, toPL, Nat.zero_add]
    repeat (first | with_reducible apply W.seq | with_reducible apply W.block | with_reducible apply W.skip | with_reducible apply W.exit | with_reducible apply W.ret | with_reducible apply At.seqN | with_reducible apply At.blkN | with_reducible apply At.blkE | with_reducible apply At.blkR | with_reducible apply At.thenX | with_reducible apply At.thenR | with_reducible apply At.blkX rfl | ((with_reducible apply W.ops); (repeat (first | refine WL.opA hΓ (h := ?_) | refine WL.opX hΓ (h := ?_) | refine WL.opY (h := ?_) | refine WL.opZ (h := ?_))); with_reducible apply WL.nil) | refine W.condT (h := ?_) | refine W.condF (h := ?_))
    refine At.retA (by rw [Try.results27]) (he := ?_)
    simp [rPAi, hp]
end Go.Proofs.Ytlchfjjoendimaa
