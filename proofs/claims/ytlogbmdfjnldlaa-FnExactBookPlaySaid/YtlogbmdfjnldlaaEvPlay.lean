/-
  BookPlay of both.
-/
import Derived.Test.YtlogbmdfjnldlaaEvBookC
import Derived.Test.YtlogbmdfjnldlaaEvRen
namespace Go.Proofs.Ytlogbmdfjnldlaa
set_option maxRecDepth 100000
set_option linter.unusedVariables false
set_option linter.unusedSimpArgs false
open Go Go.RowKit
set_option maxHeartbeats 8000000
set_option linter.unusedVariables false

noncomputable def plF (x : List TItem × Int) (line : ByteArray) : List TItem × Int := (bdL x.1 line, if bdB x.1 line = true then x.2 + 1 else x.2)
noncomputable def plK (ls : List ByteArray) (k : Nat) : List TItem × Int := (ls.take k).foldl plF ([], 0)
noncomputable def plL (ls : List ByteArray) : List TItem := (plK ls ls.length).1
noncomputable def plN (ls : List ByteArray) : Int := (plK ls ls.length).2
theorem plK_succ {ls : List ByteArray} {k : Nat} (h : k < ls.length) : plK ls (k + 1) = plF (plK ls k) ls[k] := by
  unfold plK
  rw [List.take_succ_eq_append_getElem h, List.foldl_append]
  rfl
theorem bookOk_nil : bookOk [] := ⟨by simp, fun k hk => by simp at hk⟩
theorem bdL_ok {l : List TItem} {line : ByteArray} (h : bookOk l) : bookOk (bdL l line) := by
  unfold bdL
  split
  · rename_i h1
    simp only [bdB, Bool.and_eq_true, decide_eq_true_eq] at h1
    exact h1.2
  · first | (rw [if_pos h]; exact h) | exact h
theorem plK_ok (ls : List ByteArray) : ∀ k, k ≤ ls.length → bookOk (plK ls k).1 ∧ 0 ≤ (plK ls k).2 ∧ (plK ls k).2 ≤ k
  | 0, _ => ⟨bookOk_nil, Int.le_refl _, Int.le_refl _⟩
  | k + 1, h => by
    obtain ⟨h1, h2, h3⟩ := plK_ok ls k (by omega)
    rw [plK_succ (by omega)]
    refine ⟨bdL_ok h1, ?_, ?_⟩ <;> (unfold plF; dsimp only; split <;> omega)
theorem book_items {l : List TItem} (h : bookOk l) : ∀ x ∈ l, okItem x := fun x hx => by
  obtain ⟨j, hj, rfl⟩ := List.getElem_of_mem hx
  have := (book_at h hj).1
  have h2 := this.2.1
  show (l[j].1).size ≤ maxLen
  unfold maxLen
  omega
theorem plL_le (ls : List ByteArray) : (plL ls).length ≤ 1048576 := Nat.le_trans (plK_ok ls ls.length (Nat.le_refl _)).1.1 (by decide)
def okPl (ls : List ByteArray) : Prop := (∀ x ∈ ls, okString x) ∧ ls.length ≤ 8796093022207
noncomputable def mPlay := mdl okPl (fun ls : List ByteArray => [aL cStr ls]) (fun ls => rTL 139 2 cItem (plL ls) [rSc (.int .i64 (plN ls))])
noncomputable def mBDs := mdl okBD encBD rBDs
theorem mBDs_eq (l : List TItem) (line : ByteArray) (h : okBD (l, line)) : mBDs [aL cItem l, aS line] = some (rTL 139 2 cItem (bdL l line) [rSc (.bool (bdB l line))]) := mdl_eq encBD_inj (l, line) h
noncomputable def mBDi := mdl okBD encBD rBDi
theorem mBDi_eq (l : List TItem) (line : ByteArray) (h : okBD (l, line)) (hb : bookOk l) : mBDi [aL cItem l, aS line] = some (rTL 139 2 cItem (bdL l line) [rSc (.bool (bdB l line))]) := by
  have := mdl_eq (ok := okBD) (g := rBDi) encBD_inj (l, line) h
  simp only [rBDi, if_pos hb] at this
  exact this
theorem play_spec_s : Sound Try.prog 61 mPlay := by
  refine Sound.mdl Try.func61 rfl Try.ntmps61 ?_
  rintro ls w ⟨hst, hn⟩
  refine ⟨by simp, ?_⟩
  have hΓ : GSound Try.prog (look [(54, mBDs)]) := env_cons (has_of Try.func54 rfl rfl) bdS_s env_nil
  have hnil : rowsF cItem ([] : List TItem) = [] := rfl
  simp only [initS, argPV, List.map_cons, List.map_nil, toPL, Nat.zero_add]
  repeat (first | with_reducible apply W.seq | with_reducible apply W.block | with_reducible apply W.skip | with_reducible apply W.exit | with_reducible apply W.ret | with_reducible apply At.seqN | with_reducible apply At.blkN | with_reducible apply At.blkE | with_reducible apply At.blkR | with_reducible apply At.thenX | with_reducible apply At.thenR | with_reducible apply At.blkX rfl | ((with_reducible apply W.ops); (repeat (first | refine WL.opA hΓ (h := ?_) | refine WL.opX hΓ (h := ?_) | refine WL.opY (h := ?_) | refine WL.opZ (h := ?_))); with_reducible apply WL.nil) | refine W.condT (h := ?_) | refine W.condF (h := ?_))
  refine W.loopA (fun x : Nat × List TItem × Int => x.1 ≤ ls.length ∧ plK ls x.1 = x.2) (fun x : Nat × List TItem × Int => [.slot 6 (vI x.1), .slot 5 (vI x.2.2), .slot 4 (one (.all 9)), .blk 9 (.arr true 139 2 (rowsF cItem x.2.1)), .slot 0 (vL cStr ls)]) (fun x => ls.length - x.1) (0, [], 0) ⟨Nat.zero_le _, rfl⟩ (h := ?_)
  rintro ⟨k, l, n⟩ ⟨hk, he⟩
  dsimp only at hk he ⊢
  obtain ⟨p1, p2, p3⟩ := plK_ok ls k hk
  rw [he] at p1 p2 p3
  dsimp only at p1 p2 p3
  have h12 : l.length ≤ 12 := p1.1
  clear hnil
  by_cases hlt : k < ls.length
  · have hrow : (rowsF cStr ls)[k]? = some [.sc (.string ls[k])] := rowsF_get cStr ls k hlt
    have hsucc := plK_succ hlt
    rw [he] at hsucc
    have c := mBDs_eq l ls[k] ⟨⟨book_items p1, by dsimp only; omega⟩, hst _ (List.getElem_mem hlt)⟩
    clear he
    generalize ls[k] = line at *
    have h2 := bdL_le2 l line
    unfold plF at hsucc
    dsimp only at hsucc
    cases hB : bdB l line with
    | true =>
      rw [hB] at c hsucc
      rw [if_pos rfl] at hsucc
      repeat (first | with_reducible apply W.seq | with_reducible apply W.block | with_reducible apply W.skip | with_reducible apply W.exit | with_reducible apply W.ret | with_reducible apply At.seqN | with_reducible apply At.blkN | with_reducible apply At.blkE | with_reducible apply At.blkR | with_reducible apply At.thenX | with_reducible apply At.thenR | with_reducible apply At.blkX rfl | ((with_reducible apply W.ops); (repeat (first | refine WL.opA hΓ (h := ?_) | refine WL.opX hΓ (h := ?_) | refine WL.opY (h := ?_) | refine WL.opZ (h := ?_))); with_reducible apply WL.nil) | refine W.condT (h := ?_) | refine W.condF (h := ?_))
      refine At.ren 4 22 9 (h := ?_)
      exact At.roundA (k + 1, bdL l line, n + 1) ⟨by dsimp only; omega, hsucc⟩ (by dsimp only; omega)
    | false =>
      rw [hB] at c hsucc
      rw [if_neg (by simp)] at hsucc
      repeat (first | with_reducible apply W.seq | with_reducible apply W.block | with_reducible apply W.skip | with_reducible apply W.exit | with_reducible apply W.ret | with_reducible apply At.seqN | with_reducible apply At.blkN | with_reducible apply At.blkE | with_reducible apply At.blkR | with_reducible apply At.thenX | with_reducible apply At.thenR | with_reducible apply At.blkX rfl | ((with_reducible apply W.ops); (repeat (first | refine WL.opA hΓ (h := ?_) | refine WL.opX hΓ (h := ?_) | refine WL.opY (h := ?_) | refine WL.opZ (h := ?_))); with_reducible apply WL.nil) | refine W.condT (h := ?_) | refine W.condF (h := ?_))
      refine At.ren 4 22 9 (h := ?_)
      exact At.roundA (k + 1, bdL l line, n) ⟨by dsimp only; omega, hsucc⟩ (by dsimp only; omega)
  · have hke : k = ls.length := by omega
    subst hke
    have e1 : plL ls = l := by unfold plL; rw [he]
    have e2 : plN ls = n := by unfold plN; rw [he]
    repeat (first | with_reducible apply W.seq | with_reducible apply W.block | with_reducible apply W.skip | with_reducible apply W.exit | with_reducible apply W.ret | with_reducible apply At.seqN | with_reducible apply At.blkN | with_reducible apply At.blkE | with_reducible apply At.blkR | with_reducible apply At.thenX | with_reducible apply At.thenR | with_reducible apply At.blkX rfl | ((with_reducible apply W.ops); (repeat (first | refine WL.opA hΓ (h := ?_) | refine WL.opX hΓ (h := ?_) | refine WL.opY (h := ?_) | refine WL.opZ (h := ?_))); with_reducible apply WL.nil) | refine W.condT (h := ?_) | refine W.condF (h := ?_))
    refine At.retA (by rw [Try.results61]) (he := ?_)
    rw [e1, e2]
theorem play_impl_s : Sound Try.prog 63 mPlay := by
  refine Sound.mdl Try.func63 rfl Try.ntmps63 ?_
  rintro ls w ⟨hst, hn⟩
  refine ⟨by simp, ?_⟩
  have hΓ : GSound Try.prog (look [(56, mBDi)]) := env_cons (has_of Try.func56 rfl rfl) bdI env_nil
  have hnil : rowsF cItem ([] : List TItem) = [] := rfl
  simp only [initS, argPV, List.map_cons, List.map_nil, toPL, Nat.zero_add]
  repeat (first | with_reducible apply W.seq | with_reducible apply W.block | with_reducible apply W.skip | with_reducible apply W.exit | with_reducible apply W.ret | with_reducible apply At.seqN | with_reducible apply At.blkN | with_reducible apply At.blkE | with_reducible apply At.blkR | with_reducible apply At.thenX | with_reducible apply At.thenR | with_reducible apply At.blkX rfl | ((with_reducible apply W.ops); (repeat (first | refine WL.opA hΓ (h := ?_) | refine WL.opX hΓ (h := ?_) | refine WL.opY (h := ?_) | refine WL.opZ (h := ?_))); with_reducible apply WL.nil) | refine W.condT (h := ?_) | refine W.condF (h := ?_))
  refine W.loopA (fun x : Nat × List TItem × Int => x.1 ≤ ls.length ∧ plK ls x.1 = x.2) (fun x : Nat × List TItem × Int => [.slot 13 (vI x.1), .slot 12 (vI ls.length), .slot 11 (vL cStr ls), .slot 5 (vI x.2.2), .slot 4 (one (.all 10)), .blk 10 (.arr true 139 2 (rowsF cItem x.2.1))]) (fun x => ls.length - x.1) (0, [], 0) ⟨Nat.zero_le _, rfl⟩ (h := ?_)
  rintro ⟨k, l, n⟩ ⟨hk, he⟩
  dsimp only at hk he ⊢
  obtain ⟨p1, p2, p3⟩ := plK_ok ls k hk
  rw [he] at p1 p2 p3
  dsimp only at p1 p2 p3
  have h12 : l.length ≤ 12 := p1.1
  clear hnil
  by_cases hlt : k < ls.length
  · have hrow : (rowsF cStr ls)[k]? = some [.sc (.string ls[k])] := rowsF_get cStr ls k hlt
    have hsucc := plK_succ hlt
    rw [he] at hsucc
    have c := mBDi_eq l ls[k] ⟨⟨book_items p1, by dsimp only; omega⟩, hst _ (List.getElem_mem hlt)⟩ p1
    clear he
    generalize ls[k] = line at *
    have h2 := bdL_le2 l line
    unfold plF at hsucc
    dsimp only at hsucc
    cases hB : bdB l line with
    | true =>
      rw [hB] at c hsucc
      rw [if_pos rfl] at hsucc
      repeat (first | with_reducible apply W.seq | with_reducible apply W.block | with_reducible apply W.skip | with_reducible apply W.exit | with_reducible apply W.ret | with_reducible apply At.seqN | with_reducible apply At.blkN | with_reducible apply At.blkE | with_reducible apply At.blkR | with_reducible apply At.thenX | with_reducible apply At.thenR | with_reducible apply At.blkX rfl | ((with_reducible apply W.ops); (repeat (first | refine WL.opA hΓ (h := ?_) | refine WL.opX hΓ (h := ?_) | refine WL.opY (h := ?_) | refine WL.opZ (h := ?_))); with_reducible apply WL.nil) | refine W.condT (h := ?_) | refine W.condF (h := ?_))
      refine At.ren 4 20 10 (h := ?_)
      exact At.roundA (k + 1, bdL l line, n + 1) ⟨by dsimp only; omega, hsucc⟩ (by dsimp only; omega)
    | false =>
      rw [hB] at c hsucc
      rw [if_neg (by simp)] at hsucc
      repeat (first | with_reducible apply W.seq | with_reducible apply W.block | with_reducible apply W.skip | with_reducible apply W.exit | with_reducible apply W.ret | with_reducible apply At.seqN | with_reducible apply At.blkN | with_reducible apply At.blkE | with_reducible apply At.blkR | with_reducible apply At.thenX | with_reducible apply At.thenR | with_reducible apply At.blkX rfl | ((with_reducible apply W.ops); (repeat (first | refine WL.opA hΓ (h := ?_) | refine WL.opX hΓ (h := ?_) | refine WL.opY (h := ?_) | refine WL.opZ (h := ?_))); with_reducible apply WL.nil) | refine W.condT (h := ?_) | refine W.condF (h := ?_))
      refine At.ren 4 20 10 (h := ?_)
      exact At.roundA (k + 1, bdL l line, n) ⟨by dsimp only; omega, hsucc⟩ (by dsimp only; omega)
  · have hke : k = ls.length := by omega
    subst hke
    have e1 : plL ls = l := by unfold plL; rw [he]
    have e2 : plN ls = n := by unfold plN; rw [he]
    repeat (first | with_reducible apply W.seq | with_reducible apply W.block | with_reducible apply W.skip | with_reducible apply W.exit | with_reducible apply W.ret | with_reducible apply At.seqN | with_reducible apply At.blkN | with_reducible apply At.blkE | with_reducible apply At.blkR | with_reducible apply At.thenX | with_reducible apply At.thenR | with_reducible apply At.blkX rfl | ((with_reducible apply W.ops); (repeat (first | refine WL.opA hΓ (h := ?_) | refine WL.opX hΓ (h := ?_) | refine WL.opY (h := ?_) | refine WL.opZ (h := ?_))); with_reducible apply WL.nil) | refine W.condT (h := ?_) | refine W.condF (h := ?_))
    refine At.retA (by rw [Try.results63]) (he := ?_)
    rw [e1, e2]
section
variable {v : Value} {w : World} {l : List ByteArray}
theorem encPl_inj : ∀ a b : List ByteArray, [aL cStr a] = [aL cStr b] → a = b := by intro a b h; simpa using h
theorem pl_args (h : RdS w w.heap.size 1 cStr v l) : RepAs w [aL cStr l] [v] :=
  RepAs.cons (aL_rep (fun _ => rfl) (fun x u hu => by simp [cStr] at hu; subst hu; rfl) h) RepAs.nil
theorem bookPlay_spec (h : RdS w w.heap.size 1 cStr v l) (hok : ∀ x ∈ l, okString x) (hn : l.length ≤ 8796093022207) : Calls Try.prog 61 #[v] w (NewT w 2 cItem (plL l) [.int .i64 (plN l)]) :=
  calls_newT (fun _ => rfl) play_spec_s (mdl_eq encPl_inj l ⟨hok, hn⟩) (pl_args h)
theorem bookPlay_impl (h : RdS w w.heap.size 1 cStr v l) (hok : ∀ x ∈ l, okString x) (hn : l.length ≤ 8796093022207) : Calls Try.prog 63 #[v] w (NewT w 2 cItem (plL l) [.int .i64 (plN l)]) :=
  calls_newT (fun _ => rfl) play_impl_s (mdl_eq encPl_inj l ⟨hok, hn⟩) (pl_args h)
end
end Go.Proofs.Ytlogbmdfjnldlaa
