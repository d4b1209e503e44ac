/-
  Put together: EvPwL CodeArg.
-/
import Derived.Test.YteaohgacgcjkjaaHEvPwR
import Derived.Test.YteaohgacgcjkjaaG37
import Derived.Test.YteaohgacgcjkjaaG26
import Derived.Test.YteaohgacgcjkjaaG39
import Derived.Test.YteaohgacgcjkjaaG0
section
/-!
  The law FnPeerWords.
-/
namespace Go.Proofs.Yteaohgacgcjkjaa
set_option maxRecDepth 100000
set_option linter.unusedVariables false
set_option linter.unusedSimpArgs false
open Go Go.RowKit
set_option maxHeartbeats 8000000

theorem mdl_map {α : Type} {ok : α → Prop} {enc : α → List Arg} {g : α → Res} (k : Res → Res) (args : List Arg) : (mdl ok enc g args).map k = mdl ok enc (fun x => k (g x)) args := by
  unfold mdl
  split <;> rfl
abbrev rPMd (x : TPMsg × Bool) : Res := .tup [(true, [roI' x.1.1, roI' x.1.2.1, roI' x.1.2.2.1.1, roI' x.1.2.2.1.2.1, roI' x.1.2.2.1.2.2,
  roI' x.1.2.2.2.1.1, roI' x.1.2.2.2.1.2.1, roS' x.1.2.2.2.1.2.2.1, roS' x.1.2.2.2.1.2.2.2.1, roS' x.1.2.2.2.1.2.2.2.2.1, roS' x.1.2.2.2.1.2.2.2.2.2, .ro (.sl (rowsF cAddr x.1.2.2.2.2))]), (false, [.ro (.sc (.bool x.2))])]
theorem rPMB_dat (x : TPMsg × Bool) : (rPMB x).dat = rPMd x := by
  obtain ⟨⟨k, f, r, h, l⟩, b⟩ := x
  cases l <;> rfl
noncomputable def mRdD := mdl okRd (fun s => [aS s]) (fun s => rPMd (rdPM s))
theorem mRdD_eq (s : ByteArray) (h : okRd s) : mRdD [aS s] = some (rPMd (rdPM s)) := mdl_eq aS_inj1 s h
theorem rd_dat : (fun args => (mRdPM args).map Res.dat) = mRdD := by
  funext args
  unfold mRdPM mRdD
  rw [mdl_map]
  congr 1
  funext s
  exact rPMB_dat _
theorem readI_d : Sound Try.prog 22 mRdD := rd_dat ▸ Sound.dat readPMI_s
theorem readS_d : Sound Try.prog 21 mRdD := rd_dat ▸ Sound.dat readPMS_s
theorem cost_in {m : TPMsg} (h : msgOk m) : 0 < costN m ∧ costN m ≤ 11 := by
  rw [costN_yes h]
  obtain ⟨_, _, hr, _, ha⟩ := h
  split
  · next h2 =>
    rw [if_pos h2] at hr
    split
    · next q2 =>
      have : 0 ≤ m.2.2.1.2.2 := by
        have := hr
        unfold reqOk at this
        simp_all
      split <;> omega
    · omega
  · split
    · omega
    · split
      · next h4 =>
        rw [if_pos h4] at ha
        have h6 : m.2.2.2.2.length ≤ 10 := ha.1
        omega
      · omega
theorem lawPw_s : Sound Try.prog 6 (mdl (fun bs : List Nat => bs.length ≤ 9223372036854775807 ∧ ∀ n ∈ bs, n < 256) (fun bs => [aL cU8 bs]) fun _ => rB true) := by
  refine Sound.mdl Try.func6 rfl Try.ntmps6 ?_
  rintro bs w ⟨hlen, hbs⟩
  refine ⟨by simp, ?_⟩
  have hΓ : GSound Try.prog (look [(12, mBig), (27, mShowPMsg), (30, mShowPMsg), (22, mRdD), (21, mRdD), (29, mCost), (31, mCost), (32, mMsg)]) := env_cons (has_of Try.func12 rfl rfl) big_s (env_cons (has_of Try.func27 rfl rfl) ShowPMsgI_s (env_cons (has_of Try.func30 rfl rfl) ShowPMsgS_s (env_cons (has_of Try.func22 rfl rfl) readI_d (env_cons (has_of Try.func21 rfl rfl) readS_d (env_cons (has_of Try.func29 rfl rfl) CostI_s (env_cons (has_of Try.func31 rfl rfl) CostS_s (env_cons (has_of Try.func32 rfl rfl) msgS_s env_nil)))))))
  have hDS : Has Try.prog 26 := has_of Try.func26 rfl rfl
  have hDR : Has Try.prog 28 := has_of Try.func28 rfl rfl
  have c0 := mBig_eq bs hlen
  simp only [initS, argPV, List.map_cons, List.map_nil, toPL, Nat.zero_add]
  by_cases hb : 1048576 < bs.length
  · repeat (first | with_reducible (first | apply W.seq | apply W.block | apply W.skip | apply W.exit | apply W.ret | apply At.seqN | apply At.blkN | apply At.blkE | apply At.blkR | apply At.thenX | apply At.thenR | apply At.blkX rfl) | ((with_reducible apply W.ops); (repeat (first | refine WL.opA hΓ (h := ?_) | refine WL.opX hΓ (h := ?_) | refine WL.opY (h := ?_) | refine WL.opZ (h := ?_))); with_reducible apply WL.nil) | refine W.condT (h := ?_) | refine W.condF (h := ?_))
    refine At.retA (by rw [Try.results6]) (he := rfl)
  · have hcode := CodeOk.le (bs := bs) (by omega) hbs
    repeat (first | with_reducible (first | apply W.seq | apply W.block | apply W.skip | apply W.exit | apply W.ret | apply At.seqN | apply At.blkN | apply At.blkE | apply At.blkR | apply At.thenX | apply At.thenR | apply At.blkX rfl) | ((with_reducible apply W.ops); (repeat (first | refine WL.opA hΓ (h := ?_) | refine WL.opX hΓ (h := ?_) | refine WL.opY (h := ?_) | refine WL.opZ (h := ?_))); with_reducible apply WL.nil) | refine W.condT (h := ?_) | refine W.condF (h := ?_))
    with_reducible apply W.ops
    repeat (first | refine WL.opA hΓ (h := ?_) | refine WL.opX hΓ (h := ?_) | refine WL.opY (h := ?_) | refine WL.opZ (h := ?_))
    refine WL.opRA hDS DrawShowPMsg_d bs hcode (h := ?_)
    rintro ⟨m, own⟩ ⟨hm, -⟩
    replace hm : m.2.2.2.2.length ≤ 10 := hm
    have c1 := mShowPMsg_eq m (by show m.2.2.2.2.length ≤ _; omega)
    have c2 := mCost_eq m (by show m.2.2.2.2.length ≤ _; omega)
    have c3 := mMsg_eq m (by show m.2.2.2.2.length ≤ _; omega)
    have hz := showMsg_size m
    have c4 := mRdD_eq (showMsg m) (by show (showMsg m).size ≤ _; omega)
    dsimp only [aPM] at c1 c2 c3
    by_cases ho : msgOk m
    · rw [rd_back ho] at c4
      rw [msgB_yes ho] at c3
      have hne := show_ne ho
      have hct := cost_in ho
      clear ho
      generalize costN m = n at *
      generalize showMsg m = s at *
      obtain ⟨hn0, hn1⟩ := hct
      obtain ⟨k, f, ⟨r1, r2, r3⟩, ⟨h1, h2, la, va, ne, da⟩, l⟩ := m
      dsimp only [aPM, rPMd] at c1 c2 c3 c4
      have hsn : (true == !decide (s = (⟨#[]⟩ : ByteArray))) = true := by
        have h0 : decide (s = (⟨#[]⟩ : ByteArray)) = false := decide_eq_false hne
        rw [h0]; rfl
      have hp : decide (0 < n) = true := decide_eq_true hn0
      have hq : decide (n ≤ 11) = true := decide_eq_true hn1
      clear hne hn0 hn1
      (repeat (first | refine WL.opA hΓ (h := ?_) | refine WL.opX hΓ (h := ?_) | refine WL.opY (h := ?_) | refine WL.opZ (h := ?_)))
      with_reducible apply WL.nil
      repeat (first | with_reducible (first | apply W.seq | apply W.block | apply W.skip | apply W.exit | apply W.ret | apply At.seqN | apply At.blkN | apply At.blkE | apply At.blkR | apply At.thenX | apply At.thenR | apply At.blkX rfl) | ((with_reducible apply W.ops); (repeat (first | refine WL.opA hΓ (h := ?_) | refine WL.opX hΓ (h := ?_) | refine WL.opY (h := ?_) | refine WL.opZ (h := ?_))); with_reducible apply WL.nil) | refine W.condT (h := ?_) | refine W.condF (h := ?_))
      with_reducible apply W.ops
      repeat (first | refine WL.opA hΓ (h := ?_) | refine WL.opX hΓ (h := ?_) | refine WL.opY (h := ?_) | refine WL.opZ (h := ?_))
      refine WL.opRA hDR DrawReadPMsg_s bs hcode (h := ?_)
      rintro t ht
      replace ht : t.size ≤ 203 := ht
      have c5 := mRdD_eq t (by show t.size ≤ _; omega)
      have h10 := rdPM_ten t
      have hy : (rdPM t).2 = true → showMsg (rdPM t).1 = t := rd_true
      generalize rdPM t = y at *
      obtain ⟨y, b⟩ := y
      have c6 := mShowPMsg_eq y (by show y.2.2.2.2.length ≤ _; dsimp only at h10; omega)
      cases b with
      | true =>
        rw [hy rfl] at c6
        obtain ⟨k', f', ⟨r1', r2', r3'⟩, ⟨h1', h2', la', va', ne', da'⟩, l'⟩ := y
        dsimp only [aPM, rPMd] at c5 c6
        clear hy h10
        (repeat (first | refine WL.opA hΓ (h := ?_) | refine WL.opX hΓ (h := ?_) | refine WL.opY (h := ?_) | refine WL.opZ (h := ?_)))
        with_reducible apply WL.nil
        repeat (first | with_reducible (first | apply W.seq | apply W.block | apply W.skip | apply W.exit | apply W.ret | apply At.seqN | apply At.blkN | apply At.blkE | apply At.blkR | apply At.thenX | apply At.thenR | apply At.blkX rfl) | ((with_reducible apply W.ops); (repeat (first | refine WL.opA hΓ (h := ?_) | refine WL.opX hΓ (h := ?_) | refine WL.opY (h := ?_) | refine WL.opZ (h := ?_))); with_reducible apply WL.nil) | refine W.condT (h := ?_) | refine W.condF (h := ?_))
        refine At.retA (by rw [Try.results6]) (he := rfl)
      | false =>
        obtain ⟨k', f', ⟨r1', r2', r3'⟩, ⟨h1', h2', la', va', ne', da'⟩, l'⟩ := y
        dsimp only [aPM, rPMd] at c5
        clear hy h10 c6
        (repeat (first | refine WL.opA hΓ (h := ?_) | refine WL.opX hΓ (h := ?_) | refine WL.opY (h := ?_) | refine WL.opZ (h := ?_)))
        with_reducible apply WL.nil
        repeat (first | with_reducible (first | apply W.seq | apply W.block | apply W.skip | apply W.exit | apply W.ret | apply At.seqN | apply At.blkN | apply At.blkE | apply At.blkR | apply At.thenX | apply At.thenR | apply At.blkX rfl) | ((with_reducible apply W.ops); (repeat (first | refine WL.opA hΓ (h := ?_) | refine WL.opX hΓ (h := ?_) | refine WL.opY (h := ?_) | refine WL.opZ (h := ?_))); with_reducible apply WL.nil) | refine W.condT (h := ?_) | refine W.condF (h := ?_))
        refine At.retA (by rw [Try.results6]) (he := rfl)
    · rw [showMsg_no ho] at c1 c4
      rw [rd_empty] at c4
      rw [msgB_no ho] at c3
      rw [costN_no ho] at c2
      clear ho hz
      obtain ⟨k, f, ⟨r1, r2, r3⟩, ⟨h1, h2, la, va, ne, da⟩, l⟩ := m
      dsimp only [aPM, rPMd] at c1 c2 c3 c4
      have hsn : (false == !decide (ByteArray.empty = (⟨#[]⟩ : ByteArray))) = true := by
        have h0 : decide (ByteArray.empty = (⟨#[]⟩ : ByteArray)) = true := decide_eq_true rfl
        rw [h0]; rfl
      (repeat (first | refine WL.opA hΓ (h := ?_) | refine WL.opX hΓ (h := ?_) | refine WL.opY (h := ?_) | refine WL.opZ (h := ?_)))
      with_reducible apply WL.nil
      repeat (first | with_reducible (first | apply W.seq | apply W.block | apply W.skip | apply W.exit | apply W.ret | apply At.seqN | apply At.blkN | apply At.blkE | apply At.blkR | apply At.thenX | apply At.thenR | apply At.blkX rfl) | ((with_reducible apply W.ops); (repeat (first | refine WL.opA hΓ (h := ?_) | refine WL.opX hΓ (h := ?_) | refine WL.opY (h := ?_) | refine WL.opZ (h := ?_))); with_reducible apply WL.nil) | refine W.condT (h := ?_) | refine W.condF (h := ?_))
      with_reducible apply W.ops
      repeat (first | refine WL.opA hΓ (h := ?_) | refine WL.opX hΓ (h := ?_) | refine WL.opY (h := ?_) | refine WL.opZ (h := ?_))
      refine WL.opRA hDR DrawReadPMsg_s bs hcode (h := ?_)
      rintro t ht
      replace ht : t.size ≤ 203 := ht
      have c5 := mRdD_eq t (by show t.size ≤ _; omega)
      have h10 := rdPM_ten t
      have hy : (rdPM t).2 = true → showMsg (rdPM t).1 = t := rd_true
      generalize rdPM t = y at *
      obtain ⟨y, b⟩ := y
      have c6 := mShowPMsg_eq y (by show y.2.2.2.2.length ≤ _; dsimp only at h10; omega)
      cases b with
      | true =>
        rw [hy rfl] at c6
        obtain ⟨k', f', ⟨r1', r2', r3'⟩, ⟨h1', h2', la', va', ne', da'⟩, l'⟩ := y
        dsimp only [aPM, rPMd] at c5 c6
        clear hy h10
        (repeat (first | refine WL.opA hΓ (h := ?_) | refine WL.opX hΓ (h := ?_) | refine WL.opY (h := ?_) | refine WL.opZ (h := ?_)))
        with_reducible apply WL.nil
        repeat (first | with_reducible (first | apply W.seq | apply W.block | apply W.skip | apply W.exit | apply W.ret | apply At.seqN | apply At.blkN | apply At.blkE | apply At.blkR | apply At.thenX | apply At.thenR | apply At.blkX rfl) | ((with_reducible apply W.ops); (repeat (first | refine WL.opA hΓ (h := ?_) | refine WL.opX hΓ (h := ?_) | refine WL.opY (h := ?_) | refine WL.opZ (h := ?_))); with_reducible apply WL.nil) | refine W.condT (h := ?_) | refine W.condF (h := ?_))
        refine At.retA (by rw [Try.results6]) (he := rfl)
      | false =>
        obtain ⟨k', f', ⟨r1', r2', r3'⟩, ⟨h1', h2', la', va', ne', da'⟩, l'⟩ := y
        dsimp only [aPM, rPMd] at c5
        clear hy h10 c6
        (repeat (first | refine WL.opA hΓ (h := ?_) | refine WL.opX hΓ (h := ?_) | refine WL.opY (h := ?_) | refine WL.opZ (h := ?_)))
        with_reducible apply WL.nil
        repeat (first | with_reducible (first | apply W.seq | apply W.block | apply W.skip | apply W.exit | apply W.ret | apply At.seqN | apply At.blkN | apply At.blkE | apply At.blkR | apply At.thenX | apply At.thenR | apply At.blkX rfl) | ((with_reducible apply W.ops); (repeat (first | refine WL.opA hΓ (h := ?_) | refine WL.opX hΓ (h := ?_) | refine WL.opY (h := ?_) | refine WL.opZ (h := ?_))); with_reducible apply WL.nil) | refine W.condT (h := ?_) | refine W.condF (h := ?_))
        refine At.retA (by rw [Try.results6]) (he := rfl)
end Go.Proofs.Yteaohgacgcjkjaa

end
section
/-!
  A law's one argument: a code.
-/
namespace Go.Proofs.Yteaohgacgcjkjaa
set_option maxRecDepth 100000
set_option linter.unusedVariables false
set_option linter.unusedSimpArgs false
open Go Go.RowKit Go.ChangeShapes Go.WideShapes Go.ChangeAt Go.Deep

theorem cellsU8 : Try.prog.cellsOf 5 = 1 := by kernel_rfl
theorem bytesU8 : Try.prog.bytesOf 5 = 1 := by kernel_rfl
theorem elem_u8 {P : Program} {H : Type} {enc : TypeId × Value → H} {w : World} {base : Nat} {spare : Nat → Bool} {held : Bool} {e : TypeId} (he : P.underlying e = some (.int .u8)) {B : Nat} : ∀ n cs y, cs.length = 1 → DataW.trod enc P w base spare held n e cs = some y → (∀ p ∈ y.2, p.block < B) → ∃ x : Nat, cs = cU8 x ∧ x < 256 := by
  intro n cs y _ h _
  obtain ⟨s, rfl, _, hs⟩ := DataW.trod_int he h
  have h1 : 0 ≤ s ∧ s ≤ 255 := by
    simpa [Lit.wf, IntKind.min, IntKind.max, IntKind.signed, IntKind.bits] using hs
  refine ⟨s.toNat, ?_, by omega⟩
  have : ((s.toNat : Nat) : Int) = s := by omega
  unfold cU8
  rw [this]
theorem law_code {f : FuncId} {v : Value} {bs : List Nat} {w : World} (hs : Sound Try.prog f (mdl (fun bs : List Nat => bs.length ≤ 9223372036854775807 ∧ ∀ n ∈ bs, n < 256) (fun bs => [aL cU8 bs]) fun _ => rB true)) (h : RdS w w.heap.size 1 cU8 v bs) (hb : ∀ n ∈ bs, n < 256) (hl : bs.length ≤ 9223372036854775807) (hg : GlobOk none0 w := by first | exact glob_triv | assumption) :
    Calls Try.prog f #[v] w fun e w' => e = .returned (.bool true) ∧ Below w.heap.size w w' :=
  calls_says hs (mdl_eq (by intro a b h; simpa [rowsF_U8] using h) bs ⟨hl, hb⟩) (RepAs.cons (aL_rep (fun _ => rfl) (fun x u hu => by simp only [cU8, List.mem_singleton] at hu; rw [hu]; rfl) h) RepAs.nil) hg
end Go.Proofs.Yteaohgacgcjkjaa

end
