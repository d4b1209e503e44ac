/-
  ReadPMsg of both programs.
-/
import Derived.Test.YteaohgacgcjkjaaHEvRdHd
import Derived.Test.YteaohgacgcjkjaaHEvPShow
namespace Go.Proofs.Yteaohgacgcjkjaa
set_option maxRecDepth 100000
set_option linter.unusedVariables false
set_option linter.unusedSimpArgs false
open Go Go.RowKit
set_option maxHeartbeats 4000000

def adN : Nat → TSc → List TAddr × TSc
  | 0, x => ([], x)
  | n + 1, x => (((adN n x).1 ++ [(((numF (adN n x).2).1 : Int), ((numF (numF (adN n x).2).2).1 : Int))]), (numF (numF (adN n x).2).2).2)
theorem adN_len : ∀ n x, (adN n x).1.length = n
  | 0, _ => rfl
  | n + 1, x => by rw [adN]; simp [adN_len n x]
theorem adN_size : ∀ n x, (adN n x).2.1.size ≤ x.1.size
  | 0, _ => Nat.le_refl _
  | n + 1, x => by
    rw [adN]
    have h1 := adN_size n x
    have h2 := numF_size (adN n x).2
    have h3 := numF_size (numF (adN n x).2).2
    dsimp only
    omega
abbrev zRq : TReq := (0, 0, 0)
abbrev zPM : TPMsg := (0, 0, zRq, zHd, [])
def candK (k f : Int) (x : TSc) : Option TPMsg :=
  if k = 2 then some (k, f, (rdReq x.1).1, zHd, [])
  else if k = 3 then some (k, f, zRq, (rdHd x.1).1, [])
  else if k = 4 then (if (numF x).2.2 = true ∨ 10 < (numF x).1 ∨ (adN (numF x).1 (numF x).2).2.2 = true then none else some (k, f, zRq, zHd, (adN (numF x).1 (numF x).2).1))
  else some (k, f, zRq, zHd, [])
def candM (s : ByteArray) : Option TPMsg := match (scanN 2 (s, false)).1 with
  | [k, f] => if (scanN 2 (s, false)).2.2 = true then none else candK k f (scanN 2 (s, false)).2
  | _ => none
open Classical in
noncomputable def rdPM (s : ByteArray) : TPMsg × Bool := match candM s with
  | some m => if showMsg m = s then (m, true) else (zPM, false)
  | none => (zPM, false)
theorem rdPM_none {s : ByteArray} (h : candM s = none) : rdPM s = (zPM, false) := by unfold rdPM; rw [h]
theorem rdPM_no {s : ByteArray} {m : TPMsg} (h : candM s = some m) (h1 : ¬ showMsg m = s) : rdPM s = (zPM, false) := by unfold rdPM; rw [h]; dsimp only; rw [if_neg h1]
theorem rdPM_yes {s : ByteArray} {m : TPMsg} (h : candM s = some m) (h1 : showMsg m = s) : rdPM s = (m, true) := by unfold rdPM; rw [h]; dsimp only; rw [if_pos h1]
def adRL (l : List TAddr) : RL := match l with
  | [] => .ro (.sl [])
  | a :: r => .own true 90 2 (rowsF cAddr (a :: r))
abbrev rPMB (x : TPMsg × Bool) : Res := .tup [(true, [roI' x.1.1, roI' x.1.2.1, roI' x.1.2.2.1.1, roI' x.1.2.2.1.2.1, roI' x.1.2.2.1.2.2,
  roI' x.1.2.2.2.1.1, roI' x.1.2.2.2.1.2.1, roS' x.1.2.2.2.1.2.2.1, roS' x.1.2.2.2.1.2.2.2.1, roS' x.1.2.2.2.1.2.2.2.2.1, roS' x.1.2.2.2.1.2.2.2.2.2, adRL x.1.2.2.2.2]), (false, [.ro (.sc (.bool x.2))])]
noncomputable def mRdPM := mdl okRd (fun s => [aS s]) (fun s => rPMB (rdPM s))
theorem mRdPM_eq (s : ByteArray) (h : okRd s) : mRdPM [aS s] = some (rPMB (rdPM s)) := mdl_eq aS_inj1 s h
theorem adRL_ne {l : List TAddr} (h : 0 < l.length) : adRL l = .own true 90 2 (rowsF cAddr l) := by
  cases l with
  | nil => simp at h
  | cons a r => rfl
theorem cand_bad {s : ByteArray} (h : (scanN 2 (s, false)).2.2 = true) : candM s = none := by
  unfold candM
  split
  · rw [if_pos h]
  · rfl
theorem cand_ok {s : ByteArray} {k f : Int} {x : TSc} (h : scanN 2 (s, false) = ([k, f], x)) (hb : x.2 = false) : candM s = candK k f x := by
  unfold candM
  rw [h]
  dsimp only
  rw [if_neg (by rw [hb]; simp)]
theorem candK2 (f : Int) (x : TSc) : candK 2 f x = some (2, f, (rdReq x.1).1, zHd, []) := by unfold candK; rw [if_pos rfl]
theorem candK3 (f : Int) (x : TSc) : candK 3 f x = some (3, f, zRq, (rdHd x.1).1, []) := by unfold candK; rw [if_neg (by decide), if_pos rfl]
theorem candK4_no {f : Int} {x : TSc} (h : (numF x).2.2 = true ∨ 10 < (numF x).1 ∨ (adN (numF x).1 (numF x).2).2.2 = true) : candK 4 f x = none := by unfold candK; rw [if_neg (by decide), if_neg (by decide), if_pos rfl, if_pos h]
theorem candK4_yes {f : Int} {x : TSc} (h : ¬ ((numF x).2.2 = true ∨ 10 < (numF x).1 ∨ (adN (numF x).1 (numF x).2).2.2 = true)) : candK 4 f x = some (4, f, zRq, zHd, (adN (numF x).1 (numF x).2).1) := by unfold candK; rw [if_neg (by decide), if_neg (by decide), if_pos rfl, if_neg h]
theorem candK_other {k f : Int} {x : TSc} (h2 : ¬ k = 2) (h3 : ¬ k = 3) (h4 : ¬ k = 4) : candK k f x = some (k, f, zRq, zHd, []) := by unfold candK; rw [if_neg h2, if_neg h3, if_neg h4]
theorem rv_var0 : rv (varS 0) = (0, 1) := by
  have h : rvK (varS 0) 1 := by
    have e : varS 0 = bsS [0] := rfl
    refine ⟨by rw [e]; exact ⟨by decide, by decide, by decide⟩, ?_⟩
    rw [e, bts_bsS (by simp)]
    have h1 : vF (([0] : List Nat).take 1) = 0 := rfl
    rw [h1]
    exact (show varS ((0 : Nat) : Int) = (bsS [0]).extract 0 1 from by rw [show varS ((0 : Nat) : Int) = bsS [0] from rfl]; exact (whole (bsS [0])).symm)
  rw [rv_yes h]
  have e : varS 0 = bsS [0] := rfl
  rw [e, bts_bsS (by simp)]
  rfl
/-- a message of addresses that shows no address -/
theorem no_addrs {s : ByteArray} {f : Int} {p : Nat} (hp : p ≤ s.size) (h0 : 1 ≤ p) (hc : catV [4, f] = s.extract 0 p) (h10 : 10 < (numF (s.extract p s.size, false)).1) : ¬ showMsg (4, f, zRq, zHd, []) = s := by
  intro h
  by_cases ho : msgOk (4, f, zRq, zHd, [])
  · rw [showMsg_yes ho] at h
    simp only [reduceIte, show ¬ ((4 : Int) = 2) by decide, show ¬ ((4 : Int) = 3) by decide, List.length_nil, catA] at h
    have h1 : varS 4 ++ varS f = s.extract 0 p := by
      rw [← hc]
      simp only [catV, ByteArray.append_empty]
    rw [h1] at h
    have h2 : s.extract 0 p ++ s.extract p s.size = s := by rw [ext_app s (Nat.zero_le _) hp, whole]
    have h3 : s.extract p s.size = varS 0 := by
      have e1 := congrArg bts h
      have e2 := congrArg bts h2
      rw [bts_app] at e1 e2
      rw [← e1] at e2
      have := List.append_cancel_left e2
      exact bts_inj this
    rw [h3] at h10
    rw [numF_ok (by rw [rv_var0]; decide), rv_var0] at h10
    simp at h10
  · rw [showMsg_no ho] at h
    have := congrArg ByteArray.size h
    simp at this
    omega
theorem two {α : Type} (a : α) (f : Nat → α) : ∃ J : Nat → α, J 0 = a ∧ ∀ k, J (k + 1) = f k := ⟨fun k => match k with | 0 => a | k + 1 => f k, rfl, fun _ => rfl⟩
theorem adN_stick : ∀ n (t : ByteArray), (adN n (t, true)).2.2 = true
  | 0, _ => rfl
  | n + 1, t => by
    rw [adN]
    dsimp only
    have h := adN_stick n t
    generalize adN n (t, true) = A at h
    obtain ⟨l, s, b⟩ := A
    dsimp only at h ⊢
    subst h
    rw [numF_stick]
    dsimp only
    rw [numF_stick]
theorem cAd_app (l : List TAddr) (a b : Int) : rowsF cAddr l ++ [[Leaf.sc (.int .i64 a), Leaf.sc (.int .i64 b)]] = rowsF cAddr (l ++ [(a, b)]) := by rw [← rowsF_app]; rfl
abbrev bxM (k f : Int) (a : PL) : Blk := .box [.sc (.int .i64 k), .sc (.int .i64 f), .sc (.int .i64 0), .sc (.int .i64 0), .sc (.int .i64 0), .sc (.int .i64 0), .sc (.int .i64 0), .sc (.string ByteArray.empty), .sc (.string ByteArray.empty), .sc (.string ByteArray.empty), .sc (.string ByteArray.empty), a]
/-- the state of the loop over the addresses -/
abbrev jst (s : ByteArray) (f n : Nat) (x : TSc) (i : Nat) (a : PL) (r : St) : St := [.slot 0 (vS s), .slot 2 (one (.ptr 2 0)), .blk 2 (bxM 0 0 .nil), .slot 4 (one (.ptr 11 0)), .blk 11 (.box (scL x)), .slot 5 (one (.ptr 5 0)), .blk 5 (bxM 4 f a), .slot 6 (vI n), .slot 7 (vI i)] ++ r
theorem readPMI_s : Sound Try.prog 22 mRdPM := by
  refine Sound.mdl Try.func22 rfl Try.ntmps22 ?_
  rintro s w hs
  refine ⟨by simp, ?_⟩
  replace hs : s.size ≤ 1099511627776 := hs
  have hΓ : GSound Try.prog (look [(27, mShowPMsg), (57, mRdReq), (58, mRdHd)]) := env_cons (has_of Try.func27 rfl rfl) ShowPMsgI_s (env_cons (has_of Try.func57 rfl rfl) readReqI_s (env_cons (has_of Try.func58 rfl rfl) readHdI_s env_nil))
  have hNu : Has Try.prog 56 := has_of Try.func56 rfl rfl
  have hem : (⟨#[]⟩ : ByteArray) = ByteArray.empty := rfl
  have hn0 : rowsF cAddr [] = [] := rfl
  have hw := scan_vars s 2 0 (Nat.zero_le _)
  rw [whole] at hw
  have t1 := numF_size (s, false)
  generalize hz1 : numF (s, false) = z1 at t1
  obtain ⟨k, s1, b1⟩ := z1
  have t2 := numF_size (s1, b1)
  generalize hz2 : numF (s1, b1) = z2 at t2
  obtain ⟨f, s2, b2⟩ := z2
  dsimp only at t1 t2
  have hsc : scanN 2 (s, false) = ([(k : Int), (f : Int)], s2, b2) := by simp only [scanN, hz1, hz2]
  have Z1 := Lib.hid hz1
  have Z2 := Lib.hid hz2
  have HS := Lib.hid hsc
  have HW := Lib.hid hw
  have hne : b2 = false → ¬ s = ByteArray.empty := fun hb e => by
    have := scan_empty 1
    rw [← e, hsc] at this
    dsimp only at this
    rw [hb] at this
    cases this
  have HN := Lib.hid hne
  clear hz1 hz2 hsc hw hne
  simp only [initS, argPV, List.map_cons, List.map_nil, toPL, Nat.zero_add]
  repeat (first | with_reducible (first | apply W.seq | apply W.block | apply W.skip | apply W.exit | apply W.ret | apply At.seqN | apply At.blkN | apply At.blkE | apply At.blkR | apply At.thenX | apply At.thenR | apply At.blkX rfl) | ((with_reducible apply W.ops); (repeat (first | refine WL.opA hΓ (h := ?_) | refine WL.opX hΓ (h := ?_) | refine WL.opY (h := ?_) | refine WL.opZ (h := ?_))); with_reducible apply WL.nil) | refine W.condT (h := ?_) | refine W.condF (h := ?_))
  with_reducible apply W.ops
  repeat (first | refine WL.opA hΓ (h := ?_) | refine WL.opX hΓ (h := ?_) | refine WL.opY (h := ?_) | refine WL.opZ (h := ?_))
  refine WL.opSc hNu num_s (s, false) () (k, s1, b1) Z1.out (show s.size ≤ _ by omega) (h := ?_)
  (repeat (first | refine WL.opA hΓ (h := ?_) | refine WL.opX hΓ (h := ?_) | refine WL.opY (h := ?_) | refine WL.opZ (h := ?_)))
  with_reducible apply WL.nil
  repeat (first | with_reducible (first | apply W.seq | apply W.block | apply W.skip | apply W.exit | apply W.ret | apply At.seqN | apply At.blkN | apply At.blkE | apply At.blkR | apply At.thenX | apply At.thenR | apply At.blkX rfl) | ((with_reducible apply W.ops); (repeat (first | refine WL.opA hΓ (h := ?_) | refine WL.opX hΓ (h := ?_) | refine WL.opY (h := ?_) | refine WL.opZ (h := ?_))); with_reducible apply WL.nil) | refine W.condT (h := ?_) | refine W.condF (h := ?_))
  with_reducible apply W.ops
  repeat (first | refine WL.opA hΓ (h := ?_) | refine WL.opX hΓ (h := ?_) | refine WL.opY (h := ?_) | refine WL.opZ (h := ?_))
  refine WL.opSc hNu num_s (s1, b1) () (f, s2, b2) Z2.out (show s1.size ≤ _ by omega) (h := ?_)
  (repeat (first | refine WL.opA hΓ (h := ?_) | refine WL.opX hΓ (h := ?_) | refine WL.opY (h := ?_) | refine WL.opZ (h := ?_)))
  with_reducible apply WL.nil
  cases b2 with
  | true =>
    have hv := rdPM_none (cand_bad (s := s) (by rw [HS.out]))
    repeat (first | with_reducible (first | apply W.seq | apply W.block | apply W.skip | apply W.exit | apply W.ret | apply At.seqN | apply At.blkN | apply At.blkE | apply At.blkR | apply At.thenX | apply At.thenR | apply At.blkX rfl) | ((with_reducible apply W.ops); (repeat (first | refine WL.opA hΓ (h := ?_) | refine WL.opX hΓ (h := ?_) | refine WL.opY (h := ?_) | refine WL.opZ (h := ?_))); with_reducible apply WL.nil) | refine W.condT (h := ?_) | refine W.condF (h := ?_))
    refine At.retA (by rw [Try.results22]) (he := ?_)
    rw [hv]
    rfl
  | false =>
    have hne := HN.out rfl
    have hc := cand_ok HS.out rfl
    have HC := Lib.hid hc
    clear hc
    by_cases k2 : k = 2
    · subst k2
      have hc := HC.out.trans (candK2 f (s2, false))
      have c1 := mRdReq_eq s2 (show s2.size ≤ _ by omega)
      dsimp only at hc
      generalize rdReq s2 = r at hc c1
      obtain ⟨⟨r1, r2, r3⟩, rb⟩ := r
      have c2 := mShowPMsg_eq (2, (f : Int), (r1, r2, r3), zHd, []) (by simp [okPM])
      dsimp only [aPM] at c2 c1 hc
      rw [hn0] at c2
      have hk : decide (((2 : Nat) : Int) = 2) = true := rfl
      have hk' : ((2 : Nat) : Int) = 2 := rfl
      by_cases hsh : showMsg (2, (f : Int), (r1, r2, r3), zHd, []) = s
      · have hv := rdPM_yes hc hsh
        have hd := decide_eq_true hsh
        generalize showMsg (2, (f : Int), (r1, r2, r3), zHd, []) = z at *
        clear hsh hc
        repeat (first | with_reducible (first | apply W.seq | apply W.block | apply W.skip | apply W.exit | apply W.ret | apply At.seqN | apply At.blkN | apply At.blkE | apply At.blkR | apply At.thenX | apply At.thenR | apply At.blkX rfl) | ((with_reducible apply W.ops); (repeat (first | refine WL.opA hΓ (h := ?_) | refine WL.opX hΓ (h := ?_) | refine WL.opY (h := ?_) | refine WL.opZ (h := ?_))); with_reducible apply WL.nil) | refine W.condT (h := ?_) | refine W.condF (h := ?_))
        refine At.retA (by rw [Try.results22]) (he := ?_)
        rw [hv]
        rfl
      · have hv := rdPM_no hc hsh
        have hd := decide_eq_false hsh
        generalize showMsg (2, (f : Int), (r1, r2, r3), zHd, []) = z at *
        clear hsh hc
        repeat (first | with_reducible (first | apply W.seq | apply W.block | apply W.skip | apply W.exit | apply W.ret | apply At.seqN | apply At.blkN | apply At.blkE | apply At.blkR | apply At.thenX | apply At.thenR | apply At.blkX rfl) | ((with_reducible apply W.ops); (repeat (first | refine WL.opA hΓ (h := ?_) | refine WL.opX hΓ (h := ?_) | refine WL.opY (h := ?_) | refine WL.opZ (h := ?_))); with_reducible apply WL.nil) | refine W.condT (h := ?_) | refine W.condF (h := ?_))
        refine At.retA (by rw [Try.results22]) (he := ?_)
        rw [hv]
        rfl
    · by_cases k3 : k = 3
      · subst k3
        have hc := HC.out.trans (candK3 f (s2, false))
        have c1 := mRdHd_eq s2 (show s2.size ≤ _ by omega)
        dsimp only at hc
        generalize rdHd s2 = r at hc c1
        obtain ⟨⟨r1, r2, r3, r4, r5, r6⟩, rb⟩ := r
        have c2 := mShowPMsg_eq (3, (f : Int), zRq, (r1, r2, r3, r4, r5, r6), []) (by simp [okPM])
        dsimp only [aPM] at c2 c1 hc
        rw [hn0] at c2
        have hk' : ((3 : Nat) : Int) = 3 := rfl
        by_cases hsh : showMsg (3, (f : Int), zRq, (r1, r2, r3, r4, r5, r6), []) = s
        · have hv := rdPM_yes hc hsh
          have hd := decide_eq_true hsh
          generalize showMsg (3, (f : Int), zRq, (r1, r2, r3, r4, r5, r6), []) = z at *
          clear hsh hc
          repeat (first | with_reducible (first | apply W.seq | apply W.block | apply W.skip | apply W.exit | apply W.ret | apply At.seqN | apply At.blkN | apply At.blkE | apply At.blkR | apply At.thenX | apply At.thenR | apply At.blkX rfl) | ((with_reducible apply W.ops); (repeat (first | refine WL.opA hΓ (h := ?_) | refine WL.opX hΓ (h := ?_) | refine WL.opY (h := ?_) | refine WL.opZ (h := ?_))); with_reducible apply WL.nil) | refine W.condT (h := ?_) | refine W.condF (h := ?_))
          refine At.retA (by rw [Try.results22]) (he := ?_)
          rw [hv]
          rfl
        · have hv := rdPM_no hc hsh
          have hd := decide_eq_false hsh
          generalize showMsg (3, (f : Int), zRq, (r1, r2, r3, r4, r5, r6), []) = z at *
          clear hsh hc
          repeat (first | with_reducible (first | apply W.seq | apply W.block | apply W.skip | apply W.exit | apply W.ret | apply At.seqN | apply At.blkN | apply At.blkE | apply At.blkR | apply At.thenX | apply At.thenR | apply At.blkX rfl) | ((with_reducible apply W.ops); (repeat (first | refine WL.opA hΓ (h := ?_) | refine WL.opX hΓ (h := ?_) | refine WL.opY (h := ?_) | refine WL.opZ (h := ?_))); with_reducible apply WL.nil) | refine W.condT (h := ?_) | refine W.condF (h := ?_))
          refine At.retA (by rw [Try.results22]) (he := ?_)
          rw [hv]
          rfl
      · by_cases k4 : k = 4
        · subst k4
          have hk' : ((4 : Nat) : Int) = 4 := rfl
          have t3 := numF_size (s2, false)
          generalize hz3 : numF (s2, false) = z3 at t3
          obtain ⟨n, s3, b3⟩ := z3
          dsimp only at t3
          have Z3 := Lib.hid hz3
          clear hz3
          clear k2 k3
          repeat (first | with_reducible (first | apply W.seq | apply W.block | apply W.skip | apply W.exit | apply W.ret | apply At.seqN | apply At.blkN | apply At.blkE | apply At.blkR | apply At.thenX | apply At.thenR | apply At.blkX rfl) | ((with_reducible apply W.ops); (repeat (first | refine WL.opA hΓ (h := ?_) | refine WL.opX hΓ (h := ?_) | refine WL.opY (h := ?_) | refine WL.opZ (h := ?_))); with_reducible apply WL.nil) | refine W.condT (h := ?_) | refine W.condF (h := ?_))
          with_reducible apply W.ops
          repeat (first | refine WL.opA hΓ (h := ?_) | refine WL.opX hΓ (h := ?_) | refine WL.opY (h := ?_) | refine WL.opZ (h := ?_))
          refine WL.opSc hNu num_s (s2, false) () (n, s3, b3) Z3.out (show s2.size ≤ _ by omega) (h := ?_)
          (repeat (first | refine WL.opA hΓ (h := ?_) | refine WL.opX hΓ (h := ?_) | refine WL.opY (h := ?_) | refine WL.opZ (h := ?_)))
          with_reducible apply WL.nil
          repeat (first | with_reducible (first | apply W.seq | apply W.block | apply W.skip | apply W.exit | apply W.ret | apply At.seqN | apply At.blkN | apply At.blkE | apply At.blkR | apply At.thenX | apply At.thenR | apply At.blkX rfl) | ((with_reducible apply W.ops); (repeat (first | refine WL.opA hΓ (h := ?_) | refine WL.opX hΓ (h := ?_) | refine WL.opY (h := ?_) | refine WL.opZ (h := ?_))); with_reducible apply WL.nil) | refine W.condT (h := ?_) | refine W.condF (h := ?_))
          have hnx := numF_lt (s2, false)
          rw [Z3.out] at hnx
          dsimp only at hnx
          by_cases hn10 : n ≤ 10
          · obtain ⟨J, hJ0, hJs⟩ := two (α := St) (jst s f n (s3, b3) 0 .nil []) (fun i => jst s f n (adN (i + 1) (s3, b3)).2 (i + 1) (.all 74) [.blk 74 (.arr true 90 2 (rowsF cAddr (adN (i + 1) (s3, b3)).1))])
            dsimp only [jst, bxM, List.append_nil, List.cons_append, List.nil_append] at hJ0 hJs
            refine W.loopA (fun i : Nat => i ≤ n) J (fun i => n - i) 0 (Nat.zero_le _) (h := ?_)
            rintro i hi
            have hln := adN_len i (s3, b3)
            have hsz := adN_size i (s3, b3)
            by_cases hlt : i < n
            · have hnext : adN (i + 1) (s3, b3) = (((adN i (s3, b3)).1 ++ [(((numF (adN i (s3, b3)).2).1 : Int), ((numF (numF (adN i (s3, b3)).2).2).1 : Int))]), (numF (numF (adN i (s3, b3)).2).2).2) := rfl
              have e := cAd_app (adN i (s3, b3)).1 ((numF (adN i (s3, b3)).2).1 : Int) ((numF (numF (adN i (s3, b3)).2).2).1 : Int)
              generalize hA : adN i (s3, b3) = A at hnext e hln hsz
              obtain ⟨l, si, bi⟩ := A
              dsimp only at hnext e hln hsz
              have q1 := numF_size (si, bi)
              generalize hy1 : numF (si, bi) = y1 at hnext e q1
              obtain ⟨a1, s4, b4⟩ := y1
              dsimp only at hnext e q1
              have q2 := numF_size (s4, b4)
              generalize hy2 : numF (s4, b4) = y2 at hnext e q2
              obtain ⟨a2, s5, b5⟩ := y2
              dsimp only at hnext e q2
              have Y1 := Lib.hid hy1
              have Y2 := Lib.hid hy2
              have HX := Lib.hid hnext
              have YA := Lib.hid hA
              clear hy1 hy2 hnext hA
              cases i with
              | zero =>
                have hl0 : l = [] := List.length_eq_zero_iff.1 hln
                subst hl0
                have hA := YA.out
                simp only [adN, Prod.mk.injEq] at hA
                obtain ⟨-, rfl, rfl⟩ := hA
                have hx := HX.out
                rw [hJ0]
                clear e
                have e0 : [[Leaf.sc (.int .i64 (a1 : Int)), Leaf.sc (.int .i64 (a2 : Int))]] = rowsF cAddr ([] ++ [((a1 : Int), (a2 : Int))]) := rfl
                repeat (first | with_reducible (first | apply W.seq | apply W.block | apply W.skip | apply W.exit | apply W.ret | apply At.seqN | apply At.blkN | apply At.blkE | apply At.blkR | apply At.thenX | apply At.thenR | apply At.blkX rfl) | ((with_reducible apply W.ops); (repeat (first | refine WL.opA hΓ (h := ?_) | refine WL.opX hΓ (h := ?_) | refine WL.opY (h := ?_) | refine WL.opZ (h := ?_))); with_reducible apply WL.nil) | refine W.condT (h := ?_) | refine W.condF (h := ?_))
                with_reducible apply W.ops
                repeat (first | refine WL.opA hΓ (h := ?_) | refine WL.opX hΓ (h := ?_) | refine WL.opY (h := ?_) | refine WL.opZ (h := ?_))
                refine WL.opSc hNu num_s (s3, b3) () (a1, s4, b4) Y1.out (show s3.size ≤ _ by omega) (h := ?_)
                (repeat (first | refine WL.opA hΓ (h := ?_) | refine WL.opX hΓ (h := ?_) | refine WL.opY (h := ?_) | refine WL.opZ (h := ?_)))
                with_reducible apply WL.nil
                repeat (first | with_reducible (first | apply W.seq | apply W.block | apply W.skip | apply W.exit | apply W.ret | apply At.seqN | apply At.blkN | apply At.blkE | apply At.blkR | apply At.thenX | apply At.thenR | apply At.blkX rfl) | ((with_reducible apply W.ops); (repeat (first | refine WL.opA hΓ (h := ?_) | refine WL.opX hΓ (h := ?_) | refine WL.opY (h := ?_) | refine WL.opZ (h := ?_))); with_reducible apply WL.nil) | refine W.condT (h := ?_) | refine W.condF (h := ?_))
                with_reducible apply W.ops
                repeat (first | refine WL.opA hΓ (h := ?_) | refine WL.opX hΓ (h := ?_) | refine WL.opY (h := ?_) | refine WL.opZ (h := ?_))
                refine WL.opSc hNu num_s (s4, b4) () (a2, s5, b5) Y2.out (show s4.size ≤ _ by omega) (h := ?_)
                (repeat (first | refine WL.opA hΓ (h := ?_) | refine WL.opX hΓ (h := ?_) | refine WL.opY (h := ?_) | refine WL.opZ (h := ?_)))
                with_reducible apply WL.nil
                repeat (first | with_reducible (first | apply W.seq | apply W.block | apply W.skip | apply W.exit | apply W.ret | apply At.seqN | apply At.blkN | apply At.blkE | apply At.blkR | apply At.thenX | apply At.thenR | apply At.blkX rfl) | ((with_reducible apply W.ops); (repeat (first | refine WL.opA hΓ (h := ?_) | refine WL.opX hΓ (h := ?_) | refine WL.opY (h := ?_) | refine WL.opZ (h := ?_))); with_reducible apply WL.nil) | refine W.condT (h := ?_) | refine W.condF (h := ?_))
                exact At.roundA 1 (by omega) (by omega)
              | succ i =>
                have hA := YA.out
                have hx := HX.out
                rw [hJs, hA]
                dsimp only
                clear hA
                repeat (first | with_reducible (first | apply W.seq | apply W.block | apply W.skip | apply W.exit | apply W.ret | apply At.seqN | apply At.blkN | apply At.blkE | apply At.blkR | apply At.thenX | apply At.thenR | apply At.blkX rfl) | ((with_reducible apply W.ops); (repeat (first | refine WL.opA hΓ (h := ?_) | refine WL.opX hΓ (h := ?_) | refine WL.opY (h := ?_) | refine WL.opZ (h := ?_))); with_reducible apply WL.nil) | refine W.condT (h := ?_) | refine W.condF (h := ?_))
                with_reducible apply W.ops
                repeat (first | refine WL.opA hΓ (h := ?_) | refine WL.opX hΓ (h := ?_) | refine WL.opY (h := ?_) | refine WL.opZ (h := ?_))
                refine WL.opSc hNu num_s (si, bi) () (a1, s4, b4) Y1.out (show si.size ≤ _ by omega) (h := ?_)
                (repeat (first | refine WL.opA hΓ (h := ?_) | refine WL.opX hΓ (h := ?_) | refine WL.opY (h := ?_) | refine WL.opZ (h := ?_)))
                with_reducible apply WL.nil
                repeat (first | with_reducible (first | apply W.seq | apply W.block | apply W.skip | apply W.exit | apply W.ret | apply At.seqN | apply At.blkN | apply At.blkE | apply At.blkR | apply At.thenX | apply At.thenR | apply At.blkX rfl) | ((with_reducible apply W.ops); (repeat (first | refine WL.opA hΓ (h := ?_) | refine WL.opX hΓ (h := ?_) | refine WL.opY (h := ?_) | refine WL.opZ (h := ?_))); with_reducible apply WL.nil) | refine W.condT (h := ?_) | refine W.condF (h := ?_))
                with_reducible apply W.ops
                repeat (first | refine WL.opA hΓ (h := ?_) | refine WL.opX hΓ (h := ?_) | refine WL.opY (h := ?_) | refine WL.opZ (h := ?_))
                refine WL.opSc hNu num_s (s4, b4) () (a2, s5, b5) Y2.out (show s4.size ≤ _ by omega) (h := ?_)
                (repeat (first | refine WL.opA hΓ (h := ?_) | refine WL.opX hΓ (h := ?_) | refine WL.opY (h := ?_) | refine WL.opZ (h := ?_)))
                with_reducible apply WL.nil
                repeat (first | with_reducible (first | apply W.seq | apply W.block | apply W.skip | apply W.exit | apply W.ret | apply At.seqN | apply At.blkN | apply At.blkE | apply At.blkR | apply At.thenX | apply At.thenR | apply At.blkX rfl) | ((with_reducible apply W.ops); (repeat (first | refine WL.opA hΓ (h := ?_) | refine WL.opX hΓ (h := ?_) | refine WL.opY (h := ?_) | refine WL.opZ (h := ?_))); with_reducible apply WL.nil) | refine W.condT (h := ?_) | refine W.condF (h := ?_))
                exact At.roundA (i + 1 + 1) (by omega) (by omega)
            · have hin : i = n := by omega
              subst hin
              have hk4 : ¬ ((numF (s2, false)).2.2 = true ∨ 10 < (numF (s2, false)).1 ∨ (adN (numF (s2, false)).1 (numF (s2, false)).2).2.2 = true) ↔ ¬ (b3 = true ∨ (adN i (s3, b3)).2.2 = true) := by
                rw [Z3.out]
                dsimp only
                have : ¬ 10 < i := by omega
                simp [this]
              have hstick : b3 = true → (adN i (s3, b3)).2.2 = true := fun e => by rw [e]; exact adN_stick i s3
              have hcy : (adN i (s3, b3)).2.2 = false → candM s = some (4, (f : Int), zRq, zHd, (adN i (s3, b3)).1) := fun e => by
                have := HC.out.trans (candK4_yes (f := f) (x := (s2, false)) (hk4.2 (by rw [e]; intro h; rcases h with h | h; have := hstick h; rw [e] at this; cases this; cases h)))
                rw [Z3.out] at this
                exact this
              have hcn : (adN i (s3, b3)).2.2 = true → candM s = none := fun e => HC.out.trans (candK4_no (f := f) (x := (s2, false)) (by rw [Z3.out]; exact .inr (.inr e)))
              generalize hA : adN i (s3, b3) = A at hcy hcn hln hsz
              obtain ⟨l, si, bi⟩ := A
              dsimp only at hcy hcn hln hsz
              have HY := Lib.hid hcy
              have HNo := Lib.hid hcn
              have YA := Lib.hid hA
              clear hcy hcn hk4 hstick hA
              have hadl : 0 < l.length → adRL l = .own true 90 2 (rowsF cAddr l) := adRL_ne
              have c2 := mShowPMsg_eq (4, (f : Int), zRq, zHd, l) (by simp [okPM]; omega)
              dsimp only [aPM] at c2
              cases bi with
              | true =>
                have hv := rdPM_none (HNo.out rfl)
                clear hadl c2
                cases i with
                | zero =>
                  have hA := YA.out
                  simp only [adN, Prod.mk.injEq] at hA
                  obtain ⟨-, rfl, rfl⟩ := hA
                  rw [hJ0]
                  repeat (first | with_reducible (first | apply W.seq | apply W.block | apply W.skip | apply W.exit | apply W.ret | apply At.seqN | apply At.blkN | apply At.blkE | apply At.blkR | apply At.thenX | apply At.thenR | apply At.blkX rfl) | ((with_reducible apply W.ops); (repeat (first | refine WL.opA hΓ (h := ?_) | refine WL.opX hΓ (h := ?_) | refine WL.opY (h := ?_) | refine WL.opZ (h := ?_))); with_reducible apply WL.nil) | refine W.condT (h := ?_) | refine W.condF (h := ?_))
                  refine At.retA (by rw [Try.results22]) (he := ?_)
                  rw [hv]
                  rfl
                | succ i =>
                  have hA := YA.out
                  rw [hJs, hA]
                  clear hA
                  repeat (first | with_reducible (first | apply W.seq | apply W.block | apply W.skip | apply W.exit | apply W.ret | apply At.seqN | apply At.blkN | apply At.blkE | apply At.blkR | apply At.thenX | apply At.thenR | apply At.blkX rfl) | ((with_reducible apply W.ops); (repeat (first | refine WL.opA hΓ (h := ?_) | refine WL.opX hΓ (h := ?_) | refine WL.opY (h := ?_) | refine WL.opZ (h := ?_))); with_reducible apply WL.nil) | refine W.condT (h := ?_) | refine W.condF (h := ?_))
                  refine At.retA (by rw [Try.results22]) (he := ?_)
                  rw [hv]
                  rfl
              | false =>
                have hc := HY.out rfl
                by_cases hsh : showMsg (4, (f : Int), zRq, zHd, l) = s
                · have hv := rdPM_yes hc hsh
                  have hd := decide_eq_true hsh
                  generalize showMsg (4, (f : Int), zRq, zHd, l) = z at *
                  clear hsh hc
                  cases i with
                  | zero =>
                    have hl0 : l = [] := List.length_eq_zero_iff.1 hln
                    subst hl0
                    have hA := YA.out
                    simp only [adN, Prod.mk.injEq] at hA
                    obtain ⟨-, rfl, rfl⟩ := hA
                    rw [hJ0]
                    rw [hn0] at c2
                    clear hadl
                    repeat (first | with_reducible (first | apply W.seq | apply W.block | apply W.skip | apply W.exit | apply W.ret | apply At.seqN | apply At.blkN | apply At.blkE | apply At.blkR | apply At.thenX | apply At.thenR | apply At.blkX rfl) | ((with_reducible apply W.ops); (repeat (first | refine WL.opA hΓ (h := ?_) | refine WL.opX hΓ (h := ?_) | refine WL.opY (h := ?_) | refine WL.opZ (h := ?_))); with_reducible apply WL.nil) | refine W.condT (h := ?_) | refine W.condF (h := ?_))
                    refine At.retA (by rw [Try.results22]) (he := ?_)
                    rw [hv]
                    rfl
                  | succ i =>
                    have hA := YA.out
                    have ha := hadl (by omega)
                    have HAd := Lib.hid ha
                    rw [hJs, hA]
                    clear hA hadl ha
                    repeat (first | with_reducible (first | apply W.seq | apply W.block | apply W.skip | apply W.exit | apply W.ret | apply At.seqN | apply At.blkN | apply At.blkE | apply At.blkR | apply At.thenX | apply At.thenR | apply At.blkX rfl) | ((with_reducible apply W.ops); (repeat (first | refine WL.opA hΓ (h := ?_) | refine WL.opX hΓ (h := ?_) | refine WL.opY (h := ?_) | refine WL.opZ (h := ?_))); with_reducible apply WL.nil) | refine W.condT (h := ?_) | refine W.condF (h := ?_))
                    refine At.retA (by rw [Try.results22]) (he := ?_)
                    rw [hv]
                    dsimp only [rPMB]
                    rw [HAd.out]
                · have hv := rdPM_no hc hsh
                  have hd := decide_eq_false hsh
                  generalize showMsg (4, (f : Int), zRq, zHd, l) = z at *
                  clear hsh hc hadl
                  cases i with
                  | zero =>
                    have hl0 : l = [] := List.length_eq_zero_iff.1 hln
                    subst hl0
                    have hA := YA.out
                    simp only [adN, Prod.mk.injEq] at hA
                    obtain ⟨-, rfl, rfl⟩ := hA
                    rw [hJ0]
                    rw [hn0] at c2
                    repeat (first | with_reducible (first | apply W.seq | apply W.block | apply W.skip | apply W.exit | apply W.ret | apply At.seqN | apply At.blkN | apply At.blkE | apply At.blkR | apply At.thenX | apply At.thenR | apply At.blkX rfl) | ((with_reducible apply W.ops); (repeat (first | refine WL.opA hΓ (h := ?_) | refine WL.opX hΓ (h := ?_) | refine WL.opY (h := ?_) | refine WL.opZ (h := ?_))); with_reducible apply WL.nil) | refine W.condT (h := ?_) | refine W.condF (h := ?_))
                    refine At.retA (by rw [Try.results22]) (he := ?_)
                    rw [hv]
                    rfl
                  | succ i =>
                    have hA := YA.out
                    rw [hJs, hA]
                    clear hA
                    repeat (first | with_reducible (first | apply W.seq | apply W.block | apply W.skip | apply W.exit | apply W.ret | apply At.seqN | apply At.blkN | apply At.blkE | apply At.blkR | apply At.thenX | apply At.thenR | apply At.blkX rfl) | ((with_reducible apply W.ops); (repeat (first | refine WL.opA hΓ (h := ?_) | refine WL.opX hΓ (h := ?_) | refine WL.opY (h := ?_) | refine WL.opZ (h := ?_))); with_reducible apply WL.nil) | refine W.condT (h := ?_) | refine W.condF (h := ?_))
                    refine At.retA (by rw [Try.results22]) (he := ?_)
                    rw [hv]
                    rfl
          · have hc := HC.out.trans (candK4_no (f := f) (x := (s2, false)) (by rw [Z3.out]; exact .inr (.inl (by dsimp only; omega))))
            have hv := rdPM_none hc
            have hno : ¬ showMsg (4, (f : Int), zRq, zHd, []) = s := by
              rcases HW.out with ⟨_, h2⟩ | ⟨l, p, g1, g2, g3, g4, g5, g6, g7⟩
              · rw [HS.out] at h2; cases h2
              · rw [HS.out] at g5
                injection g5 with e1 e2
                injection e2 with e3 e4
                subst e1
                exact no_addrs (p := p) g2 (by omega) g6 (by rw [← e3, Z3.out]; dsimp only; omega)
            have c2 := mShowPMsg_eq (4, (f : Int), zRq, zHd, []) (by simp [okPM])
            dsimp only [aPM] at c2
            rw [hn0] at c2
            have hd := decide_eq_false hno
            generalize showMsg (4, (f : Int), zRq, zHd, []) = z at *
            clear hno hc
            refine W.loopA (fun _ : Unit => True) (fun _ => jst s f n (s3, b3) 0 .nil []) (fun _ => 0) () trivial (hs := ?hsu) (h := ?_)
            case hsu =>
              dsimp only [jst, bxM, List.append_nil, List.cons_append, List.nil_append]
              simp (disch := omega) only [Sub, SubL, getS_hit, getS_miss, getS_blk, getS_kill, getS_nil, getB_nil, getB_slot, getB_hit, getB_miss, getB_kill0, getB_kill1, lsNms, vsNms, PL.nms, PV.nms, Blk.nms, bound, PV.kill, PL.kill, PL.names, List.append_nil, List.nil_append, List.cons_append, and_true, true_and, and_self, *] <;> (repeat' apply And.intro) <;> rfl
            rintro - -
            dsimp only [jst, bxM, List.append_nil, List.cons_append, List.nil_append]
            cases b3 with
            | true =>
              repeat (first | with_reducible (first | apply W.seq | apply W.block | apply W.skip | apply W.exit | apply W.ret | apply At.seqN | apply At.blkN | apply At.blkE | apply At.blkR | apply At.thenX | apply At.thenR | apply At.blkX rfl) | ((with_reducible apply W.ops); (repeat (first | refine WL.opA hΓ (h := ?_) | refine WL.opX hΓ (h := ?_) | refine WL.opY (h := ?_) | refine WL.opZ (h := ?_))); with_reducible apply WL.nil) | refine W.condT (h := ?_) | refine W.condF (h := ?_))
              refine At.retA (by rw [Try.results22]) (he := ?_)
              rw [hv]
              rfl
            | false =>
              repeat (first | with_reducible (first | apply W.seq | apply W.block | apply W.skip | apply W.exit | apply W.ret | apply At.seqN | apply At.blkN | apply At.blkE | apply At.blkR | apply At.thenX | apply At.thenR | apply At.blkX rfl) | ((with_reducible apply W.ops); (repeat (first | refine WL.opA hΓ (h := ?_) | refine WL.opX hΓ (h := ?_) | refine WL.opY (h := ?_) | refine WL.opZ (h := ?_))); with_reducible apply WL.nil) | refine W.condT (h := ?_) | refine W.condF (h := ?_))
              refine At.retA (by rw [Try.results22]) (he := ?_)
              rw [hv]
              rfl
        · have e2 : decide ((k : Int) = 2) = false := decide_eq_false (by omega)
          have e3 : decide ((k : Int) = 3) = false := decide_eq_false (by omega)
          have e4 : decide ((k : Int) = 4) = false := decide_eq_false (by omega)
          have hc := HC.out.trans (candK_other (f := f) (x := (s2, false)) (by omega : ¬ (k : Int) = 2) (by omega) (by omega))
          have c2 := mShowPMsg_eq ((k : Int), (f : Int), zRq, zHd, []) (by simp [okPM])
          dsimp only [aPM] at c2
          rw [hn0] at c2
          clear k2 k3 k4
          by_cases hsh : showMsg ((k : Int), (f : Int), zRq, zHd, []) = s
          · have hv := rdPM_yes hc hsh
            have hd := decide_eq_true hsh
            generalize showMsg ((k : Int), (f : Int), zRq, zHd, []) = z at *
            clear hsh hc
            repeat (first | with_reducible (first | apply W.seq | apply W.block | apply W.skip | apply W.exit | apply W.ret | apply At.seqN | apply At.blkN | apply At.blkE | apply At.blkR | apply At.thenX | apply At.thenR | apply At.blkX rfl) | ((with_reducible apply W.ops); (repeat (first | refine WL.opA hΓ (h := ?_) | refine WL.opX hΓ (h := ?_) | refine WL.opY (h := ?_) | refine WL.opZ (h := ?_))); with_reducible apply WL.nil) | refine W.condT (h := ?_) | refine W.condF (h := ?_))
            refine At.retA (by rw [Try.results22]) (he := ?_)
            rw [hv]
            rfl
          · have hv := rdPM_no hc hsh
            have hd := decide_eq_false hsh
            generalize showMsg ((k : Int), (f : Int), zRq, zHd, []) = z at *
            clear hsh hc
            repeat (first | with_reducible (first | apply W.seq | apply W.block | apply W.skip | apply W.exit | apply W.ret | apply At.seqN | apply At.blkN | apply At.blkE | apply At.blkR | apply At.thenX | apply At.thenR | apply At.blkX rfl) | ((with_reducible apply W.ops); (repeat (first | refine WL.opA hΓ (h := ?_) | refine WL.opX hΓ (h := ?_) | refine WL.opY (h := ?_) | refine WL.opZ (h := ?_))); with_reducible apply WL.nil) | refine W.condT (h := ?_) | refine W.condF (h := ?_))
            refine At.retA (by rw [Try.results22]) (he := ?_)
            rw [hv]
            rfl
theorem adN_more {i n : Nat} {x : TSc} (h : (adN i x).2.2 = true) (hn : i ≤ n) : (adN n x).2.2 = true := by
  induction n with
  | zero =>
    have : i = 0 := by omega
    subst this
    exact h
  | succ n ih =>
    by_cases e : i = n + 1
    · subst e; exact h
    · have h1 := ih (by omega)
      rw [adN]
      dsimp only
      generalize adN n x = A at h1
      obtain ⟨l, s, b⟩ := A
      dsimp only at h1 ⊢
      subst h1
      rw [numF_stick]
      dsimp only
      rw [numF_stick]
theorem adN_scan {i : Nat} {x : TSc} : (adN (i + 1) x).2 = (scanN 2 (adN i x).2).2 := rfl
/-- the state of the loop over the addresses -/
abbrev jsp (s : ByteArray) (f : Int) (L : List (List Leaf)) (e i : Nat) (a : PL) (r : St) : St := [.slot 0 (vS s), .slot 2 (one (.ptr 2 0)), .blk 2 (bxM 0 0 .nil), .slot 6 (one (.ptr 6 0)), .blk 6 (bxM 4 f a), .slot 11 (one (.all 60)), .blk 60 (.arr true 3 1 L), .slot 12 (vI e), .slot 13 (vI i)] ++ r
theorem readPMS_s : Sound Try.prog 21 mRdPM := by
  refine Sound.mdl Try.func21 rfl Try.ntmps21 ?_
  rintro s w hs
  refine ⟨by simp, ?_⟩
  replace hs : s.size ≤ 1099511627776 := hs
  have hΓ : GSound Try.prog (look [(30, mShowPMsg), (54, mRdReq), (55, mRdHd), (53, mVars)]) := env_cons (has_of Try.func30 rfl rfl) ShowPMsgS_s (env_cons (has_of Try.func54 rfl rfl) readReqS_s (env_cons (has_of Try.func55 rfl rfl) readHdS_s (env_cons (has_of Try.func53 rfl rfl) l6Vars_s env_nil)))
  have hem : (⟨#[]⟩ : ByteArray) = ByteArray.empty := rfl
  have hn0 : rowsF cAddr [] = [] := rfl
  have c0 := mVars_eq s 0 2 ⟨hs, ⟨by dsimp only; omega, by dsimp only; omega⟩, by dsimp only; omega⟩
  rw [show ((2 : Nat) : Int) = 2 from rfl] at c0
  have hw := scan_vars s 2 0 (Nat.zero_le _)
  rw [whole, show ((0 : Nat) : Int) = 0 from rfl] at hw
  rcases hw with ⟨⟨l, h1⟩, h2⟩ | ⟨l, p, g1, g2, g3, g4, g5, g6, g7⟩
  · have hv := rdPM_none (cand_bad h2)
    have hl := varsF_len s 2 0
    rw [h1] at c0 hl
    have hlen := rowsF_len cInt l
    simp only [initS, argPV, List.map_cons, List.map_nil, toPL, Nat.zero_add]
    repeat (first | with_reducible (first | apply W.seq | apply W.block | apply W.skip | apply W.exit | apply W.ret | apply At.seqN | apply At.blkN | apply At.blkE | apply At.blkR | apply At.thenX | apply At.thenR | apply At.blkX rfl) | ((with_reducible apply W.ops); (repeat (first | refine WL.opA hΓ (h := ?_) | refine WL.opX hΓ (h := ?_) | refine WL.opY (h := ?_) | refine WL.opZ (h := ?_))); with_reducible apply WL.nil) | refine W.condT (h := ?_) | refine W.condF (h := ?_))
    refine At.retA (by rw [Try.results21]) (he := ?_)
    rw [hv]
    rfl
  · match l, g3 with
    | [k, f], _ =>
      rw [g4] at c0
      have r0 : (rowsF cInt [k, f])[0]? = some [.sc (.int .i64 k)] := rfl
      have r1 : (rowsF cInt [k, f])[1]? = some [.sc (.int .i64 f)] := rfl
      have rl : (rowsF cInt [k, f]).length = 2 := rfl
      generalize rowsF cInt [k, f] = L0 at *
      have hzp : (s.extract p s.size).size = s.size - p := by rw [ByteArray.size_extract]; omega
      have hc := cand_ok g5 rfl
      have HC := Lib.hid hc
      have G6 := Lib.hid g6
      clear hc g4 g5 g6 g7
      by_cases k2 : k = 2
      · subst k2
        have hc := HC.out.trans (candK2 f _)
        dsimp only at hc
        have c1 := mRdReq_eq (s.extract p s.size) (show (s.extract p s.size).size ≤ _ by omega)
        generalize rdReq (s.extract p s.size) = r at hc c1
        obtain ⟨⟨r1', r2, r3⟩, rb⟩ := r
        have c2 := mShowPMsg_eq (2, f, (r1', r2, r3), zHd, []) (by simp [okPM])
        dsimp only [aPM] at c2 c1 hc
        rw [hn0] at c2
        by_cases hsh : showMsg (2, f, (r1', r2, r3), zHd, []) = s
        · have hv := rdPM_yes hc hsh
          have hd := decide_eq_true hsh
          generalize showMsg (2, f, (r1', r2, r3), zHd, []) = z at *
          clear hsh hc
          simp only [initS, argPV, List.map_cons, List.map_nil, toPL, Nat.zero_add]
          repeat (first | with_reducible (first | apply W.seq | apply W.block | apply W.skip | apply W.exit | apply W.ret | apply At.seqN | apply At.blkN | apply At.blkE | apply At.blkR | apply At.thenX | apply At.thenR | apply At.blkX rfl) | ((with_reducible apply W.ops); (repeat (first | refine WL.opA hΓ (h := ?_) | refine WL.opX hΓ (h := ?_) | refine WL.opY (h := ?_) | refine WL.opZ (h := ?_))); with_reducible apply WL.nil) | refine W.condT (h := ?_) | refine W.condF (h := ?_))
          refine W.drawsA hΓ 8 [[], [0], [0, 1], [], [3], [3, 4], [0, 1, 2, 3, 4, 5], [], [0, 1, 2, 3, 4, 5, 6, 7]] (rest := ?rest63) (Es := ?Es63) (st1 := ?st163) (h := ?h63) (hf := ?hf63) (hp := ?hp63) (hd := ?hd63) (hfr := ?hfr63) (hst := ?hst63) (hT := ?hT63)
          case h63 => kernel_rfl
          case hf63 =>
            repeat (first | refine FlowT.opA (h := ?_) | refine FlowT.opX (h := ?_) | refine FlowT.opY (h := ?_) | refine FlowT.opZ (h := ?_))
            exact FlowT.done
          case hp63 => rfl
          case hd63 => rfl
          case hfr63 => rfl
          case hst63 =>
            simp only [pick_nil, pick_all, List.cons_append, List.nil_append]
            rfl
          (repeat (first | refine WL.opA hΓ (h := ?_) | refine WL.opX hΓ (h := ?_) | refine WL.opY (h := ?_) | refine WL.opZ (h := ?_)))
          with_reducible apply WL.nil
          repeat (first | with_reducible (first | apply W.seq | apply W.block | apply W.skip | apply W.exit | apply W.ret | apply At.seqN | apply At.blkN | apply At.blkE | apply At.blkR | apply At.thenX | apply At.thenR | apply At.blkX rfl) | ((with_reducible apply W.ops); (repeat (first | refine WL.opA hΓ (h := ?_) | refine WL.opX hΓ (h := ?_) | refine WL.opY (h := ?_) | refine WL.opZ (h := ?_))); with_reducible apply WL.nil) | refine W.condT (h := ?_) | refine W.condF (h := ?_))
          refine At.retA (by rw [Try.results21]) (he := ?_)
          rw [hv]
          rfl
        · have hv := rdPM_no hc hsh
          have hd := decide_eq_false hsh
          generalize showMsg (2, f, (r1', r2, r3), zHd, []) = z at *
          clear hsh hc
          simp only [initS, argPV, List.map_cons, List.map_nil, toPL, Nat.zero_add]
          repeat (first | with_reducible (first | apply W.seq | apply W.block | apply W.skip | apply W.exit | apply W.ret | apply At.seqN | apply At.blkN | apply At.blkE | apply At.blkR | apply At.thenX | apply At.thenR | apply At.blkX rfl) | ((with_reducible apply W.ops); (repeat (first | refine WL.opA hΓ (h := ?_) | refine WL.opX hΓ (h := ?_) | refine WL.opY (h := ?_) | refine WL.opZ (h := ?_))); with_reducible apply WL.nil) | refine W.condT (h := ?_) | refine W.condF (h := ?_))
          refine W.drawsA hΓ 8 [[], [0], [0, 1], [], [3], [3, 4], [0, 1, 2, 3, 4, 5], [], [0, 1, 2, 3, 4, 5, 6, 7]] (rest := ?rest68) (Es := ?Es68) (st1 := ?st168) (h := ?h68) (hf := ?hf68) (hp := ?hp68) (hd := ?hd68) (hfr := ?hfr68) (hst := ?hst68) (hT := ?hT68)
          case h68 => kernel_rfl
          case hf68 =>
            repeat (first | refine FlowT.opA (h := ?_) | refine FlowT.opX (h := ?_) | refine FlowT.opY (h := ?_) | refine FlowT.opZ (h := ?_))
            exact FlowT.done
          case hp68 => rfl
          case hd68 => rfl
          case hfr68 => rfl
          case hst68 =>
            simp only [pick_nil, pick_all, List.cons_append, List.nil_append]
            rfl
          (repeat (first | refine WL.opA hΓ (h := ?_) | refine WL.opX hΓ (h := ?_) | refine WL.opY (h := ?_) | refine WL.opZ (h := ?_)))
          with_reducible apply WL.nil
          repeat (first | with_reducible (first | apply W.seq | apply W.block | apply W.skip | apply W.exit | apply W.ret | apply At.seqN | apply At.blkN | apply At.blkE | apply At.blkR | apply At.thenX | apply At.thenR | apply At.blkX rfl) | ((with_reducible apply W.ops); (repeat (first | refine WL.opA hΓ (h := ?_) | refine WL.opX hΓ (h := ?_) | refine WL.opY (h := ?_) | refine WL.opZ (h := ?_))); with_reducible apply WL.nil) | refine W.condT (h := ?_) | refine W.condF (h := ?_))
          refine At.retA (by rw [Try.results21]) (he := ?_)
          rw [hv]
          rfl
      · by_cases k3 : k = 3
        · subst k3
          have hc := HC.out.trans (candK3 f _)
          dsimp only at hc
          have c1 := mRdHd_eq (s.extract p s.size) (show (s.extract p s.size).size ≤ _ by omega)
          generalize rdHd (s.extract p s.size) = r at hc c1
          obtain ⟨⟨r1', r2, r3, r4, r5, r6⟩, rb⟩ := r
          have c2 := mShowPMsg_eq (3, f, zRq, (r1', r2, r3, r4, r5, r6), []) (by simp [okPM])
          dsimp only [aPM] at c2 c1 hc
          rw [hn0] at c2
          by_cases hsh : showMsg (3, f, zRq, (r1', r2, r3, r4, r5, r6), []) = s
          · have hv := rdPM_yes hc hsh
            have hd := decide_eq_true hsh
            generalize showMsg (3, f, zRq, (r1', r2, r3, r4, r5, r6), []) = z at *
            clear hsh hc
            simp only [initS, argPV, List.map_cons, List.map_nil, toPL, Nat.zero_add]
            repeat (first | with_reducible (first | apply W.seq | apply W.block | apply W.skip | apply W.exit | apply W.ret | apply At.seqN | apply At.blkN | apply At.blkE | apply At.blkR | apply At.thenX | apply At.thenR | apply At.blkX rfl) | ((with_reducible apply W.ops); (repeat (first | refine WL.opA hΓ (h := ?_) | refine WL.opX hΓ (h := ?_) | refine WL.opY (h := ?_) | refine WL.opZ (h := ?_))); with_reducible apply WL.nil) | refine W.condT (h := ?_) | refine W.condF (h := ?_))
            refine W.drawsA hΓ 8 [[], [0], [0, 1], [], [3], [3, 4], [0, 1, 2, 3, 4, 5], [], [0, 1, 2, 3, 4, 5, 6, 7]] (rest := ?rest73) (Es := ?Es73) (st1 := ?st173) (h := ?h73) (hf := ?hf73) (hp := ?hp73) (hd := ?hd73) (hfr := ?hfr73) (hst := ?hst73) (hT := ?hT73)
            case h73 => kernel_rfl
            case hf73 =>
              repeat (first | refine FlowT.opA (h := ?_) | refine FlowT.opX (h := ?_) | refine FlowT.opY (h := ?_) | refine FlowT.opZ (h := ?_))
              exact FlowT.done
            case hp73 => rfl
            case hd73 => rfl
            case hfr73 => rfl
            case hst73 =>
              simp only [pick_nil, pick_all, List.cons_append, List.nil_append]
              rfl
            (repeat (first | refine WL.opA hΓ (h := ?_) | refine WL.opX hΓ (h := ?_) | refine WL.opY (h := ?_) | refine WL.opZ (h := ?_)))
            with_reducible apply WL.nil
            repeat (first | with_reducible (first | apply W.seq | apply W.block | apply W.skip | apply W.exit | apply W.ret | apply At.seqN | apply At.blkN | apply At.blkE | apply At.blkR | apply At.thenX | apply At.thenR | apply At.blkX rfl) | ((with_reducible apply W.ops); (repeat (first | refine WL.opA hΓ (h := ?_) | refine WL.opX hΓ (h := ?_) | refine WL.opY (h := ?_) | refine WL.opZ (h := ?_))); with_reducible apply WL.nil) | refine W.condT (h := ?_) | refine W.condF (h := ?_))
            refine At.retA (by rw [Try.results21]) (he := ?_)
            rw [hv]
            rfl
          · have hv := rdPM_no hc hsh
            have hd := decide_eq_false hsh
            generalize showMsg (3, f, zRq, (r1', r2, r3, r4, r5, r6), []) = z at *
            clear hsh hc
            simp only [initS, argPV, List.map_cons, List.map_nil, toPL, Nat.zero_add]
            repeat (first | with_reducible (first | apply W.seq | apply W.block | apply W.skip | apply W.exit | apply W.ret | apply At.seqN | apply At.blkN | apply At.blkE | apply At.blkR | apply At.thenX | apply At.thenR | apply At.blkX rfl) | ((with_reducible apply W.ops); (repeat (first | refine WL.opA hΓ (h := ?_) | refine WL.opX hΓ (h := ?_) | refine WL.opY (h := ?_) | refine WL.opZ (h := ?_))); with_reducible apply WL.nil) | refine W.condT (h := ?_) | refine W.condF (h := ?_))
            refine W.drawsA hΓ 8 [[], [0], [0, 1], [], [3], [3, 4], [0, 1, 2, 3, 4, 5], [], [0, 1, 2, 3, 4, 5, 6, 7]] (rest := ?rest78) (Es := ?Es78) (st1 := ?st178) (h := ?h78) (hf := ?hf78) (hp := ?hp78) (hd := ?hd78) (hfr := ?hfr78) (hst := ?hst78) (hT := ?hT78)
            case h78 => kernel_rfl
            case hf78 =>
              repeat (first | refine FlowT.opA (h := ?_) | refine FlowT.opX (h := ?_) | refine FlowT.opY (h := ?_) | refine FlowT.opZ (h := ?_))
              exact FlowT.done
            case hp78 => rfl
            case hd78 => rfl
            case hfr78 => rfl
            case hst78 =>
              simp only [pick_nil, pick_all, List.cons_append, List.nil_append]
              rfl
            (repeat (first | refine WL.opA hΓ (h := ?_) | refine WL.opX hΓ (h := ?_) | refine WL.opY (h := ?_) | refine WL.opZ (h := ?_)))
            with_reducible apply WL.nil
            repeat (first | with_reducible (first | apply W.seq | apply W.block | apply W.skip | apply W.exit | apply W.ret | apply At.seqN | apply At.blkN | apply At.blkE | apply At.blkR | apply At.thenX | apply At.thenR | apply At.blkX rfl) | ((with_reducible apply W.ops); (repeat (first | refine WL.opA hΓ (h := ?_) | refine WL.opX hΓ (h := ?_) | refine WL.opY (h := ?_) | refine WL.opZ (h := ?_))); with_reducible apply WL.nil) | refine W.condT (h := ?_) | refine W.condF (h := ?_))
            refine At.retA (by rw [Try.results21]) (he := ?_)
            rw [hv]
            rfl
        · by_cases k4 : k = 4
          · subst k4
            clear k2 k3
            have c1 := mVars_eq s p 1 ⟨hs, ⟨by dsimp only; omega, by dsimp only; omega⟩, by dsimp only; omega⟩
            rw [show ((1 : Nat) : Int) = 1 from rfl] at c1
            rcases scan_step 0 g2 with ⟨⟨t, h1⟩, h2⟩ | ⟨n, kk, hk, hk1, hk7, hv0, h1, h2, h3⟩
            · have hv := rdPM_none (HC.out.trans (candK4_no (f := f) (x := (s.extract p s.size, false)) (by rw [h1]; exact .inl rfl)))
              rw [h2] at c1
              simp only [initS, argPV, List.map_cons, List.map_nil, toPL, Nat.zero_add]
              repeat (first | with_reducible (first | apply W.seq | apply W.block | apply W.skip | apply W.exit | apply W.ret | apply At.seqN | apply At.blkN | apply At.blkE | apply At.blkR | apply At.thenX | apply At.thenR | apply At.blkX rfl) | ((with_reducible apply W.ops); (repeat (first | refine WL.opA hΓ (h := ?_) | refine WL.opX hΓ (h := ?_) | refine WL.opY (h := ?_) | refine WL.opZ (h := ?_))); with_reducible apply WL.nil) | refine W.condT (h := ?_) | refine W.condF (h := ?_))
              refine W.drawsA hΓ 8 [[], [0], [0, 1], [], [3], [3, 4], [0, 1, 2, 3, 4, 5], [], [0, 1, 2, 3, 4, 5, 6, 7]] (rest := ?rest83) (Es := ?Es83) (st1 := ?st183) (h := ?h83) (hf := ?hf83) (hp := ?hp83) (hd := ?hd83) (hfr := ?hfr83) (hst := ?hst83) (hT := ?hT83)
              case h83 => kernel_rfl
              case hf83 =>
                repeat (first | refine FlowT.opA (h := ?_) | refine FlowT.opX (h := ?_) | refine FlowT.opY (h := ?_) | refine FlowT.opZ (h := ?_))
                exact FlowT.done
              case hp83 => rfl
              case hd83 => rfl
              case hfr83 => rfl
              case hst83 =>
                simp only [pick_nil, pick_all, List.cons_append, List.nil_append]
                rfl
              (repeat (first | refine WL.opA hΓ (h := ?_) | refine WL.opX hΓ (h := ?_) | refine WL.opY (h := ?_) | refine WL.opZ (h := ?_)))
              with_reducible apply WL.nil
              repeat (first | with_reducible (first | apply W.seq | apply W.block | apply W.skip | apply W.exit | apply W.ret | apply At.seqN | apply At.blkN | apply At.blkE | apply At.blkR | apply At.thenX | apply At.thenR | apply At.blkX rfl) | ((with_reducible apply W.ops); (repeat (first | refine WL.opA hΓ (h := ?_) | refine WL.opX hΓ (h := ?_) | refine WL.opY (h := ?_) | refine WL.opZ (h := ?_))); with_reducible apply WL.nil) | refine W.condT (h := ?_) | refine W.condF (h := ?_))
              refine At.retA (by rw [Try.results21]) (he := ?_)
              rw [hv]
              rfl
            · have h2' : varsF s 1 p = ([(n : Int)], ((p + kk : Nat) : Int)) := h2
              rw [h2'] at c1
              have q0 : (rowsF cInt [(n : Int)])[0]? = some [.sc (.int .i64 (n : Int))] := rfl
              have ql : (rowsF cInt [(n : Int)]).length = 1 := rfl
              dsimp only [rVars] at c1
              generalize rowsF cInt [(n : Int)] = L1 at *
              have H1 := Lib.hid h1
              clear h1 h2 h2' h3
              by_cases hn10 : n ≤ 10
              · have hcy : ∀ l q, adN n (s.extract (p + kk) s.size, false) = (l, s.extract q s.size, false) → candM s = some (4, f, zRq, zHd, l) := fun l q e => by
                  have := HC.out.trans (candK4_yes (f := f) (x := (s.extract p s.size, false)) (by rw [H1.out]; dsimp only; rw [e]; intro h; rcases h with h | h | h; cases h; omega; cases h))
                  rw [H1.out] at this
                  dsimp only at this
                  rw [e] at this
                  exact this
                have hcn : (adN n (s.extract (p + kk) s.size, false)).2.2 = true → candM s = none := fun e => HC.out.trans (candK4_no (f := f) (x := (s.extract p s.size, false)) (by rw [H1.out]; exact .inr (.inr e)))
                have HY := Lib.hid hcy
                have HNo := Lib.hid hcn
                clear hcy hcn
                simp only [initS, argPV, List.map_cons, List.map_nil, toPL, Nat.zero_add]
                repeat (first | with_reducible (first | apply W.seq | apply W.block | apply W.skip | apply W.exit | apply W.ret | apply At.seqN | apply At.blkN | apply At.blkE | apply At.blkR | apply At.thenX | apply At.thenR | apply At.blkX rfl) | ((with_reducible apply W.ops); (repeat (first | refine WL.opA hΓ (h := ?_) | refine WL.opX hΓ (h := ?_) | refine WL.opY (h := ?_) | refine WL.opZ (h := ?_))); with_reducible apply WL.nil) | refine W.condT (h := ?_) | refine W.condF (h := ?_))
                refine W.drawsA hΓ 8 [[], [0], [0, 1], [], [3], [3, 4], [0, 1, 2, 3, 4, 5], [], [0, 1, 2, 3, 4, 5, 6, 7]] (rest := ?rest88) (Es := ?Es88) (st1 := ?st188) (h := ?h88) (hf := ?hf88) (hp := ?hp88) (hd := ?hd88) (hfr := ?hfr88) (hst := ?hst88) (hT := ?hT88)
                case h88 => kernel_rfl
                case hf88 =>
                  repeat (first | refine FlowT.opA (h := ?_) | refine FlowT.opX (h := ?_) | refine FlowT.opY (h := ?_) | refine FlowT.opZ (h := ?_))
                  exact FlowT.done
                case hp88 => rfl
                case hd88 => rfl
                case hfr88 => rfl
                case hst88 =>
                  simp only [pick_nil, pick_all, List.cons_append, List.nil_append]
                  rfl
                (repeat (first | refine WL.opA hΓ (h := ?_) | refine WL.opX hΓ (h := ?_) | refine WL.opY (h := ?_) | refine WL.opZ (h := ?_)))
                with_reducible apply WL.nil
                repeat (first | with_reducible (first | apply W.seq | apply W.block | apply W.skip | apply W.exit | apply W.ret | apply At.seqN | apply At.blkN | apply At.blkE | apply At.blkR | apply At.thenX | apply At.thenR | apply At.blkX rfl) | ((with_reducible apply W.ops); (repeat (first | refine WL.opA hΓ (h := ?_) | refine WL.opX hΓ (h := ?_) | refine WL.opY (h := ?_) | refine WL.opZ (h := ?_))); with_reducible apply WL.nil) | refine W.condT (h := ?_) | refine W.condF (h := ?_))
                obtain ⟨J, hJ0, hJs⟩ := two (α := Nat → List TAddr → St) (fun e l => jsp s f L1 e 0 .nil []) (fun i e l => jsp s f L1 e (i + 1) (.all 98) [.blk 98 (.arr true 90 2 (rowsF cAddr l))])
                dsimp only [jsp, bxM, List.append_nil, List.cons_append, List.nil_append] at hJ0 hJs
                refine W.loopA (fun x : Nat × Nat × List TAddr => (x.1 ≤ n ∧ x.2.1 ≤ s.size) ∧ adN x.1 (s.extract (p + kk) s.size, false) = (x.2.2, s.extract x.2.1 s.size, false)) (fun x => J x.1 x.2.1 x.2.2) (fun x => n - x.1) (0, p + kk, []) ⟨⟨Nat.zero_le _, hk⟩, rfl⟩ (h := ?_)
                rintro ⟨i, e, l⟩ ⟨⟨hi, he⟩, hA⟩
                dsimp only at hi he hA ⊢
                have hln := adN_len i (s.extract (p + kk) s.size, false)
                rw [hA] at hln
                dsimp only at hln
                have YA := Lib.hid hA
                clear hA
                by_cases hlt : i < n
                · have d1 := mVars_eq s e 2 ⟨hs, ⟨by dsimp only; omega, by dsimp only; omega⟩, by dsimp only; omega⟩
                  rw [show ((2 : Nat) : Int) = 2 from rfl] at d1
                  rcases scan_vars s 2 e he with ⟨⟨l', h1⟩, h2⟩ | ⟨l', q, g1', g2', g3', g4', g5', g6', g7'⟩
                  · have hbad : (adN (i + 1) (s.extract (p + kk) s.size, false)).2.2 = true := by
                      rw [adN_scan, YA.out]
                      exact h2
                    have hv := rdPM_none (HNo.out (adN_more hbad (by omega)))
                    have hl' := varsF_len s 2 e
                    rw [h1] at d1 hl'
                    have hlen' := rowsF_len cInt l'
                    clear h1 h2 hbad
                    cases i with
                    | zero =>
                      rw [hJ0]
                      repeat (first | with_reducible (first | apply W.seq | apply W.block | apply W.skip | apply W.exit | apply W.ret | apply At.seqN | apply At.blkN | apply At.blkE | apply At.blkR | apply At.thenX | apply At.thenR | apply At.blkX rfl) | ((with_reducible apply W.ops); (repeat (first | refine WL.opA hΓ (h := ?_) | refine WL.opX hΓ (h := ?_) | refine WL.opY (h := ?_) | refine WL.opZ (h := ?_))); with_reducible apply WL.nil) | refine W.condT (h := ?_) | refine W.condF (h := ?_))
                      refine At.retA (by rw [Try.results21]) (he := ?_)
                      rw [hv]
                      rfl
                    | succ i =>
                      rw [hJs]
                      repeat (first | with_reducible (first | apply W.seq | apply W.block | apply W.skip | apply W.exit | apply W.ret | apply At.seqN | apply At.blkN | apply At.blkE | apply At.blkR | apply At.thenX | apply At.thenR | apply At.blkX rfl) | ((with_reducible apply W.ops); (repeat (first | refine WL.opA hΓ (h := ?_) | refine WL.opX hΓ (h := ?_) | refine WL.opY (h := ?_) | refine WL.opZ (h := ?_))); with_reducible apply WL.nil) | refine W.condT (h := ?_) | refine W.condF (h := ?_))
                      refine At.retA (by rw [Try.results21]) (he := ?_)
                      rw [hv]
                      rfl
                  · match l', g3' with
                    | [a, b], _ =>
                      rw [g4'] at d1
                      have hnext : adN (i + 1) (s.extract (p + kk) s.size, false) = (l ++ [(a, b)], s.extract q s.size, false) := by
                        have e1 : adN (i + 1) (s.extract (p + kk) s.size, false) = (((adN i (s.extract (p + kk) s.size, false)).1 ++ [(((numF (adN i (s.extract (p + kk) s.size, false)).2).1 : Int), ((numF (numF (adN i (s.extract (p + kk) s.size, false)).2).2).1 : Int))]), (numF (numF (adN i (s.extract (p + kk) s.size, false)).2).2).2) := rfl
                        rw [e1, YA.out]
                        simp only [scanN, Prod.mk.injEq, List.cons.injEq, and_true] at g5'
                        obtain ⟨⟨e2, e3⟩, e4⟩ := g5'
                        rw [e2, e3, e4]
                      have t0 : (rowsF cInt [a, b])[0]? = some [.sc (.int .i64 a)] := rfl
                      have t1 : (rowsF cInt [a, b])[1]? = some [.sc (.int .i64 b)] := rfl
                      have tl : (rowsF cInt [a, b]).length = 2 := rfl
                      generalize rowsF cInt [a, b] = L2 at *
                      have e0 := cAd_app l a b
                      clear g4' g5' g6' g7'
                      cases i with
                      | zero =>
                        have hl0 : l = [] := List.length_eq_zero_iff.1 hln
                        subst hl0
                        clear e0
                        have e0 : [[Leaf.sc (.int .i64 a), Leaf.sc (.int .i64 b)]] = rowsF cAddr ([] ++ [(a, b)]) := rfl
                        rw [hJ0]
                        repeat (first | with_reducible (first | apply W.seq | apply W.block | apply W.skip | apply W.exit | apply W.ret | apply At.seqN | apply At.blkN | apply At.blkE | apply At.blkR | apply At.thenX | apply At.thenR | apply At.blkX rfl) | ((with_reducible apply W.ops); (repeat (first | refine WL.opA hΓ (h := ?_) | refine WL.opX hΓ (h := ?_) | refine WL.opY (h := ?_) | refine WL.opZ (h := ?_))); with_reducible apply WL.nil) | refine W.condT (h := ?_) | refine W.condF (h := ?_))
                        refine W.drawsA hΓ 10 [[], [0], [], [2], [2, 3], [], [5], [5, 6], [2, 3, 4, 5, 6, 7], [2, 3, 4, 5, 6, 7, 8], [0, 1, 2, 3, 4, 5, 6, 7, 8, 9], [0, 1, 2, 3, 4, 5, 6, 7, 8, 9, 10], [0, 1, 2, 3, 4, 5, 6, 7, 8, 9, 10, 11]] (rest := ?rest95) (Es := ?Es95) (st1 := ?st195) (h := ?h95) (hf := ?hf95) (hp := ?hp95) (hd := ?hd95) (hfr := ?hfr95) (hst := ?hst95) (hT := ?hT95)
                        case h95 => kernel_rfl
                        case hf95 =>
                          repeat (first | refine FlowT.opA (h := ?_) | refine FlowT.opX (h := ?_) | refine FlowT.opY (h := ?_) | refine FlowT.opZ (h := ?_))
                          exact FlowT.done
                        case hp95 => rfl
                        case hd95 => rfl
                        case hfr95 => rfl
                        case hst95 =>
                          simp only [pick_nil, pick_all, List.cons_append, List.nil_append]
                          rfl
                        (repeat (first | refine WL.opA hΓ (h := ?_) | refine WL.opX hΓ (h := ?_) | refine WL.opY (h := ?_) | refine WL.opZ (h := ?_)))
                        with_reducible apply WL.nil
                        repeat (first | with_reducible (first | apply W.seq | apply W.block | apply W.skip | apply W.exit | apply W.ret | apply At.seqN | apply At.blkN | apply At.blkE | apply At.blkR | apply At.thenX | apply At.thenR | apply At.blkX rfl) | ((with_reducible apply W.ops); (repeat (first | refine WL.opA hΓ (h := ?_) | refine WL.opX hΓ (h := ?_) | refine WL.opY (h := ?_) | refine WL.opZ (h := ?_))); with_reducible apply WL.nil) | refine W.condT (h := ?_) | refine W.condF (h := ?_))
                        exact At.roundA (0 + 1, q, [] ++ [(a, b)]) ⟨⟨by dsimp only; omega, g2'⟩, hnext⟩ (by dsimp only; omega)
                      | succ i =>
                        rw [hJs]
                        repeat (first | with_reducible (first | apply W.seq | apply W.block | apply W.skip | apply W.exit | apply W.ret | apply At.seqN | apply At.blkN | apply At.blkE | apply At.blkR | apply At.thenX | apply At.thenR | apply At.blkX rfl) | ((with_reducible apply W.ops); (repeat (first | refine WL.opA hΓ (h := ?_) | refine WL.opX hΓ (h := ?_) | refine WL.opY (h := ?_) | refine WL.opZ (h := ?_))); with_reducible apply WL.nil) | refine W.condT (h := ?_) | refine W.condF (h := ?_))
                        refine W.drawsA hΓ 10 [[], [0], [], [2], [2, 3], [], [5], [5, 6], [2, 3, 4, 5, 6, 7], [2, 3, 4, 5, 6, 7, 8], [0, 1, 2, 3, 4, 5, 6, 7, 8, 9], [0, 1, 2, 3, 4, 5, 6, 7, 8, 9, 10], [0, 1, 2, 3, 4, 5, 6, 7, 8, 9, 10, 11]] (rest := ?rest98) (Es := ?Es98) (st1 := ?st198) (h := ?h98) (hf := ?hf98) (hp := ?hp98) (hd := ?hd98) (hfr := ?hfr98) (hst := ?hst98) (hT := ?hT98)
                        case h98 => kernel_rfl
                        case hf98 =>
                          repeat (first | refine FlowT.opA (h := ?_) | refine FlowT.opX (h := ?_) | refine FlowT.opY (h := ?_) | refine FlowT.opZ (h := ?_))
                          exact FlowT.done
                        case hp98 => rfl
                        case hd98 => rfl
                        case hfr98 => rfl
                        case hst98 =>
                          simp only [pick_nil, pick_all, List.cons_append, List.nil_append]
                          rfl
                        (repeat (first | refine WL.opA hΓ (h := ?_) | refine WL.opX hΓ (h := ?_) | refine WL.opY (h := ?_) | refine WL.opZ (h := ?_)))
                        with_reducible apply WL.nil
                        repeat (first | with_reducible (first | apply W.seq | apply W.block | apply W.skip | apply W.exit | apply W.ret | apply At.seqN | apply At.blkN | apply At.blkE | apply At.blkR | apply At.thenX | apply At.thenR | apply At.blkX rfl) | ((with_reducible apply W.ops); (repeat (first | refine WL.opA hΓ (h := ?_) | refine WL.opX hΓ (h := ?_) | refine WL.opY (h := ?_) | refine WL.opZ (h := ?_))); with_reducible apply WL.nil) | refine W.condT (h := ?_) | refine W.condF (h := ?_))
                        exact At.roundA (i + 1 + 1, q, l ++ [(a, b)]) ⟨⟨by dsimp only; omega, g2'⟩, hnext⟩ (by dsimp only; omega)
                · have hin : i = n := by omega
                  subst hin
                  have hc := HY.out l e YA.out
                  have c2 := mShowPMsg_eq (4, f, zRq, zHd, l) (by simp [okPM]; omega)
                  dsimp only [aPM] at c2
                  have hadl : 0 < l.length → adRL l = .own true 90 2 (rowsF cAddr l) := adRL_ne
                  have HAd := Lib.hid hadl
                  clear hadl
                  by_cases hsh : showMsg (4, f, zRq, zHd, l) = s
                  · have hv := rdPM_yes hc hsh
                    have hd := decide_eq_true hsh
                    generalize showMsg (4, f, zRq, zHd, l) = z at *
                    clear hsh hc
                    cases i with
                    | zero =>
                      have hl0 : l = [] := List.length_eq_zero_iff.1 hln
                      subst hl0
                      rw [hJ0]
                      rw [hn0] at c2
                      repeat (first | with_reducible (first | apply W.seq | apply W.block | apply W.skip | apply W.exit | apply W.ret | apply At.seqN | apply At.blkN | apply At.blkE | apply At.blkR | apply At.thenX | apply At.thenR | apply At.blkX rfl) | ((with_reducible apply W.ops); (repeat (first | refine WL.opA hΓ (h := ?_) | refine WL.opX hΓ (h := ?_) | refine WL.opY (h := ?_) | refine WL.opZ (h := ?_))); with_reducible apply WL.nil) | refine W.condT (h := ?_) | refine W.condF (h := ?_))
                      refine At.retA (by rw [Try.results21]) (he := ?_)
                      rw [hv]
                      rfl
                    | succ i =>
                      rw [hJs]
                      repeat (first | with_reducible (first | apply W.seq | apply W.block | apply W.skip | apply W.exit | apply W.ret | apply At.seqN | apply At.blkN | apply At.blkE | apply At.blkR | apply At.thenX | apply At.thenR | apply At.blkX rfl) | ((with_reducible apply W.ops); (repeat (first | refine WL.opA hΓ (h := ?_) | refine WL.opX hΓ (h := ?_) | refine WL.opY (h := ?_) | refine WL.opZ (h := ?_))); with_reducible apply WL.nil) | refine W.condT (h := ?_) | refine W.condF (h := ?_))
                      refine At.retA (by rw [Try.results21]) (he := ?_)
                      rw [hv]
                      dsimp only [rPMB]
                      rw [HAd.out (by omega)]
                  · have hv := rdPM_no hc hsh
                    have hd := decide_eq_false hsh
                    generalize showMsg (4, f, zRq, zHd, l) = z at *
                    clear hsh hc
                    cases i with
                    | zero =>
                      have hl0 : l = [] := List.length_eq_zero_iff.1 hln
                      subst hl0
                      rw [hJ0]
                      rw [hn0] at c2
                      repeat (first | with_reducible (first | apply W.seq | apply W.block | apply W.skip | apply W.exit | apply W.ret | apply At.seqN | apply At.blkN | apply At.blkE | apply At.blkR | apply At.thenX | apply At.thenR | apply At.blkX rfl) | ((with_reducible apply W.ops); (repeat (first | refine WL.opA hΓ (h := ?_) | refine WL.opX hΓ (h := ?_) | refine WL.opY (h := ?_) | refine WL.opZ (h := ?_))); with_reducible apply WL.nil) | refine W.condT (h := ?_) | refine W.condF (h := ?_))
                      refine At.retA (by rw [Try.results21]) (he := ?_)
                      rw [hv]
                      rfl
                    | succ i =>
                      rw [hJs]
                      repeat (first | with_reducible (first | apply W.seq | apply W.block | apply W.skip | apply W.exit | apply W.ret | apply At.seqN | apply At.blkN | apply At.blkE | apply At.blkR | apply At.thenX | apply At.thenR | apply At.blkX rfl) | ((with_reducible apply W.ops); (repeat (first | refine WL.opA hΓ (h := ?_) | refine WL.opX hΓ (h := ?_) | refine WL.opY (h := ?_) | refine WL.opZ (h := ?_))); with_reducible apply WL.nil) | refine W.condT (h := ?_) | refine W.condF (h := ?_))
                      refine At.retA (by rw [Try.results21]) (he := ?_)
                      rw [hv]
                      rfl
              · have hv := rdPM_none (HC.out.trans (candK4_no (f := f) (x := (s.extract p s.size, false)) (by rw [H1.out]; exact .inr (.inl (by dsimp only; omega)))))
                simp only [initS, argPV, List.map_cons, List.map_nil, toPL, Nat.zero_add]
                repeat (first | with_reducible (first | apply W.seq | apply W.block | apply W.skip | apply W.exit | apply W.ret | apply At.seqN | apply At.blkN | apply At.blkE | apply At.blkR | apply At.thenX | apply At.thenR | apply At.blkX rfl) | ((with_reducible apply W.ops); (repeat (first | refine WL.opA hΓ (h := ?_) | refine WL.opX hΓ (h := ?_) | refine WL.opY (h := ?_) | refine WL.opZ (h := ?_))); with_reducible apply WL.nil) | refine W.condT (h := ?_) | refine W.condF (h := ?_))
                refine W.drawsA hΓ 8 [[], [0], [0, 1], [], [3], [3, 4], [0, 1, 2, 3, 4, 5], [], [0, 1, 2, 3, 4, 5, 6, 7]] (rest := ?rest110) (Es := ?Es110) (st1 := ?st1110) (h := ?h110) (hf := ?hf110) (hp := ?hp110) (hd := ?hd110) (hfr := ?hfr110) (hst := ?hst110) (hT := ?hT110)
                case h110 => kernel_rfl
                case hf110 =>
                  repeat (first | refine FlowT.opA (h := ?_) | refine FlowT.opX (h := ?_) | refine FlowT.opY (h := ?_) | refine FlowT.opZ (h := ?_))
                  exact FlowT.done
                case hp110 => rfl
                case hd110 => rfl
                case hfr110 => rfl
                case hst110 =>
                  simp only [pick_nil, pick_all, List.cons_append, List.nil_append]
                  rfl
                (repeat (first | refine WL.opA hΓ (h := ?_) | refine WL.opX hΓ (h := ?_) | refine WL.opY (h := ?_) | refine WL.opZ (h := ?_)))
                with_reducible apply WL.nil
                repeat (first | with_reducible (first | apply W.seq | apply W.block | apply W.skip | apply W.exit | apply W.ret | apply At.seqN | apply At.blkN | apply At.blkE | apply At.blkR | apply At.thenX | apply At.thenR | apply At.blkX rfl) | ((with_reducible apply W.ops); (repeat (first | refine WL.opA hΓ (h := ?_) | refine WL.opX hΓ (h := ?_) | refine WL.opY (h := ?_) | refine WL.opZ (h := ?_))); with_reducible apply WL.nil) | refine W.condT (h := ?_) | refine W.condF (h := ?_))
                refine At.retA (by rw [Try.results21]) (he := ?_)
                rw [hv]
                rfl
          · have hc := HC.out.trans (candK_other (f := f) (x := (s.extract p s.size, false)) k2 k3 k4)
            have c2 := mShowPMsg_eq (k, f, zRq, zHd, []) (by simp [okPM])
            dsimp only [aPM] at c2
            rw [hn0] at c2
            by_cases hsh : showMsg (k, f, zRq, zHd, []) = s
            · have hv := rdPM_yes hc hsh
              have hd := decide_eq_true hsh
              generalize showMsg (k, f, zRq, zHd, []) = z at *
              clear hsh hc
              simp only [initS, argPV, List.map_cons, List.map_nil, toPL, Nat.zero_add]
              repeat (first | with_reducible (first | apply W.seq | apply W.block | apply W.skip | apply W.exit | apply W.ret | apply At.seqN | apply At.blkN | apply At.blkE | apply At.blkR | apply At.thenX | apply At.thenR | apply At.blkX rfl) | ((with_reducible apply W.ops); (repeat (first | refine WL.opA hΓ (h := ?_) | refine WL.opX hΓ (h := ?_) | refine WL.opY (h := ?_) | refine WL.opZ (h := ?_))); with_reducible apply WL.nil) | refine W.condT (h := ?_) | refine W.condF (h := ?_))
              refine W.drawsA hΓ 8 [[], [0], [0, 1], [], [3], [3, 4], [0, 1, 2, 3, 4, 5], [], [0, 1, 2, 3, 4, 5, 6, 7]] (rest := ?rest115) (Es := ?Es115) (st1 := ?st1115) (h := ?h115) (hf := ?hf115) (hp := ?hp115) (hd := ?hd115) (hfr := ?hfr115) (hst := ?hst115) (hT := ?hT115)
              case h115 => kernel_rfl
              case hf115 =>
                repeat (first | refine FlowT.opA (h := ?_) | refine FlowT.opX (h := ?_) | refine FlowT.opY (h := ?_) | refine FlowT.opZ (h := ?_))
                exact FlowT.done
              case hp115 => rfl
              case hd115 => rfl
              case hfr115 => rfl
              case hst115 =>
                simp only [pick_nil, pick_all, List.cons_append, List.nil_append]
                rfl
              (repeat (first | refine WL.opA hΓ (h := ?_) | refine WL.opX hΓ (h := ?_) | refine WL.opY (h := ?_) | refine WL.opZ (h := ?_)))
              with_reducible apply WL.nil
              repeat (first | with_reducible (first | apply W.seq | apply W.block | apply W.skip | apply W.exit | apply W.ret | apply At.seqN | apply At.blkN | apply At.blkE | apply At.blkR | apply At.thenX | apply At.thenR | apply At.blkX rfl) | ((with_reducible apply W.ops); (repeat (first | refine WL.opA hΓ (h := ?_) | refine WL.opX hΓ (h := ?_) | refine WL.opY (h := ?_) | refine WL.opZ (h := ?_))); with_reducible apply WL.nil) | refine W.condT (h := ?_) | refine W.condF (h := ?_))
              refine At.retA (by rw [Try.results21]) (he := ?_)
              rw [hv]
              rfl
            · have hv := rdPM_no hc hsh
              have hd := decide_eq_false hsh
              generalize showMsg (k, f, zRq, zHd, []) = z at *
              clear hsh hc
              simp only [initS, argPV, List.map_cons, List.map_nil, toPL, Nat.zero_add]
              repeat (first | with_reducible (first | apply W.seq | apply W.block | apply W.skip | apply W.exit | apply W.ret | apply At.seqN | apply At.blkN | apply At.blkE | apply At.blkR | apply At.thenX | apply At.thenR | apply At.blkX rfl) | ((with_reducible apply W.ops); (repeat (first | refine WL.opA hΓ (h := ?_) | refine WL.opX hΓ (h := ?_) | refine WL.opY (h := ?_) | refine WL.opZ (h := ?_))); with_reducible apply WL.nil) | refine W.condT (h := ?_) | refine W.condF (h := ?_))
              refine W.drawsA hΓ 8 [[], [0], [0, 1], [], [3], [3, 4], [0, 1, 2, 3, 4, 5], [], [0, 1, 2, 3, 4, 5, 6, 7]] (rest := ?rest120) (Es := ?Es120) (st1 := ?st1120) (h := ?h120) (hf := ?hf120) (hp := ?hp120) (hd := ?hd120) (hfr := ?hfr120) (hst := ?hst120) (hT := ?hT120)
              case h120 => kernel_rfl
              case hf120 =>
                repeat (first | refine FlowT.opA (h := ?_) | refine FlowT.opX (h := ?_) | refine FlowT.opY (h := ?_) | refine FlowT.opZ (h := ?_))
                exact FlowT.done
              case hp120 => rfl
              case hd120 => rfl
              case hfr120 => rfl
              case hst120 =>
                simp only [pick_nil, pick_all, List.cons_append, List.nil_append]
                rfl
              (repeat (first | refine WL.opA hΓ (h := ?_) | refine WL.opX hΓ (h := ?_) | refine WL.opY (h := ?_) | refine WL.opZ (h := ?_)))
              with_reducible apply WL.nil
              repeat (first | with_reducible (first | apply W.seq | apply W.block | apply W.skip | apply W.exit | apply W.ret | apply At.seqN | apply At.blkN | apply At.blkE | apply At.blkR | apply At.thenX | apply At.thenR | apply At.blkX rfl) | ((with_reducible apply W.ops); (repeat (first | refine WL.opA hΓ (h := ?_) | refine WL.opX hΓ (h := ?_) | refine WL.opY (h := ?_) | refine WL.opZ (h := ?_))); with_reducible apply WL.nil) | refine W.condT (h := ?_) | refine W.condF (h := ?_))
              refine At.retA (by rw [Try.results21]) (he := ?_)
              rw [hv]
              rfl
end Go.Proofs.Yteaohgacgcjkjaa
