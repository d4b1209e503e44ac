/-
  Put together: EvPwP EvDat EvFresh EvTexts.
-/
import Derived.Test.YteaohgacgcjkjaaHEvRdPM
import Derived.Test.YteaohgacgcjkjaaHEvCu
import Derived.Test.YteaohgacgcjkjaaHEvVar
section
/-!
  What is shown is read back; no program here.
-/
namespace Go.Proofs.Yteaohgacgcjkjaa
set_option maxRecDepth 100000
set_option linter.unusedVariables false
set_option linter.unusedSimpArgs false
open Go Go.RowKit
set_option maxHeartbeats 4000000

theorem app_empty (s : ByteArray) : s ++ ByteArray.empty = s := ByteArray.append_empty
theorem ext_tail (a b : ByteArray) : (a ++ b).extract a.size (a ++ b).size = b := by
  apply bts_inj
  rw [bts_drop, bts_app, ← bts_len a, List.drop_left]
theorem num_app {n : Nat} (h : n < 562949953421312) (r : ByteArray) : numF (varS n ++ r, false) = (n, r, false) := by
  have hl : (varS (n : Int)).size = (varL n).length := by rw [← bts_len, varS_bts h]
  have hpos : 1 ≤ (varS (n : Int)).size := varS_pos (by omega) (by omega)
  have h7 : (varS (n : Int)).size ≤ 7 := varS_size n
  have ht : (bts (varS (n : Int) ++ r)).take (varS (n : Int)).size = varL n := by
    rw [bts_app, ← bts_len (varS (n : Int)), List.take_left, varS_bts h]
  have hv : vF (varL n) = n := vF_varF 6 n (by
    have : (128 : Nat) ^ (6 + 1) = 562949953421312 := by decide
    omega)
  have hk : rvK (varS (n : Int) ++ r) (varS (n : Int)).size := by
    refine ⟨⟨hpos, h7, by rw [ByteArray.size_append]; omega⟩, ?_⟩
    rw [ht, hv]
    apply bts_inj
    rw [bts_take, ht, varS_bts h]
  have hr := rv_yes hk
  rw [ht, hv] at hr
  rw [numF_ok (by rw [hr]; dsimp only; omega), hr]
  dsimp only
  rw [ext_tail]
theorem cut_app (t r : ByteArray) : cutF (t ++ r, false) t.size = (t, r, false) := by
  rw [cutF_ok (by rw [ByteArray.size_append]; omega), ext_tail]
  congr 1
  apply bts_inj
  rw [bts_take, bts_app, ← bts_len t, List.take_left]
theorem text_app {t : ByteArray} (h : t.size < 562949953421312) (r : ByteArray) : textF (pieceS t ++ r, false) = (t, r, false) := by
  unfold textF pieceS
  rw [ByteArray.append_assoc, num_app h]
  exact cut_app t r
/-- a request is read back -/
theorem req_back {r : TReq} (h : reqOk r) : rdReq (showReq r) = (r, true) := by
  obtain ⟨a, b, c⟩ := r
  have hs := showReq_yes h
  obtain ⟨⟨h1, h2⟩, ⟨h3, h4⟩, ⟨h5, h6⟩, _⟩ := h
  dsimp only at h1 h2 h3 h4 h5 h6 hs
  obtain ⟨a, rfl⟩ := Int.eq_ofNat_of_zero_le (show 0 ≤ a by omega)
  obtain ⟨b, rfl⟩ := Int.eq_ofNat_of_zero_le h3
  obtain ⟨c, rfl⟩ := Int.eq_ofNat_of_zero_le h5
  have hsc : scanN 3 (showReq ((a : Int), (b : Int), (c : Int)), false) = ([(a : Int), (b : Int), (c : Int)], ByteArray.empty, false) := by
    rw [hs, ByteArray.append_assoc, ← app_empty (varS (c : Int))]
    simp only [scanN, num_app (n := a) (by omega), num_app (n := b) (by omega), num_app (n := c) (by omega)]
  have hmk : mkRq (scanN 3 (showReq ((a : Int), (b : Int), (c : Int)), false)).1 = ((a : Int), (b : Int), (c : Int)) := by rw [hsc]; rfl
  rw [rdReq_ok (by rw [hmk, hsc]; simp), hmk]
/-- a header is read back -/
theorem hd_back {h : THeader} (ho : headOk h) : rdHd (showHead h) = (h, true) := by
  obtain ⟨a, b, c, d, e, f⟩ := h
  have hs := showHead_yes ho
  have h7 := lastN_le a
  obtain ⟨⟨h1, h2⟩, ⟨h3, h4⟩, s1, s2, s3, s4⟩ := ho
  dsimp only at h1 h2 h3 h4 hs s1 s2 s3 s4
  obtain ⟨a, rfl⟩ := Int.eq_ofNat_of_zero_le (show 0 ≤ a by omega)
  obtain ⟨b, rfl⟩ := Int.eq_ofNat_of_zero_le h3
  have hsc : scanN 2 (showHead ((a : Int), (b : Int), c, d, e, f), false) = ([(a : Int), (b : Int)], pieceS c ++ (pieceS d ++ (pieceS e ++ (pieceS f ++ ByteArray.empty))), false) := by
    rw [hs]
    simp only [ByteArray.append_assoc, app_empty]
    simp only [scanN, num_app (n := a) (by omega), num_app (n := b) (by omega)]
  have hn : nHdr (showHead ((a : Int), (b : Int), c, d, e, f)) = [(a : Int), (b : Int)] := by unfold nHdr; rw [hsc]
  have ht : tHdr (showHead ((a : Int), (b : Int), c, d, e, f)) = ([c, d, e, f], ByteArray.empty, false) := by
    unfold tHdr
    rw [hsc]
    simp only [textN, text_app (t := c) (by omega), text_app (t := d) (by omega), text_app (t := e) (by omega), text_app (t := f) (by omega)]
  have hmk : mkHd (nHdr (showHead ((a : Int), (b : Int), c, d, e, f))) (tHdr (showHead ((a : Int), (b : Int), c, d, e, f))).1 = ((a : Int), (b : Int), c, d, e, f) := by rw [hn, ht]; rfl
  rw [rdHd_ok (by rw [hmk, ht]; simp), hmk]
/-- the addresses behind a text -/
def catL : List TAddr → ByteArray
  | [] => ByteArray.empty
  | a :: r => varS a.1 ++ varS a.2 ++ catL r
theorem catL_app (l : List TAddr) (a : TAddr) : catL (l ++ [a]) = catL l ++ (varS a.1 ++ varS a.2) := by
  induction l with
  | nil => simp [catL]
  | cons x r ih => rw [List.cons_append, catL, ih, catL]; simp only [ByteArray.append_assoc]
theorem catA_catL (p : ByteArray) (l : List TAddr) : ∀ k, k ≤ l.length → catA p l k = p ++ catL (l.take k)
  | 0, _ => by simp [catA, catL]
  | k + 1, hk => by
    rw [catA, catA_catL p l k (by omega), List.take_succ_eq_append_getElem (by omega), catL_app]
    have e : l.getD k (0, 0) = l[k] := by rw [List.getD_eq_getElem?_getD, List.getElem?_eq_getElem (by omega)]; rfl
    rw [e]
    simp only [ByteArray.append_assoc]
theorem adN_back {l : List TAddr} (hl : ∀ a ∈ l, (0 ≤ a.1 ∧ a.1 ≤ 1000000) ∧ (0 ≤ a.2 ∧ a.2 ≤ 1000000)) : ∀ k, k ≤ l.length → adN k (catL l, false) = (l.take k, catL (l.drop k), false)
  | 0, _ => rfl
  | k + 1, hk => by
    have ih := adN_back hl k (by omega)
    have hd : l.drop k = l[k] :: l.drop (k + 1) := List.drop_eq_getElem_cons (by omega)
    obtain ⟨⟨h1, h2⟩, h3, h4⟩ := hl l[k] (List.getElem_mem _)
    rw [List.take_succ_eq_append_getElem (by omega), adN, ih, hd]
    generalize l[k] = a at *
    obtain ⟨x, y⟩ := a
    dsimp only at h1 h2 h3 h4 ⊢
    obtain ⟨x, rfl⟩ := Int.eq_ofNat_of_zero_le h1
    obtain ⟨y, rfl⟩ := Int.eq_ofNat_of_zero_le h3
    rw [catL]
    dsimp only
    rw [ByteArray.append_assoc, num_app (by omega)]
    dsimp only
    rw [num_app (by omega)]
/-- a message is read back -/
theorem msg_back {m : TPMsg} (h : msgOk m) : candM (showMsg m) = some m := by
  obtain ⟨k, f, r, hd, l⟩ := m
  have hs := showMsg_yes h
  obtain ⟨⟨k1, k2⟩, ⟨f1, f2⟩, hr, hh, ha⟩ := h
  dsimp only at k1 k2 f1 f2 hr hh ha hs
  obtain ⟨k, rfl⟩ := Int.eq_ofNat_of_zero_le (show 0 ≤ k by omega)
  obtain ⟨f, rfl⟩ := Int.eq_ofNat_of_zero_le (show 0 ≤ f by omega)
  have key : ∀ z : ByteArray, scanN 2 (varS (k : Int) ++ varS (f : Int) ++ z, false) = ([(k : Int), (f : Int)], z, false) := fun z => by
    rw [ByteArray.append_assoc]
    simp only [scanN, num_app (n := k) (by omega), num_app (n := f) (by omega)]
  by_cases e2 : (k : Int) = 2
  · rw [if_pos e2] at hs hr
    rw [if_neg (by omega)] at hh ha
    rw [hs, cand_ok (key _) rfl, e2, candK2]
    dsimp only
    rw [req_back hr, hh]
    have : l = [] := List.length_eq_zero_iff.1 ha
    rw [this]
  · rw [if_neg e2] at hs hr
    by_cases e3 : (k : Int) = 3
    · rw [if_pos e3] at hs hh
      rw [if_neg (by omega)] at ha
      rw [hs, cand_ok (key _) rfl, e3, candK3]
      dsimp only
      rw [hd_back hh, hr]
      have : l = [] := List.length_eq_zero_iff.1 ha
      rw [this]
    · rw [if_neg e3] at hs hh
      by_cases e4 : (k : Int) = 4
      · rw [if_pos e4] at hs ha
        have hl10 : l.length ≤ 10 := ha.1
        have hall : ∀ a ∈ l, (0 ≤ a.1 ∧ a.1 ≤ 1000000) ∧ (0 ≤ a.2 ∧ a.2 ≤ 1000000) := fun a hm => by
          obtain ⟨j, hj, rfl⟩ := List.getElem_of_mem hm
          have := ha.2 j hj
          unfold addrOk at this
          simp only [List.getD_eq_getElem?_getD, List.getElem?_eq_getElem hj, Option.getD_some] at this
          omega
        rw [catA_catL _ _ _ (Nat.le_refl _), List.take_length, ByteArray.append_assoc] at hs
        have hz := num_app (n := l.length) (by omega) (catL l)
        have hb := adN_back hall l.length (Nat.le_refl _)
        rw [List.take_length, List.drop_length] at hb
        rw [hs, cand_ok (key _) rfl, e4, candK4_yes (by rw [hz]; dsimp only; rw [hb]; intro h; rcases h with h | h | h; cases h; omega; cases h), hz]
        dsimp only
        rw [hb, hr, hh]
      · rw [if_neg e4] at hs ha
        have key0 := key ByteArray.empty
        rw [app_empty] at key0
        rw [hs, cand_ok key0 rfl, candK_other e2 e3 e4, hr, hh]
        have : l = [] := List.length_eq_zero_iff.1 ha
        rw [this]
theorem rd_back {m : TPMsg} (h : msgOk m) : rdPM (showMsg m) = (m, true) := rdPM_yes (msg_back h) rfl
theorem show_ne {m : TPMsg} (h : msgOk m) : ¬ showMsg m = ByteArray.empty := fun e => by
  have := msg_back h
  rw [e, cand_bad (scan_empty 1)] at this
  cases this
theorem rd_empty : rdPM ByteArray.empty = (zPM, false) := rdPM_none (cand_bad (scan_empty 1))
theorem rd_true {t : ByteArray} (h : (rdPM t).2 = true) : showMsg (rdPM t).1 = t := by
  cases hc : candM t with
  | none => rw [rdPM_none hc] at h; cases h
  | some m =>
    by_cases hs : showMsg m = t
    · rw [rdPM_yes hc hs]; exact hs
    · rw [rdPM_no hc hs] at h; cases h
end Go.Proofs.Yteaohgacgcjkjaa

end
section
/-!
  A result that is a row of one's own may be taken as data.
-/
namespace Go.Proofs.Yteaohgacgcjkjaa
set_option maxRecDepth 100000
set_option linter.unusedVariables false
set_option linter.unusedSimpArgs false
open Go Go.RowKit
set_option linter.unusedVariables false
set_option linter.unusedSimpArgs false

def RL.dat : RL → RL
  | .ro l => .ro l
  | .own _ _ _ rows => .ro (.sl rows)
def Res.dat : Res → Res
  | .comp g ls => .comp g (ls.map RL.dat)
  | .tup vs => .tup (vs.map fun v => (v.1, v.2.map RL.dat))
section
variable {w w' : World} {γ : Nat → Option Nat} {hdr : Nat → Value} {B : Nat}
theorem own_rep {e s : Nat} {rows : List (List Leaf)} {u : Value} {xs : List Value} {γ' : Nat → Option Nat} (hk : Kp w w γ γ') (ho : w.ownsRow 0 e s u rows.length xs) (hr : RepLs w γ rows.flatten xs) (hw : ∀ row ∈ rows, row.length = s) (hb : ∀ b, u.ownBlock = some b → γ' b = none) : RepL w γ' (.sl rows) u := by
  obtain ⟨hxl, ho⟩ := ho
  rcases ho with ⟨rfl, hz⟩ | ⟨g, cap, cur, rfl, _, hh, hnc, hcm, hcs, ht⟩
  · have : rows = [] := List.length_eq_zero_iff.1 hz
    subst this
    exact .emp (Nat.zero_le _)
  · have hcell : ∀ (i : Nat) (row : List Leaf) (j : Nat) (l : Leaf), rows[i]? = some row → row[j]? = some l → ∃ u, xs[i * s + j]? = some u ∧ cur[i * s + j]? = some u ∧ RepL w γ l u := fun i row j l hi hj => by
      have hjs : j < s := by
        rw [← hw row (List.mem_of_getElem? hi)]
        exact (List.getElem?_eq_some_iff.1 hj).1
      have h1 := flatten_row hw hi j hjs
      rw [hj] at h1
      obtain ⟨u, h2, h3⟩ := hr.2 _ _ h1
      refine ⟨u, h2, ?_, h3⟩
      rw [← ht, List.getElem?_take] at h2
      split at h2
      · simpa using h2
      · cases h2
    refine .sl (s := s) (off := 0) (fun i j => (xs[i * s + j]?).getD undef) (hb g rfl) (heap_lt hh) hnc hcm hw (fun i row j l hi hj => ?_) (fun i row j l hi hj => ?_)
    · obtain ⟨u, h1, h2, h3⟩ := hcell i row j l hi hj
      rw [h1]
      simp only [World.cell?, hh, Nat.zero_add, Option.getD_some]
      simpa using h2
    · obtain ⟨u, h1, h2, h3⟩ := hcell i row j l hi hj
      rw [h1]
      exact h3.kp hk
theorem RepRL.dat {i : Nat} {r : RL} {u : Value} (h : RepRL B w γ hdr i r u) : RepRL B w (fun b => if b < B then γ b else none) hdr i r.dat u := by
  have hk : Kp w w γ (fun b => if b < B then γ b else none) := ⟨Nat.le_refl _, fun b _ hg => ⟨by simp [hg], rfl⟩⟩
  cases r with
  | ro l => exact RepL.kp hk h
  | own fl e s rows =>
    obtain ⟨_, xs, h1, h2, h3, h4, _⟩ := h
    exact own_rep hk h1 h2 h3 fun b hb => by
      have := (h4 b hb).1
      have hn : ¬ b < B := by omega
      simp [hn]
theorem RepRs.dat {i : Nat} {ls : List RL} {us : List Value} (h : RepRs B w γ hdr i ls us) : RepRs B w (fun b => if b < B then γ b else none) hdr i (ls.map RL.dat) us :=
  ⟨by rw [List.length_map]; exact h.1, fun k l hk => by
    rw [List.getElem?_map] at hk
    obtain ⟨l0, h1, rfl⟩ := Option.map_eq_some_iff.1 hk
    obtain ⟨u, h2, h3⟩ := h.2 k l0 h1
    exact ⟨u, h2, h3.dat⟩⟩
theorem RepRC.dat {i : Nat} {g : Bool} {ls : List RL} {u : Value} (h : RepRC B w γ hdr i g ls u) : RepRC B w (fun b => if b < B then γ b else none) hdr i g (ls.map RL.dat) u := by
  cases g with
  | true =>
    obtain ⟨us, h1, h2⟩ := h
    exact ⟨us, h1, h2.dat⟩
  | false =>
    obtain ⟨l, rfl, h2⟩ := h
    exact ⟨l.dat, rfl, h2.dat⟩
theorem RepR.dat {r : Res} {u : Value} (h : RepR B w γ hdr r u) : RepR B w (fun b => if b < B then γ b else none) hdr r.dat u := by
  cases r with
  | comp g ls => exact RepRC.dat h
  | tup vs =>
    obtain ⟨us, h1, h2, h3⟩ := h
    refine ⟨us, h1, by rw [List.length_map]; exact h2, fun j g ls hj => ?_⟩
    rw [List.getElem?_map] at hj
    obtain ⟨⟨g0, l0⟩, h4, h5⟩ := Option.map_eq_some_iff.1 hj
    simp only [Prod.mk.injEq] at h5
    obtain ⟨rfl, rfl⟩ := h5
    obtain ⟨u, h6, h7⟩ := h3 j _ _ h4
    exact ⟨u, h6, h7.dat⟩
theorem Post.dat {r : Res} {e : Ending} (h : Post w r e w') : Post w r.dat e w' := by
  obtain ⟨u, γ, hdr, h1, h2, h3, h4, h5⟩ := h
  refine ⟨u, _, hdr, h1, h2, fun b hb => ?_, fun b k hb hk => ?_, h5.dat⟩
  · simp only [if_pos hb]
    exact h3 b hb
  · have hn : ¬ b < w.heap.size := by omega
    simp [hn] at hk
end
theorem Sound.dat {P : Program} {f : FuncId} {m : List Arg → Option Res} (h : Sound P f m) : Sound P f (fun args => (m args).map Res.dat) := fun args r vs w hg hm hr => by
  obtain ⟨r0, h1, rfl⟩ := Option.map_eq_some_iff.1 hm
  exact (h args r0 vs w hg h1 hr).mono fun e w' hp => hp.dat
theorem SoundR.dat {P : Program} {f : FuncId} {α β : Type} {ok : α → Prop} {enc : α → List Arg} {rel : α → β → Prop} {res : α → β → Res} (h : SoundR P f ok enc rel res) : SoundR P f ok enc rel (fun x y => (res x y).dat) := fun x vs w hok hg hr =>
  (h x vs w hok hg hr).mono fun e w' ⟨y, h1, h2⟩ => ⟨y, h1, h2.dat⟩
theorem SoundC.dat {P : Program} {f : FuncId} {α β : Type} {ok : α → Prop} {us : α → List PL} {enc : α → List Arg} {rel : α → β → Prop} {us' : α → β → List PL} {res : α → β → Res} (h : SoundC P f ok us enc rel us' res) : SoundC P f ok us enc rel us' (fun x y => (res x y).dat) :=
  ⟨h.1, fun x b t vs w hok hg h1 h2 h3 => (h.2 x b t vs w hok hg h1 h2 h3).mono fun e w' ⟨y, t', q1, q2⟩ => ⟨y, t', q1, q2.dat⟩⟩
end Go.Proofs.Yteaohgacgcjkjaa

end
section
/-!
  A code that follows from another one; small functions of the laws.
-/
namespace Go.Proofs.Yteaohgacgcjkjaa
set_option maxRecDepth 100000
set_option linter.unusedVariables false
set_option linter.unusedSimpArgs false
open Go Go.RowKit
set_option maxHeartbeats 4000000

theorem wrap_u8_ex : ∃ g : Int → Nat, (∀ n, IntKind.u8.wrap n = ((g n : Nat) : Int)) ∧ ∀ n, g n < 256 := by
  refine ⟨fun n => (n % 256).toNat, fun n => ?_, fun n => ?_⟩
  · have : IntKind.u8.wrap n = n % 256 := by simp [IntKind.wrap, IntKind.bits, IntKind.signed]
    rw [this]
    show n % 256 = (((n % 256).toNat : Nat) : Int)
    omega
  · show (n % 256).toNat < 256
    omega
theorem CodeOk.le {bs : List Nat} (h : bs.length ≤ 1048576) (hb : ∀ n ∈ bs, n < 256) : CodeOk bs := ⟨hb, by omega⟩
noncomputable def mBig := mdl (fun bs : List Nat => bs.length ≤ 9223372036854775807) (fun bs => [aL cU8 bs]) (fun bs => rB (decide (1048576 < bs.length)))
theorem rowsF_U8 {a b : List Nat} : rowsF cU8 a = rowsF cU8 b ↔ a = b := rowsF_iff fun x y h => by
  simp only [cU8, List.cons.injEq, Value.int.injEq, and_true, true_and] at h
  omega
theorem mBig_eq (bs : List Nat) (h : bs.length ≤ 9223372036854775807) : mBig [aL cU8 bs] = some (rB (decide (1048576 < bs.length))) := mdl_eq (by intro a b h; simpa [rowsF_U8] using h) bs h
theorem big_s : Sound Try.prog 12 mBig := by
  refine Sound.mdl Try.func12 rfl Try.ntmps12 ?_
  rintro bs w hl
  refine ⟨by simp, ?_⟩
  replace hl : bs.length ≤ 9223372036854775807 := hl
  have hΓ : GSound Try.prog (look []) := env_nil
  simp only [initS, argPV, List.map_cons, List.map_nil, toPL, Nat.zero_add]
  repeat (first | with_reducible (first | apply W.seq | apply W.block | apply W.skip | apply W.exit | apply W.ret | apply At.seqN | apply At.blkN | apply At.blkE | apply At.blkR | apply At.thenX | apply At.thenR | apply At.blkX rfl) | ((with_reducible apply W.ops); (repeat (first | refine WL.opA hΓ (h := ?_) | refine WL.opX hΓ (h := ?_) | refine WL.opY (h := ?_) | refine WL.opZ (h := ?_))); with_reducible apply WL.nil) | refine W.condT (h := ?_) | refine W.condF (h := ?_))
  refine At.retA (by rw [Try.results12]) (he := ?_)
  by_cases h : 1048576 < bs.length
  · have h2 : (1048576 : Int) < bs.length := by omega
    simp [h, h2]
  · have h2 : ¬ (1048576 : Int) < bs.length := by omega
    simp [h, h2]
end Go.Proofs.Yteaohgacgcjkjaa

end
section
/-!
  Drawn texts and leaves.
-/
namespace Go.Proofs.Yteaohgacgcjkjaa
set_option maxRecDepth 100000
set_option linter.unusedVariables false
set_option linter.unusedSimpArgs false
open Go Go.RowKit
set_option maxHeartbeats 4000000

theorem cStr_appT (l : List ByteArray) (x : ByteArray) : rowsF cStr l ++ [[.sc (.string x)]] = rowsF cStr (l ++ [x]) := by rw [← rowsF_app]; rfl
def rText (m : Int) (s : ByteArray) : Prop := (s.size : Int) ≤ m
theorem l1Text_s : SoundCu Try.prog 92 (fun m : Int => 0 ≤ m ∧ m ≤ 1000) (fun m => [aI m]) rText (fun _ s => rS s) := by
  refine SoundCu.of Try.func92 rfl Try.ntmps92 ?_
  rintro k0 m b w hc ⟨hm0, hm1⟩ hB
  refine ⟨by simp, ?_⟩
  simp only [initC]
  have hΓ : GSound Try.prog (look []) := env_nil
  have hBe : Has Try.prog 51 := has_of Try.func51 rfl rfl
  have hBy : Has Try.prog 80 := has_of Try.func80 rfl rfl
  obtain ⟨g, hg, hg2⟩ := wrap_u8_ex
  have hcu := lsNms_cu
  have hck := kill_cu
  simp only [initS, argPV, List.map_cons, List.map_nil, toPL, Nat.zero_add]
  repeat (first | with_reducible (first | apply W.seq | apply W.block | apply W.skip | apply W.exit | apply W.ret | apply At.seqN | apply At.blkN | apply At.blkE | apply At.blkR | apply At.thenX | apply At.thenR | apply At.blkX rfl) | ((with_reducible apply W.ops); (repeat (first | refine WL.opA hΓ (h := ?_) | refine WL.opX hΓ (h := ?_) | refine WL.opY (h := ?_) | refine WL.opZ (h := ?_))); with_reducible apply WL.nil) | refine W.condT (h := ?_) | refine W.condF (h := ?_))
  with_reducible apply W.ops
  repeat (first | refine WL.opA hΓ (h := ?_) | refine WL.opX hΓ (h := ?_) | refine WL.opY (h := ?_) | refine WL.opZ (h := ?_))
  refine WL.opCu hBe l1Below_s k0 hc 4 (by decide) (h := ?_)
  rintro k1 s0 hk1 ⟨hs0, hs1, -⟩
  replace hs1 : s0 < 4 := hs1 (by decide)
  (repeat (first | refine WL.opA hΓ (h := ?_) | refine WL.opX hΓ (h := ?_) | refine WL.opY (h := ?_) | refine WL.opZ (h := ?_)))
  with_reducible apply WL.nil
  repeat (first | with_reducible (first | apply W.seq | apply W.block | apply W.skip | apply W.exit | apply W.ret | apply At.seqN | apply At.blkN | apply At.blkE | apply At.blkR | apply At.thenX | apply At.thenR | apply At.blkX rfl) | ((with_reducible apply W.ops); (repeat (first | refine WL.opA hΓ (h := ?_) | refine WL.opX hΓ (h := ?_) | refine WL.opY (h := ?_) | refine WL.opZ (h := ?_))); with_reducible apply WL.nil) | refine W.condT (h := ?_) | refine W.condF (h := ?_))
  with_reducible apply W.ops
  repeat (first | refine WL.opA hΓ (h := ?_) | refine WL.opX hΓ (h := ?_) | refine WL.opY (h := ?_) | refine WL.opZ (h := ?_))
  refine WL.opCu hBe l1Below_s k1 hk1.ok (m + 1) ⟨by omega, by omega⟩ (h := ?_)
  rintro k2 n0 hk2 ⟨hn0, hn1, -⟩
  replace hn1 : n0 < m + 1 := hn1 (by omega)
  have hnil : rowsF cU8 [] = [] := rfl
  (repeat (first | refine WL.opA hΓ (h := ?_) | refine WL.opX hΓ (h := ?_) | refine WL.opY (h := ?_) | refine WL.opZ (h := ?_)))
  with_reducible apply WL.nil
  repeat (first | with_reducible (first | apply W.seq | apply W.block | apply W.skip | apply W.exit | apply W.ret | apply At.seqN | apply At.blkN | apply At.blkE | apply At.blkR | apply At.thenX | apply At.thenR | apply At.blkX rfl) | ((with_reducible apply W.ops); (repeat (first | refine WL.opA hΓ (h := ?_) | refine WL.opX hΓ (h := ?_) | refine WL.opY (h := ?_) | refine WL.opZ (h := ?_))); with_reducible apply WL.nil) | refine W.condT (h := ?_) | refine W.condF (h := ?_))
  refine W.loopA (fun x : List Nat × Int × Cu => CuTo k0 x.2.2 ∧ 0 ≤ x.2.1 ∧ x.1.length + x.2.1 = n0) (fun x => [.slot 0 (one (.ptr 999 0)), .blk 999 (.box (cuL x.2.2)), .slot 5 (one (.all 9)), .blk 9 (.arr true 5 1 (rowsF cU8 x.1)), .slot 6 (vI s0), .slot 7 (vI x.2.1)]) (fun x => x.2.1.toNat) ([], n0, k2) ⟨hk1.trans hk2, hn0, by simp⟩ (h := ?_)
  rintro ⟨l, n, k⟩ ⟨hk, hn, hl⟩
  dsimp only at hk hn hl ⊢
  by_cases hp : 0 < n
  · have hlen : l.length ≤ 1000 := by omega
    repeat (first | with_reducible (first | apply W.seq | apply W.block | apply W.skip | apply W.exit | apply W.ret | apply At.seqN | apply At.blkN | apply At.blkE | apply At.blkR | apply At.thenX | apply At.thenR | apply At.blkX rfl) | ((with_reducible apply W.ops); (repeat (first | refine WL.opA hΓ (h := ?_) | refine WL.opX hΓ (h := ?_) | refine WL.opY (h := ?_) | refine WL.opZ (h := ?_))); with_reducible apply WL.nil) | refine W.condT (h := ?_) | refine W.condF (h := ?_))
    with_reducible apply W.ops
    repeat (first | refine WL.opA hΓ (h := ?_) | refine WL.opX hΓ (h := ?_) | refine WL.opY (h := ?_) | refine WL.opZ (h := ?_))
    refine WL.opCu hBy l1Byte_s k hk.ok () trivial (h := ?_)
    rintro k3 r hk3 ⟨hr0, hr1⟩
    (repeat (first | refine WL.opA hΓ (h := ?_) | refine WL.opX hΓ (h := ?_) | refine WL.opY (h := ?_) | refine WL.opZ (h := ?_)))
    with_reducible apply WL.nil
    by_cases h1 : s0 = 1
    · subst h1
      have e := cU8_app l (g (r.tmod 2))
      have hnz : ((2 : Int) = 0) = False := by simp
      have t0 : 0 ≤ r.tmod 2 := Int.tmod_nonneg _ hr0
      have t1 : r.tmod 2 < 2 := Int.tmod_lt_of_pos _ (by decide)
      repeat (first | with_reducible (first | apply W.seq | apply W.block | apply W.skip | apply W.exit | apply W.ret | apply At.seqN | apply At.blkN | apply At.blkE | apply At.blkR | apply At.thenX | apply At.thenR | apply At.blkX rfl) | ((with_reducible apply W.ops); (repeat (first | refine WL.opA hΓ (h := ?_) | refine WL.opX hΓ (h := ?_) | refine WL.opY (h := ?_) | refine WL.opZ (h := ?_))); with_reducible apply WL.nil) | refine W.condT (h := ?_) | refine W.condF (h := ?_))
      exact At.roundA (l ++ [g (r.tmod 2)], n - 1, k3) ⟨hk.trans hk3, by dsimp only; omega, by simp; omega⟩ (by dsimp only; omega)
    · by_cases h2 : s0 = 2
      · subst h2
        have e := cU8_app l (g (97 + r.tmod 4))
        have hnz : ((4 : Int) = 0) = False := by simp
        have t0 : 0 ≤ r.tmod 4 := Int.tmod_nonneg _ hr0
        have t1 : r.tmod 4 < 4 := Int.tmod_lt_of_pos _ (by decide)
        repeat (first | with_reducible (first | apply W.seq | apply W.block | apply W.skip | apply W.exit | apply W.ret | apply At.seqN | apply At.blkN | apply At.blkE | apply At.blkR | apply At.thenX | apply At.thenR | apply At.blkX rfl) | ((with_reducible apply W.ops); (repeat (first | refine WL.opA hΓ (h := ?_) | refine WL.opX hΓ (h := ?_) | refine WL.opY (h := ?_) | refine WL.opZ (h := ?_))); with_reducible apply WL.nil) | refine W.condT (h := ?_) | refine W.condF (h := ?_))
        exact At.roundA (l ++ [g (97 + r.tmod 4)], n - 1, k3) ⟨hk.trans hk3, by dsimp only; omega, by simp; omega⟩ (by dsimp only; omega)
      · have e := cU8_app l (g r)
        repeat (first | with_reducible (first | apply W.seq | apply W.block | apply W.skip | apply W.exit | apply W.ret | apply At.seqN | apply At.blkN | apply At.blkE | apply At.blkR | apply At.thenX | apply At.thenR | apply At.blkX rfl) | ((with_reducible apply W.ops); (repeat (first | refine WL.opA hΓ (h := ?_) | refine WL.opX hΓ (h := ?_) | refine WL.opY (h := ?_) | refine WL.opZ (h := ?_))); with_reducible apply WL.nil) | refine W.condT (h := ?_) | refine W.condF (h := ?_))
        exact At.roundA (l ++ [g r], n - 1, k3) ⟨hk.trans hk3, by dsimp only; omega, by simp; omega⟩ (by dsimp only; omega)
  · have hb := bytes_rows l
    repeat (first | with_reducible (first | apply W.seq | apply W.block | apply W.skip | apply W.exit | apply W.ret | apply At.seqN | apply At.blkN | apply At.blkE | apply At.blkR | apply At.thenX | apply At.thenR | apply At.blkX rfl) | ((with_reducible apply W.ops); (repeat (first | refine WL.opA hΓ (h := ?_) | refine WL.opX hΓ (h := ?_) | refine WL.opY (h := ?_) | refine WL.opZ (h := ?_))); with_reducible apply WL.nil) | refine W.condT (h := ?_) | refine W.condF (h := ?_))
    refine At.retCu (by rw [Try.results92]) hB (hls := ?_) (he := ?_) k (bsS l) hk (show ((bsS l).size : Int) ≤ m by rw [bsS_size]; omega)
    · rfl
    · rfl
end Go.Proofs.Yteaohgacgcjkjaa

end
