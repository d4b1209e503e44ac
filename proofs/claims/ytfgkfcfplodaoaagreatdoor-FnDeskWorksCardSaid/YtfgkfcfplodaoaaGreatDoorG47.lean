/-
  Put together: PEvDeskM PEvLineI.
-/
import Derived.Test.YtfgkfcfplodaoaaGreatDoorG46
set_option linter.unusedSimpArgs false
set_option linter.unusedVariables false
set_option maxRecDepth 100000
section
namespace Go.Proofs.YtfgkfcfplodaoaaGreatDoor
open Go Go.RowKit
set_option maxHeartbeats 4000000
def chainW : ByteArray := { data := #[99, 104, 97, 105, 110] }
def zLt : TLight := ((0, 0), 0, (zHd, []), ([], 0), ([], 0), 0)
noncomputable def numD (d : TDesk) (w : ByteArray) : List Int → TDesk × ByteArray
  | [] => (d, bareD d w)
  | [a] => oneD d w a
  | [a, b] => twoD d w a b
  | _ => (d, whatW)
noncomputable def chD (d : TDesk) (s t : ByteArray) : TDesk × ByteArray :=
  if (readZ t).2 = true then ((chainOf s (readZ t).1, zLt, false), decT (chainOf s (readZ t).1).length) else (d, whatW)
noncomputable def lineD (d : TDesk) : List ByteArray → TDesk × ByteArray
  | [] => (d, whatW)
  | w :: r => if w = chainW ∧ r.length = 2 then chD d (r.getD 0 ByteArray.empty) (r.getD 1 ByteArray.empty) else if numsB r = true then numD d w (numsL r) else (d, whatW)
theorem zLt_ok (L : List TBlock) (h : chOk L) : deskOk (L, zLt, false) := ⟨h, fun e => by cases e⟩
theorem chD_ok {d : TDesk} (h : deskOk d) (s t : ByteArray) : deskOk (chD d s t).1 := by
  unfold chD
  split
  · exact zLt_ok _ (chOk_of s _)
  · exact h
theorem numD_ok {d : TDesk} (h : deskOk d) (w : ByteArray) (l : List Int) : deskOk (numD d w l).1 := by
  match l with
  | [] => exact h
  | [a] => exact oneD_ok h w a
  | [a, b] => exact twoD_ok h w a b
  | _ :: _ :: _ :: _ => exact h
theorem lineD_ok {d : TDesk} (h : deskOk d) (W : List ByteArray) : deskOk (lineD d W).1 := by
  cases W with
  | nil => exact h
  | cons w r =>
    show deskOk (if w = chainW ∧ r.length = 2 then chD d (r.getD 0 ByteArray.empty) (r.getD 1 ByteArray.empty) else if numsB r = true then numD d w (numsL r) else (d, whatW)).1
    split
    · exact chD_ok h _ _
    · split
      · exact numD_ok h w _
      · exact h
def linesI (s : ByteArray) : List ByteArray :=
  if (splitS s 10).getD ((splitS s 10).length - 1) ByteArray.empty = ByteArray.empty then (splitS s 10).take ((splitS s 10).length - 1) else splitS s 10
noncomputable def stepI (st : TDesk × ByteArray) (t : ByteArray) : TDesk × ByteArray :=
  if t = ByteArray.empty then st else ((lineD st.1 (splitS t 32)).1, st.2 ++ (lineD st.1 (splitS t 32)).2 ++ (⟨#[10]⟩ : ByteArray))
def dk0 : TDesk × ByteArray := (([], zLt, false), ByteArray.empty)
noncomputable def runI (M : List ByteArray) : TDesk × ByteArray := M.foldl stepI dk0
noncomputable def deskI (s : ByteArray) : ByteArray := if 20000 < s.size ∨ 80 < (linesI s).length then ByteArray.empty else (runI (linesI s)).2
theorem runI_snoc (M : List ByteArray) (t : ByteArray) : runI (M ++ [t]) = stepI (runI M) t := by
  unfold runI
  rw [List.foldl_append]
  rfl
theorem stepI_ok {st : TDesk × ByteArray} (h : deskOk st.1) (t : ByteArray) : deskOk (stepI st t).1 := by
  unfold stepI
  split
  · exact h
  · exact lineD_ok h _
theorem runI_ok (M : List ByteArray) : deskOk (runI M).1 := by
  have key : ∀ (M : List ByteArray) (st : TDesk × ByteArray), deskOk st.1 → deskOk (M.foldl stepI st).1 := by
    intro M
    induction M with
    | nil => exact fun st h => h
    | cons t r ih => exact fun st h => ih _ (stepI_ok h t)
  exact key M dk0 (zLt_ok [] chOk_nil)
theorem linesI_small (s : ByteArray) : (linesI s).length ≤ s.size + 1 ∧ ∀ x ∈ linesI s, x.size ≤ s.size := by
  obtain ⟨⟨h0, h1⟩, h2⟩ := splitS_small s 10
  unfold linesI
  split
  · exact ⟨by rw [List.length_take]; omega, fun x hx => h2 x (List.mem_of_mem_take hx)⟩
  · exact ⟨h1, h2⟩
theorem none_size : noneW.size = 4 := rfl
theorem what_size : whatW.size = 4 := rfl
theorem banD_size (x : TLight) : (banD x).size ≤ 1188 := by
  have h1 : (banL x.2.2.2.2.1.1 x.2.2.2.2.2).length ≤ 99 := banK_len _ _ 99
  have h2 := joinS_size (banL x.2.2.2.2.1.1 x.2.2.2.2.2) (banL x.2.2.2.2.1.1 x.2.2.2.2.2).length
  unfold banD
  omega
theorem tipD_size (x : TLight) : (tipD x).size ≤ 28 := by
  have h1 := decT_size x.2.2.1.1.1
  have h2 := headId_size x.2.2.1.1
  have h3 : spW.size = 1 := rfl
  unfold tipD
  rw [ByteArray.size_append, ByteArray.size_append, hexS_size]
  omega
theorem bareD_size (d : TDesk) (w : ByteArray) : (bareD d w).size ≤ 1200 := by
  have h1 := tree_size (idsD d.1)
  have h2 := tipD_size d.2.1
  have h3 := banD_size d.2.1
  have h4 := none_size
  have h5 := what_size
  unfold bareD
  split
  · rw [hexS_size]; omega
  split
  · split <;> omega
  split
  · split <;> omega
  · omega
theorem oneD_size (d : TDesk) (w : ByteArray) (n : Int) : (oneD d w n).2.size ≤ 1200 := by
  have h4 := none_size
  have h5 := what_size
  rcases one_ways d w n with ⟨-, e⟩ | ⟨-, -, e⟩ | ⟨-, -, -, e⟩ | ⟨-, -, -, -, e⟩ | ⟨-, -, -, -, e⟩ <;> rw [e]
  · show (proofD d n).size ≤ 1200
    unfold proofD
    split
    · exact Nat.le_trans (decT_size _) (by decide)
    · omega
  · split
    · show (peerT d.2.1 n).size ≤ 1200
      unfold peerT
      split
      · exact (by decide : okS.size ≤ 1200)
      · exact (by decide : noS.size ≤ 1200)
    · show noneW.size ≤ 1200
      omega
  · split
    · show (tickT d.2.1 n).size ≤ 1200
      unfold tickT
      split
      · split
        · exact (by decide : expW.size ≤ 1200)
        · exact (by decide : folW.size ≤ 1200)
      · exact (by decide : noS.size ≤ 1200)
    · show noneW.size ≤ 1200
      omega
  · show (if d.2.2 = true then seenT d.2.1 n else noneW).size ≤ 1200
    split
    · unfold seenT
      split
      · rw [hexS_size]
        have := headId_size (getHd d.2.1.2.2.2.1 n).1
        omega
      · omega
    · omega
  · show whatW.size ≤ 1200
    omega
theorem twoD_size (d : TDesk) (w : ByteArray) (a b : Int) : (twoD d w a b).2.size ≤ 1200 := by
  have h4 := none_size
  have h5 := what_size
  have hf : ∀ lie, (feedD d a b lie).2.size ≤ 1200 := fun lie => by
    unfold feedD
    split
    · exact Nat.le_trans (decT_size _) (by decide)
    · show noneW.size ≤ 1200
      omega
  rcases two_ways d w a b with ⟨-, e⟩ | ⟨-, -, -, e⟩ | ⟨-, -, -, e⟩ | ⟨-, -, -, e⟩ <;> rw [e]
  · unfold startD
    split
    · show noneW.size ≤ 1200
      omega
    · split
      · exact (by decide : okS.size ≤ 1200)
      · exact (by decide : noS.size ≤ 1200)
  · exact hf false
  · exact hf true
  · show whatW.size ≤ 1200
    omega
theorem numD_size (d : TDesk) (w : ByteArray) (l : List Int) : (numD d w l).2.size ≤ 1200 := by
  match l with
  | [] => exact bareD_size d w
  | [a] => exact oneD_size d w a
  | [a, b] => exact twoD_size d w a b
  | _ :: _ :: _ :: _ => exact (by decide : whatW.size ≤ 1200)
theorem lineD_size (d : TDesk) (W : List ByteArray) : (lineD d W).2.size ≤ 1200 := by
  cases W with
  | nil => exact (by decide : whatW.size ≤ 1200)
  | cons w r =>
    show (if w = chainW ∧ r.length = 2 then chD d (r.getD 0 ByteArray.empty) (r.getD 1 ByteArray.empty) else if numsB r = true then numD d w (numsL r) else (d, whatW)).2.size ≤ 1200
    split
    · unfold chD
      split
      · exact Nat.le_trans (decT_size _) (by decide)
      · exact (by decide : whatW.size ≤ 1200)
    · split
      · exact numD_size d w _
      · exact (by decide : whatW.size ≤ 1200)
theorem stepI_size (st : TDesk × ByteArray) (t : ByteArray) : (stepI st t).2.size ≤ st.2.size + 1201 := by
  unfold stepI
  split
  · omega
  · show (st.2 ++ (lineD st.1 (splitS t 32)).2 ++ (⟨#[10]⟩ : ByteArray)).size ≤ _
    rw [ByteArray.size_append, ByteArray.size_append]
    have h1 := lineD_size st.1 (splitS t 32)
    have h2 : (⟨#[10]⟩ : ByteArray).size = 1 := rfl
    omega
theorem runI_size (M : List ByteArray) : (runI M).2.size ≤ 1201 * M.length := by
  have key : ∀ (M : List ByteArray) (st : TDesk × ByteArray), (M.foldl stepI st).2.size ≤ st.2.size + 1201 * M.length := by
    intro M
    induction M with
    | nil => exact fun st => Nat.le_refl _
    | cons t r ih =>
      intro st
      have h1 := ih (stepI st t)
      have h2 := stepI_size st t
      rw [List.foldl_cons, List.length_cons]
      omega
  have h := key M dk0
  have h0 : dk0.2.size = 0 := rfl
  unfold runI
  omega
theorem nl_size : (⟨#[10]⟩ : ByteArray).size ≤ 1 := Nat.le_refl _
end Go.Proofs.YtfgkfcfplodaoaaGreatDoor

end
section
namespace Go.Proofs.YtfgkfcfplodaoaaGreatDoor
open Go Go.RowKit
set_option maxHeartbeats 16000000
theorem WL.subA {γ0 : Nat → Option Nat} {w0 : World} {N : Nat} {st : St} {Q : Exit → Act → World → Prop} {ops : Array Oper} {r : List Oper} (st' : St) (hs : Sub st' st := by exact subP) (h : WL Tryz.prog γ0 w0 N ops r st' Q) : WL Tryz.prog γ0 w0 N ops r st Q := fun a w hR => h a w (hR.sub hs)
theorem WL.frzA {γ0 : Nat → Option Nat} {w0 : World} {N : Nat} {st : St} {Q : Exit → Act → World → Prop} {ops : Array Oper} {r : List Oper} (t n : Nat) {fl : Fl} {e s : Nat} {rows : List (List Leaf)} (ht : getS st t = one (.all n) := by exact evsP) (hb : getB st n = some (.arr fl e s rows) := by exact evsP)
    (h : WL Tryz.prog γ0 w0 N ops r (.slot t (one (.sl rows)) :: .kill n :: st) Q) : WL Tryz.prog γ0 w0 N ops r st Q := fun a w hR => h a w (hR.frz ht hb)
abbrev TLine := TDesk × List ByteArray
theorem line_s : SoundDk Tryz.prog 48 (fun x : TLine => deskOk x.1 ∧ okW x.2 ∧ 0 < x.2.length) (fun x => lDk x.1) (fun x => [aL cStr x.2]) (fun x => lDk (lineD x.1 x.2).1) (fun x => .string (lineD x.1 x.2).2) := by
  refine SoundDk.of Tryz.func48 rfl Tryz.ntmps48 ?_
  rintro ⟨⟨L, ⟨⟨p, s⟩, st, ⟨⟨h1, h2, h3, h4, h5, h6⟩, v⟩, ⟨l, n⟩, ⟨q, m⟩, now⟩, hs⟩, W⟩ b w ⟨hx, hW, hp⟩ hB
  refine ⟨by simp, ?_⟩
  simp only [initC, List.map_cons, List.map_nil, toPL]
  simp only [initS, argPV, Nat.reduceAdd, lDk, lLt, List.cons_append, List.nil_append, List.map_cons, List.map_nil, toPL]
  replace hx : deskOk (L, ((p, s), st, ((h1, h2, h3, h4, h5, h6), v), (l, n), (q, m), now), hs) := hx
  replace hW : okW W := hW
  obtain ⟨w0, r, rfl⟩ : ∃ w0 r, W = w0 :: r := by
    cases W with
    | nil => exact absurd hp (by simp)
    | cons a b => exact ⟨a, b, rfl⟩
  clear hp
  have hΓ : GSound Tryz.prog (look [(99, mRead), (101, mDecZ), (102, mNums), (103, mBare)]) := env_cons (has_of Tryz.func99 rfl rfl) readI_s (env_cons (has_of Tryz.func101 rfl rfl) decZI_s (env_cons (has_of Tryz.func102 rfl rfl) nums_s (env_cons (has_of Tryz.func103 rfl rfl) bare_s env_nil)))
  have hlen := rowsF_len cStr (w0 :: r)
  have hr0 : (rowsF cStr (w0 :: r))[0]? = some [.sc (.string w0)] := rfl
  have hL : lineD (L, ((p, s), st, ((h1, h2, h3, h4, h5, h6), v), (l, n), (q, m), now), hs) (w0 :: r) = if w0 = chainW ∧ r.length = 2 then chD (L, ((p, s), st, ((h1, h2, h3, h4, h5, h6), v), (l, n), (q, m), now), hs) (r.getD 0 ByteArray.empty) (r.getD 1 ByteArray.empty) else if numsB r = true then numD (L, ((p, s), st, ((h1, h2, h3, h4, h5, h6), v), (l, n), (q, m), now), hs) w0 (numsL r) else ((L, ((p, s), st, ((h1, h2, h3, h4, h5, h6), v), (l, n), (q, m), now), hs), whatW) := rfl
  by_cases hq : w0 = chainW ∧ r.length = 2
  · rw [if_pos hq] at hL
    obtain ⟨hq1, hq2⟩ := hq
    have t1 : decide (w0 = (⟨#[99, 104, 97, 105, 110]⟩ : ByteArray)) = true := decide_eq_true hq1
    clear hq1
    obtain ⟨w1, w2, rfl⟩ : ∃ w1 w2, r = [w1, w2] := by
      match r, hq2 with
      | [a, b], _ => exact ⟨a, b, rfl⟩
    have hr1 : (rowsF cStr [w0, w1, w2])[1]? = some [.sc (.string w1)] := rfl
    have hr2 : (rowsF cStr [w0, w1, w2])[2]? = some [.sc (.string w2)] := rfl
    have hz1 : w1.size ≤ 1048576 := hW.2 w1 (by simp)
    have hz2 : w2.size ≤ 1048576 := hW.2 w2 (by simp)
    have hC : chD (L, ((p, s), st, ((h1, h2, h3, h4, h5, h6), v), (l, n), (q, m), now), hs) w1 w2 = if (readZ w2).2 = true then ((chainOf w1 (readZ w2).1, zLt, false), decT (chainOf w1 (readZ w2).1).length) else ((L, ((p, s), st, ((h1, h2, h3, h4, h5, h6), v), (l, n), (q, m), now), hs), whatW) := rfl
    have hg : chD (L, ((p, s), st, ((h1, h2, h3, h4, h5, h6), v), (l, n), (q, m), now), hs) ([w1, w2].getD 0 ByteArray.empty) ([w1, w2].getD 1 ByteArray.empty) = chD (L, ((p, s), st, ((h1, h2, h3, h4, h5, h6), v), (l, n), (q, m), now), hs) w1 w2 := rfl
    rw [hg, hC] at hL
    have c1 := mRead_eq w2 (by omega)
    have hlen3 : (rowsF cStr [w0, w1, w2]).length = 3 := rfl
    clear hg hC hq2 hx hW hlen
    generalize rowsF cStr [w0, w1, w2] = R at *
    have hch := chOk_of w1 (readZ w2).1
    have c2 := mChainI_eq w1 (readZ w2).1 hz1
    generalize readZ w2 = y at *
    obtain ⟨y, z⟩ := y
    dsimp only at hL c1 c2 hch
    cases z with
    | false =>
      rw [if_neg (by decide)] at hL
      replace hL := Lib.hid hL
      clear hch c2
      refine zR ?_
      refine At.retDkA (by rw [Tryz.results48]) hB (hc := ?_) (he := ?_) 
      · rw [hL.out] <;> rfl
      · rw [hL.out] <;> rfl
    | true =>
      rw [if_pos rfl] at hL
      have hl12 := hch.1
      have c3 := mDecZ_eq ((chainOf w1 y).length : Int) ⟨by omega, by omega⟩
      by_cases hy : 1 ≤ y ∧ y ≤ 12
      · rw [if_pos hy] at c2
        clear hch hy
        have hcl := bkRows_len (chainOf w1 y)
        replace hL := Lib.hid hL
        generalize chainOf w1 y = C at *
        dsimp only [rBO] at c2
        refine zR ?_
        refine zO ?_
        refine zL ?_
        refine WL.opMA (has_of Tryz.func100 rfl rfl) chainI_s c2 (h := ?_)
        refine zL ?_
        refine zE ?_
        refine zR ?_
        refine At.retDkA (by rw [Tryz.results48]) hB (hc := ?_) (he := ?_) 
        · rw [hL.out] <;> rfl
        · rw [hL.out] <;> rfl
      · rw [if_neg hy] at c2
        have hC0 : chainOf w1 y = [] := if_neg hy
        rw [hC0] at hL
        clear c3
        have c3 := mDecZ_eq ((0 : Nat) : Int) ⟨by decide, by decide⟩
        clear hch hy hl12 hC0
        replace hL := Lib.hid hL
        dsimp only [rN] at c2
        refine zR ?_
        refine zO ?_
        refine zL ?_
        refine WL.opMA (has_of Tryz.func100 rfl rfl) chainI_s c2 (h := ?_)
        refine zL ?_
        refine zE ?_
        refine zR ?_
        refine At.retDkA (by rw [Tryz.results48]) hB (hc := ?_) (he := ?_) 
        · rw [hL.out] <;> rfl
        · rw [hL.out] <;> rfl
  · rw [if_neg hq] at hL
    have hWr : okW r := ⟨by have := hW.1; simp only [List.length_cons] at this; omega, fun x h => hW.2 x (List.mem_cons_of_mem _ h)⟩
    have c4 := Lib.hid (mNums_eq r hWr)
    have hWl : r.length ≤ 1048576 := hWr.1
    have hn1 : (w0 :: r).length = r.length + 1 := rfl
    have e2 := sub_lo (w0 :: r) 1
    have hd1 : (w0 :: r).drop 1 = r := rfl
    rw [hd1] at e2
    replace hL := Lib.hid hL
    generalize hn : (w0 :: r).length = N at *
    generalize hR : rowsF cStr (w0 :: r) = R at *
    replace hn1 := Lib.hid hn1
    replace hn := Lib.hid hn
    replace hR := Lib.hid hR
    replace hd1 := Lib.hid hd1
    replace hq := Lib.hid hq
    replace e2 := Lib.hid e2
    refine (fun (key : W Tryz.prog (own1 b) w ?nK [.slot 0 (one (.ptr 999 0)), .slot 1 (one (.sl R)), .blk 999 (.box [.sl (bkRows L), .sc (.int .i64 p), .sc (.int .i64 s), .sc (.int .i64 st), .sc (.int .i64 h1), .sc (.int .i64 h2), .sc (.string h3), .sc (.string h4), .sc (.string h5), .sc (.string h6), .sl (rowsF cVal v), .sl (rowsF cHeader l), .sc (.int .i64 n), .sl (rowsF cPeer q), .sc (.int .i64 m), .sc (.int .i64 now), .sc (.bool hs)])] ?codeK ?postK) => ?mainK) ?partK
    case mainK =>
      by_cases hq1 : w0 = chainW
      · have t1 : decide (w0 = (⟨#[99, 104, 97, 105, 110]⟩ : ByteArray)) = true := decide_eq_true hq1
        have t2 : decide ((N : Int) = 3) = false := decide_eq_false (fun h => hq.out ⟨hq1, by have := hn1.out; omega⟩)
        clear hq1
        refine zR ?_
        refine W.subA [.slot 0 (one (.ptr 999 0)), .slot 1 (one (.sl R)), .blk 999 (.box [.sl (bkRows L), .sc (.int .i64 p), .sc (.int .i64 s), .sc (.int .i64 st), .sc (.int .i64 h1), .sc (.int .i64 h2), .sc (.string h3), .sc (.string h4), .sc (.string h5), .sc (.string h6), .sl (rowsF cVal v), .sl (rowsF cHeader l), .sc (.int .i64 n), .sl (rowsF cPeer q), .sc (.int .i64 m), .sc (.int .i64 now), .sc (.bool hs)])] (h := ?_)
        exact key
      · have t1 : decide (w0 = (⟨#[99, 104, 97, 105, 110]⟩ : ByteArray)) = false := decide_eq_false hq1
        clear hq1
        refine zR ?_
        refine W.subA [.slot 0 (one (.ptr 999 0)), .slot 1 (one (.sl R)), .blk 999 (.box [.sl (bkRows L), .sc (.int .i64 p), .sc (.int .i64 s), .sc (.int .i64 st), .sc (.int .i64 h1), .sc (.int .i64 h2), .sc (.string h3), .sc (.string h4), .sc (.string h5), .sc (.string h6), .sl (rowsF cVal v), .sl (rowsF cHeader l), .sc (.int .i64 n), .sl (rowsF cPeer q), .sc (.int .i64 m), .sc (.int .i64 now), .sc (.bool hs)])] (h := ?_)
        exact key
    case partK =>
      clear hq hW hWr
      replace hn1 := hn1.out
      replace hn := hn.out
      replace hR := hR.out
      replace hd1 := hd1.out
      replace e2 := e2.out
      replace hL := hL.out
      replace c4 := c4.out
      cases r with
      | nil =>
        have hn0 : (rowsF cStr []) = [] := rfl
        have hb0 : numsB [] = true := rfl
        have hm0 : numsL [] = [] := rfl
        rw [hb0, hm0, if_pos rfl] at hL c4
        have hx1 : R[1]? = none := by rw [← hR]; rfl
        have hx0 : (R = []) = False := by rw [← hR]; simp [rowsF]
        have hN1 : N = 1 := by omega
        subst hN1
        dsimp only [aL] at c4
        rw [hn0] at c4
        have hml : (rowsF cInt []).length = 0 := rfl
        clear hd1 hn hn1 e2 hR hn0 hb0 hm0
        have hN : numD (L, ((p, s), st, ((h1, h2, h3, h4, h5, h6), v), (l, n), (q, m), now), hs) w0 [] = ((L, ((p, s), st, ((h1, h2, h3, h4, h5, h6), v), (l, n), (q, m), now), hs), bareD (L, ((p, s), st, ((h1, h2, h3, h4, h5, h6), v), (l, n), (q, m), now), hs) w0) := rfl
        rw [hN] at hL
        have c5 := mBare_eq (L, ((p, s), st, ((h1, h2, h3, h4, h5, h6), v), (l, n), (q, m), now), hs) w0 hx
        simp only [lDk, lLt, List.cons_append, List.nil_append] at c5
        clear hx hN
        generalize bareD (L, ((p, s), st, ((h1, h2, h3, h4, h5, h6), v), (l, n), (q, m), now), hs) w0 = X at *
        replace hL := Lib.hid hL
        refine zR ?_
        refine At.retDkA (by rw [Tryz.results48]) hB (hc := ?_) (he := ?_) 
        · rw [hL.out] <;> rfl
        · rw [hL.out] <;> rfl
      | cons r0 r' =>
      have hx1 : R = [] ∨ ∃ row, R[1]? = some row ∧ row.length = 1 := by rw [← hR]; exact row_ex (l := w0 :: r0 :: r') (k := 1) (by simp)
      have hn2 : 2 ≤ N := by rw [hn1]; simp
      have hml0 : (numsL (r0 :: r')).length = r'.length + 1 := by unfold numsL; rw [List.length_map]; rfl
      clear hn hR hd1 hn1 hWl
      dsimp only [aL] at c4
      generalize rowsF cStr (r0 :: r') = R1 at *
      generalize numsB (r0 :: r') = z at *
      generalize numsL (r0 :: r') = M at *
      cases z with
      | false =>
        rw [if_neg (by decide)] at hL c4
        replace hL := Lib.hid hL
        refine zR ?_
        refine At.retDkA (by rw [Tryz.results48]) hB (hc := ?_) (he := ?_) 
        · rw [hL.out] <;> rfl
        · rw [hL.out] <;> rfl
      | true =>
        rw [if_pos rfl] at hL c4
        have hml := rowsF_len cInt M
        match M, hml0 with
        | [], h0 => exact absurd h0 (by simp)
        | [a], h0 =>
          clear h0 hml0
          have hN : numD (L, ((p, s), st, ((h1, h2, h3, h4, h5, h6), v), (l, n), (q, m), now), hs) w0 [a] = oneD (L, ((p, s), st, ((h1, h2, h3, h4, h5, h6), v), (l, n), (q, m), now), hs) w0 a := rfl
          rw [hN] at hL
          have ha0 : (rowsF cInt [a])[0]? = some [.sc (.int .i64 a)] := rfl
          replace hL := Lib.hid hL
          generalize rowsF cInt [a] = RM at *
          refine zR ?_
          refine W.frzA 7 44 (h := ?_)
          refine W.subA [.slot 0 (one (.ptr 999 0)), .slot 1 (one (.sl R)), .slot 7 (one (.sl RM)), .blk 999 (.box [.sl (bkRows L), .sc (.int .i64 p), .sc (.int .i64 s), .sc (.int .i64 st), .sc (.int .i64 h1), .sc (.int .i64 h2), .sc (.string h3), .sc (.string h4), .sc (.string h5), .sc (.string h6), .sl (rowsF cVal v), .sl (rowsF cHeader l), .sc (.int .i64 n), .sl (rowsF cPeer q), .sc (.int .i64 m), .sc (.int .i64 now), .sc (.bool hs)])] (h := ?_)
          refine W.drawB hΓ 7 [[], [], [1], [1, 2], [], [4], [4, 5], [0, 1, 2, 3, 4, 5, 6], [0, 1, 2, 3, 4, 5, 6, 7]] (Es := ?Es21) (rest := ?rest21) (st1 := ?st121) ?_
          refine WL.opDkA (has_of Tryz.func104 rfl rfl) one_s ((L, ((p, s), st, ((h1, h2, h3, h4, h5, h6), v), (l, n), (q, m), now), hs), w0, a) hx (h := ?_)
          refine zL ?_
          refine zE ?_
          refine zR ?_
          refine At.retDkA (by rw [Tryz.results48]) hB (hc := ?_) (he := ?_) 
          · rw [hL.out] <;> rfl
          · rw [hL.out] <;> rfl
        | [a, c], h0 =>
          clear h0 hml0
          have hN : numD (L, ((p, s), st, ((h1, h2, h3, h4, h5, h6), v), (l, n), (q, m), now), hs) w0 [a, c] = twoD (L, ((p, s), st, ((h1, h2, h3, h4, h5, h6), v), (l, n), (q, m), now), hs) w0 a c := rfl
          rw [hN] at hL
          have ha0 : (rowsF cInt [a, c])[0]? = some [.sc (.int .i64 a)] := rfl
          have ha1 : (rowsF cInt [a, c])[1]? = some [.sc (.int .i64 c)] := rfl
          replace hL := Lib.hid hL
          generalize rowsF cInt [a, c] = RM at *
          refine zR ?_
          refine W.frzA 7 44 (h := ?_)
          refine W.subA [.slot 0 (one (.ptr 999 0)), .slot 1 (one (.sl R)), .slot 7 (one (.sl RM)), .blk 999 (.box [.sl (bkRows L), .sc (.int .i64 p), .sc (.int .i64 s), .sc (.int .i64 st), .sc (.int .i64 h1), .sc (.int .i64 h2), .sc (.string h3), .sc (.string h4), .sc (.string h5), .sc (.string h6), .sl (rowsF cVal v), .sl (rowsF cHeader l), .sc (.int .i64 n), .sl (rowsF cPeer q), .sc (.int .i64 m), .sc (.int .i64 now), .sc (.bool hs)])] (h := ?_)
          refine W.drawB hΓ 10 [[], [], [1], [1, 2], [], [4], [4, 5], [], [7], [7, 8], [0, 1, 2, 3, 4, 5, 6, 7, 8, 9], [0, 1, 2, 3, 4, 5, 6, 7, 8, 9, 10]] (Es := ?Es26) (rest := ?rest26) (st1 := ?st126) ?_
          refine WL.opDkA (has_of Tryz.func105 rfl rfl) two_s ((L, ((p, s), st, ((h1, h2, h3, h4, h5, h6), v), (l, n), (q, m), now), hs), w0, a, c) hx (h := ?_)
          refine zL ?_
          refine zE ?_
          refine zR ?_
          refine At.retDkA (by rw [Tryz.results48]) hB (hc := ?_) (he := ?_) 
          · rw [hL.out] <;> rfl
          · rw [hL.out] <;> rfl
        | a :: c :: e :: M', h0 =>
          clear h0 hml0
          have hN : numD (L, ((p, s), st, ((h1, h2, h3, h4, h5, h6), v), (l, n), (q, m), now), hs) w0 (a :: c :: e :: M') = ((L, ((p, s), st, ((h1, h2, h3, h4, h5, h6), v), (l, n), (q, m), now), hs), whatW) := rfl
          rw [hN] at hL
          have k0 : decide (((rowsF cInt (a :: c :: e :: M')).length : Int) = 0) = false := decide_eq_false (by rw [hml]; simp only [List.length_cons]; omega)
          have k1 : decide (((rowsF cInt (a :: c :: e :: M')).length : Int) = 1) = false := decide_eq_false (by rw [hml]; simp only [List.length_cons]; omega)
          have k2 : decide (((rowsF cInt (a :: c :: e :: M')).length : Int) = 2) = false := decide_eq_false (by rw [hml]; simp only [List.length_cons]; omega)
          clear hml
          generalize rowsF cInt (a :: c :: e :: M') = RM at *
          replace hL := Lib.hid hL
          refine zR ?_
          refine At.retDkA (by rw [Tryz.results48]) hB (hc := ?_) (he := ?_) 
          · rw [hL.out] <;> rfl
          · rw [hL.out] <;> rfl
end Go.Proofs.YtfgkfcfplodaoaaGreatDoor

end
