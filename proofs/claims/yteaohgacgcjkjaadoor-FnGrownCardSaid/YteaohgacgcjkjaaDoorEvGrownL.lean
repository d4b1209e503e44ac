/-
  The law FnGrown.
-/
import Derived.Test.YteaohgacgcjkjaaDoorEvGrownD
import Derived.Test.YteaohgacgcjkjaaDoorEvGrownS
import Derived.Test.YteaohgacgcjkjaaDoorEvGrownM
import Derived.Test.YteaohgacgcjkjaaDoorEvGrown
namespace Go.Proofs.YteaohgacgcjkjaaDoor
set_option maxRecDepth 100000
set_option linter.unusedVariables false
set_option linter.unusedSimpArgs false
open Go Go.RowKit
set_option maxHeartbeats 4000000

theorem grown_yes {l : List ByteArray} {m : Nat} (h1 : 1 ≤ m) (h2 : m ≤ l.length) (h40 : l.length ≤ 40) : grownB (tree (l.take m)) m (tree l) l.length (oldL l m) = true := by
  have hp := oldL_yes (l := l) (m := m) ⟨h40, by omega, by omega⟩
  obtain ⟨u1, u2⟩ := up_parts l.length m l rfl h1 h2 (by omega)
  rw [hp]
  unfold grownB
  rw [oldR_yes ⟨⟨h1, h2⟩, h40⟩, u1, tree_root (by omega) h40, tree_root (l := l.take m) (by rw [List.length_take]; omega) (by rw [List.length_take]; omega)]
  simp [fixR]
noncomputable def mOlI := mdl (fun x => okT x.1) encP rOi
theorem mOlI_yes (l : List ByteArray) (m : Int) (h : okT l) (hp : pathOk l m) : mOlI [aL cStr l, aI m] = some (rL 9 1 cStr (oldL l m)) := by
  have := mdl_eq (ok := fun x : List ByteArray × Int => okT x.1) (g := rOi) encP_inj (l, m) h
  unfold mOlI
  rw [this]
  simp [rOi, hp]
theorem lawFnGrown_s : Sound Tryd.prog 3 (mdl (fun bs : List Nat => bs.length ≤ 9223372036854775807 ∧ ∀ n ∈ bs, n < 256) (fun bs => [aL cU8 bs]) fun _ => rB true) := by
  refine Sound.mdl Tryd.func3 rfl Tryd.ntmps3 ?_
  rintro bs w ⟨hlen, hbs⟩
  refine ⟨by simp, ?_⟩
  have hΓ : GSound Tryd.prog (look [(5, mBig), (6, mAt), (10, mEqSS), (7, mTree), (11, mOlP), (8, mOlI), (12, mGrown), (9, mGrown), (16, mMuch), (15, mMuch)]) := env_cons (has_of Tryd.func5 rfl rfl) big_s (env_cons (has_of Tryd.func6 rfl rfl) at_s (env_cons (has_of Tryd.func10 rfl rfl) sameT_s (env_cons (has_of Tryd.func7 rfl rfl) treeS_s (env_cons (has_of Tryd.func11 rfl rfl) oldPathS_s (env_cons (has_of Tryd.func8 rfl rfl) oldPathI_s (env_cons (has_of Tryd.func12 rfl rfl) grownS_s (env_cons (has_of Tryd.func9 rfl rfl) grownI_s (env_cons (has_of Tryd.func16 rfl rfl) muchS_s (env_cons (has_of Tryd.func15 rfl rfl) muchI_s env_nil)))))))))
  have hDg : Has Tryd.prog 13 := has_of Tryd.func13 rfl rfl
  have hDm : Has Tryd.prog 14 := has_of Tryd.func14 rfl rfl
  have cb := mBig_eq bs hlen
  obtain ⟨g, hg, hg2⟩ := wrap_u8_ex
  by_cases hbig : 1048576 < bs.length
  · rw [decide_eq_true hbig] at cb
    simp only [initS, argPV, List.map_cons, List.map_nil, toPL, Nat.zero_add]
    repeat (first | with_reducible apply W.seq | with_reducible apply W.block | with_reducible apply W.skip | with_reducible apply W.exit | with_reducible apply W.ret | with_reducible apply At.seqN | with_reducible apply At.blkN | with_reducible apply At.blkE | with_reducible apply At.blkR | with_reducible apply At.thenX | with_reducible apply At.thenR | with_reducible apply At.blkX rfl | ((with_reducible apply W.ops); (repeat (first | refine WL.opA hΓ (h := ?_) | refine WL.opX hΓ (h := ?_) | refine WL.opY (h := ?_) | refine WL.opZ (h := ?_))); with_reducible apply WL.nil) | refine W.condT (h := ?_) | refine W.condF (h := ?_))
    refine At.retA (by rw [Tryd.results3]) (he := rfl)
  · rw [decide_eq_false hbig] at cb
    have hcode : CodeOk bs := .le (by omega) hbs
    have hok : ∀ i : Int, 0 ≤ i → i ≤ 1000 → okAt (bs, i) := fun i h1 h2 => ⟨⟨hbs, by dsimp only; omega⟩, h1, h2⟩
    have hAt : ∀ i : Int, 0 ≤ i → i ≤ 1000 → mAt [aL cU8 bs, aI i] = some (rI (atC bs i)) ∧ 0 ≤ atC bs i ∧ atC bs i < 256 := fun i h1 h2 => ⟨mAt_eq bs i (hok i h1 h2), atC_range (hok i h1 h2)⟩
    obtain ⟨a0, a1, a2⟩ := hAt 0 (by decide) (by decide)
    have HA := Lib.hid hAt
    clear hbs hok hAt
    generalize atC bs 0 = A at a0 a1 a2
    have hnz : ((12 : Int) = 0) = False := by simp
    have t0 : 0 ≤ A.tmod 12 := Int.tmod_nonneg _ a1
    have t1 : A.tmod 12 < 12 := Int.tmod_lt_of_pos _ (by decide)
    have hnil : rowsF cStr [] = [] := rfl
    simp only [initS, argPV, List.map_cons, List.map_nil, toPL, Nat.zero_add]
    repeat (first | with_reducible apply W.seq | with_reducible apply W.block | with_reducible apply W.skip | with_reducible apply W.exit | with_reducible apply W.ret | with_reducible apply At.seqN | with_reducible apply At.blkN | with_reducible apply At.blkE | with_reducible apply At.blkR | with_reducible apply At.thenX | with_reducible apply At.thenR | with_reducible apply At.blkX rfl | ((with_reducible apply W.ops); (repeat (first | refine WL.opA hΓ (h := ?_) | refine WL.opX hΓ (h := ?_) | refine WL.opY (h := ?_) | refine WL.opZ (h := ?_))); with_reducible apply WL.nil) | refine W.condT (h := ?_) | refine W.condF (h := ?_))
    clear a0
    obtain ⟨n, hn⟩ : ∃ n : Nat, (n : Int) = 1 + A.tmod 12 := ⟨(1 + A.tmod 12).toNat, by omega⟩
    rw [← hn]
    have hn1 : 1 ≤ n := by omega
    have hn2 : n ≤ 12 := by omega
    clear hn t0 t1 a1 a2 hnz
    refine W.loopA (fun l : List ByteArray => l.length ≤ n ∧ ∀ x ∈ l, x.size ≤ 2) (fun l => [.slot 0 (vL cU8 bs), .slot 3 (one (.all 22)), .blk 22 (.arr true 9 1 (rowsF cStr l)), .slot 4 (vI n), .slot 5 (vI l.length)]) (fun l => n - l.length) [] ⟨by simp, by simp⟩ (h := ?_)
    rintro l ⟨hl, hsz⟩
    by_cases hlt : l.length < n
    · obtain ⟨c1, b1, b2⟩ := (id HA : ∀ i : Int, 0 ≤ i → i ≤ 1000 → mAt [aL cU8 bs, aI i] = some (rI (atC bs i)) ∧ 0 ≤ atC bs i ∧ atC bs i < 256) ((l.length : Int) + 1) (by omega) (by omega)
      generalize atC bs ((l.length : Int) + 1) = B at c1 b1 b2
      have hb : bytesE [[Leaf.sc (.int .u8 ((g B : Nat) : Int))], [Leaf.sc (.int .u8 ((g (l.length : Int) : Nat) : Int))]] = some [UInt8.ofNat (g B), UInt8.ofNat (g (l.length : Int))] := bytes_rows [g B, g (l.length : Int)]
      have e : rowsF cStr l ++ [[Leaf.sc (.string ⟨#[UInt8.ofNat (g B), UInt8.ofNat (g (l.length : Int))]⟩)]] = rowsF cStr (l ++ [bsS [g B, g (l.length : Int)]]) := cStr_appT l (bsS [g B, g (l.length : Int)])
      have hla : ((l ++ [bsS [g B, g (l.length : Int)]]).length : Int) = (l.length : Int) + 1 := by simp
      repeat (first | with_reducible apply W.seq | with_reducible apply W.block | with_reducible apply W.skip | with_reducible apply W.exit | with_reducible apply W.ret | with_reducible apply At.seqN | with_reducible apply At.blkN | with_reducible apply At.blkE | with_reducible apply At.blkR | with_reducible apply At.thenX | with_reducible apply At.thenR | with_reducible apply At.blkX rfl | ((with_reducible apply W.ops); (repeat (first | refine WL.opA hΓ (h := ?_) | refine WL.opX hΓ (h := ?_) | refine WL.opY (h := ?_) | refine WL.opZ (h := ?_))); with_reducible apply WL.nil) | refine W.condT (h := ?_) | refine W.condF (h := ?_))
      refine At.roundA (l ++ [bsS [g B, g (l.length : Int)]]) ⟨by simp; omega, fun x hx => ?_⟩ (by simp; omega)
      rcases List.mem_append.1 hx with h | h
      · exact hsz x h
      · rw [List.mem_singleton.1 h, bsS_size]
        simp
    · have hln : l.length = n := by omega
      subst hln
      have hokl : okT l := ⟨by omega, fun x hx => by have := hsz x hx; omega⟩
      have c2 := mTree_eq l hokl
      have hlen2 := rowsF_len cStr l
      clear hsz hl hlt hnil hg hg2
      repeat (first | with_reducible apply W.seq | with_reducible apply W.block | with_reducible apply W.skip | with_reducible apply W.exit | with_reducible apply W.ret | with_reducible apply At.seqN | with_reducible apply At.blkN | with_reducible apply At.blkE | with_reducible apply At.blkR | with_reducible apply At.thenX | with_reducible apply At.thenR | with_reducible apply At.blkX rfl | ((with_reducible apply W.ops); (repeat (first | refine WL.opA hΓ (h := ?_) | refine WL.opX hΓ (h := ?_) | refine WL.opY (h := ?_) | refine WL.opZ (h := ?_))); with_reducible apply WL.nil) | refine W.condT (h := ?_) | refine W.condF (h := ?_))
      clear c2
      refine W.frzA 3 22 (h := ?_)
      refine W.loopA (fun m : Nat => 1 ≤ m ∧ m ≤ l.length + 1) (fun m => [.slot 0 (vL cU8 bs), .slot 3 (vL cStr l), .slot 4 (vI l.length), .slot 6 (vS (tree l)), .slot 7 (vI m)]) (fun m => l.length + 1 - m) 1 ⟨Nat.le_refl _, by omega⟩ (h := ?_)
      rintro m ⟨hm1, hm2⟩
      by_cases hml : m ≤ l.length
      · have x0 := row_ex (l := l) (k := 0) (by omega)
        have hT := rowsF_take cStr l m
        have c3 := mOlI_yes l m hokl ⟨by omega, by omega, by omega⟩
        have c4 := mOlP_eq l m hokl
        have c5 := mTree_eq (l.take m) (hokl.take _)
        have hp0 : okP (oldL l m) := ⟨by have := oldL_le l m; omega, fun x hx => by have := oldL_sz l m x hx; omega⟩
        have c6 := mGrown_eq (tree (l.take m)) m (tree l) l.length (oldL l m) hp0
        rw [grown_yes hm1 hml (by omega)] at c6
        have c7 := mEqSS_eq (oldL l m) (oldL l m) (by have := hp0.1; omega) (by have := hp0.1; omega)
        have e1 : decide (oldL l m = oldL l m) = true := by simp
        rw [e1] at c7
        obtain ⟨c8, b1, b2⟩ := (id HA : ∀ i : Int, 0 ≤ i → i ≤ 1000 → mAt [aL cU8 bs, aI i] = some (rI (atC bs i)) ∧ 0 ≤ atC bs i ∧ atC bs i < 256) (m : Int) (by omega) (by omega)
        generalize atC bs (m : Int) = B at c8 b1 b2
        have hnz : ((m : Int) = 0) = False := by simp; omega
        have t0 : 0 ≤ B.tmod m := Int.tmod_nonneg _ b1
        have t1 : B.tmod m < m := Int.tmod_lt_of_pos _ (by omega)
        have hoka : okT (l.set (B.tmod m).toNat ⟨#[101, 108, 115, 101]⟩) := ⟨by simp; omega, fun x hx => by
          rcases List.mem_or_eq_of_mem_set hx with h | h
          · exact hokl.2 x h
          · rw [h]; decide⟩
        have hset : (rowsF cStr l).set (B.tmod m).toNat [Leaf.sc (.string ⟨#[101, 108, 115, 101]⟩)] = rowsF cStr (l.set (B.tmod m).toNat ⟨#[101, 108, 115, 101]⟩) := rowsF_set cStr l (B.tmod m).toNat ⟨#[101, 108, 115, 101]⟩
        have hlt : (B.tmod m).toNat < l.length := by omega
        have hrow : (rowsF cStr l)[(B.tmod m).toNat]? = some [.sc (.string l[(B.tmod m).toNat])] := rowsF_get cStr l _ hlt
        generalize l[(B.tmod m).toNat] = z at hrow
        have hwid := rowsF_wid (f := cStr) (s := 1) (fun _ => rfl) l
        have c9 := mGrown_eq (tree (l.take m)) m (tree (l.set (B.tmod m).toNat ⟨#[101, 108, 115, 101]⟩)) l.length (oldL l m) hp0
        have c10 := mGrown_eq (tree ((l.set (B.tmod m).toNat ⟨#[101, 108, 115, 101]⟩).take m)) m (tree l) l.length (oldL l m) hp0
        have c11 := mTree_eq _ hoka
        have c12 := mTree_eq _ (hoka.take m)
        have hT2 := rowsF_take cStr (l.set (B.tmod m).toNat ⟨#[101, 108, 115, 101]⟩) m
        have x1 := row_ex (l := l.set (B.tmod m).toNat ⟨#[101, 108, 115, 101]⟩) (k := 0) (by simp; omega)
        have hlen3 : (l.set (B.tmod m).toNat ⟨#[101, 108, 115, 101]⟩).length = l.length := by simp
        have hlen4 := rowsF_len cStr (l.set (B.tmod m).toNat ⟨#[101, 108, 115, 101]⟩)
        clear hp0 e1 hokl hoka hlt
        generalize oldL l m = p0 at c3 c4 c6 c7 c9 c10
        generalize tree (l.take m) = T1 at c5 c6 c9
        generalize tree l = T0 at *
        generalize l.set (B.tmod m).toNat ⟨#[101, 108, 115, 101]⟩ = L2 at *
        generalize tree L2 = T2 at c9 c11
        generalize tree (L2.take m) = T3 at c10 c12
        generalize grownB T1 m T2 l.length p0 = b9 at c9
        generalize grownB T3 m T0 l.length p0 = b10 at c10
        have e9 : (b9 == b9) = true := by simp
        have e10 : (b10 == b10) = true := by simp
        repeat (first | with_reducible apply W.seq | with_reducible apply W.block | with_reducible apply W.skip | with_reducible apply W.exit | with_reducible apply W.ret | with_reducible apply At.seqN | with_reducible apply At.blkN | with_reducible apply At.blkE | with_reducible apply At.blkR | with_reducible apply At.thenX | with_reducible apply At.thenR | with_reducible apply At.blkX rfl | ((with_reducible apply W.ops); (repeat (first | refine WL.opA hΓ (h := ?_) | refine WL.opX hΓ (h := ?_) | refine WL.opY (h := ?_) | refine WL.opZ (h := ?_))); with_reducible apply WL.nil) | refine W.condT (h := ?_) | refine W.condF (h := ?_))
        refine W.frzA 10 73 (h := ?_)
        repeat (first | with_reducible apply W.seq | with_reducible apply W.block | with_reducible apply W.skip | with_reducible apply W.exit | with_reducible apply W.ret | with_reducible apply At.seqN | with_reducible apply At.blkN | with_reducible apply At.blkE | with_reducible apply At.blkR | with_reducible apply At.thenX | with_reducible apply At.thenR | with_reducible apply At.blkX rfl | ((with_reducible apply W.ops); (repeat (first | refine WL.opA hΓ (h := ?_) | refine WL.opX hΓ (h := ?_) | refine WL.opY (h := ?_) | refine WL.opZ (h := ?_))); with_reducible apply WL.nil) | refine W.condT (h := ?_) | refine W.condF (h := ?_))
        exact At.roundA (m + 1) ⟨by omega, by omega⟩ (by omega)
      · have hmu := mMuch_eq l l (by omega) (by omega)
        rw [lcp_self] at hmu
        have c0 := hcode
        clear hokl hcode hm1 hm2
        repeat (first | with_reducible apply W.seq | with_reducible apply W.block | with_reducible apply W.skip | with_reducible apply W.exit | with_reducible apply W.ret | with_reducible apply At.seqN | with_reducible apply At.blkN | with_reducible apply At.blkE | with_reducible apply At.blkR | with_reducible apply At.thenX | with_reducible apply At.thenR | with_reducible apply At.blkX rfl | ((with_reducible apply W.ops); (repeat (first | refine WL.opA hΓ (h := ?_) | refine WL.opX hΓ (h := ?_) | refine WL.opY (h := ?_) | refine WL.opZ (h := ?_))); with_reducible apply WL.nil) | refine W.condT (h := ?_) | refine W.condF (h := ?_))
        with_reducible apply W.ops
        repeat (first | refine WL.opA hΓ (h := ?_) | refine WL.opX hΓ (h := ?_) | refine WL.opY (h := ?_) | refine WL.opZ (h := ?_))
        refine WL.opRA hDg DrawGrown_s bs c0 (h := ?_)
        rintro ⟨⟨xa, xm, xb⟩, xn, xp⟩ hxp
        replace hxp : okP xp := hxp
        have d1 := mGrown_eq xa xm xb xn xp hxp
        generalize grownB xa xm xb xn xp = xg at d1
        clear hxp
        (repeat (first | refine WL.opA hΓ (h := ?_) | refine WL.opX hΓ (h := ?_) | refine WL.opY (h := ?_) | refine WL.opZ (h := ?_)))
        with_reducible apply WL.nil
        repeat (first | with_reducible apply W.seq | with_reducible apply W.block | with_reducible apply W.skip | with_reducible apply W.exit | with_reducible apply W.ret | with_reducible apply At.seqN | with_reducible apply At.blkN | with_reducible apply At.blkE | with_reducible apply At.blkR | with_reducible apply At.thenX | with_reducible apply At.thenR | with_reducible apply At.blkX rfl | ((with_reducible apply W.ops); (repeat (first | refine WL.opA hΓ (h := ?_) | refine WL.opX hΓ (h := ?_) | refine WL.opY (h := ?_) | refine WL.opZ (h := ?_))); with_reducible apply WL.nil) | refine W.condT (h := ?_) | refine W.condF (h := ?_))
        with_reducible apply W.ops
        repeat (first | refine WL.opA hΓ (h := ?_) | refine WL.opX hΓ (h := ?_) | refine WL.opY (h := ?_) | refine WL.opZ (h := ?_))
        refine WL.opRA hDm DrawMuchAlike_s bs c0 (h := ?_)
        rintro ⟨ya, yb⟩ ⟨hy1, hy2⟩
        replace hy1 : ya.length ≤ 41 := hy1
        replace hy2 : yb.length ≤ 41 := hy2
        have d2 := mMuch_eq ya yb (by omega) (by omega)
        generalize lcp ya yb = yl at d2
        have e9 : (xg == xg) = true := by simp
        have e10 : decide ((yl : Int) = (yl : Int)) = true := by simp
        clear c0
        (repeat (first | refine WL.opA hΓ (h := ?_) | refine WL.opX hΓ (h := ?_) | refine WL.opY (h := ?_) | refine WL.opZ (h := ?_)))
        with_reducible apply WL.nil
        repeat (first | with_reducible apply W.seq | with_reducible apply W.block | with_reducible apply W.skip | with_reducible apply W.exit | with_reducible apply W.ret | with_reducible apply At.seqN | with_reducible apply At.blkN | with_reducible apply At.blkE | with_reducible apply At.blkR | with_reducible apply At.thenX | with_reducible apply At.thenR | with_reducible apply At.blkX rfl | ((with_reducible apply W.ops); (repeat (first | refine WL.opA hΓ (h := ?_) | refine WL.opX hΓ (h := ?_) | refine WL.opY (h := ?_) | refine WL.opZ (h := ?_))); with_reducible apply WL.nil) | refine W.condT (h := ?_) | refine W.condF (h := ?_))
        refine At.retA (by rw [Tryd.results3]) (he := rfl)
end Go.Proofs.YteaohgacgcjkjaaDoor
