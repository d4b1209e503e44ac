
import Derived.Test.YtfgkfcfplodaoaaGreatDoorG49
set_option linter.unusedSimpArgs false
set_option linter.unusedVariables false
set_option maxRecDepth 100000
namespace Go.Proofs.YtfgkfcfplodaoaaGreatDoor
open Go Go.RowKit
set_option maxHeartbeats 16000000
def wkA : ByteArray := { data := #[99, 104, 97, 105, 110, 32] }
def wkB : ByteArray := bsS [32, 51, 10, 115, 116, 97, 114, 116, 32, 49, 48, 48, 32, 50, 48, 10, 112, 101, 101, 114, 32, 49, 10, 112, 101, 101, 114, 32, 50, 10, 108, 105, 101, 32, 50, 32, 50, 10, 102, 101, 101, 100, 32, 50, 32, 50, 10, 98, 97, 110, 110, 101, 100, 10, 102, 101, 101, 100, 32, 49, 32, 50, 10, 102, 101, 101, 100, 32, 49, 32, 51, 10, 116, 105, 112, 10, 116, 105, 99, 107, 32, 49, 48, 48, 48, 10, 102, 101, 101, 100, 32, 49, 32, 50, 10]
def wkC : ByteArray := bsS [51, 10, 111, 107, 10, 111, 107, 10, 111, 107, 10, 57, 10, 49, 10, 50, 10, 48, 10, 48, 10, 51, 32]
def wkD : ByteArray := bsS [10, 101, 120, 112, 105, 114, 101, 100, 10, 49, 10]
theorem wk_text (n : Nat) : wkA ++ bsS [n] ++ wkB = bsS (scriptL n) := by
  have e : wkA = bsS [99, 104, 97, 105, 110, 32] := rfl
  unfold wkB
  rw [e, bsS_app, bsS_app]
  rfl
theorem lawFnDeskWorks_s : Sound Tryz.prog 3 (mdl (fun bs : List Nat => bs.length ≤ 9223372036854775807 ∧ ∀ n ∈ bs, n < 256) (fun bs => [aL cU8 bs]) fun _ => rB true) := by
  refine Sound.mdl Tryz.func3 rfl Tryz.ntmps3 ?_
  rintro bs w ⟨hlen, hbs⟩
  refine ⟨by simp, ?_⟩
  have hΓ : GSound Tryz.prog (look [(8, mBig), (9, mAt), (10, mChain), (11, mDeskI), (13, mHeadId), (12, mHex)]) := env_cons (has_of Tryz.func8 rfl rfl) big_s (env_cons (has_of Tryz.func9 rfl rfl) at_s (env_cons (has_of Tryz.func10 rfl rfl) chain_s (env_cons (has_of Tryz.func11 rfl rfl) deskI_s (env_cons (has_of Tryz.func13 rfl rfl) headIdS_s (env_cons (has_of Tryz.func12 rfl rfl) hexS_s env_nil)))))
  have cb := mBig_eq bs hlen
  by_cases hbig : 1048576 < bs.length
  · rw [decide_eq_true hbig] at cb
    simp only [initS, argPV, List.map_cons, List.map_nil, toPL, Nat.zero_add]
    refine zR ?_
    refine At.retA (by rw [Tryz.results3]) (he := rfl)
  · rw [decide_eq_false hbig] at cb
    have hcode : CodeOk bs := .le (by omega) hbs
    have hok0 : okAt (bs, 0) := ⟨⟨hbs, show bs.length ≤ _ by omega⟩, (by show (0 : Int) ≤ 0; decide), (by show (0 : Int) ≤ 1000; decide)⟩
    have ca0 := mAt_eq bs 0 hok0
    have r0 := atC_range hok0
    clear hlen hbs hok0 hcode
    generalize atC bs 0 = x0 at *
    have hm := tmod_in (a := x0) (m := 26) r0.1 (by decide)
    obtain ⟨n, hn⟩ : ∃ n : Nat, 97 + x0.tmod 26 = (n : Int) := ⟨(97 + x0.tmod 26).toNat, by omega⟩
    have hn1 : 97 ≤ n := by omega
    have hn2 : n ≤ 122 := by omega
    have hwr : IntKind.u8.wrap (n : Int) = (n : Int) := by
      unfold IntKind.wrap
      simp [IntKind.signed, IntKind.bits]
      omega
    have hw64 : IntKind.i64.wrap (n : Int) = (n : Int) := by
      unfold IntKind.wrap
      simp [IntKind.signed, IntKind.bits]
      omega
    have hby : bytesE [[Leaf.sc (.int .u8 (n : Int))]] = some [UInt8.ofNat n] := bytes_rows [n]
    have hbS : (⟨([UInt8.ofNat n]).toArray⟩ : ByteArray) = bsS [n] := rfl
    have hss : (bsS [n]).size ≤ 1 := Nat.le_refl _
    have cc := mChain_eq (bsS [n]) 3 (by omega)
    rw [cn3] at cc
    have h2 := cnL_get (bsS [n]) (n := 3) (k := 2) (by decide)
    have hrow : (bkRows (cnL (bsS [n]) 3))[2]? = some (bkRow (cnB (bsS [n]) 2)) := by
      unfold bkRows
      rw [List.getElem?_map, h2]
      rfl
    have hL3 : (bkRows (cnL (bsS [n]) 3)).length = 3 := by rw [bkRows_len, cnL_len]
    have hT := wk_text n
    have hW := desk_works hn1 hn2
    have hTs : (wkA ++ bsS [n]).size ≤ 7 := app_size (m := 6) (n := 1) (Nat.le_refl _) hss (by decide)
    have hTS : (bsS (scriptL n)).size ≤ 102 := by rw [bsS_size]; exact Nat.le_refl _
    have cd := mDeskI_eq (bsS (scriptL n)) (by omega)
    rw [hW] at cd
    have hCs : wkC.size ≤ 23 := by unfold wkC; rw [bsS_size]; decide
    have hDs : wkD.size ≤ 11 := by unfold wkD; rw [bsS_size]; decide
    have hBs : wkB.size ≤ 120 := by unfold wkB; rw [bsS_size]; decide
    have hAs : wkA.size ≤ 6 := Nat.le_refl _
    have eC : bsS [51, 10, 111, 107, 10, 111, 107, 10, 111, 107, 10, 57, 10, 49, 10, 50, 10, 48, 10, 48, 10, 51, 32] = wkC := rfl
    have eD : bsS [10, 101, 120, 112, 105, 114, 101, 100, 10, 49, 10] = wkD := rfl
    rw [eC, eD] at cd
    clear hW h2 eC eD hm r0
    generalize cnL (bsS [n]) 3 = L at *
    have hz := headId_size (cnB (bsS [n]) 2).1
    have c2 := mHeadId_eq (cnB (bsS [n]) 2).1
    have c3 := mHex_eq (headId (cnB (bsS [n]) 2).1) (by omega)
    have hX : (hexS (headId (cnB (bsS [n]) 2).1)).size ≤ 16 := by rw [hexS_size]; omega
    generalize cnB (bsS [n]) 2 = B at *
    obtain ⟨⟨a1, a2, a3, a4, a5, a6⟩, a7, a8, ⟨a9, a10, a11, a12⟩⟩ := B
    dsimp only [bkRow] at hrow
    dsimp only [rBN] at cc
    dsimp only [aHd] at c2
    dsimp only at c3 hz hX cd
    generalize headId (a1, a2, a3, a4, a5, a6) = I at *
    generalize hexS I = X at *
    have hCX : (wkC ++ X).size ≤ 39 := app_size hCs hX (by decide)
    generalize scriptL n = S at *
    generalize bsS [n] = s at *
    generalize bsS S = T at *
    have wA : (⟨#[99, 104, 97, 105, 110, 32]⟩ : ByteArray) = wkA := rfl
    have wB : ({ data := (List.append ([32, 51, 10, 115, 116, 97, 114, 116, 32, 49, 48, 48, 32, 50, 48, 10, 112, 101, 101, 114, 32, 49, 10, 112, 101, 101, 114, 32, 50, 10, 108, 105, 101, 32, 50, 32, 50, 10, 102, 101, 101, 100, 32, 50, 32, 50, 10] : List UInt8) ([98, 97, 110, 110, 101, 100, 10, 102, 101, 101, 100, 32, 49, 32, 50, 10, 102, 101, 101, 100, 32, 49, 32, 51, 10, 116, 105, 112, 10, 116, 105, 99, 107, 32, 49, 48, 48, 48, 10, 102, 101, 101, 100, 32, 49, 32, 50, 10] : List UInt8)).toArray } : ByteArray) = wkB := rfl
    have wC : (⟨#[51, 10, 111, 107, 10, 111, 107, 10, 111, 107, 10, 57, 10, 49, 10, 50, 10, 48, 10, 48, 10, 51, 32]⟩ : ByteArray) = wkC := rfl
    have wD : (⟨#[10, 101, 120, 112, 105, 114, 101, 100, 10, 49, 10]⟩ : ByteArray) = wkD := rfl
    generalize wkA = WA at *
    generalize wkB = WB at *
    generalize wkC = WC at *
    generalize wkD = WD at *
    clear hn1 hn2
    simp only [initS, argPV, List.map_cons, List.map_nil, toPL, Nat.zero_add]
    refine zR ?_
    refine W.frzA 4 16 (h := ?_)
    refine zR ?_
    refine At.retA (by rw [Tryz.results3]) (he := rfl)
end Go.Proofs.YtfgkfcfplodaoaaGreatDoor
