/-
  Put together: PEvLie PEvNums PEvSplitP.
-/
import Derived.Test.YtfgkfcfplodaoaaGreatDoorG40
set_option linter.unusedSimpArgs false
set_option linter.unusedVariables false
set_option maxRecDepth 100000
section
namespace Go.Proofs.YtfgkfcfplodaoaaGreatDoor
open Go Go.RowKit
set_option maxHeartbeats 4000000
def LieOk (x : Nat) : Prop := ∀ (da : ByteArray), da = { data := #[108, 105, 101] } → ¬ headId ((cnB (bsS [x]) 1).1.1, (cnB (bsS [x]) 1).1.2.1, (cnB (bsS [x]) 1).1.2.2.1, (cnB (bsS [x]) 1).1.2.2.2.1, (cnB (bsS [x]) 1).1.2.2.2.2.1, da) = headId (cnB (bsS [x]) 1).1
def ok55 (l : List Nat) : Bool := decide (l.length ≤ 55) && l.all fun x => decide (x < 256)
theorem ok55_at {l : List Nat} (h : ok55 l = true) : l.length ≤ 55 ∧ ∀ x ∈ l, x < 256 := by
  unfold ok55 at h
  rw [Bool.and_eq_true] at h
  exact ⟨of_decide_eq_true h.1, fun x hx => of_decide_eq_true (List.all_eq_true.1 h.2 x hx)⟩
theorem vals0_four (b : ByteArray) : vals0 b 4 = [(1, 1 + (bytZ b 0).tmod 5), (2, 1 + (bytZ b 1).tmod 5), (3, 1 + (bytZ b 2).tmod 5), (4, 1 + (bytZ b 3).tmod 5)] := rfl
theorem nx_of {s : ByteArray} {k : Nat} {st : TChS} {v n : List TVal} {b4 b5 : Int} (w : cnVals s k st = v) (y4 : bytZ (shaH s (k + 1)) 4 = b4) (y5 : bytZ (shaH s (k + 1)) 5 = b5) (c : (chV v (1 + b4.tmod 6, b5.tmod 4)).1 = n) : cnNext s k st = n := by
  unfold cnNext
  rw [w, y4, y5]
  exact c
theorem hd_of {s : ByteArray} {k : Nat} {st : TChS} {v n : List TVal} {V N : ByteArray} {b6 b7 : Int} {D : List Nat} {h t : Int} {la : ByteArray} (w : cnVals s k st = v) (x : cnNext s k st = n) (z1 : vhash v = V) (z2 : vhash n = N) (y6 : bytZ (shaH s (k + 1)) 6 = b6) (y7 : bytZ (shaH s (k + 1)) 7 = b7) (d : decZ b7 = D)
    (hh : ((k + 1 : Nat) : Int) = h) (ht : st.2.1 + 1 + b6.tmod 5 = t) (hl : st.2.2 = la) : cnHead s k st = (h, t, la, V, N, bsS D) := by
  unfold cnHead
  rw [w, x, z1, z2, y6, y7, d, hh, ht, hl]
theorem s_one {s : ByteArray} : cnS s 1 = (cnNext s 0 (cnS s 0), (cnHead s 0 (cnS s 0)).2.1, headId (cnHead s 0 (cnS s 0))) := rfl
theorem lie_of (x X1 X2 V1 N1 N2 I1 I2 I3 : Nat) (v1 n1 n2 : List TVal) (t1 t2 : Nat) (D1 D2 : List Nat) (hx : x < 256)
    (H : (hash1 [x, 49] = X1 ∧ hash1 [x, 50] = X2) ∧ ([((1 : Int), 1 + (bX X1 0).tmod 5), (2, 1 + (bX X1 1).tmod 5), (3, 1 + (bX X1 2).tmod 5), (4, 1 + (bX X1 3).tmod 5)] = v1) ∧ ((chV v1 (1 + (bX X1 4).tmod 6, (bX X1 5).tmod 4)).1 = n1 ∧ (chV n1 (1 + (bX X2 4).tmod 6, (bX X2 5).tmod 4)).1 = n2) ∧ (smallV v1 = true ∧ smallV n1 = true ∧ smallV n2 = true ∧ hash1 (showVL v1) = V1 ∧ hash1 (showVL n1) = N1 ∧ hash1 (showVL n2) = N2) ∧ ((0 : Int) + 1 + (bX X1 6).tmod 5 = (t1 : Int) ∧ (t1 : Int) + 1 + (bX X2 6).tmod 5 = (t2 : Int) ∧ t1 < 128 ∧ t2 < 128 ∧ decZ (bX X1 7) = D1 ∧ decZ (bX X2 7) = D2) ∧ (ok55 (hdL 1 t1 [] (fixB 8 V1) (fixB 8 N1) D1) = true ∧ ok55 (hdL 2 t2 (fixB 8 I1) (fixB 8 N1) (fixB 8 N2) D2) = true ∧ ok55 (hdL 2 t2 (fixB 8 I1) (fixB 8 N1) (fixB 8 N2) [108, 105, 101]) = true) ∧ (hash1 (hdL 1 t1 [] (fixB 8 V1) (fixB 8 N1) D1) = I1 ∧ hash1 (hdL 2 t2 (fixB 8 I1) (fixB 8 N1) (fixB 8 N2) D2) = I2 ∧ hash1 (hdL 2 t2 (fixB 8 I1) (fixB 8 N1) (fixB 8 N2) [108, 105, 101]) = I3 ∧ ¬ fixB 8 I3 = fixB 8 I2)) : LieOk x := by
  obtain ⟨h1, e1, c1, m1, q1, o1, i1⟩ := H
  intro da hda
  obtain ⟨h1, h2⟩ := h1
  obtain ⟨c1, c2⟩ := c1
  obtain ⟨m1, m2, m3, g1, g2, g3⟩ := m1
  obtain ⟨q1, q2, q3, q4, d1, d2⟩ := q1
  obtain ⟨o1, o2, o3⟩ := o1
  obtain ⟨i1, i2, i3, hne⟩ := i1
  obtain ⟨o1, o1'⟩ := ok55_at o1
  obtain ⟨o2, o2'⟩ := ok55_at o2
  obtain ⟨o3, o3'⟩ := ok55_at o3
  generalize hs : bsS [x] = s
  have k1 : decZ ((0 + 1 : Nat) : Int) = [49] := by decide
  have k2 : decZ ((1 + 1 : Nat) : Int) = [50] := by decide
  have l1 : ∀ y ∈ [x, 49], y < 256 := fun y hy => by simp at hy; omega
  have l2 : ∀ y ∈ [x, 50], y < 256 := fun y hy => by simp at hy; omega
  have s1 : shaH s (0 + 1) = shaS (bsS [x, 49]) := by
    unfold shaH
    rw [k1, ← hs, bsS_app]
    rfl
  have s2 : shaH s (1 + 1) = shaS (bsS [x, 50]) := by
    unfold shaH
    rw [k2, ← hs, bsS_app]
    rfl
  have y1 : ∀ k, k < 8 → bytZ (shaH s (0 + 1)) k = bX X1 k := fun k hk => by
    rw [s1]
    exact sha_byte (l := [x, 49]) (show 2 ≤ 55 by omega) l1 h1 hk
  have y2 : ∀ k, k < 8 → bytZ (shaH s (1 + 1)) k = bX X2 k := fun k hk => by
    rw [s2]
    exact sha_byte (l := [x, 50]) (show 2 ≤ 55 by omega) l2 h2 hk
  clear h1 h2 s1 s2 hs
  generalize bX X1 = B1 at *
  generalize bX X2 = B2 at *
  have hc0 := cnS_ok s 0 (by decide)
  have hc1 := cnS_ok s 1 (by decide)
  have w1 : cnVals s 0 (cnS s 0) = v1 := by
    unfold cnVals
    rw [if_pos rfl]
    show vals0 (shaH s (0 + 1)) 4 = v1
    rw [vals0_four, y1 0 (by decide), y1 1 (by decide), y1 2 (by decide), y1 3 (by decide)]
    exact e1
  have w2 : cnNext s 0 (cnS s 0) = n1 := nx_of w1 (y1 4 (by decide)) (y1 5 (by decide)) c1
  have w3 : cnVals s 1 (cnS s 1) = n1 := by
    unfold cnVals
    rw [if_neg (by decide)]
    exact w2
  have w4 : cnNext s 1 (cnS s 1) = n2 := nx_of w3 (y2 4 (by decide)) (y2 5 (by decide)) c2
  have vo1 := hc0.vals
  have vo2 := hc0.next
  have vo3 := hc1.next
  rw [w1] at vo1
  rw [w2] at vo2
  rw [w4] at vo3
  have z1 := vhash_eq vo1 m1 g1
  have z2 := vhash_eq vo2 m2 g2
  have z3 := vhash_eq vo3 m3 g3
  have a1 : cnHead s 0 (cnS s 0) = (((1 : Nat) : Int), (t1 : Int), bsS [], bsS (fixB 8 V1), bsS (fixB 8 N1), bsS D1) := hd_of w1 w2 z1 z2 (y1 6 (by decide)) (y1 7 (by decide)) d1 rfl q1 rfl
  have b1 := hc0.head (by decide)
  rw [a1] at b1
  have r1 := headId_eq b1 (by decide) q3 o1 o1' i1
  have e2 : cnS s 1 = (n1, (t1 : Int), bsS (fixB 8 I1)) := by
    rw [s_one, w2, a1, r1]
  have a2 : cnHead s 1 (cnS s 1) = (((2 : Nat) : Int), (t2 : Int), bsS (fixB 8 I1), bsS (fixB 8 N1), bsS (fixB 8 N2), bsS D2) := hd_of w3 w4 z2 z3 (y2 6 (by decide)) (y2 7 (by decide)) d2 rfl (by rw [e2]; exact q2) (by rw [e2])
  have b2 := hc1.head (by decide)
  rw [a2] at b2
  have r2 := headId_eq b2 (by decide) q4 o2 o2' i2
  have hl : da = bsS [108, 105, 101] := hda
  have b3 : headOk (((2 : Nat) : Int), (t2 : Int), bsS (fixB 8 I1), bsS (fixB 8 N1), bsS (fixB 8 N2), bsS [108, 105, 101]) := ⟨b2.1, b2.2.1, b2.2.2.1, b2.2.2.2.1, b2.2.2.2.2.1, by
    show ((bsS [108, 105, 101]).size : Int) ≤ 20
    rw [bsS_size]
    decide⟩
  have r3 := headId_eq b3 (by decide) q4 o3 o3' i3
  show ¬ headId ((cnHead s 1 (cnS s 1)).1, (cnHead s 1 (cnS s 1)).2.1, (cnHead s 1 (cnS s 1)).2.2.1, (cnHead s 1 (cnS s 1)).2.2.2.1, (cnHead s 1 (cnS s 1)).2.2.2.2.1, da) = headId (cnHead s 1 (cnS s 1))
  rw [a2, hl, r2, r3]
  intro h
  exact hne (bsS_ext (fixB_lt _ _) (fixB_lt _ _) h)
theorem lie_97 : LieOk 97 := lie_of 97 17681116122850800480 3186932571232563205 11675446850787123032 7056369493545741473 7056369493545741473 12257682361508364337 10111083670750026040 9646502731160878560 [(1, 1), (2, 1), (3, 2), (4, 2)] [(2, 1), (3, 2), (4, 2)] [(2, 1), (3, 2), (4, 2)] 2 5 [57, 54] [53] (by decide) (by decide +kernel)
theorem lie_98 : LieOk 98 := lie_of 98 9063898283772224485 5194015004204763663 3300362639360717435 14270623456522098835 8284016292098062592 10611423379409112925 3090514294542150180 1381468248835614275 [(1, 1), (2, 2), (3, 2), (4, 5)] [(2, 2), (3, 2), (4, 5)] [(2, 2), (3, 2)] 1 5 [50, 50, 57] [49, 53] (by decide) (by decide +kernel)
theorem lie_99 : LieOk 99 := lie_of 99 15057277148313921755 11244008678122480989 11063527434692488741 14705321188436832659 6450597963779248523 17204050502430155674 9752574262750019584 9176395548555771628 [(1, 4), (2, 2), (3, 5), (4, 3)] [(1, 4), (2, 2), (3, 5), (4, 3), (6, 3)] [(1, 2), (2, 2), (3, 5), (4, 3), (6, 3)] 4 6 [50, 49, 57] [57, 51] (by decide) (by decide +kernel)
theorem lie_100 : LieOk 100 := lie_of 100 10039477529245159366 16683602681848338684 15055247986062953056 14120534357263877447 7738281796103789898 15785961608255079314 10523599261316148862 9459902428680401184 [(1, 5), (2, 4), (3, 5), (4, 5)] [(1, 5), (2, 4), (3, 5)] [(1, 5), (2, 4), (3, 5), (4, 3)] 4 9 [49, 57, 56] [50, 53, 50] (by decide) (by decide +kernel)
theorem lie_101 : LieOk 101 := lie_of 101 10042117733315542322 12398139023585926778 8378770516343598475 12255496325067720708 14107324688918995035 7476267579917759676 6984829541246532215 4660296585534507201 [(1, 5), (2, 3), (3, 2), (4, 4)] [(2, 3), (3, 2), (4, 4)] [(2, 3), (3, 3), (4, 4)] 1 6 [53, 48] [49, 50, 50] (by decide) (by decide +kernel)
theorem lie_102 : LieOk 102 := lie_of 102 4562793880384249212 16477349677320361385 15731141452638525789 6680699574567348680 10284166582798169912 12767313058518070446 1683052672939749378 11853623073361183699 [(1, 4), (2, 3), (3, 2), (4, 1)] [(1, 4), (2, 1), (3, 2), (4, 1)] [(1, 4), (2, 1), (3, 3), (4, 1)] 5 9 [49, 50, 52] [49, 54, 57] (by decide) (by decide +kernel)
theorem lie_103 : LieOk 103 := lie_of 103 8148191459314406272 5561746968649943270 12633276152329327101 8023901788540766196 17914382839667607583 2668898701743540261 3059989722121590060 4252974472743645220 [(1, 4), (2, 1), (3, 4), (4, 2)] [(1, 4), (2, 1), (3, 4), (4, 2), (5, 2)] [(1, 4), (2, 1), (4, 2), (5, 2)] 3 6 [49, 50, 56] [50, 51, 48] (by decide) (by decide +kernel)
theorem lie_104 : LieOk 104 := lie_of 104 3679773915764517315 17985404416573886398 9921691525269731255 5267296262901087246 17022401920292736760 5790100139121554602 8115729973877136491 15689843992712675966 [(1, 2), (2, 3), (3, 2), (4, 1)] [(2, 3), (3, 2), (4, 1)] [(3, 2), (4, 1)] 1 4 [49, 57, 53] [49, 57, 48] (by decide) (by decide +kernel)
theorem lie_105 : LieOk 105 := lie_of 105 5537658870601596648 4760250042100866880 624121398666373619 11749311255512368676 10604366403590114956 2821227205271242489 2138530751210631381 5034461746699901065 [(1, 2), (2, 3), (3, 4), (4, 4)] [(1, 2), (2, 3), (3, 4), (4, 3)] [(1, 2), (2, 3), (3, 4), (4, 3), (6, 1)] 1 5 [50, 51, 50] [54, 52] (by decide) (by decide +kernel)
theorem lie_106 : LieOk 106 := lie_of 106 586653667359631950 11860518290130823683 11063527434692488741 17760056451380311054 3581088578357496074 15470182566346262982 6046183680628375788 2076584188164371289 [(1, 4), (2, 2), (3, 5), (4, 3)] [(1, 4), (2, 2), (3, 5), (4, 2)] [(1, 4), (2, 2), (3, 5), (4, 2), (6, 1)] 1 3 [55, 56] [51] (by decide) (by decide +kernel)
theorem lie_107 : LieOk 107 := lie_of 107 7690443832738788232 98936718168600392 222326601479267168 17846559818684707524 16103489281360042678 10934124299154817506 5095004018837166898 4472234847115768085 [(1, 2), (2, 1), (3, 2), (4, 1)] [(1, 2), (2, 1), (3, 2), (4, 1), (6, 1)] [(1, 2), (2, 1), (3, 2), (4, 1), (6, 2)] 2 3 [49, 51, 54] [55, 50] (by decide) (by decide +kernel)
theorem lie_108 : LieOk 108 := lie_of 108 2883635093980882271 9952091249936351560 6015811895968266403 5467356160448030533 12178635711524922526 7492590853126322658 8635727074581976561 8757747298101663488 [(1, 1), (2, 5), (3, 2), (4, 5)] [(1, 1), (2, 5), (4, 5)] [(1, 2), (2, 5), (4, 5)] 1 5 [57, 53] [55, 50] (by decide) (by decide +kernel)
theorem lie_109 : LieOk 109 := lie_of 109 14559560116981548225 3008882331421385109 3026566015688761673 3465332781011918313 3465332781011918313 17471322513083813275 16416187204266715614 7405754406379920885 [(1, 3), (2, 4), (3, 3), (4, 2)] [(1, 1), (2, 4), (3, 3), (4, 2)] [(1, 1), (2, 4), (3, 3), (4, 2)] 4 8 [49, 57, 51] [49, 52, 57] (by decide) (by decide +kernel)
theorem lie_110 : LieOk 110 := lie_of 110 7452203632095078013 324445253410687307 10687644929474810527 15732648057642843759 15732648057642843759 13129300074653244686 8495702175496159177 11477833698794653508 [(1, 4), (2, 3), (3, 5), (4, 5)] [(1, 4), (2, 3), (3, 5), (4, 5), (5, 3)] [(1, 4), (2, 3), (3, 5), (4, 5), (5, 3)] 4 9 [49, 50, 53] [55, 53] (by decide) (by decide +kernel)
theorem lie_111 : LieOk 111 := lie_of 111 2545336924742213324 10543130760882756971 3293566610256740823 9290305269813617712 15981645130990568415 10061378654842472170 15880172635216219282 7437999528266751453 [(1, 1), (2, 3), (3, 4), (4, 5)] [(1, 1), (2, 3), (3, 1), (4, 5)] [(1, 1), (2, 3), (3, 1), (4, 5), (5, 1)] 3 8 [50, 48, 52] [49, 48, 55] (by decide) (by decide +kernel)
theorem lie_112 : LieOk 112 := lie_of 112 17745680053102999587 4127208643663288636 7124191128044781230 7124191128044781230 5255755157865803482 1813165584302034608 8846191781545696083 11300717876376942861 [(1, 2), (2, 5), (3, 2), (4, 3)] [(1, 2), (2, 5), (3, 2), (4, 3)] [(1, 2), (2, 5), (3, 2)] 1 4 [51, 53] [54, 48] (by decide) (by decide +kernel)
theorem lie_113 : LieOk 113 := lie_of 113 14365894305091137106 13756680404535382115 4724847499530997097 15698556212058214035 2757680258506664920 5438298343828276597 5956545975533330559 11568280734103812053 [(1, 5), (2, 4), (3, 3), (4, 4)] [(1, 5), (2, 4), (3, 3), (4, 3)] [(1, 5), (2, 4), (4, 3)] 5 10 [56, 50] [57, 57] (by decide) (by decide +kernel)
theorem lie_114 : LieOk 114 := lie_of 114 9436142683398368141 15814386800217387553 5192180767175832647 5192180767175832647 16911526771993524666 1466685107645968148 1408742770780578495 320041867203130159 [(1, 1), (2, 4), (3, 4), (4, 4)] [(1, 1), (2, 4), (3, 4), (4, 4)] [(1, 1), (2, 1), (3, 4), (4, 4)] 3 8 [49, 52, 49] [51, 51] (by decide) (by decide +kernel)
theorem lie_115 : LieOk 115 := lie_of 115 16770303561571426695 12480187354479899434 10479035220175222433 15471689251308727132 17812534622508649771 5754765639462046172 3158906183293188716 518517073385976505 [(1, 3), (2, 4), (3, 3), (4, 1)] [(1, 3), (2, 4), (3, 3), (4, 1), (5, 2)] [(1, 3), (2, 4), (4, 1), (5, 2)] 1 6 [49, 51, 53] [52, 50] (by decide) (by decide +kernel)
theorem lie_116 : LieOk 116 := lie_of 116 7100850435678660986 14142556288454073920 13798834898979445899 4078527154508305504 4178489028736339472 14832396226189606151 17175440071583362566 738419900867942570 [(1, 4), (2, 5), (3, 4), (4, 3)] [(1, 4), (2, 1), (3, 4), (4, 3)] [(1, 4), (2, 1), (3, 4), (4, 1)] 4 8 [49, 50, 50] [54, 52] (by decide) (by decide +kernel)
theorem lie_117 : LieOk 117 := lie_of 117 13511365189591354042 7827822162727968255 9623824649980367088 8395791587513624966 8395791587513624966 10678452406429653242 6195824988223325887 14612818435834090406 [(1, 3), (2, 1), (3, 4), (4, 4)] [(1, 3), (2, 1), (3, 3), (4, 4)] [(1, 3), (2, 1), (3, 3), (4, 4)] 3 6 [49, 56, 54] [50, 53, 53] (by decide) (by decide +kernel)
theorem lie_118 : LieOk 118 := lie_of 118 4322372166259532946 18087824680203209789 4846832386837811360 17980051356788166489 9167385185627037485 7185604517060357573 5115934233126583566 10458496598040668118 [(1, 5), (2, 3), (3, 4), (4, 5)] [(1, 5), (2, 3), (3, 4), (4, 5), (5, 3)] [(1, 5), (2, 2), (3, 4), (4, 5), (5, 3)] 1 3 [49, 52, 54] [54, 49] (by decide) (by decide +kernel)
theorem lie_119 : LieOk 119 := lie_of 119 6973077520940724882 502427242377210230 9444039353582091369 9444039353582091369 15573968231311449754 3914605410343628584 5475789754877330059 13211316288925662592 [(1, 2), (2, 3), (3, 5), (4, 1)] [(1, 2), (2, 3), (3, 5), (4, 1)] [(1, 2), (2, 3), (3, 5), (4, 1), (6, 3)] 3 4 [49, 52, 54] [49, 49, 56] (by decide) (by decide +kernel)
theorem lie_120 : LieOk 120 := lie_of 120 17019499021612751127 9533781796295945899 14996970655802655052 14996970655802655052 7375475021266369542 18068635737015664294 10313717638574609891 6133787753488580815 [(1, 2), (2, 5), (3, 5), (4, 3)] [(1, 2), (2, 5), (3, 5), (4, 3)] [(1, 2), (2, 5), (3, 5), (4, 3), (5, 2)] 1 3 [50, 51] [49, 55, 49] (by decide) (by decide +kernel)
theorem lie_121 : LieOk 121 := lie_of 121 279353585266354927 12484087832493550446 4761531281032339736 4761531281032339736 11593288314094597062 3051076731106964654 16168755524077817889 10490734214119975888 [(1, 4), (2, 5), (3, 4), (4, 1)] [(1, 4), (2, 5), (3, 4), (4, 1)] [(1, 1), (2, 5), (3, 4), (4, 1)] 2 3 [50, 51, 57] [49, 49, 48] (by decide) (by decide +kernel)
theorem lie_122 : LieOk 122 := lie_of 122 4952364534138895153 4341887299633005329 14452848038712474026 13840813313909767785 5907451334545098625 16435836773692471200 15330878591236237615 10215842092761281216 [(1, 4), (2, 2), (3, 1), (4, 4)] [(1, 4), (2, 2), (3, 1), (4, 4), (6, 3)] [(1, 4), (2, 2), (3, 1), (4, 3), (6, 3)] 4 5 [52, 57] [49, 55] (by decide) (by decide +kernel)
theorem lie_all (x : Nat) (h1 : 97 ≤ x) (h2 : x ≤ 122) : LieOk x := by
  have h : x = 97 ∨ x = 98 ∨ x = 99 ∨ x = 100 ∨ x = 101 ∨ x = 102 ∨ x = 103 ∨ x = 104 ∨ x = 105 ∨ x = 106 ∨ x = 107 ∨ x = 108 ∨ x = 109 ∨ x = 110 ∨ x = 111 ∨ x = 112 ∨ x = 113 ∨ x = 114 ∨ x = 115 ∨ x = 116 ∨ x = 117 ∨ x = 118 ∨ x = 119 ∨ x = 120 ∨ x = 121 ∨ x = 122 := by omega
  rcases h with rfl | rfl | rfl | rfl | rfl | rfl | rfl | rfl | rfl | rfl | rfl | rfl | rfl | rfl | rfl | rfl | rfl | rfl | rfl | rfl | rfl | rfl | rfl | rfl | rfl | rfl
  · exact lie_97
  · exact lie_98
  · exact lie_99
  · exact lie_100
  · exact lie_101
  · exact lie_102
  · exact lie_103
  · exact lie_104
  · exact lie_105
  · exact lie_106
  · exact lie_107
  · exact lie_108
  · exact lie_109
  · exact lie_110
  · exact lie_111
  · exact lie_112
  · exact lie_113
  · exact lie_114
  · exact lie_115
  · exact lie_116
  · exact lie_117
  · exact lie_118
  · exact lie_119
  · exact lie_120
  · exact lie_121
  · exact lie_122
end Go.Proofs.YtfgkfcfplodaoaaGreatDoor

end
section
namespace Go.Proofs.YtfgkfcfplodaoaaGreatDoor
open Go Go.RowKit
set_option maxHeartbeats 8000000
def hexT : ByteArray := { data := #[48, 49, 50, 51, 52, 53, 54, 55, 56, 57, 97, 98, 99, 100, 101, 102] }
def hexK (s : ByteArray) (k : Nat) : List Nat := (List.range k).flatMap fun i => [byteN hexT (byteN s i / 16), byteN hexT (byteN s i % 16)]
def hexS (s : ByteArray) : ByteArray := bsS (hexK s s.size)
theorem hexK_succ (s : ByteArray) (k : Nat) : hexK s (k + 1) = hexK s k ++ [byteN hexT (byteN s k / 16), byteN hexT (byteN s k % 16)] := by
  unfold hexK
  rw [List.range_succ, List.flatMap_append]
  simp
theorem hexK_len (s : ByteArray) : ∀ k, (hexK s k).length = 2 * k
  | 0 => rfl
  | k + 1 => by
    rw [hexK_succ, List.length_append, hexK_len s k]
    rfl
noncomputable def mHex := mdl (fun s : ByteArray => s.size ≤ 1048576) (fun s => [aS s]) (fun s => rS (hexS s))
theorem mHex_eq (s : ByteArray) (h : s.size ≤ 1048576) : mHex [aS s] = some (rS (hexS s)) := mdl_eq (by intro a b h; simpa using h) s h
theorem cU8_app2 (l : List Nat) (x y : Nat) : rowsF cU8 l ++ [[.sc (.int .u8 (x : Int))], [.sc (.int .u8 (y : Int))]] = rowsF cU8 (l ++ [x, y]) := by rw [← rowsF_app]; rfl
noncomputable def mDigit := mdl (fun n : Nat => n < 16) (fun n => [aI (n : Int)]) (fun n => .comp false [.ro (.sc (.int .u8 ((byteN hexT n : Nat) : Int)))])
theorem mDigit_eq (n : Nat) (h : n < 16) : mDigit [aI (n : Int)] = some (.comp false [.ro (.sc (.int .u8 ((byteN hexT n : Nat) : Int)))]) := mdl_eq (enc := fun n : Nat => [aI (n : Int)]) (by
  intro a b h
  simp at h
  omega) n h
theorem digit_s : Sound Tryz.prog 49 mDigit := by
  refine Sound.mdl Tryz.func49 rfl Tryz.ntmps49 ?_
  rintro n w hn
  refine ⟨by simp, ?_⟩
  replace hn : n < 16 := hn
  have hΓ : GSound Tryz.prog (look []) := env_nil
  have ib := byte_at (s := hexT) (i := n) (show n < 16 from hn)
  have hN := byteN_eq hexT
  have bl := byteN_lt hexT n
  have hT : ({ data := #[48, 49, 50, 51, 52, 53, 54, 55, 56, 57, 97, 98, 99, 100, 101, 102] } : ByteArray) = hexT := rfl
  have hz : hexT.size = 16 := rfl
  simp only [initS, argPV, List.map_cons, List.map_nil, toPL, Nat.zero_add]
  rw [hT]
  generalize hexT = T at *
  refine zR ?_
  refine At.retA (by rw [Tryz.results49]) (he := rfl)
theorem hexS_s : Sound Tryz.prog 12 mHex := by
  refine Sound.mdl Tryz.func12 rfl Tryz.ntmps12 ?_
  rintro s w hs
  refine ⟨by simp, ?_⟩
  replace hs : s.size ≤ 1048576 := hs
  have hΓ : GSound Tryz.prog (look [(49, mDigit)]) := env_cons (has_of Tryz.func49 rfl rfl) digit_s env_nil
  have hv : hexS s = bsS (hexK s s.size) := rfl
  have hN := byteN_eq s
  replace hv := Lib.hid hv
  simp only [initS, argPV, List.map_cons, List.map_nil, toPL, Nat.zero_add]
  refine zR ?_
  refine W.loopA (fun k => k ≤ s.size) (fun k : Nat => [.slot 0 (one (.sc (.string s))), .slot 3 (one (.all 5)), .blk 5 (.arr .ft 5 1 (rowsF cU8 (hexK s k))), .slot 4 (vI k)]) (fun k => s.size - k) 0 (Nat.zero_le _) (h := ?_)
  rintro k hk
  have hkl : (hexK s k).length ≤ 2097152 := by rw [hexK_len]; omega
  by_cases hlt : k < s.size
  · have ib := byte_at hlt
    have bl := byteN_lt s k
    have c1 := mDigit_eq (byteN s k / 16) (by omega)
    have c2 := mDigit_eq (byteN s k % 16) (by omega)
    have e1 : ((byteN s k : Nat) : Int).tdiv 16 = ((byteN s k / 16 : Nat) : Int) := rfl
    have e2 : ((byteN s k : Nat) : Int).tmod 16 = ((byteN s k % 16 : Nat) : Int) := rfl
    have happ := cU8_app2 (hexK s k) (byteN hexT (byteN s k / 16)) (byteN hexT (byteN s k % 16))
    rw [← hexK_succ] at happ
    generalize byteN hexT (byteN s k / 16) = x at *
    generalize byteN hexT (byteN s k % 16) = y at *
    refine zR ?_
    refine W.drawB hΓ 14 [[], [], [], [1, 2], [1, 2, 3], [1, 2, 3, 4], [1, 2, 3, 4, 5], [], [], [7, 8], [7, 8, 9], [7, 8, 9, 10], [1, 2, 3, 4, 5, 6, 7, 8, 9, 10, 11], [1, 2, 3, 4, 5, 6, 7, 8, 9, 10, 11, 12], [0, 1, 2, 3, 4, 5, 6, 7, 8, 9, 10, 11, 12, 13], [0, 1, 2, 3, 4, 5, 6, 7, 8, 9, 10, 11, 12, 13, 14]] (Es := ?Es9) (rest := ?rest9) (st1 := ?st19) ?_
    refine zL ?_
    refine zE ?_
    refine zR ?_
    exact At.roundA (k + 1) (by omega) (by omega)
  · have hke : k = s.size := by omega
    subst hke
    have hb := bytes_rows (hexK s s.size)
    refine zR ?_
    refine At.retA (by rw [Tryz.results12]) (he := ?_)
    rw [hv.out]
    rfl
noncomputable def numsB (l : List ByteArray) : Bool := l.all fun x => (readZ x).2
noncomputable def numsL (l : List ByteArray) : List Int := l.map fun x => (readZ x).1
abbrev okW (l : List ByteArray) : Prop := l.length ≤ 1048576 ∧ ∀ x ∈ l, x.size ≤ 1048576
noncomputable def mNums := mdl okW (fun l => [aL cStr l]) (fun l => if numsB l = true then .tup [(false, [.own .ft 3 1 (rowsF cInt (numsL l))]), rSc (.bool true)] else .tup [(false, [.ro (.sl [])]), rSc (.bool false)])
theorem mNums_eq (l : List ByteArray) (h : okW l) : mNums [aL cStr l] = some (if numsB l = true then .tup [(false, [.own .ft 3 1 (rowsF cInt (numsL l))]), rSc (.bool true)] else .tup [(false, [.ro (.sl [])]), rSc (.bool false)]) := mdl_eq (enc := fun l => [aL cStr l]) (by intro a b h; simpa using h) l h
theorem cStr_rowN (l : List ByteArray) (k : Nat) (h : k < l.length) : (rowsF cStr l)[k]? = some [.sc (.string l[k])] := rowsF_get cStr l k h
theorem nums_s : Sound Tryz.prog 102 mNums := by
  refine Sound.mdl Tryz.func102 rfl Tryz.ntmps102 ?_
  rintro l w ⟨hl, hx⟩
  refine ⟨by simp, ?_⟩
  have hΓ : GSound Tryz.prog (look [(99, mRead)]) := env_cons (has_of Tryz.func99 rfl rfl) readI_s env_nil
  have hlen := rowsF_len cStr l
  have hnil : rowsF cInt [] = [] := rfl
  simp only [initS, argPV, List.map_cons, List.map_nil, toPL, Nat.zero_add]
  refine zR ?_
  refine W.loopA (fun k => k ≤ l.length ∧ numsB (l.take k) = true) (fun k : Nat => [.slot 10 (vL cStr l), .slot 11 (vI l.length), .slot 12 (vI k), .slot 4 (one (.all 9)), .blk 9 (.arr .ft 3 1 (rowsF cInt (numsL (l.take k))))]) (fun k => l.length - k) 0 ⟨Nat.zero_le _, rfl⟩ (h := ?_)
  rintro k ⟨hk, hI⟩
  have hnl : (numsL (l.take k)).length ≤ 1048576 := by unfold numsL; rw [List.length_map, List.length_take]; omega
  by_cases hlt : k < l.length
  · have hrow := cStr_rowN l k hlt
    have hsx := hx l[k] (List.getElem_mem hlt)
    have c1 := mRead_eq l[k] (by omega)
    have hB : numsB (l.take (k + 1)) = (numsB (l.take k) && (readZ l[k]).2) := by
      unfold numsB
      rw [List.take_succ_eq_append_getElem hlt, List.all_append]
      simp
    have hL : numsL (l.take (k + 1)) = numsL (l.take k) ++ [(readZ l[k]).1] := by
      unfold numsL
      rw [List.take_succ_eq_append_getElem hlt, List.map_append]
      rfl
    have happ := cInt_app (numsL (l.take k)) (readZ l[k]).1
    rw [← hL] at happ
    have hbad : (readZ l[k]).2 = false → numsB l = false := fun h => by
      unfold numsB
      rw [List.all_eq_false]
      exact ⟨l[k], List.getElem_mem hlt, by rw [h]; simp⟩
    rw [hI, Bool.true_and] at hB
    clear hL hI
    generalize hL1 : numsL (l.take (k + 1)) = L1 at *
    generalize numsL (l.take k) = L0 at *
    replace hL1 := Lib.hid hL1
    generalize readZ l[k] = r at *
    generalize l[k] = x at *
    obtain ⟨v, b⟩ := r
    dsimp only at *
    cases b with
    | true =>
      clear hbad
      replace hB := Lib.hid hB
      refine zR ?_
      refine At.roundA (k + 1) ⟨by omega, hB.out⟩ (by omega) (hs := ?_)
      rw [hL1.out]
      exact subP
    | false =>
      have hb := Lib.hid (hbad rfl)
      clear hbad hB happ
      refine zR ?_
      refine At.retA (by rw [Tryz.results102]) (he := ?_)
      show _ = if numsB l = true then _ else _
      rw [if_neg (by rw [hb.out]; simp)]
  · have hke : k = l.length := by omega
    have ht : l.take k = l := List.take_of_length_le (by omega)
    rw [ht] at hI ⊢
    replace hI := Lib.hid hI
    clear ht hnl
    refine zR ?_
    refine At.retA (by rw [Tryz.results102]) (he := ?_)
    show _ = if numsB l = true then _ else _
    rw [if_pos hI.out]
end Go.Proofs.YtfgkfcfplodaoaaGreatDoor

end
section
namespace Go.Proofs.YtfgkfcfplodaoaaGreatDoor
open Go Go.RowKit
set_option maxHeartbeats 4000000
def spN (l : List Nat) (c : Nat) : List (List Nat) × List Nat := l.foldl (fun st x => if x = c then (st.1 ++ [st.2], []) else (st.1, st.2 ++ [x])) ([], [])
def splitN (l : List Nat) (c : Nat) : List (List Nat) := (spN l c).1 ++ [(spN l c).2]
theorem spN_snoc (l : List Nat) (c x : Nat) : spN (l ++ [x]) c = if x = c then ((spN l c).1 ++ [(spN l c).2], []) else ((spN l c).1, (spN l c).2 ++ [x]) := by
  unfold spN
  rw [List.foldl_append]
  rfl
theorem spK_next (s : ByteArray) (c k : Nat) : spK s c (k + 1) = spF s c (spK s c k) k := by
  unfold spK
  rw [List.range_succ, List.foldl_append]
  rfl
theorem bsS_cut (l : List Nat) (a b : Nat) : (bsS l).extract a b = bsS ((l.take b).drop a) := by
  unfold bsS
  apply ByteArray.ext
  rw [ByteArray.data_extract]
  apply Array.ext'
  simp [List.map_drop, List.map_take, List.extract_eq_take_drop, List.drop_take]
theorem spK_eq {l : List Nat} (hl : ∀ x ∈ l, x < 256) (c : Nat) : ∀ k, k ≤ l.length → (spK (bsS l) c k).1 = (spN (l.take k) c).1.map bsS ∧ (spK (bsS l) c k).2 ≤ k ∧ (l.take k).drop (spK (bsS l) c k).2 = (spN (l.take k) c).2
  | 0, _ => ⟨rfl, Nat.le_refl _, rfl⟩
  | k + 1, hk => by
    obtain ⟨h1, h2, h3⟩ := spK_eq hl c k (by omega)
    have hlt : k < l.length := by omega
    have hb : byteN (bsS l) k = l[k] := by rw [byte_bsS hl, nth_eq, List.getD_eq_getElem?_getD, List.getElem?_eq_getElem hlt]; rfl
    have ht : l.take (k + 1) = l.take k ++ [l[k]] := List.take_succ_eq_append_getElem hlt
    have hlen : (l.take k).length = k := by rw [List.length_take]; omega
    rw [spK_next, ht, spN_snoc]
    unfold spF
    rw [hb]
    by_cases hc : l[k] = c
    · rw [if_pos hc, if_pos hc]
      refine ⟨?_, Nat.le_refl _, ?_⟩
      · dsimp only
        rw [h1, List.map_append, bsS_cut, h3]
        rfl
      · dsimp only
        rw [List.drop_eq_nil_of_le]
        rw [List.length_append, hlen]
        exact Nat.le_refl _
    · rw [if_neg hc, if_neg hc]
      refine ⟨h1, by omega, ?_⟩
      dsimp only
      rw [List.drop_append_of_le_length (by omega), h3]
theorem splitS_eq {l : List Nat} (hl : ∀ x ∈ l, x < 256) (c : Nat) : splitS (bsS l) c = (splitN l c).map bsS := by
  obtain ⟨h1, h2, h3⟩ := spK_eq hl c l.length (Nat.le_refl _)
  rw [List.take_length] at h1 h3
  unfold splitS splitN
  rw [bsS_size, h1, List.map_append, bsS_cut, List.take_length, h3]
  rfl
theorem spK_small (s : ByteArray) (c : Nat) : ∀ k, (spK s c k).1.length ≤ k ∧ ∀ x ∈ (spK s c k).1, x.size ≤ s.size
  | 0 => ⟨Nat.le_refl _, fun x h => by cases h⟩
  | k + 1 => by
    obtain ⟨h1, h2⟩ := spK_small s c k
    rw [spK_next]
    unfold spF
    split
    · refine ⟨by rw [List.length_append]; exact Nat.succ_le_succ h1, fun x hx => ?_⟩
      rcases List.mem_append.1 hx with hx | hx
      · exact h2 x hx
      · rw [List.mem_singleton.1 hx, ByteArray.size_extract]
        omega
    · exact ⟨by omega, h2⟩
theorem splitS_small (s : ByteArray) (c : Nat) : (0 < (splitS s c).length ∧ (splitS s c).length ≤ s.size + 1) ∧ ∀ x ∈ splitS s c, x.size ≤ s.size := by
  obtain ⟨h1, h2⟩ := spK_small s c s.size
  unfold splitS
  refine ⟨⟨by rw [List.length_append]; exact Nat.lt_add_left _ (by simp), by rw [List.length_append]; exact Nat.succ_le_succ h1⟩, fun x hx => ?_⟩
  rcases List.mem_append.1 hx with hx | hx
  · exact h2 x hx
  · rw [List.mem_singleton.1 hx, ByteArray.size_extract]
    omega
end Go.Proofs.YtfgkfcfplodaoaaGreatDoor

end
