/-
  Marking and holding a PMsg.
-/
import Derived.Test.YteaohgacgcjkjaaEvMark
import Derived.Test.YteaohgacgcjkjaaEvPMsg
import Derived.Test.YteaohgacgcjkjaaEvPFn
import Derived.Test.YteaohgacgcjkjaaMarkAddr
namespace Go.Proofs.Yteaohgacgcjkjaa
set_option maxRecDepth 100000
set_option linter.unusedVariables false
set_option linter.unusedSimpArgs false
open Go Go.RowKit
set_option maxHeartbeats 4000000

theorem Marks.toW {α : Type} {s k' : Nat} {f : α → List Value} {v : Value} {l : List α} {w w' : World} {e : Ending} (h : Marks 0 s f v l k' w e w') : MarksW s f v l k' w e w' := ⟨h.1, h.2.1, h.2.2.2⟩
theorem MarksW.after {α : Type} {s k' : Nat} {f : α → List Value} {v : Value} {l : List α} {w w1 w' : World} {e : Ending} (hk : Below w.heap.size w w1) (h : MarksW s f v l k' w1 e w') : MarksW s f v l k' w e w' := by
  obtain ⟨h1, h2, h3⟩ := h
  refine ⟨h1, h2, h3.os.trans hk.os, h3.tape.trans hk.tape, h3.output.trans hk.output, Nat.le_trans hk.size h3.size, fun k hlt hne => ?_⟩
  rw [h3.block k (Nat.lt_of_lt_of_le hlt hk.size) hne]
  exact hk.block k hlt
abbrev lsPM (k f : Int) (q : TReq) (hd : THeader) (a : PL) : List PL := [.sc (.int .i64 k), .sc (.int .i64 f), .sc (.int .i64 q.1), .sc (.int .i64 q.2.1), .sc (.int .i64 q.2.2), .sc (.int .i64 hd.1), .sc (.int .i64 hd.2.1), .sc (.string hd.2.2.1), .sc (.string hd.2.2.2.1), .sc (.string hd.2.2.2.2.1), .sc (.string hd.2.2.2.2.2), a]
theorem markPM_own (k f : Int) (q : TReq) (hd : THeader) (n : Nat) (l : List TAddr) (m m' : Nat) (hm0 : 0 < m) (hm : m' = m + 2 * l.length) (hn : m' ≤ 1099511627776) (v : Value) (w : World) (h : OwnS w 0 2 cAddr v l) :
    Calls Try.prog 24 #[.agg ((lsPM k f q hd (.all n)).map (plV v)).toArray, .int .i64 (m : Int)] w (MarksW 2 cAddr v (marked mkAddr 2 m l.length) m' w) := by
  subst hm
  obtain ⟨A, c, rfl⟩ := h.shape
  have H := Lib.hid h
  clear h
  simp only [List.map_cons, List.map_nil, plV]
  go_enter Try.func24, Try.ntmps24
  go_wp2_with fail
  refine (markAddrS_any _ l m 0 _ (H.out.keeps ?g1) hm0 hn).mono ?_
  case g1 => exact show Below _ _ _ by go_grown
  rintro e w1 hmk
  obtain ⟨rfl, o1, y1⟩ := (Marks.toW hmk).after (w := w) (show Below _ _ _ by go_grown)
  have O1 := Lib.hid o1
  have Y1 := Lib.hid y1
  clear o1 y1 hmk
  go_wp2_with fail
  go_ret
  exact ⟨rfl, O1.out, Y1.out⟩
end Go.Proofs.Yteaohgacgcjkjaa
