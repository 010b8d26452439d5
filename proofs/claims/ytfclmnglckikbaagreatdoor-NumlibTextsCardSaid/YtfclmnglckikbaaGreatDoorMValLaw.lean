/- A value among the arguments of a law, opened. -/
import Derived.Test.YtfclmnglckikbaaGreatDoorMLaid
import Derived.Test.YtfclmnglckikbaaGreatDoorMValW1
namespace Go.Proofs.YtfclmnglckikbaaGreatDoor
open Go.ChangeShapes Go.WideShapes Go.ChangeAt Go.RowKit Go.Joins
set_option linter.unusedVariables false
section
variable {H : Type} {enc : TypeId × Value → H} {w : World} {base : Nat} {spare : Nat → Bool} {held : Bool}
theorem array5 {α : Type} {cs : Array α} (h : cs.size = 5) : ∃ c0 c1 c2 c3 c4, cs = #[c0, c1, c2, c3, c4] := by
  obtain ⟨l⟩ := cs
  match l, h with
  | [c0, c1, c2, c3, c4], _ => exact ⟨c0, c1, c2, c3, c4, rfl⟩
set_option maxRecDepth 100000 in
/-- A value among the arguments. -/
theorem open_val {r : Reach} {b0 : Nat} {v : Value} {d : DataW H} {p : List MemPlace} (hv : Value.okWide Tryz.prog w r b0 32 v) (h : DataW.Trod enc Tryz.prog w base spare held 32 v d p) :
    ∃ (k P Q : Int) (s : ByteArray) (n : Int), v = vV k P Q s n ∧ (Lit.int .i64 k).wf = true ∧ (Lit.int .i64 P).wf = true ∧ (Lit.int .i64 Q).wf = true ∧ s.size ≤ maxLen ∧ (Lit.int .i64 n).wf = true := by
  obtain ⟨cs, rfl, hsz⟩ := okWide_struct Tryz.underlying32 hv
  obtain ⟨c0, c1, c2, c3, c4, rfl⟩ := array5 (hsz.trans (by kernel_rfl))
  obtain ⟨fuel, hf⟩ := h
  obtain ⟨xs, n, -, -, -, hlen, hF⟩ := DataW.trod_struct Tryz.underlying32 hf
  have hlen4 : xs.length = 4 := hlen
  have f0 := hF 0 _ rfl
  have f1 := hF 1 _ rfl
  have f2 := hF 2 _ rfl
  have f3 := hF 3 _ rfl
  have t3 : Tryz.prog.cellsOf 3 = 1 := by kernel_rfl
  have t23 : Tryz.prog.cellsOf 30 = 2 := by kernel_rfl
  have t9 : Tryz.prog.cellsOf 9 = 1 := by kernel_rfl
  rw [List.getElem?_eq_getElem (by omega)] at f0 f1 f2 f3
  change DataW.trod enc _ w base spare held n 3 (List.take (Tryz.prog.cellsOf 3) (List.drop 0 [c0, c1, c2, c3, c4])) = _ at f0
  change DataW.trod enc _ w base spare held n 30 (List.take (Tryz.prog.cellsOf 30) (List.drop 1 [c0, c1, c2, c3, c4])) = _ at f1
  change DataW.trod enc _ w base spare held n 9 (List.take (Tryz.prog.cellsOf 9) (List.drop 3 [c0, c1, c2, c3, c4])) = _ at f2
  change DataW.trod enc _ w base spare held n 3 (List.take (Tryz.prog.cellsOf 3) (List.drop 4 [c0, c1, c2, c3, c4])) = _ at f3
  rw [t3] at f0 f3
  rw [t23] at f1
  rw [t9] at f2
  obtain ⟨k, e0, -, w0⟩ := DataW.trod_int Tryz.underlying3 f0
  obtain ⟨ys, m, -, -, -, hlen2, hG⟩ := DataW.trod_struct Tryz.underlying30 f1
  have hlen22 : ys.length = 2 := hlen2
  have g0 := hG 0 _ rfl
  have g1 := hG 1 _ rfl
  rw [List.getElem?_eq_getElem (by omega)] at g0 g1
  change DataW.trod enc _ w base spare held m 3 (List.take (Tryz.prog.cellsOf 3) (List.drop 0 [c1, c2])) = _ at g0
  change DataW.trod enc _ w base spare held m 3 (List.take (Tryz.prog.cellsOf 3) (List.drop 1 [c1, c2])) = _ at g1
  rw [t3] at g0 g1
  obtain ⟨P, e1, -, w1⟩ := DataW.trod_int Tryz.underlying3 g0
  obtain ⟨Q, e2, -, w2⟩ := DataW.trod_int Tryz.underlying3 g1
  obtain ⟨s, e3, -, w3⟩ := DataW.trod_string Tryz.underlying9 f2
  obtain ⟨r, e4, -, w4⟩ := DataW.trod_int Tryz.underlying3 f3
  simp at e0 e1 e2 e3 e4
  subst e0 e1 e2 e3 e4
  exact ⟨k, P, Q, s, r, rfl, w0, w1, w2, w3, w4⟩
end
end Go.Proofs.YtfclmnglckikbaaGreatDoor
