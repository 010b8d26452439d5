/- Plain facts for the laws on numlib: what Begin answers at numbers. -/
import Derived.Test.YtfclmnglckikbaaGreatDoorMNlAw
import Derived.Test.YtfclmnglckikbaaGreatDoorMValW2
import Derived.Test.YtfclmnglckikbaaGreatDoorMValLaw
namespace Go.Proofs.YtfclmnglckikbaaGreatDoor
open Go.RowKit Go.Instr
set_option linter.unusedVariables false

/-- Two cells at a block's head. -/
def Cells2 (w : World) (g : Nat) (x y : Value) : Prop := w.cell? ⟨g, 0, none⟩ = some x ∧ w.cell? ⟨g, 1, none⟩ = some y
theorem Cells2.below {W w : World} (hb : Below W.heap.size W w) {g : Nat} {x y : Value} (h : Cells2 W g x y) : Cells2 w g x y :=
  ⟨(hb.cell (p := ⟨g, 0, none⟩) (cell_lt h.1)).trans h.1, (hb.cell (p := ⟨g, 1, none⟩) (cell_lt h.2)).trans h.2⟩
theorem Cells2.alloc {w : World} {g : Nat} {x y : Value} (o : Obj) (h : Cells2 w g x y) : Cells2 (w.alloc o) g x y := h.below ((Below.refl _ _).alloc (Nat.le_refl _) o)
theorem cells2_at (w : World) (x y : Value) (t : TypeId) : Cells2 (w.alloc (.cells #[x, y] t)) w.heap.size x y :=
  ⟨World.cell?_alloc_at #[x, y] t _ 0 rfl, World.cell?_alloc_at #[x, y] t _ 1 rfl⟩
theorem cells5_s (w : World) (k p q : Int) (s : ByteArray) (r : Int) (t : TypeId) : Cells5 (w.alloc (.cells #[.int .i64 k, .int .i64 p, .int .i64 q, .string s, .int .i64 r] t)) w.heap.size k p q s r := cells5_at w k p q s r t _ rfl

theorem valid2 (P Q : Int) : validV 2 P Q ⟨#[]⟩ 0 = vldB P Q := by
  unfold validV
  rw [if_neg (by omega), if_neg (by omega), if_pos rfl]
  simp
theorem numA_one {word : ByteArray} {P Q : Int} (hv : vldB P Q = true) (l : List VV) : numA word (⟨2, P, Q, ⟨#[]⟩, 0⟩ :: l) 1 = .inl (P, Q) := by
  have e : numV3 2 P Q ⟨#[]⟩ = (P, Q, 0) := by unfold numV3; rw [if_pos rfl, hv]; rfl
  unfold numA
  show (if (numV3 2 P Q ⟨#[]⟩).2.2 = 0 then Sum.inl ((numV3 2 P Q ⟨#[]⟩).1, (numV3 2 P Q ⟨#[]⟩).2.1) else _) = _
  rw [e]
  rfl
theorem oneA_one {f : Nat} {word : ByteArray} {P Q : Int} (hv : vldB P Q = true) : oneA f word [⟨2, P, Q, ⟨#[]⟩, 0⟩] = .inl (oneV f P Q) := by
  unfold oneA
  rw [numA_one hv]
theorem intVV_in {n : Int} (h : -2147483647 ≤ n ∧ n ≤ 2147483647) : intVV n = ⟨2, n, 1, ⟨#[]⟩, 0⟩ := if_pos h
theorem numVV_in {p q : Int} (h : vldB p q = true) : numVV p q = ⟨2, p, q, ⟨#[]⟩, 0⟩ := if_pos h
theorem both_of {a b : Int} (h : vldB a b = true) {c d : Int} (h2 : vldB c d = true) : bothB a b c d = true := by unfold bothB; rw [h, h2]; rfl
theorem one_vld {n : Int} (h : -2147483647 ≤ n ∧ n ≤ 2147483647) : vldB n 1 = true := by
  unfold vldB
  simp
  omega
section
variable {P Q : Int} (hv : vldB P Q = true)
include hv
theorem bg_num : beginA 8 [⟨2, P, Q, ⟨#[]⟩, 0⟩] = .inl ⟨2, P, 1, ⟨#[]⟩, 0⟩ := by
  obtain ⟨b1, b2, b3, b4⟩ := vld_bd hv
  show oneA 8 (wordN 8) _ = _
  rw [oneA_one hv, ← intVV_in ⟨b3, b4⟩]; rfl
theorem bg_den : beginA 3 [⟨2, P, Q, ⟨#[]⟩, 0⟩] = .inl ⟨2, Q, 1, ⟨#[]⟩, 0⟩ := by
  obtain ⟨b1, b2, b3, b4⟩ := vld_bd hv
  show oneA 3 (wordN 3) _ = _
  rw [oneA_one hv, ← intVV_in (n := Q) ⟨by omega, by omega⟩]; rfl
theorem bg_floor : beginA 5 [⟨2, P, Q, ⟨#[]⟩, 0⟩] = .inl ⟨2, P.fdiv Q, 1, ⟨#[]⟩, 0⟩ := by
  obtain ⟨h1, h2, -⟩ := floor_T hv
  show oneA 5 (wordN 5) _ = _
  rw [oneA_one hv, ← numVV_in h2]
  show Sum.inl (numVV (floorT P Q).1 (floorT P Q).2.1) = _
  rw [h1]
theorem bg_ceil : beginA 2 [⟨2, P, Q, ⟨#[]⟩, 0⟩] = .inl ⟨2, -((-P).fdiv Q), 1, ⟨#[]⟩, 0⟩ := by
  obtain ⟨h1, h2, -⟩ := ceil_T hv
  show oneA 2 (wordN 2) _ = _
  rw [oneA_one hv, ← numVV_in h2]
  show Sum.inl (numVV (ceilT P Q).1 (ceilT P Q).2.1) = _
  rw [h1]
theorem redT_val : redT P Q = (P, Q, 0) := by rw [redT_out, out_val hv]
theorem div_parts : divT P 1 Q 1 = (P, Q, 0) := by
  obtain ⟨b1, b2, b3, b4⟩ := vld_bd hv
  unfold divT
  rw [if_pos (both_of (one_vld ⟨b3, b4⟩) (one_vld ⟨by omega, by omega⟩)), if_neg (by omega), Int.mul_one, Int.mul_one]
  exact redT_val hv
theorem bg_parts : ∃ S M : Int, beginA 9 [⟨2, P, Q, ⟨#[]⟩, 0⟩] = .inl ⟨2, S, 1, ⟨#[]⟩, 0⟩ ∧ beginA 0 [⟨2, P, Q, ⟨#[]⟩, 0⟩] = .inl ⟨2, M, Q, ⟨#[]⟩, 0⟩ ∧ 0 ≤ M ∧ M ≤ 2147483647 ∧ -1 ≤ S ∧ S ≤ 1 ∧ mulT S 1 M Q = (P, Q, 0) := by
  obtain ⟨b1, b2, b3, b4⟩ := vld_bd hv
  have hs : cmpT P Q 0 1 = if P < 0 then -1 else if 0 < P then 1 else 0 := by
    unfold cmpT cmpI
    rw [if_pos (both_of hv (one_vld ⟨by omega, by omega⟩))]
    simp
  have hm : vldB (if P < 0 then -P else P) Q = true := by
    split
    · exact neg_vld hv
    · exact hv
  refine ⟨if P < 0 then -1 else if 0 < P then 1 else 0, if P < 0 then -P else P, ?_, ?_, ?_, ?_, ?_, ?_, ?_⟩
  · show oneA 9 (wordN 9) _ = _
    rw [oneA_one hv, ← intVV_in (n := if P < 0 then -1 else if 0 < P then 1 else 0) (by split <;> (try split) <;> omega), ← hs]
    rfl
  · show oneA 0 (wordN 0) _ = _
    rw [oneA_one hv, ← numVV_in hm]; rfl
  · split <;> omega
  · split <;> omega
  · split <;> (try split) <;> omega
  · split <;> (try split) <;> omega
  · unfold mulT
    rw [if_pos (both_of (one_vld (by split <;> (try split) <;> omega)) hm), Int.one_mul]
    have : (if P < 0 then -1 else if 0 < P then 1 else 0) * (if P < 0 then -P else P) = P := by
      by_cases h : P < 0
      · rw [if_pos h, if_pos h]; omega
      · rw [if_neg h, if_neg h]
        by_cases h2 : 0 < P
        · rw [if_pos h2]; omega
        · rw [if_neg h2]; omega
    rw [this]
    exact redT_val hv
end
end Go.Proofs.YtfclmnglckikbaaGreatDoor
