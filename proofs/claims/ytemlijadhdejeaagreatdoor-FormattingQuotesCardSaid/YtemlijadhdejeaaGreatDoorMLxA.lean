/- The lexer's tests of bytes: function values that stay what they are whatever is made behind them. -/
import Derived.Test.YtemlijadhdejeaaGreatDoorMStr
import Derived.Test.YtemlijadhdejeaaGreatDoorMLxP
namespace Go.Proofs.YtemlijadhdejeaaGreatDoor
open Go.RowKit Go.Instr
set_option linter.unusedVariables false

/-- The value v is a test of bytes: in every later world it answers p. -/
def IsTest (w : World) (v : Value) (p : UInt8 → Bool) : Prop :=
  ∃ g lb, v = .func (.func g) #[] lb ∧ (∀ args u, (callFunc g args).run Tryz.prog u = .ok (.enter g args) u) ∧
    ∀ (W : World) (c : UInt8), Below w.heap.size w W → Calls Tryz.prog g (#[.int .u8 c.toNat] ++ lb) W fun e W' => e = .returned (.bool (p c)) ∧ Below W.heap.size W W'
theorem IsTest.later {w W : World} {v : Value} {p : UInt8 → Bool} (h : IsTest w v p) (hb : Below w.heap.size w W) : IsTest W v p := by
  obtain ⟨g, lb, h1, h2, h3⟩ := h
  exact ⟨g, lb, h1, h2, fun W' c hb' => h3 W' c (hb.trans (hb'.mono hb.size))⟩
theorem IsTest.form {w : World} {v : Value} {p : UInt8 → Bool} (h : IsTest w v p) : ∃ g lb, v = .func (.func g) #[] lb := by
  obtain ⟨g, lb, h1, -⟩ := h
  exact ⟨g, lb, h1⟩
theorem IsTest.ext {w : World} {v : Value} {p q : UInt8 → Bool} (h : IsTest w v p) (e : ∀ c, p c = q c) : IsTest w v q := by
  have : p = q := funext e
  rw [← this]; exact h

end Go.Proofs.YtemlijadhdejeaaGreatDoor

/- The lexer's tests of bytes that are made of several; the ones that it uses. -/
namespace Go.Proofs.YtemlijadhdejeaaGreatDoor
open Go.RowKit Go.Instr
set_option linter.unusedVariables false

/-- Tests in a block. -/
def TestsAt (w : World) (B : Nat) (ts : List (Value × (UInt8 → Bool))) : Prop := ∀ j, (h : j < ts.length) → w.cell? ⟨B, j, none⟩ = some (ts[j]).1 ∧ IsTest w (ts[j]).1 (ts[j]).2
theorem TestsAt.later {w W : World} {B : Nat} {ts : List (Value × (UInt8 → Bool))} (h : TestsAt w B ts) (hb : Below w.heap.size w W) : TestsAt W B ts := fun j hj =>
  ⟨(hb.cell (p := ⟨B, j, none⟩) (cell_lt (h j hj).1)).trans (h j hj).1, (h j hj).2.later hb⟩
/-- The index of the first test that a byte satisfies; -1 if there is none. -/
def idxT (c : UInt8) : List (Value × (UInt8 → Bool)) → Int → Int
  | [], _ => -1
  | t :: l, k => if t.2 c = true then k else idxT c l (k + 1)
theorem idxT_any (c : UInt8) : ∀ (l : List (Value × (UInt8 → Bool))) (k : Int), 0 ≤ k → decide (0 ≤ idxT c l k) = l.any fun t => t.2 c
  | [], k, _ => rfl
  | t :: l, k, h => by
    rw [idxT, List.any_cons]
    cases hc : t.2 c
    · rw [if_neg (by simp), idxT_any c l _ (by omega)]; rfl
    · rw [if_pos rfl]; simpa using h

end Go.Proofs.YtemlijadhdejeaaGreatDoor
