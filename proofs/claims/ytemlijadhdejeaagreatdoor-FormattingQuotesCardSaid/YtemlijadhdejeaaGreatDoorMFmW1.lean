/- The program's digits of a format; a piece in memory. -/
import Derived.Test.YtemlijadhdejeaaGreatDoorMFmPlain
import Derived.Test.YtemlijadhdejeaaGreatDoorMOwn
import Derived.Test.YtemlijadhdejeaaGreatDoorMStr
namespace Go.Proofs.YtemlijadhdejeaaGreatDoor
open Go.RowKit Go.Instr
set_option linter.unusedVariables false

theorem fdigit_in (s : ByteArray) (k : Nat) (w : World) (h : k < s.size) (hs : s.size ≤ 1000000) : Calls Tryz.prog 44 #[.string s, .int .i64 k] w fun e w' => e = .returned (.bool (digB (s[k]'h))) ∧ w = w' := by
  obtain ⟨c, hc⟩ : ∃ c, s[k]'h = c := ⟨_, rfl⟩
  rw [hc]
  have hc0 := UInt8.toNat_lt c
  by_cases h1 : 48 ≤ c.toNat
  · have a1 := decide_eq_true h1
    have d1 : decide ((48 : Int) ≤ (c.toNat : Int)) = true := by simp; omega
    by_cases h2 : c.toNat ≤ 57
    · have a2 := decide_eq_true h2
      have d2 : decide ((c.toNat : Int) ≤ 57) = true := by simp; omega
      rw [show digB c = true by unfold digB; rw [a1, a2]; rfl]
      clear h1 h2 a1 a2
      go_enter Tryz.func44, Tryz.ntmps44
      go_wp2
      go_returns
      exact ⟨rfl, rfl⟩
    · have a2 := decide_eq_false h2
      have d2 : decide ((c.toNat : Int) ≤ 57) = false := by simp; omega
      rw [show digB c = false by unfold digB; rw [a1, a2]; rfl]
      clear h1 h2 a1 a2
      go_enter Tryz.func44, Tryz.ntmps44
      go_wp2
      go_returns
      exact ⟨rfl, rfl⟩
  · have a1 := decide_eq_false h1
    have d1 : decide ((48 : Int) ≤ (c.toNat : Int)) = false := by simp; omega
    rw [show digB c = false by unfold digB; rw [a1]; rfl]
    clear h1 a1
    go_enter Tryz.func44, Tryz.ntmps44
    go_wp2
    go_returns
    exact ⟨rfl, rfl⟩
theorem fdigit_out (s : ByteArray) (k : Nat) (w : World) (h : s.size ≤ k) (hs : k ≤ 1000000) : Calls Tryz.prog 44 #[.string s, .int .i64 k] w fun e w' => e = .returned (.bool false) ∧ w = w' := by
  have d1 : decide (k < s.size) = false := by simp; omega
  go_enter Tryz.func44, Tryz.ntmps44
  go_wp2
  go_returns
  exact ⟨rfl, rfl⟩
/-- Whether a digit stands at an index. -/
def digAt (s : ByteArray) (k : Nat) : Bool := match s.data.toList[k]? with | none => false | some c => digB c
theorem fdigit_any (s : ByteArray) (k : Nat) (w : World) (hk : k ≤ 1000000) (hs : s.size ≤ 1000000) : Calls Tryz.prog 44 #[.string s, .int .i64 k] w fun e w' => e = .returned (.bool (digAt s k)) ∧ w = w' := by
  unfold digAt
  by_cases h : k < s.size
  · rw [List.getElem?_eq_getElem (by simpa using h)]
    exact fdigit_in s k w h hs
  · rw [List.getElem?_eq_none (by simp; omega)]
    exact fdigit_out s k w (by omega) hk

/-- A piece at block B. -/
def PBox (w : World) (B : Nat) (v : Int) (mi ze pl : Bool) (W N : Int) : Prop :=
  w.heap[B]? = some (.cells #[.string ⟨#[]⟩, .int .u8 v, .bool mi, .bool ze, .bool pl, .int .i64 W, .int .i64 N] 31 (0, 0))
theorem PBox.lt {w : World} {B : Nat} {v : Int} {mi ze pl : Bool} {W N : Int} (h : PBox w B v mi ze pl W N) : B < w.heap.size := (Array.getElem?_eq_some_iff.1 h).1
theorem PBox.cells {w : World} {B : Nat} {v : Int} {mi ze pl : Bool} {W N : Int} (h : PBox w B v mi ze pl W N) :
    w.cell? ⟨B, 0, none⟩ = some (.string ⟨#[]⟩) ∧ w.cell? ⟨B, 1, none⟩ = some (.int .u8 v) ∧ w.cell? ⟨B, 2, none⟩ = some (.bool mi) ∧ w.cell? ⟨B, 3, none⟩ = some (.bool ze) ∧ w.cell? ⟨B, 4, none⟩ = some (.bool pl) ∧ w.cell? ⟨B, 5, none⟩ = some (.int .i64 W) ∧ w.cell? ⟨B, 6, none⟩ = some (.int .i64 N) ∧ ∀ i, w.frozen? ⟨B, i, none⟩ = false :=
  ⟨cell_of_row w B 0 _ _ (0, 0) h, cell_of_row w B 1 _ _ (0, 0) h, cell_of_row w B 2 _ _ (0, 0) h, cell_of_row w B 3 _ _ (0, 0) h, cell_of_row w B 4 _ _ (0, 0) h, cell_of_row w B 5 _ _ (0, 0) h, cell_of_row w B 6 _ _ (0, 0) h, fun i => frozen_of_row w B i _ _ h⟩
theorem PBox.later {w w' : World} {B : Nat} {v : Int} {mi ze pl : Bool} {W N : Int} (h : PBox w B v mi ze pl W N) (hb : Below w.heap.size w w') : PBox w' B v mi ze pl W N := (hb.block B h.lt).trans h
theorem PBox.setV {w : World} {B : Nat} {v : Int} {mi ze pl : Bool} {W N : Int} (h : PBox w B v mi ze pl W N) (x : Int) : PBox (w.setCell ⟨B, 1, none⟩ (.int .u8 x)) B x mi ze pl W N := heap_setCell_same w B 1 _ _ _ h
theorem PBox.setMi {w : World} {B : Nat} {v : Int} {mi ze pl : Bool} {W N : Int} (h : PBox w B v mi ze pl W N) (x : Bool) : PBox (w.setCell ⟨B, 2, none⟩ (.bool x)) B v x ze pl W N := heap_setCell_same w B 2 _ _ _ h
theorem PBox.setZe {w : World} {B : Nat} {v : Int} {mi ze pl : Bool} {W N : Int} (h : PBox w B v mi ze pl W N) (x : Bool) : PBox (w.setCell ⟨B, 3, none⟩ (.bool x)) B v mi x pl W N := heap_setCell_same w B 3 _ _ _ h
theorem PBox.setPl {w : World} {B : Nat} {v : Int} {mi ze pl : Bool} {W N : Int} (h : PBox w B v mi ze pl W N) (x : Bool) : PBox (w.setCell ⟨B, 4, none⟩ (.bool x)) B v mi ze x W N := heap_setCell_same w B 4 _ _ _ h
theorem PBox.setW {w : World} {B : Nat} {v : Int} {mi ze pl : Bool} {W N : Int} (h : PBox w B v mi ze pl W N) (x : Int) : PBox (w.setCell ⟨B, 5, none⟩ (.int .i64 x)) B v mi ze pl x N := heap_setCell_same w B 5 _ _ _ h
theorem PBox.setN {w : World} {B : Nat} {v : Int} {mi ze pl : Bool} {W N : Int} (h : PBox w B v mi ze pl W N) (x : Int) : PBox (w.setCell ⟨B, 6, none⟩ (.int .i64 x)) B v mi ze pl W x := heap_setCell_same w B 6 _ _ _ h
end Go.Proofs.YtemlijadhdejeaaGreatDoor
