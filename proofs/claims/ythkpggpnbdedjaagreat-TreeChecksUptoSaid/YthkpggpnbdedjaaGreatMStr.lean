/- Contracts of the string functions of Go's library that the program calls, in one form: what they return, and that nothing that stood has turned. -/
import Derived.Test.YthkpggpnbdedjaaGreatMMem
import Derived.Test.YthkpggpnbdedjaaGreatShelf
import Derived.Shelf.Strings.SlTrimAscii
import Derived.Lib.AppendIntMem
import Derived.Lib.IndexLaws
namespace Go.Proofs.YthkpggpnbdedjaaGreat
open Go.RowKit Go.Sort
set_option linter.unusedVariables false

/-- The string of a list of bytes. -/
def mkS (l : List UInt8) : ByteArray := ⟨l.toArray⟩
theorem mkS_list (l : List UInt8) : (mkS l).data.toList = l := rfl
theorem mkS_size (l : List UInt8) : (mkS l).size = l.length := by simp [mkS, ByteArray.size]
theorem mkS_of (s : ByteArray) : mkS s.data.toList = s := by cases s; simp [mkS]
theorem mkS_ext {s : ByteArray} {l : List UInt8} (h : s.data.toList = l) : s = mkS l := by rw [← h, mkS_of]

/-- No table of the library is needed. -/
def Tabs (_ : World) : Prop := True
theorem Tabs.later {w w' : World} (_ : Tabs w) (_ : Below w.heap.size w w') : Tabs w' := trivial

/-- A later world, as the regions that make memory know it. -/
theorem later_below {W : World} (u : Later W) : Below W.heap.size W u.1 := u.2

theorem below_grow {w : World} (os : Array Obj) : Below w.heap.size w (grow w os) := by
  obtain ⟨l, rfl⟩ : ∃ l : List Obj, os = l.toArray := ⟨os.toList, by simp⟩
  induction l generalizing w with
  | nil => rw [show grow w (#[] : Array Obj) = w from grow_empty w]; exact Below.refl _ _
  | cons o l ih =>
    have h := @ih (w.alloc o)
    rw [alloc_eq_grow, grow_grow] at h
    have e : (#[o] : Array Obj) ++ l.toArray = (o :: l).toArray := by simp
    rw [e] at h
    have h0 : Below w.heap.size w (grow w #[o]) := by rw [← alloc_eq_grow]; exact (Below.refl _ _).alloc (Nat.le_refl _) _
    exact h0.trans (h.mono h0.size)

end Go.Proofs.YthkpggpnbdedjaaGreat
