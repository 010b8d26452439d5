/- Contracts of the string functions of Go's library that the program calls, in one form: what they return, and that nothing that stood has turned. -/
import Derived.Test.YtfclmnglckikbaaGreatDoorMMem
import Derived.Test.YtfclmnglckikbaaGreatDoorShelf
import Derived.Shelf.Strings.SlTrimAscii
import Derived.Lib.AppendIntMem
import Derived.Lib.IndexLaws
namespace Go.Proofs.YtfclmnglckikbaaGreatDoor
open Go.RowKit Go.Sort
set_option linter.unusedVariables false

/-- The string of a list of bytes. -/
def mkS (l : List UInt8) : ByteArray := ⟨l.toArray⟩
theorem mkS_list (l : List UInt8) : (mkS l).data.toList = l := rfl
theorem mkS_size (l : List UInt8) : (mkS l).size = l.length := by simp [mkS, ByteArray.size]
theorem mkS_of (s : ByteArray) : mkS s.data.toList = s := by cases s; simp [mkS]
theorem mkS_ext {s : ByteArray} {l : List UInt8} (h : s.data.toList = l) : s = mkS l := by rw [← h, mkS_of]

/-- The tables of the library read as they were laid. -/
def Tabs (w : World) : Prop := Lib.TabIs Tryz.prog w Tryz.nm_internal_strconv_uint64pow10 .u64 Lib.pow10Tab ∧ TabAt 2 Lib.deBruijn64tab w

theorem Tabs.later {w w' : World} (h : Tabs w) (hb : Below w.heap.size w w') : Tabs w' :=
  ⟨Lib.tabBelow_of_tabIs h.1 w' hb, fun j hj => by
    have hc := h.2 j hj
    rw [← hc]
    exact hb.cell (p := ⟨_, _, none⟩) (cell_lt hc)⟩

/-- A later world, as the regions that make memory know it. -/
theorem later_below {W : World} (u : Later W) : Below W.heap.size W u.1 := u.2

theorem below_grow {w : World} (os : Array Obj) : Below w.heap.size w (grow w os) := by
  obtain ⟨l, rfl⟩ : ∃ l : List Obj, os = l.toArray := ⟨os.toList, by simp⟩
  induction l generalizing w with
  | nil => rw [show grow w (#[] : Array Obj) = w from grow_empty w]; exact Below.refl _ _
  | cons o l ih =>
    have h := @ih (w.alloc o)
    rw [alloc_eq_grow, grow_grow] at h
    have e : (#[o] : Array Obj) ++ l.toArray = (o :: l).toArray := by simp
    rw [e] at h
    have h0 : Below w.heap.size w (grow w #[o]) := by rw [← alloc_eq_grow]; exact (Below.refl _ _).alloc (Nat.le_refl _) _
    exact h0.trans (h.mono h0.size)

theorem itoa_any (n : Int) (h0 : -9223372036854775808 ≤ n) (h1 : n ≤ 9223372036854775807) (w : World) (hT : Tabs w) :
    Calls Tryz.prog 52 #[.int .i64 n] w fun e w' => e = .returned (.string (mkS (Lib.itoa n))) ∧ Below w.heap.size w w' :=
  (Tryz.strconv_Itoa n h0 h1 w hT.1).mono fun _ _ ⟨he, k, os, hw⟩ => ⟨he, by rw [hw]; exact (below_drewN (Below.refl _ _) k).trans (by have := below_grow (w := w.drewN k) os; exact this)⟩

/-- The blanks that the program and the reference cut off. -/
def blanks : List UInt8 := [32, 9, 10, 13]
theorem trim_lib (s : ByteArray) (hs : s.size ≤ 9223372036854775807) (w : World) :
    Calls Tryz.prog 129 #[.string s, .string ⟨#[32, 9, 10, 13]⟩] w fun e w' => e = .returned (.string (mkS (Lib.trimS s.data.toList blanks))) ∧ Below w.heap.size w w' :=
  Any.strings_Trim_laid Tryz.lays160 (by kernel_rfl) s ⟨#[32, 9, 10, 13]⟩ w hs (by decide) (ascii_of_all (by decide))

theorem cutPrefix_yes (s : ByteArray) (c : UInt8) (l : List UInt8) (h : s.data.toList = c :: l) (w : World) :
    Calls Tryz.prog 117 #[.string s, .string ⟨#[c]⟩] w fun e w' => e = .returned (.tuple #[.string (mkS l), .bool true]) ∧ w = w' :=
  (Tryz.strings_CutPrefix s ⟨#[c]⟩ w).mono fun _ _ ⟨he, hw⟩ => ⟨by rw [he, h]; simp [Lib.trimPrefix, Lib.hasPrefix, mkS], hw.symm⟩
theorem cutPrefix_no (s : ByteArray) (c : UInt8) (h : ∀ l, s.data.toList ≠ c :: l) (w : World) :
    Calls Tryz.prog 117 #[.string s, .string ⟨#[c]⟩] w fun e w' => e = .returned (.tuple #[.string s, .bool false]) ∧ w = w' :=
  (Tryz.strings_CutPrefix s ⟨#[c]⟩ w).mono fun _ _ ⟨he, hw⟩ => ⟨by
    have hp : Lib.hasPrefix s.data.toList [c] = false := by
      cases hl : s.data.toList with
      | nil => rfl
      | cons a l =>
        have : a ≠ c := fun e => h l (by rw [hl, e])
        simp only [Lib.hasPrefix, List.isPrefixOf, Bool.and_true, beq_eq_false_iff_ne, ne_eq]
        exact fun e => this e.symm
    rw [he]
    show Ending.returned (Value.tuple #[.string ⟨(Lib.trimPrefix s.data.toList [c]).toArray⟩, .bool (Lib.hasPrefix s.data.toList [c])]) = _
    unfold Lib.trimPrefix
    rw [hp]
    simp, hw.symm⟩

theorem index_one (s : ByteArray) (c : UInt8) (k : Int) (h : Lib.indexByte s.data.toList c = k) (w : World) :
    Calls Tryz.prog 153 #[.string s, .string ⟨#[c]⟩] w fun e w' => e = .returned (.int .i64 k) ∧ w = w' :=
  (Tryz.stringslite_Index_one s c w).mono fun _ _ ⟨he, hw⟩ => ⟨by rw [he, h], hw.symm⟩

set_option maxHeartbeats 1000000 in
theorem cutl_no (s : ByteArray) (c : UInt8) (h : Lib.indexByte s.data.toList c = -1) (w : World) :
    Calls Tryz.prog 148 #[.string s, .string ⟨#[c]⟩] w fun e w' => e = .returned (.tuple #[.string s, .string ⟨#[]⟩, .bool false]) ∧ Below w.heap.size w w' := by
  have HC := Lib.hid (index_one s c _ h)
  clear h
  go_enter Tryz.func148, Tryz.ntmps148
  go_wp2_with (first | (go_at_call 153; refine (HC.out _).mono ?_; rintro e w1 ⟨rfl, rfl⟩))
  ((try simp only [Exit.inBlock, Exit.then]); refine bodyPost_ret (by first | (simp [results, Tryz.results148, go_sem, *]; done) | (simp [results, Tryz.results148, go_sem, *]; rfl) | (simp [results, Tryz.results148, go_sem, ↓IntWalk.iteOmega, *]; try rfl)) rfl ?_)
  refine ⟨rfl, ?_⟩
  (repeat' (first | (with_reducible exact Below.refl _ _) | (with_reducible assumption) | (with_reducible refine Below.alloc ?_ ?_ _) | (with_reducible refine below_drewN ?_ _) | (with_reducible refine Below.drew ?_) | (with_reducible refine Below.setCell ?_ ?_ _) | (with_reducible refine below_via (by assumption) ?_ ?_) | (with_reducible refine below_via (later_below _) ?_ ?_) | (with_reducible exact Nat.le_refl _) | omega | (simp; omega) | (simp; done)))

set_option maxHeartbeats 1000000 in
theorem cutl_yes (s : ByteArray) (c : UInt8) (k : Nat) (h : Lib.indexByte s.data.toList c = k) (hk : k < s.size) (hs : s.size ≤ 9223372036854775807) (w : World) :
    Calls Tryz.prog 148 #[.string s, .string ⟨#[c]⟩] w fun e w' => e = .returned (.tuple #[.string (s.extract 0 k), .string (s.extract (k + 1) s.size), .bool true]) ∧ Below w.heap.size w w' := by
  have HC := Lib.hid (index_one s c _ h)
  clear h
  go_enter Tryz.func148, Tryz.ntmps148
  go_wp2_with (first | (go_at_call 153; refine (HC.out _).mono ?_; rintro e w1 ⟨rfl, rfl⟩))
  go_quiet (fail)
  go_wp2_with fail
  ((try simp only [Exit.inBlock, Exit.then]); refine bodyPost_ret (by first | (simp [results, Tryz.results148, go_sem, *]; done) | (simp [results, Tryz.results148, go_sem, *]; rfl) | (simp [results, Tryz.results148, go_sem, ↓IntWalk.iteOmega, *]; try rfl)) rfl ?_)
  refine ⟨rfl, ?_⟩
  (repeat' (first | (with_reducible exact Below.refl _ _) | (with_reducible assumption) | (with_reducible refine Below.alloc ?_ ?_ _) | (with_reducible refine below_drewN ?_ _) | (with_reducible refine Below.drew ?_) | (with_reducible refine Below.setCell ?_ ?_ _) | (with_reducible refine below_via (by assumption) ?_ ?_) | (with_reducible refine below_via (later_below _) ?_ ?_) | (with_reducible exact Nat.le_refl _) | omega | (simp; omega) | (simp; done)))
end Go.Proofs.YtfclmnglckikbaaGreatDoor
