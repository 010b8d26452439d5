/- The reference's unsigned, Parse and Scan, joined. -/
import Derived.Test.YtgjeljhodflbgaaDoorMRefN9
import Derived.Test.YtgjeljhodflbgaaDoorMPlainC
import Derived.Test.YtgjeljhodflbgaaDoorMNumC
namespace Go.Proofs.YtgjeljhodflbgaaDoor
open Go.RowKit
set_option linter.unusedVariables false

theorem kind_pos {l : List UInt8} {i : Nat} {f : Find} (h : Kind l i f) : i < f.end_ := by
  cases h with
  | hex q h1 => show i < q; omega
  | point d q h1 h2 => show i < q; omega
  | whole q h1 => exact h1
theorem unsL_bd (u : List UInt8) : -2147483647 ≤ (unsL u).1 ∧ (unsL u).1 ≤ 2147483647 := by
  unfold unsL
  split
  · split
    · exact numT_bd _ _
    · exact fracL_bd _
  · exact fracL_bd _
theorem rscan_any (s : ByteArray) (a : Int) (hs : s.size ≤ 4000) (w : World) :
    Calls Tryd.prog 52 #[.string s, .int .i64 a] w fun e w' => e = .returned (scanV (scanL s.data.toList a)) ∧ Below w.heap.size w w' := by
  have hl : s.data.toList.length = s.size := by simp
  suffices h : RScan s a (scanL s.data.toList a).1 (scanL s.data.toList a).2.1 (scanL s.data.toList a).2.2.1 (scanL s.data.toList a).2.2.2 from h w
  unfold scanL
  by_cases h : a < 0 ∨ (s.data.toList.length : Int) < a
  · rw [if_pos h]
    exact rscan_out s a (by omega)
  · rw [if_neg h]
    obtain ⟨i, rfl⟩ : ∃ i : Nat, a = i := ⟨a.toNat, by omega⟩
    rw [Int.toNat_natCast]
    have hn := rnumeral_any s i (by omega) hs
    cases hf : findL s.data.toList i with
    | none =>
      have e : rnumT s.data.toList i = (i, 0, 0, 4) := by unfold rnumT; rw [hf]
      rw [e] at hn
      exact rscan_in s i (by omega) (by omega) i 0 0 4 hn 0 0 0 (.inr ⟨by omega, rfl, rfl, rfl⟩)
    | some f =>
      have e : rnumT s.data.toList i = (f.end_, numT s.data.toList f) := by unfold rnumT; rw [hf]
      rw [e] at hn
      dsimp only
      by_cases h2 : (numT s.data.toList f).2.2 = 0
      · rw [if_pos h2]
        have := rscan_in s i (by omega) (by omega) f.end_ _ _ _ hn _ _ _ (.inl ⟨h2, rfl, rfl, rfl⟩)
        rw [h2] at this
        exact this
      · rw [if_neg h2]
        exact rscan_in s i (by omega) (by omega) f.end_ _ _ _ hn 0 0 0 (.inr ⟨h2, rfl, rfl, rfl⟩)
end Go.Proofs.YtgjeljhodflbgaaDoor
