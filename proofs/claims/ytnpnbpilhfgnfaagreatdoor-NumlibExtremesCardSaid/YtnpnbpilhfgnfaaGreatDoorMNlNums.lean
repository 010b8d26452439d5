/- A list of numbers among the arguments of a law, opened. -/
import Derived.Test.YtnpnbpilhfgnfaaGreatDoorMValLaw
import Derived.Deep.SlicePairs
namespace Go.Proofs.YtnpnbpilhfgnfaaGreatDoor
open Go.ChangeShapes Go.WideShapes Go.ChangeAt Go.RowKit Go.Joins Go.Deep
set_option linter.unusedVariables false
section
variable {H : Type} {enc : TypeId × Value → H} {w : World} {base : Nat} {spare : Nat → Bool} {held : Bool}
set_option maxRecDepth 100000 in
/-- A list of numbers among the arguments: its block, where it begins, its numbers. -/
theorem open_nums {r : Reach} {b0 : Nat} {v : Value} {d : DataW H} {p : List MemPlace} (hv : Value.okWide Tryz.prog w r b0 39 v) (h : DataW.Trod enc Tryz.prog w base spare held 39 v d p) :
    ∃ (a : Option Addr) (n cap : Nat) (l : List (Int × Int)), v = .slice a n cap ∧ n ≤ 9223372036854775807 ∧ l.length = n ∧ (∀ x ∈ l, -9223372036854775808 ≤ x.1 ∧ x.1 ≤ 9223372036854775807) ∧
      (n = 0 ∨ ∃ b o : Nat, a = some ⟨b, o, none⟩ ∧ ∀ i, (hi : i < l.length) → w.cell? ⟨b, o + i * 2, none⟩ = some (.int .i64 (l[i]).1) ∧ w.cell? ⟨b, o + i * 2 + 1, none⟩ = some (.int .i64 (l[i]).2)) := by
  obtain ⟨a0, len0, cap0, rfl⟩ := okWide_slice Tryz.underlying39 hv
  obtain ⟨fuel, hf⟩ := h
  rcases open_slice_pairs Tryz.underlying39 Tryz.underlying26 (by kernel_rfl) rfl rfl (by kernel_rfl) (by kernel_rfl) hf with ⟨hcs, -⟩ | ⟨a, len, cap, m, n, V0, V1, D0, D1, P0, P1, hcs, hb, hl, hm, hmm, hx, hi⟩
  · simp [Value.cells] at hcs
    obtain ⟨rfl, rfl, rfl⟩ := hcs
    exact ⟨none, 0, 0, [], rfl, by omega, rfl, (fun x hx => by cases hx), .inl rfl⟩
  · simp [Value.cells] at hcs
    obtain ⟨rfl, rfl, rfl⟩ := hcs
    have hlm : len0 ≤ m := by rw [hmm]; split <;> omega
    have each : ∀ i, i < len0 → ∃ x : Int × Int, (-9223372036854775808 ≤ x.1 ∧ x.1 ≤ 9223372036854775807) ∧ w.cell? (a.add (i * 2)) = some (.int .i64 x.1) ∧ w.cell? (a.add (i * 2 + 1)) = some (.int .i64 x.2) := by
      intro i him
      obtain ⟨h0, h1, t0, t1⟩ := hi i (by omega)
      obtain ⟨P, e0, -, w0⟩ := DataW.trod_int Tryz.underlying3 t0
      obtain ⟨Q, e1, -, w1⟩ := DataW.trod_int Tryz.underlying3 t1
      simp at e0 e1
      obtain ⟨p1, p2⟩ := bounds_i64 w0
      exact ⟨(P, Q), ⟨p1, p2⟩, by rw [h0, e0], by rw [h1, e1]⟩
    have all : ∀ k, k ≤ len0 → ∃ l : List (Int × Int), l.length = k ∧ (∀ x ∈ l, -9223372036854775808 ≤ x.1 ∧ x.1 ≤ 9223372036854775807) ∧ ∀ i, (h : i < l.length) → w.cell? (a.add (i * 2)) = some (.int .i64 (l[i]).1) ∧ w.cell? (a.add (i * 2 + 1)) = some (.int .i64 (l[i]).2) := by
      intro k
      induction k with
      | zero => exact fun _ => ⟨[], rfl, (fun x hx => by cases hx), fun i hi => by cases hi⟩
      | succ k ih =>
        intro hk
        obtain ⟨l, h1, h2, h3⟩ := ih (by omega)
        obtain ⟨x, hxb, hc0, hc1⟩ := each k (by omega)
        refine ⟨l ++ [x], by simp [h1], fun y hy => ?_, fun i hi => ?_⟩
        · rcases List.mem_append.1 hy with hy | hy
          · exact h2 y hy
          · simp at hy; rw [hy]; exact hxb
        · by_cases hik : i < l.length
          · have e : (l ++ [x])[i] = l[i] := by simp [List.getElem_append_left, hik]
            rw [e]; exact h3 i hik
          · obtain rfl : i = k := by simp at hi; omega
            have e : (l ++ [x])[i] = x := by simp [List.getElem_append_right, h1]
            rw [e]; exact ⟨hc0, hc1⟩
    obtain ⟨l, h1, h2, h3⟩ := all len0 (Nat.le_refl _)
    refine ⟨some a, len0, cap0, l, rfl, by unfold maxLen at hm; omega, h1, h2, ?_⟩
    by_cases h0 : len0 = 0
    · exact .inl h0
    · right
      have hsp : a.spot = none := by
        have hc := (h3 0 (by omega)).1
        have : a.add (0 * 2) = a := by simp [Addr.add]
        rw [this] at hc
        unfold World.cell? at hc
        cases hs : a.spot with
        | none => rfl
        | some x =>
          exfalso
          rw [hs] at hc
          split at hc <;> simp at hc
      refine ⟨a.block, a.off, by obtain ⟨b, o, s⟩ := a; simp at hsp; rw [hsp], fun i hil => ?_⟩
      have g : ∀ j, w.cell? (a.add j) = w.cell? ⟨a.block, a.off + j, none⟩ := by
        intro j
        unfold Addr.add
        by_cases hj : j = 0
        · rw [if_pos hj, hj]
          obtain ⟨b, o, s⟩ := a
          simp at hsp
          rw [hsp]; rfl
        · rw [if_neg hj]
      have hc := h3 i hil
      rw [g, g] at hc
      exact hc
end
end Go.Proofs.YtnpnbpilhfgnfaaGreatDoor
