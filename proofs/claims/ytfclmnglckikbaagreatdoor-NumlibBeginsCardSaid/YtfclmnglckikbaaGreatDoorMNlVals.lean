/- A list of values among the arguments of a law, opened. -/
import Derived.Test.YtfclmnglckikbaaGreatDoorMNlG
import Derived.Test.YtfclmnglckikbaaGreatDoorMValLaw
import Derived.Deep.Slices
namespace Go.Proofs.YtfclmnglckikbaaGreatDoor
open Go.ChangeShapes Go.WideShapes Go.ChangeAt Go.RowKit Go.Joins Go.Deep
set_option linter.unusedVariables false
section
variable {H : Type} {enc : TypeId × Value → H} {w : World} {base : Nat} {spare : Nat → Bool} {held : Bool}
set_option maxRecDepth 100000 in
/-- The five cells of a value that reads. -/
theorem val_cells {n : Nat} {cs : List Value} {x : DataW H × List MemPlace} (hsz : cs.length = 5) (hf : DataW.trod enc Tryz.prog w base spare held n 32 cs = some x) :
    ∃ v : VV, cs = [.int .i64 v.k, .int .i64 v.p, .int .i64 v.q, .string v.s, .int .i64 v.r] ∧ okV v := by
  match cs, hsz with
  | [c0, c1, c2, c3, c4], _ =>
    obtain ⟨xs, n, -, -, -, hlen, hF⟩ := DataW.trod_struct Tryz.underlying32 hf
    have hlen4 : xs.length = 4 := hlen
    have f0 := hF 0 _ rfl
    have f1 := hF 1 _ rfl
    have f2 := hF 2 _ rfl
    have f3 := hF 3 _ rfl
    have t3 : Tryz.prog.cellsOf 3 = 1 := by kernel_rfl
    have t23 : Tryz.prog.cellsOf 30 = 2 := by kernel_rfl
    have t9 : Tryz.prog.cellsOf 9 = 1 := by kernel_rfl
    rw [List.getElem?_eq_getElem (by omega)] at f0 f1 f2 f3
    change DataW.trod enc _ w base spare held n 3 (List.take (Tryz.prog.cellsOf 3) (List.drop 0 [c0, c1, c2, c3, c4])) = _ at f0
    change DataW.trod enc _ w base spare held n 30 (List.take (Tryz.prog.cellsOf 30) (List.drop 1 [c0, c1, c2, c3, c4])) = _ at f1
    change DataW.trod enc _ w base spare held n 9 (List.take (Tryz.prog.cellsOf 9) (List.drop 3 [c0, c1, c2, c3, c4])) = _ at f2
    change DataW.trod enc _ w base spare held n 3 (List.take (Tryz.prog.cellsOf 3) (List.drop 4 [c0, c1, c2, c3, c4])) = _ at f3
    rw [t3] at f0 f3
    rw [t23] at f1
    rw [t9] at f2
    obtain ⟨k, e0, -, w0⟩ := DataW.trod_int Tryz.underlying3 f0
    obtain ⟨ys, m, -, -, -, hlen2, hG⟩ := DataW.trod_struct Tryz.underlying30 f1
    have hlen22 : ys.length = 2 := hlen2
    have g0 := hG 0 _ rfl
    have g1 := hG 1 _ rfl
    rw [List.getElem?_eq_getElem (by omega)] at g0 g1
    change DataW.trod enc _ w base spare held m 3 (List.take (Tryz.prog.cellsOf 3) (List.drop 0 [c1, c2])) = _ at g0
    change DataW.trod enc _ w base spare held m 3 (List.take (Tryz.prog.cellsOf 3) (List.drop 1 [c1, c2])) = _ at g1
    rw [t3] at g0 g1
    obtain ⟨P, e1, -, w1⟩ := DataW.trod_int Tryz.underlying3 g0
    obtain ⟨Q, e2, -, w2⟩ := DataW.trod_int Tryz.underlying3 g1
    obtain ⟨s, e3, -, w3⟩ := DataW.trod_string Tryz.underlying9 f2
    obtain ⟨r, e4, -, w4⟩ := DataW.trod_int Tryz.underlying3 f3
    simp at e0 e1 e2 e3 e4
    subst e0 e1 e2 e3 e4
    obtain ⟨p1, p2⟩ := bounds_i64 w1
    exact ⟨⟨k, P, Q, s, r⟩, rfl, p1, p2, by unfold maxLen at w3; exact w3⟩
set_option maxRecDepth 100000 in
/-- A list of values among the arguments. -/
theorem open_vals {r : Reach} {b0 : Nat} {v : Value} {d : DataW H} {p : List MemPlace} (hv : Value.okWide Tryz.prog w r b0 22 v) (h : DataW.Trod enc Tryz.prog w base spare held 22 v d p) :
    ∃ (a : Option Addr) (n cap : Nat) (l : List VV), v = .slice a n cap ∧ n ≤ 9223372036854775807 ∧ l.length = n ∧ (∀ x ∈ l, okV x) ∧ ∀ i : Nat, ArgIs w a n i (argV l i).k (argV l i).p (argV l i).q (argV l i).s (argV l i).r := by
  obtain ⟨a0, len0, cap0, rfl⟩ := okWide_slice Tryz.underlying22 hv
  obtain ⟨fuel, hf⟩ := h
  have hC : Tryz.prog.cellsOf 32 = 5 := by kernel_rfl
  rcases open_slice Tryz.underlying22 hf with ⟨hcs, -⟩ | ⟨a, len, cap, m, n, D, Pl, hcs, hb, hl, hm, hmm, hx, hi⟩
  · simp [Value.cells] at hcs
    obtain ⟨rfl, rfl, rfl⟩ := hcs
    refine ⟨none, 0, 0, [], rfl, by omega, rfl, (fun x hx => by cases hx), fun i => .inl ⟨.inr ⟨by omega, by omega⟩, rfl, rfl, rfl, rfl, rfl⟩⟩
  · simp [Value.cells] at hcs
    obtain ⟨rfl, rfl, rfl⟩ := hcs
    rw [hC] at hi
    have hlm : len0 ≤ m := by rw [hmm]; split <;> omega
    have each : ∀ i, i < len0 → ∃ v : VV, okV v ∧ a.spot.isSome = false ∧ CellsAt w a.block (a.off + i * 5) v.k v.p v.q v.s v.r := by
      intro i him
      obtain ⟨cs', hc, ht'⟩ := hi i (by omega)
      obtain ⟨_, hcl, hat⟩ := World.cells?_some hc
      obtain ⟨v, rfl, hok⟩ := val_cells hcl ht'
      have hadd : ∀ j, w.cell? ((a.add (i * 5)).add j) = w.cell? ⟨a.block, a.off + i * 5 + j, if i * 5 = 0 ∧ j = 0 then a.spot else none⟩ := by
        intro j
        unfold Addr.add
        by_cases h1 : i * 5 = 0
        · rw [if_pos h1]
          by_cases h2 : j = 0
          · rw [if_pos h2, if_pos ⟨h1, h2⟩, h1, h2]; rfl
          · rw [if_neg h2, if_neg (fun h => h2 h.2), h1]; rfl
        · rw [if_neg h1]
          by_cases h2 : j = 0
          · rw [if_pos h2, if_neg (fun h => h1 h.1), h2]; rfl
          · rw [if_neg h2, if_neg (fun h => h1 h.1)]
      have hsp : a.spot.isSome = false := by
        obtain ⟨cs0, hc0, ht0⟩ := hi 0 (by omega)
        obtain ⟨_, hcl0, hat0⟩ := World.cells?_some hc0
        have h0 := hat0 0 (by omega)
        obtain ⟨v0, rfl, -⟩ := val_cells hcl0 ht0
        cases hs : a.spot.isSome with
        | false => rfl
        | true =>
          exfalso
          have : (a.add (0 * 5)).add 0 = a := by simp [Addr.add]
          rw [this] at h0
          unfold World.cell? at h0
          rw [hs] at h0
          split at h0 <;> simp at h0
      have hnone : ∀ j, (if i * 5 = 0 ∧ j = 0 then a.spot else none) = none := by
        intro j
        split
        · simpa using hsp
        · rfl
      have g : ∀ j, j < 5 → w.cell? ⟨a.block, a.off + i * 5 + j, none⟩ = [Value.int .i64 v.k, .int .i64 v.p, .int .i64 v.q, .string v.s, .int .i64 v.r][j]? := by
        intro j hj
        have := hat j hj
        rw [hadd j, hnone j] at this
        exact this
      exact ⟨v, hok, hsp, g 0 (by omega), g 1 (by omega), g 2 (by omega), g 3 (by omega), g 4 (by omega)⟩
    have all : ∀ k, k ≤ len0 → ∃ l : List VV, l.length = k ∧ (∀ x ∈ l, okV x) ∧ ∀ i, i < k → CellsAt w a.block (a.off + i * 5) (argV l i).k (argV l i).p (argV l i).q (argV l i).s (argV l i).r := by
      intro k
      induction k with
      | zero => exact fun _ => ⟨[], rfl, (fun x hx => by cases hx), fun i hi => by omega⟩
      | succ k ih =>
        intro hk
        obtain ⟨l, h1, h2, h3⟩ := ih (by omega)
        obtain ⟨v, hok, -, hc⟩ := each k (by omega)
        refine ⟨l ++ [v], by simp [h1], fun x hx => ?_, fun i hi => ?_⟩
        · rcases List.mem_append.1 hx with hx | hx
          · exact h2 x hx
          · simp at hx; rw [hx]; exact hok
        · by_cases hik : i < k
          · have e : argV (l ++ [v]) i = argV l i := by rw [argV_lt (by simp; omega), argV_lt (by omega)]; simp [List.getElem_append_left, h1, hik]
            rw [e]; exact h3 i hik
          · obtain rfl : i = k := by omega
            have e : argV (l ++ [v]) i = v := by rw [argV_lt (by simp [h1])]; simp [List.getElem_append_right, h1]
            rw [e]; exact hc
    obtain ⟨l, h1, h2, h3⟩ := all len0 (Nat.le_refl _)
    refine ⟨some a, len0, cap0, l, rfl, by unfold maxLen at hm; omega, h1, h2, fun i => ?_⟩
    by_cases hin : i < len0
    · obtain ⟨v, -, hsp, -⟩ := each i hin
      have ha : a = ⟨a.block, a.off, none⟩ := by
        obtain ⟨b, o, s⟩ := a
        simp at hsp
        rw [hsp]
      exact .inr ⟨a.block, a.off, i, by rw [← ha], rfl, hin, h3 i hin⟩
    · rw [argV_ge (by omega)]
      exact .inl ⟨.inr ⟨by omega, by omega⟩, rfl, rfl, rfl, rfl, rfl⟩
end
end Go.Proofs.YtfclmnglckikbaaGreatDoor
