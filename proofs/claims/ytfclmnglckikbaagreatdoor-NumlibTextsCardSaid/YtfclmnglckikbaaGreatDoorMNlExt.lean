/- The greatest and the least of a list of numbers: what number.max and number.min answer. -/
import Derived.Test.YtfclmnglckikbaaGreatDoorMNlH
namespace Go.Proofs.YtfclmnglckikbaaGreatDoor
open Go.RowKit
set_option linter.unusedVariables false

/-- Numbers as values. -/
def numsV (l : List (Int × Int)) : List VV := l.map fun x => ⟨2, x.1, x.2, ⟨#[]⟩, 0⟩
theorem numsV_len (l : List (Int × Int)) : (numsV l).length = l.length := by unfold numsV; simp
theorem argV_nums {l : List (Int × Int)} {i : Nat} (h : i < l.length) : argV (numsV l) i = ⟨2, (l[i]).1, (l[i]).2, ⟨#[]⟩, 0⟩ := by
  rw [argV_lt (by rw [numsV_len]; exact h)]
  unfold numsV
  simp
theorem numA_nums {word : ByteArray} {l : List (Int × Int)} {i : Nat} (h : i < l.length) (hv : vldB (l[i]).1 (l[i]).2 = true) : numA word (numsV l) (i + 1) = .inl l[i] := by
  have e : numV3 2 (l[i]).1 (l[i]).2 ⟨#[]⟩ = ((l[i]).1, (l[i]).2, 0) := by unfold numV3; rw [if_pos rfl, hv]; rfl
  unfold numA
  rw [Nat.add_sub_cancel, argV_nums h]
  dsimp only
  rw [e]
  rfl
/-- The order of x and b on the side that f asks for. -/
def sideP (f : Int) (x b : Int × Int) : Prop := (f = 6 → cmpT x.1 x.2 b.1 b.2 ≤ 0) ∧ (f = 7 → 0 ≤ cmpT x.1 x.2 b.1 b.2)
theorem sideP_trans {f : Int} {x y z : Int × Int} (hx : vldB x.1 x.2 = true) (hy : vldB y.1 y.2 = true) (hz : vldB z.1 z.2 = true) (h1 : sideP f x y) (h2 : sideP f y z) : sideP f x z := by
  refine ⟨fun e => ord_trans_T hx hy hz (h1.1 e) (h2.1 e), fun e => ?_⟩
  have k1 := h1.2 e
  have k2 := h2.2 e
  have a1 := cmp_anti_T x.1 x.2 y.1 y.2
  have a2 := cmp_anti_T y.1 y.2 z.1 z.2
  have a3 := cmp_anti_T x.1 x.2 z.1 z.2
  have := ord_trans_T hz hy hx (by omega) (by omega)
  omega
theorem sideP_self (f : Int) (x : Int × Int) : sideP f x x := by
  have := cmp_self_T x.1 x.2
  exact ⟨fun _ => by omega, fun _ => by omega⟩
theorem best_side {f : Int} (hf : f = 6 ∨ f = 7) (a b : Int × Int) : (bestN f (cmpT a.1 a.2 b.1 b.2) b a = a ∧ sideP f b a) ∨ (bestN f (cmpT a.1 a.2 b.1 b.2) b a = b ∧ sideP f a b) := by
  have an := cmp_anti_T a.1 a.2 b.1 b.2
  by_cases ht : (f = 6 ∧ 0 < cmpT a.1 a.2 b.1 b.2) ∨ (f = 7 ∧ cmpT a.1 a.2 b.1 b.2 < 0)
  · left
    refine ⟨bestN_yes ht, fun e => by omega, fun e => by omega⟩
  · right
    refine ⟨bestN_no ht, fun e => by omega, fun e => by omega⟩
theorem extR_best {f : Int} (hf : f = 6 ∨ f = 7) {num : Nat → (Int × Int) ⊕ ByteArray} {l : List (Int × Int)} (hn : ∀ i, (h : i < l.length) → num (i + 1) = .inl l[i]) (hv : ∀ x ∈ l, vldB x.1 x.2 = true) :
    ∀ k, k < l.length → ∃ b, b ∈ l ∧ extR f num k = .inl b ∧ ∀ j, j ≤ k → (h : j < l.length) → sideP f l[j] b := by
  intro k
  induction k with
  | zero =>
    intro hk
    refine ⟨l[0], List.getElem_mem hk, hn 0 hk, fun j hj h => ?_⟩
    obtain rfl : j = 0 := by omega
    exact sideP_self f _
  | succ k ih =>
    intro hk
    obtain ⟨b, hb, he, hs⟩ := ih (by omega)
    have hnext := extR_next he (hn (k + 1) hk)
    have hva := hv _ (List.getElem_mem hk)
    have hvb := hv _ hb
    rcases best_side hf l[k + 1] b with ⟨h1, h2⟩ | ⟨h1, h2⟩
    · rw [h1] at hnext
      refine ⟨l[k + 1], List.getElem_mem hk, hnext, fun j hj h => ?_⟩
      by_cases hjk : j ≤ k
      · exact sideP_trans (hv _ (List.getElem_mem h)) hvb hva (hs j hjk h) h2
      · obtain rfl : j = k + 1 := by omega
        exact sideP_self f _
    · rw [h1] at hnext
      refine ⟨b, hb, hnext, fun j hj h => ?_⟩
      by_cases hjk : j ≤ k
      · exact hs j hjk h
      · obtain rfl : j = k + 1 := by omega
        exact h2
theorem ext_best {f : Int} (hf : f = 6 ∨ f = 7) (word : ByteArray) {l : List (Int × Int)} (h0 : 0 < l.length) (hv : ∀ x ∈ l, vldB x.1 x.2 = true) :
    ∃ b, b ∈ l ∧ vldB b.1 b.2 = true ∧ extA f word (numsV l) = .inl ⟨2, b.1, b.2, ⟨#[]⟩, 0⟩ ∧ ∀ j, (h : j < l.length) → sideP f l[j] b := by
  obtain ⟨b, hb, he, hs⟩ := extR_best hf (num := numA word (numsV l)) (fun i h => numA_nums h (hv _ (List.getElem_mem h))) hv (l.length - 1) (by omega)
  refine ⟨b, hb, hv b hb, ?_, fun j h => hs j (by omega) h⟩
  unfold extA
  rw [numsV_len, he]
  dsimp only
  rw [numVV_in (hv b hb)]
theorem max_best {l : List (Int × Int)} (h0 : 0 < l.length) (hv : ∀ x ∈ l, vldB x.1 x.2 = true) :
    ∃ b, b ∈ l ∧ vldB b.1 b.2 = true ∧ beginA 6 (numsV l) = .inl ⟨2, b.1, b.2, ⟨#[]⟩, 0⟩ ∧ ∀ j, (h : j < l.length) → cmpT (l[j]).1 (l[j]).2 b.1 b.2 ≤ 0 := by
  obtain ⟨b, h1, h2, h3, h4⟩ := ext_best (.inl rfl) (wordN 6) h0 hv
  exact ⟨b, h1, h2, h3, fun j h => (h4 j h).1 rfl⟩
theorem min_best {l : List (Int × Int)} (h0 : 0 < l.length) (hv : ∀ x ∈ l, vldB x.1 x.2 = true) :
    ∃ b, b ∈ l ∧ vldB b.1 b.2 = true ∧ beginA 7 (numsV l) = .inl ⟨2, b.1, b.2, ⟨#[]⟩, 0⟩ ∧ ∀ j, (h : j < l.length) → 0 ≤ cmpT (l[j]).1 (l[j]).2 b.1 b.2 := by
  obtain ⟨b, h1, h2, h3, h4⟩ := ext_best (.inr rfl) (wordN 7) h0 hv
  exact ⟨b, h1, h2, h3, fun j h => (h4 j h).2 rfl⟩

/-- Numbers as the cells of values. -/
def flat5 (l : List (Int × Int)) : List Value := l.flatMap fun x => [.int .i64 2, .int .i64 x.1, .int .i64 x.2, .string ⟨#[]⟩, .int .i64 0]
theorem flat5_cons (x : Int × Int) (l : List (Int × Int)) : flat5 (x :: l) = [.int .i64 2, .int .i64 x.1, .int .i64 x.2, .string ⟨#[]⟩, .int .i64 0] ++ flat5 l := by unfold flat5; simp
theorem flat5_get : ∀ (l : List (Int × Int)) (i : Nat) (h : i < l.length) (j : Nat), j < 5 → (flat5 l)[i * 5 + j]? = [Value.int .i64 2, .int .i64 (l[i]).1, .int .i64 (l[i]).2, .string ⟨#[]⟩, .int .i64 0][j]?
  | [], i, h, _, _ => by cases h
  | x :: l, 0, _, j, hj => by
    rw [flat5_cons, Nat.zero_mul, Nat.zero_add, List.getElem?_append_left (by simpa using hj)]
    rfl
  | x :: l, i + 1, h, j, hj => by
    rw [flat5_cons, List.getElem?_append_right (by simp; omega)]
    have := flat5_get l i (by simpa using h) j hj
    rw [← show (i + 1) * 5 + j - 5 = i * 5 + j by omega] at this
    simpa using this
theorem own_cells {w : World} {base : Nat} {e : TypeId} {v : Value} {n : Nat} {l : List (Int × Int)} (h : w.ownsRow base e 5 v n (flat5 l)) (hn : 0 < n) (hl : l.length = n) :
    ∃ g cap : Nat, v = .slice (some ⟨g, 0, none⟩) n cap ∧ base ≤ g ∧ ∀ i, (hi : i < l.length) → CellsAt w g (i * 5) 2 (l[i]).1 (l[i]).2 ⟨#[]⟩ 0 := by
  obtain ⟨h1, h2 | ⟨g, cap, cur, hv, hg, hh, hnc, hcm, hs, ht⟩⟩ := h
  · omega
  · refine ⟨g, cap, hv, hg, fun i hi => ?_⟩
    have hcell : ∀ j, j < 5 → w.cell? ⟨g, i * 5 + j, none⟩ = [Value.int .i64 2, .int .i64 (l[i]).1, .int .i64 (l[i]).2, .string ⟨#[]⟩, .int .i64 0][j]? := by
      intro j hj
      rw [cell_of_row w g (i * 5 + j) cur _ (0, 0) hh, ← flat5_get l i hi j hj, ← ht, List.getElem?_take]
      rw [if_pos (by omega)]
      simp
    exact ⟨hcell 0 (by omega), hcell 1 (by omega), hcell 2 (by omega), hcell 3 (by omega), hcell 4 (by omega)⟩
end Go.Proofs.YtfclmnglckikbaaGreatDoor
