/- Plain facts for the law NumlibTexts: what Begin answers for base and fixed at numbers. -/
import Derived.Test.YtfclmnglckikbaaGreatDoorMNlH
namespace Go.Proofs.YtfclmnglckikbaaGreatDoor
open Go.RowKit Go.Instr
set_option linter.unusedVariables false

theorem intA_num {word : ByteArray} {l : List VV} {i : Nat} {P Q std : Int} {opt : Bool} (hv : vldB P Q = true) (hl : argV l (i - 1) = ⟨2, P, Q, ⟨#[]⟩, 0⟩) : intA word l i std opt = if Q = 1 then .inl P else .inr (badS word i intS) := by
  have e : numV3 2 P Q ⟨#[]⟩ = (P, Q, 0) := by unfold numV3; rw [if_pos rfl, hv]; rfl
  have hn : numA word l i = .inl (P, Q) := by
    unfold numA
    rw [hl]
    dsimp only
    rw [e]
    rfl
  unfold intA
  rw [hl, if_neg (fun h => by have h2 : (2 : Int) = 0 := h.2; omega), hn]
  dsimp only
  unfold wholeB
  rw [hv]
  by_cases hq : Q = 1
  · rw [if_pos hq, if_pos (by simpa using hq)]
  · rw [if_neg hq, if_neg (by simpa using hq)]
section
variable {P Q : Int} (hv : vldB P Q = true)
include hv
theorem bg_fixed {n : Int} (h : -100 ≤ n ∧ n ≤ 100) : beginA 4 [⟨2, P, Q, ⟨#[]⟩, 0⟩, ⟨2, n, 1, ⟨#[]⟩, 0⟩] = if (fixL P Q n).2 = 0 then .inl ⟨3, 0, 0, mkS (fixL P Q n).1, 0⟩ else .inr (badS (wordN 4) 2 oorS) := by
  show placesA (wordN 4) _ = _
  unfold placesA
  rw [numA_one hv, intA_num (P := n) (Q := 1) (one_vld ⟨by omega, by omega⟩) rfl, if_pos rfl]
  rfl
theorem bg_base_no (hq : Q ≠ 1) : beginA 1 [⟨2, P, Q, ⟨#[]⟩, 0⟩] = .inr (badS (wordN 1) 1 intS) := by
  show digitsA (wordN 1) _ = _
  unfold digitsA
  rw [intA_num hv rfl, if_neg hq]
  rfl
end
theorem bg_base_ten {P : Int} (hv : vldB P 1 = true) : beginA 1 [⟨2, P, 1, ⟨#[]⟩, 0⟩] = .inl ⟨3, 0, 0, mkS (textL P 1), 0⟩ := by
  have hb : baseL P 10 = (Lib.itoa P, 0) := by unfold baseL; rw [if_neg (by omega), itoa_bText]; rfl
  have ht : textL P 1 = Lib.itoa P := by unfold textL; rw [hv]; rfl
  show digitsA (wordN 1) _ = _
  unfold digitsA
  rw [intA_num hv rfl, if_pos rfl]
  dsimp only
  have hi : intA (wordN 1) [⟨2, P, 1, ⟨#[]⟩, 0⟩] 2 10 true = .inl 10 := by
    unfold intA
    rw [if_pos ⟨rfl, rfl⟩]
  rw [hi]
  dsimp only
  rw [hb, ht, if_pos rfl]
  rfl
theorem bg_base {P n : Int} (hv : vldB P 1 = true) (h : -100 ≤ n ∧ n ≤ 100) : beginA 1 [⟨2, P, 1, ⟨#[]⟩, 0⟩, ⟨2, n, 1, ⟨#[]⟩, 0⟩] = if (baseL P n).2 = 0 then .inl ⟨3, 0, 0, mkS (baseL P n).1, 0⟩ else .inr (badS (wordN 1) 2 oorS) := by
  show digitsA (wordN 1) _ = _
  unfold digitsA
  rw [intA_num hv rfl, if_pos rfl]
  dsimp only
  rw [intA_num (P := n) (Q := 1) (one_vld ⟨by omega, by omega⟩) rfl, if_pos rfl]
  rfl
end Go.Proofs.YtfclmnglckikbaaGreatDoor
