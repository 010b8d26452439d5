/- What the laws on formats say, in plain Lean: no program in sight. -/
import Derived.Test.YtemlijadhdejeaaGreatDoorMFmA
namespace Go.Proofs.YtemlijadhdejeaaGreatDoor
set_option linter.unusedVariables false

/-- How many parts are directives. -/
def cntP : List Pc → Nat
  | [] => 0
  | p :: P => (if p.v = 0 then 0 else 1) + cntP P
theorem cntP_drop (P : List Pc) (j : Nat) (h : j < P.length) : cntP (P.drop j) = (if (P[j]).v = 0 then 0 else 1) + cntP (P.drop (j + 1)) := by
  rw [List.drop_eq_getElem_cons h, cntP]
theorem cntP_le : ∀ P : List Pc, cntP P ≤ P.length
  | [] => Nat.le_refl _
  | p :: P => by
    have := cntP_le P
    rw [cntP]
    split <;> simp <;> omega
theorem runP_counts (l : List VV) : ∀ (P : List Pc) (k : Nat) (out : List UInt8), k ≤ l.length →
    (k + cntP P ≤ l.length → (runP fmtL l P k out).2.2 ≠ 18) ∧ (l.length < k + cntP P → ((runP fmtL l P k out).2.2 = 18 ∧ (runP fmtL l P k out).2.1 = l.length + 1) ∨ ((runP fmtL l P k out).2.2 = 8 ∧ (runP fmtL l P k out).2.1 ≤ l.length))
  | [], k, out, hk => ⟨fun _ => by simp [runP], fun h => by simp [cntP] at h; omega⟩
  | p :: P, k, out, hk => by
    rw [runP, cntP]
    by_cases h0 : p.v = 0
    · rw [if_pos h0, if_pos h0, Nat.zero_add]; exact runP_counts l P k _ hk
    · rw [if_neg h0, if_neg h0]
      cases hl : l[k]? with
      | none =>
        have : l.length ≤ k := List.getElem?_eq_none_iff.1 hl
        exact ⟨fun h => by omega, fun _ => .inl ⟨rfl, by simp only []; omega⟩⟩
      | some v =>
        have hkl : k < l.length := (List.getElem?_eq_some_iff.1 hl).1
        simp only []
        cases fmtL p v with
        | none => exact ⟨fun _ => by simp, fun _ => .inr ⟨rfl, by simp only []; omega⟩⟩
        | some s =>
          simp only []
          have := runP_counts l P (k + 1) (out ++ s) hkl
          exact ⟨fun h => this.1 (by omega), fun h => this.2 (by omega)⟩
theorem endF_e (r : List UInt8 × Nat × Int) : (endF r).2.2 = r.2.2 ∨ (endF r).2.2 = 14 := by
  unfold endF
  split
  · exact .inr rfl
  · exact .inl rfl
theorem endF_bad {r : List UInt8 × Nat × Int} (h : r.2.2 ≠ 0) : endF r = r := by
  unfold endF
  exact if_neg (fun h2 => h h2.1)
/-- Counts: enough arguments. -/
theorem counts_yes (l : List VV) (P : List Pc) (h : cntP P ≤ l.length) : (fmtR (some P) l).2.2 ≠ 18 := by
  have h1 := (runP_counts l P 0 [] (Nat.zero_le _)).1 (by omega)
  show (endF _).2.2 ≠ 18
  rcases endF_e (runP fmtL l P 0 []) with h2 | h2
  · rw [h2]; exact h1
  · rw [h2]; decide
/-- Counts: too few. -/
theorem counts_no (l : List VV) (P : List Pc) (h : l.length < cntP P) : ((fmtR (some P) l).2.2 = 18 ∧ (fmtR (some P) l).2.1 = l.length + 1) ∨ ((fmtR (some P) l).2.2 = 8 ∧ (fmtR (some P) l).2.1 ≤ l.length) := by
  have h1 := (runP_counts l P 0 [] (Nat.zero_le _)).2 (by omega)
  show ((endF _).2.2 = 18 ∧ (endF _).2.1 = l.length + 1) ∨ ((endF _).2.2 = 8 ∧ (endF _).2.1 ≤ l.length)
  rw [endF_bad (by rcases h1 with h | h <;> rw [h.1] <;> decide)]
  exact h1
/-- A format's outcome out of its events. -/
theorem fmtR_grp {f : List UInt8} {E : List Ev} (he : evs f = some E) (l : List VV) : fmtR (some (grp E [])) l = endF (runE fmtL l E 0 []) := by
  show endF (runP fmtL l (grp E []) 0 []) = _
  rw [runP_grp fmtL l E 0 [] [] (evs_dirs f.length f E (Nat.le_refl _) he).1]
  rfl
theorem cnt_flush (a : List UInt8) (P : List Pc) : cntP (flushP a ++ P) = cntP P := by
  unfold flushP
  split
  · rfl
  · show cntP (txtP a :: P) = _
    rw [cntP]
    simp [txtP]
theorem cnt_grp : ∀ (E : List Ev) (a : List UInt8), dirsOk E → cntP (grp E a) = dirsN E
  | [], a, _ => by
    have := cnt_flush a []
    rw [List.append_nil] at this
    rw [grp, this]; rfl
  | .ch c :: E, a, h => by rw [grp, dirsN]; exact cnt_grp E (a ++ [c]) (fun q hq => h q (List.mem_cons_of_mem _ hq))
  | .dr p :: E, a, h => by
    rw [grp, cnt_flush, cntP, if_neg (h p List.mem_cons_self), dirsN, cnt_grp E [] (fun q hq => h q (List.mem_cons_of_mem _ hq))]
    omega
/-- Two formats, one behind the other: the outcome. -/
theorem apart_law {f g : List UInt8} {E : List Ev} (he : evs f = some E) (a b : List VV) (ha : a.length = dirsN E) (R1 R2 R3 : List UInt8 × Nat × Int)
    (h1 : R1 = fmtR (some (grp E [])) a) (h2 : R2 = fmtR ((evs g).map fun F => grp F []) b) (h3 : R3 = fmtR ((evs (f ++ g)).map fun F => grp F []) (a ++ b)) :
    (R1.2.2 ≠ 0 ∨ R2.2.2 ≠ 0 → R1.2.2 ≠ 0 ∨ R3.2.2 ≠ 0) ∧ (R1.2.2 = 0 → R2.2.2 = 0 → (4096 < R1.1.length + R2.1.length → R3.2.2 = 14) ∧ (¬ 4096 < R1.1.length + R2.1.length → R3 = (R1.1 ++ R2.1, 0, 0))) := by
  rw [evs_app g f.length f E (Nat.le_refl _) he] at h3
  rw [fmtR_grp he] at h1
  cases hg : evs g with
  | none =>
    rw [hg] at h2 h3
    have e3 : R3.2.2 = 4 := by rw [h3]; rfl
    have e2 : R2.2.2 = 4 := by rw [h2]; rfl
    exact ⟨fun _ => .inr (by rw [e3]; decide), fun _ h => by rw [e2] at h; cases h⟩
  | some F =>
    have heF : evs (f ++ g) = some (E ++ F) := by rw [evs_app g f.length f E (Nat.le_refl _) he, hg]; rfl
    rw [hg] at h2 h3
    have h2' : R2 = endF (runE fmtL b F 0 []) := by rw [h2]; exact fmtR_grp hg b
    have h3' : R3 = endF (runE fmtL (a ++ b) (E ++ F) 0 []) := by rw [h3]; exact fmtR_grp heF (a ++ b)
    clear h2 h3
    have q1 := runE_args fmtL (a ++ b) a E 0 0 [] (fun i hi => by
      rw [List.getElem?_append_left (by omega)])
    obtain ⟨q11, q12, q13⟩ := q1
    rw [runE_app] at h3'
    rw [q11, q12] at h3'
    obtain ⟨r1, hr1⟩ : ∃ r, runE fmtL a E 0 [] = r := ⟨_, rfl⟩
    rw [hr1] at h1 h3' q11 q12 q13
    have q2 := runE_args fmtL (a ++ b) b F (0 + dirsN E) 0 r1.1 (fun i _ => by
      rw [List.getElem?_append_right (by omega), show 0 + dirsN E + i - a.length = 0 + i by omega])
    obtain ⟨q21, q22, q23⟩ := q2
    have q3 := runE_out fmtL b F 0 r1.1
    obtain ⟨r2, hr2⟩ : ∃ r, runE fmtL b F 0 [] = r := ⟨_, rfl⟩
    rw [hr2] at h2' q3
    obtain ⟨r3, hr3⟩ : ∃ r, runE fmtL (a ++ b) F (0 + dirsN E) r1.1 = r := ⟨_, rfl⟩
    rw [hr3] at h3' q21 q22 q23
    have n1 := runE_n fmtL a E 0 []
    rw [hr1] at n1
    have n2 := runE_n fmtL b F 0 []
    rw [hr2] at n2
    have n3 := runE_n fmtL (a ++ b) F (0 + dirsN E) r1.1
    rw [hr3] at n3
    by_cases e1 : r1.2.2 = 0
    · rw [if_pos e1] at h3'
      by_cases l1 : 4096 < r1.1.length
      · have : R1 = ([], 0, 14) := by rw [h1]; exact if_pos ⟨e1, l1⟩
        exact ⟨fun _ => .inl (by rw [this]; decide), fun h => by rw [this] at h; cases h⟩
      · have hR1 : R1 = r1 := by rw [h1]; exact if_neg (fun h => l1 h.2)
        by_cases e2 : r2.2.2 = 0
        · rw [if_pos e2] at q3
          have hr31 : r3.1 = r1.1 ++ r2.1 := by rw [q21, q3]
          have hr32 : r3.2.2 = 0 := by rw [q22, q3]; exact e2
          by_cases l2 : 4096 < r2.1.length
          · have hR2 : R2 = ([], 0, 14) := by rw [h2']; exact if_pos ⟨e2, l2⟩
            have hR3 : R3 = ([], 0, 14) := by rw [h3']; exact if_pos ⟨hr32, by rw [hr31, List.length_append]; omega⟩
            exact ⟨fun _ => .inr (by rw [hR3]; decide), fun _ h => by rw [hR2] at h; cases h⟩
          · have hR2 : R2 = r2 := by rw [h2']; exact if_neg (fun h => l2 h.2)
            refine ⟨fun h => by rw [hR1, hR2] at h; omega, fun _ _ => ⟨fun h => ?_, fun h => ?_⟩⟩
            · rw [hR1, hR2] at h
              have hR3 : R3 = ([], 0, 14) := by rw [h3']; exact if_pos ⟨hr32, by rw [hr31, List.length_append]; exact h⟩
              rw [hR3]
            · rw [hR1, hR2] at h ⊢
              have hR3 : R3 = r3 := by rw [h3']; exact if_neg (fun h2 => h (by have := h2.2; rw [hr31, List.length_append] at this; exact this))
              rw [hR3, ← hr31, ← n3 hr32, ← hr32]
        · rw [if_neg e2] at q3
          have hR2 : R2 = r2 := by rw [h2']; exact endF_bad e2
          have hr3e : r3.2.2 = r2.2.2 := by rw [q22, q3]
          have hR3 : R3 = r3 := by rw [h3']; exact endF_bad (by rw [hr3e]; exact e2)
          exact ⟨fun _ => .inr (by rw [hR3, hr3e]; exact e2), fun _ h => by rw [hR2] at h; exact absurd h e2⟩
    · have hR1 : R1 = r1 := by rw [h1]; exact endF_bad e1
      exact ⟨fun _ => .inl (by rw [hR1]; exact e1), fun h => by rw [hR1] at h; exact absurd h e1⟩
end Go.Proofs.YtemlijadhdejeaaGreatDoor
