/- Plain facts on the numeral that 'find' finds: its parts are digits. No program in sight. -/
import Derived.Test.YtpahemohpaaeoaaDoorNumPlain
import Derived.Test.YtpahemohpaaeoaaDoorRatPlain
namespace Go.Proofs.YtpahemohpaaeoaaDoor
set_option linter.unusedVariables false

/-- The bytes from an index to another. -/
def sliceL (l : List UInt8) (a b : Nat) : List UInt8 := (l.drop a).take (b - a)

/-- The number with digits over a power of ten: numerator, denominator, error. -/
def ofNum (o : Option Nat) (u : Nat) : Int × Int × Int := match o with | none => (0, 0, 6) | some n => makeT n u

/-- The number of a numeral. -/
def numT (l : List UInt8) (f : Find) : Int × Int × Int :=
  if f.hex then ofNum (numL 16 (sliceL l f.from_ f.end_) 0) 1
  else if f.point < 0 then ofNum (numL 10 (sliceL l f.from_ f.end_) 0) 1
  else if 9 < f.end_ - (f.point.toNat + 1) then (0, 0, 6)
  else ofNum (numL 10 (sliceL l f.from_ f.point.toNat ++ sliceL l (f.point.toNat + 1) f.end_) 0) (10 ^ (f.end_ - (f.point.toNat + 1)))

theorem slice_run (l : List UInt8) (b i : Nat) : sliceL l i (runL l b i) = (l.drop i).takeWhile fun c => decide (dvN c.toNat < b) := by
  unfold sliceL runL
  rw [Nat.add_sub_cancel_left]
  exact ((List.prefix_iff_eq_take).1 (List.takeWhile_prefix _)).symm

theorem mem_takeWhile {α : Type} {p : α → Bool} : ∀ {l : List α} {x : α}, x ∈ l.takeWhile p → p x = true
  | [], _, h => by simp at h
  | a :: l, x, h => by
    by_cases ha : p a = true
    · rw [List.takeWhile_cons_of_pos ha] at h
      rcases List.mem_cons.1 h with rfl | h
      · exact ha
      · exact mem_takeWhile h
    · rw [List.takeWhile_cons_of_neg ha] at h; cases h

theorem slice_run_digits (l : List UInt8) (b i : Nat) : ∀ c ∈ sliceL l i (runL l b i), dvN c.toNat < b := by
  intro c hc
  rw [slice_run] at hc
  simpa using mem_takeWhile hc

/-- The three kinds of a numeral. -/
inductive Kind (l : List UInt8) (i : Nat) : Find → Prop
  | hex (q : Nat) : i + 2 < q → q ≤ l.length → bat l i = 48 → (bat l (i + 1) = 120 ∨ bat l (i + 1) = 88) → (∀ c ∈ sliceL l (i + 2) q, dvN c.toNat < 16) → Kind l i ⟨true, -1, i + 2, q⟩
  | point (d q : Nat) : i < d → d + 1 < q → q ≤ l.length → bat l d = 46 → (∀ c ∈ sliceL l i d, dvN c.toNat < 10) → (∀ c ∈ sliceL l (d + 1) q, dvN c.toNat < 10) → Kind l i ⟨false, d, i, q⟩
  | whole (q : Nat) : i < q → q ≤ l.length → (∀ c ∈ sliceL l i q, dvN c.toNat < 10) → Kind l i ⟨false, -1, i, q⟩

theorem find_kind {l : List UInt8} {i : Nat} {f : Find} (hi : i ≤ l.length) (h : findL l i = some f) : Kind l i f := by
  have g1 := runL_le l 10 i hi
  have g2 := runL_ge l 10 i
  have d1 := slice_run_digits l 10 i
  unfold findL at h
  simp only [] at h
  split at h
  · cases h
  · rename_i hne
    split at h
    · rename_i hx
      obtain ⟨h1, h2, h3, h4, h5⟩ := hx
      cases h
      rw [h1] at h3 h4 h5 ⊢
      exact Kind.hex _ (by omega) (runL_le l 16 _ (by omega)) h2 h4 (slice_run_digits l 16 _)
    · split at h
      · rename_i hp
        obtain ⟨h1, h2, h3⟩ := hp
        cases h
        exact Kind.point _ _ (by omega) h3 (runL_le l 10 _ (by omega)) h2 d1 (slice_run_digits l 10 _)
      · cases h
        exact Kind.whole _ (by omega) g1 d1
end Go.Proofs.YtpahemohpaaeoaaDoor
