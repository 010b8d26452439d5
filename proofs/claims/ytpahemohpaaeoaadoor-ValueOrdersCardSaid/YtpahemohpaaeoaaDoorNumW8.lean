/- The contract of the method number of a numeral that 'find' found. -/
import Derived.Test.YtpahemohpaaeoaaDoorNumW7
namespace Go.Proofs.YtpahemohpaaeoaaDoor
open Go.RowKit
set_option linter.unusedVariables false

theorem cat_list (a b : ByteArray) : (a ++ b).data.toList = a.data.toList ++ b.data.toList := by simp

/-- What stands behind the loop, for a text of digits. -/
theorem outcome_of (x : ByteArray) (k : Nat) (hk : k ≤ 9) (hs : x.size ≤ 9223372036854775807) (hd : ∀ c ∈ x.data.toList, dvN c.toNat < 10) :
    Outcome x (10 ^ k) (ofNum (numL 10 x.data.toList 0) (10 ^ k)).1 (ofNum (numL 10 x.data.toList 0) (10 ^ k)).2.1 (ofNum (numL 10 x.data.toList 0) (10 ^ k)).2.2 := by
  cases ho : numL 10 x.data.toList 0 with
  | none => exact .inl ⟨fun w => integer_none x 10 10 rfl hs (by omega) (by omega) hd ho w, rfl, rfl, rfl⟩
  | some n =>
    have hn := numL_bd 10 (by omega) _ 0 n hd (by omega) (by omega) ho
    have ht := ten_pow k hk
    refine .inr ⟨n, fun w => integer_some x 10 n 10 rfl hs (by omega) (by omega) hd ho w, fun w => ?_, ?_⟩
    · have := make_any n (10 ^ k) w
      have hc : ((10 ^ k : Nat) : Int) = 10 ^ k := by push_cast; rfl
      show Calls Tryd.prog _ _ w fun e w' => e = .returned (.tuple #[.agg #[.int .i64 (makeT n ((10 ^ k : Nat) : Int)).1, .int .i64 (makeT n ((10 ^ k : Nat) : Int)).2.1], .int .i64 (makeT n ((10 ^ k : Nat) : Int)).2.2]) ∧ _
      rw [hc]
      exact this
    · have hc : ((10 ^ k : Nat) : Int) = 10 ^ k := by push_cast; rfl
      have hm := makeT_cases (n := (n : Int)) (u := 10 ^ k) (by omega) (by omega) (by omega) (by omega)
      show (makeT n ((10 ^ k : Nat) : Int)).2.2 = 0 ∨ (makeT n ((10 ^ k : Nat) : Int)).1 = 0 ∧ (makeT n ((10 ^ k : Nat) : Int)).2.1 = 0 ∧ (makeT n ((10 ^ k : Nat) : Int)).2.2 = 6
      rw [hc]
      rcases hm with hm | hm
      · exact .inl hm
      · rw [hm]; exact .inr ⟨rfl, rfl, rfl⟩

theorem number_any (s : ByteArray) (i : Nat) (f : Find) (hs : s.size ≤ 9223372036854775807) (hk : Kind s.data.toList i f) (w : World) :
    Calls Tryd.prog 59 #[.agg #[.bool f.hex, .int .i64 f.point, .int .i64 f.end_, .int .i64 f.from_], .string s] w fun e w' => e = .returned (tripV (numT s.data.toList f)) ∧ Below w.heap.size w w' := by
  have hl : s.data.toList.length = s.size := by simp
  cases hk with
  | hex q h1 h2 h3 h4 h5 =>
    rw [hl] at h2
    exact number_whole true 16 (.inl ⟨rfl, rfl⟩) s (i + 2) q (by omega) h2 hs h5 w
  | whole q h1 h2 h3 =>
    rw [hl] at h2
    exact number_whole false 10 (.inr ⟨rfl, rfl⟩) s i q (by omega) h2 hs h3 w
  | point d q h1 h2 h3 h4 h5 h6 =>
    rw [hl] at h3
    by_cases h9 : 9 < q - (d + 1)
    · have ht : numT s.data.toList ⟨false, d, i, q⟩ = (0, 0, 6) := by
        unfold numT
        rw [if_neg (by simp), if_neg (show ¬ (d : Int) < 0 by omega), if_pos (show 9 < q - ((d : Int).toNat + 1) by omega)]
      rw [ht]
      exact number_long s i d q (by omega) (by omega) h3 hs h9 w
    · have ht : numT s.data.toList ⟨false, d, i, q⟩ = ofNum (numL 10 (s.extract i d ++ s.extract (d + 1) q).data.toList 0) (10 ^ (q - (d + 1))) := by
        unfold numT
        rw [if_neg (by simp), if_neg (show ¬ (d : Int) < 0 by omega), if_neg (show ¬ 9 < q - ((d : Int).toNat + 1) by omega)]
        rw [cat_list, extract_list, extract_list]
        rfl
      rw [ht]
      refine number_short s i d q _ _ _ (by omega) (by omega) h3 hs (by omega) (outcome_of _ _ (by omega) ?_ ?_) w
      · simp; omega
      · rw [cat_list, extract_list, extract_list]
        intro c hc
        rcases List.mem_append.1 hc with hc | hc
        · exact h5 c hc
        · exact h6 c hc
end Go.Proofs.YtpahemohpaaeoaaDoor
