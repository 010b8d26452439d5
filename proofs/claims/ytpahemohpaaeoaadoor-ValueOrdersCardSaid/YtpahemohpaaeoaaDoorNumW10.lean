/- The contract of numeral.fraction, joined. -/
import Derived.Test.YtpahemohpaaeoaaDoorNumW9
import Derived.Test.YtpahemohpaaeoaaDoorNumPlain3
import Derived.Lib.Strings
namespace Go.Proofs.YtpahemohpaaeoaaDoor
open Go.RowKit
set_option linter.unusedVariables false

theorem run_says (p : ByteArray) (hs : p.size ≤ 9223372036854775807) : RunSays p (runL p.data.toList 10 0) := fun w => run_lit p 0 10 (Nat.zero_le _) hs (by omega) 10 rfl w _ rfl
theorem int_some_says (p : ByteArray) (n : Nat) (hs : p.size ≤ 9223372036854775807) (hd : ∀ c ∈ p.data.toList, dvN c.toNat < 10) (hn : numL 10 p.data.toList 0 = some n) : IntSays p n true := fun w => integer_some p 10 n 10 rfl hs (by omega) (by omega) hd hn w
theorem int_none_says (p : ByteArray) (hs : p.size ≤ 9223372036854775807) (hd : ∀ c ∈ p.data.toList, dvN c.toNat < 10) (hn : numL 10 p.data.toList 0 = none) : IntSays p 0 false := fun w => integer_none p 10 10 rfl hs (by omega) (by omega) hd hn w

theorem frac_parts (s p q : ByteArray) (hp : p.size ≤ 9223372036854775807) (hq : q.size ≤ 9223372036854775807) (w : World) (F : FracFacts s p q) :
    Calls Tryd.prog 60 #[.string s] w fun e w' => e = .returned (tripV (fracT p.data.toList q.data.toList)) ∧ Below w.heap.size w w' := by
  have lp : p.data.toList.length = p.size := by simp
  have lq : q.data.toList.length = q.size := by simp
  unfold fracT
  by_cases h1 : p.toList = []
  · have h1' := h1
    rw [Lib.toList_data] at h1'
    rw [if_neg (fun h => h.1 h1')]
    exact frac_empty1 s p q w F h1
  · by_cases h2 : q.toList = []
    · have h2' := h2
      rw [Lib.toList_data] at h2'
      rw [if_neg (fun h => h.2.1 h2')]
      exact frac_empty2 s p q w F h1 h2
    · have h1' : ¬ p.data.toList = [] := by rwa [Lib.toList_data] at h1
      have h2' : ¬ q.data.toList = [] := by rwa [Lib.toList_data] at h2
      by_cases h3 : runL p.data.toList 10 0 = p.data.toList.length
      · by_cases h4 : runL q.data.toList 10 0 = q.data.toList.length
        · rw [if_pos ⟨h1', h2', h3, h4⟩]
          have d1 := digits_of_run h3
          have d2 := digits_of_run h4
          have r1 := run_says p hp
          have r2 := run_says q hq
          rw [h3, lp] at r1
          rw [h4, lq] at r2
          cases ha : numL 10 p.data.toList 0 with
          | none =>
            cases hb : numL 10 q.data.toList 0 with
            | none => exact frac_ints s p q w F h1 h2 r1 r2 0 0 false false (int_none_says p hp d1 ha) (int_none_says q hq d2 hb) (.inl rfl)
            | some b => exact frac_ints s p q w F h1 h2 r1 r2 0 b false true (int_none_says p hp d1 ha) (int_some_says q b hq d2 hb) (.inl rfl)
          | some a =>
            cases hb : numL 10 q.data.toList 0 with
            | none => exact frac_ints s p q w F h1 h2 r1 r2 a 0 true false (int_some_says p a hp d1 ha) (int_none_says q hq d2 hb) (.inr ⟨rfl, rfl⟩)
            | some b =>
              have ba := numL_bd 10 (by omega) _ 0 a d1 (by omega) (by omega) ha
              have bb := numL_bd 10 (by omega) _ 0 b d2 (by omega) (by omega) hb
              refine frac_make s p q w F h1 h2 r1 r2 a b (int_some_says p a hp d1 ha) (int_some_says q b hq d2 hb) _ _ _ (fun w => make_any a b w) _ ?_
              by_cases hz : b = 0
              · right
                subst hz
                exact ⟨rfl, rfl⟩
              · have hm := makeT_cases (n := (a : Int)) (u := (b : Int)) (by omega) (by omega) (by omega) (by omega)
                dsimp only
                rw [if_neg hz]
                rcases hm with hm | hm
                · exact .inl ⟨hm, trip_eq hm⟩
                · right; rw [hm]; exact ⟨rfl, rfl⟩
        · rw [if_neg (fun h => h4 h.2.2.2)]
          have r1 := run_says p hp
          have r2 := run_says q hq
          rw [h3, lp] at r1
          rw [lq] at h4
          exact frac_run2 s p q w F h1 h2 r1 _ r2 (by simpa using by omega)
      · rw [if_neg (fun h => h3 h.2.2.1)]
        rw [lp] at h3
        exact frac_run1 s p q w F h1 h2 _ (run_says p hp) (by simpa using by omega)

theorem take_extract (s : ByteArray) (k : Nat) : (s.extract 0 k).data.toList = s.data.toList.take k := by rw [extract_list]; unfold sliceL; simp
theorem drop_extract (s : ByteArray) (k : Nat) : (s.extract k s.size).data.toList = s.data.toList.drop k := by
  rw [extract_list]; unfold sliceL
  rw [List.take_of_length_le]
  simp

theorem fraction_any (s : ByteArray) (hs : s.size ≤ 9223372036854775807) (w : World) :
    Calls Tryd.prog 60 #[.string s] w fun e w' => e = .returned (tripV (fracL s.data.toList)) ∧ Below w.heap.size w w' := by
  unfold fracL
  by_cases h : Lib.indexByte s.data.toList 47 = -1
  · rw [if_pos h]
    exact frac_no s h w
  · rw [if_neg h]
    have hge := Lib.indexByte_ge s.data.toList 47
    obtain ⟨k, hk⟩ : ∃ k : Nat, Lib.indexByte s.data.toList 47 = k := ⟨(Lib.indexByte s.data.toList 47).toNat, by omega⟩
    have hlt : k < s.size := by
      have := (Lib.indexByte_some hk).1
      have := (List.getElem?_eq_some_iff.1 this).1
      simpa using this
    rw [hk]
    rw [Int.toNat_natCast, ← take_extract, ← drop_extract]
    exact frac_parts s _ _ (size_extract_le s _ _ (by omega) hs) (size_extract_le s _ _ (by omega) hs) w ⟨fun w => cut_yes s _ _ 47 k hk hlt hs rfl rfl w⟩
end Go.Proofs.YtpahemohpaaeoaaDoor
