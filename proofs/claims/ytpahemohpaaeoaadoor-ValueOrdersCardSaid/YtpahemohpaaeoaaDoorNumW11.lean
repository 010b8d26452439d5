/- The contracts of numeral.Parse and numeral.Scan. -/
import Derived.Test.YtpahemohpaaeoaaDoorNumW10
namespace Go.Proofs.YtpahemohpaaeoaaDoor
open Go.RowKit
set_option linter.unusedVariables false

set_option maxHeartbeats 1000000 in
theorem ntrim_any (s : ByteArray) (hs : s.size ≤ 9223372036854775807) (w : World) :
    Calls Tryd.prog 56 #[.string s] w fun e w' => e = .returned (.string (mkS (Lib.trimS s.data.toList blanks))) ∧ Below w.heap.size w w' := by
  have HC := Lib.hid (trim_lib s hs)
  go_enter Tryd.func56, Tryd.ntmps56
  go_wp2_with (first | (go_at_call 62; refine (HC.out _).mono ?_; rintro e w1 ⟨rfl, hb⟩))
  go_returns
  exact ⟨rfl, hb⟩

abbrev TrimSays (s t : ByteArray) : Prop := ∀ w, Calls Tryd.prog 56 #[.string s] w fun e w' => e = .returned (.string t) ∧ Below w.heap.size w w'
abbrev SignSays (t u : ByteArray) (m : Bool) : Prop := ∀ w, Calls Tryd.prog 57 #[.string t, .string ⟨#[45]⟩] w fun e w' => e = .returned (.tuple #[.string u, .bool m]) ∧ w = w'
abbrev FindSays (u : ByteArray) (hex : Bool) (pt en fr : Int) (ok : Bool) : Prop := ∀ w, Calls Tryd.prog 58 #[.string u, .int .i64 0] w fun e w' => e = .returned (.tuple #[.agg #[.bool hex, .int .i64 pt, .int .i64 en, .int .i64 fr], .bool ok]) ∧ Below w.heap.size w w'
abbrev NumSays (u : ByteArray) (hex : Bool) (pt en fr : Int) (P Q E : Int) : Prop := ∀ w, Calls Tryd.prog 59 #[.agg #[.bool hex, .int .i64 pt, .int .i64 en, .int .i64 fr], .string u] w fun e w' => e = .returned (.tuple #[.agg #[.int .i64 P, .int .i64 Q], .int .i64 E]) ∧ Below w.heap.size w w'
abbrev FracSays (u : ByteArray) (P Q E : Int) : Prop := ∀ w, Calls Tryd.prog 60 #[.string u] w fun e w' => e = .returned (.tuple #[.agg #[.int .i64 P, .int .i64 Q], .int .i64 E]) ∧ Below w.heap.size w w'

/-- How the sign and the error shape what Parse returns. -/
def Shape (m : Bool) (P Q E : Int) (T : Int × Int × Int) : Prop := (E != 0) = true ∧ T = (0, 0, E) ∨ E = 0 ∧ m = false ∧ T = (P, Q, 0) ∨ E = 0 ∧ m = true ∧ T = (-P, Q, 0)

theorem shape_of (m : Bool) (t : Int × Int × Int) : Shape m t.1 t.2.1 t.2.2 (minusT m t) := by
  unfold Shape minusT
  by_cases h : t.2.2 = 0
  · rw [if_pos h]
    right
    cases m
    · left; exact ⟨h, rfl, rfl⟩
    · right; exact ⟨h, rfl, rfl⟩
  · rw [if_neg h]
    left
    exact ⟨by simpa using h, rfl⟩

set_option maxHeartbeats 4000000 in
theorem parse_num (s t u : ByteArray) (m hex : Bool) (pt en fr P Q E : Int) (T : Int × Int × Int) (w : World) (h1 : TrimSays s t) (h2 : SignSays t u m) (h3 : FindSays u hex pt en fr true) (h4 : (en == u.size) = true) (h5 : NumSays u hex pt en fr P Q E)
    (hP1 : -2147483647 ≤ P) (hP2 : P ≤ 2147483647) (h6 : Shape m P Q E T) :
    Calls Tryd.prog 47 #[.string s] w fun e w' => e = .returned (tripV T) ∧ Below w.heap.size w w' := by
  have H1 := Lib.hid h1
  have H2 := Lib.hid h2
  have H3 := Lib.hid h3
  have H5 := Lib.hid h5
  clear h1 h2 h3 h5
  rcases h6 with ⟨h6, rfl⟩ | ⟨rfl, rfl, rfl⟩ | ⟨rfl, rfl, rfl⟩
  all_goals
    go_enter Tryd.func47, Tryd.ntmps47
    go_wp2_with (first | (go_at_call 56; refine (H1.out _).mono ?_; rintro e w1 ⟨rfl, hb⟩; (refine mem hb ?_; intro N hN hz hc hf; (try simp at hN); subst hN)) | (go_at_call 57; refine (H2.out _).mono ?_; rintro e w2 ⟨rfl, rfl⟩) | (go_at_call 58; refine (H3.out _).mono ?_; rintro e w3 ⟨rfl, hb⟩; (refine mem hb ?_; intro N hN hz hc hf; (try simp at hN); subst hN)) | (go_at_call 59; refine (H5.out _).mono ?_; rintro e w4 ⟨rfl, hb⟩; (refine mem hb ?_; intro N hN hz hc hf; (try simp at hN); subst hN)))
    ((try simp only [Exit.inBlock, Exit.then]); refine bodyPost_ret (by first | (simp [results, Tryd.results47, go_sem, *]; done) | (simp [results, Tryd.results47, go_sem, *]; rfl) | (simp [results, Tryd.results47, go_sem, ↓IntWalk.iteOmega, *]; try rfl)) rfl ?_)
    refine ⟨rfl, ?_⟩
    (repeat' (first | (with_reducible exact Below.refl _ _) | (with_reducible assumption) | (with_reducible refine Below.alloc ?_ ?_ _) | (with_reducible refine below_drewN ?_ _) | (with_reducible refine Below.drew ?_) | (with_reducible refine Below.setCell ?_ ?_ _) | (with_reducible refine below_via (by assumption) ?_ ?_) | (with_reducible refine below_via (later_below _) ?_ ?_) | (with_reducible exact Nat.le_refl _) | omega | (simp; omega) | (simp; done)))

set_option maxHeartbeats 4000000 in
theorem parse_none (s t u : ByteArray) (m hex : Bool) (pt en fr P Q E : Int) (T : Int × Int × Int) (w : World) (h1 : TrimSays s t) (h2 : SignSays t u m) (h3 : FindSays u hex pt en fr false) (h5 : FracSays u P Q E)
    (hP1 : -2147483647 ≤ P) (hP2 : P ≤ 2147483647) (h6 : Shape m P Q E T) :
    Calls Tryd.prog 47 #[.string s] w fun e w' => e = .returned (tripV T) ∧ Below w.heap.size w w' := by
  have H1 := Lib.hid h1
  have H2 := Lib.hid h2
  have H3 := Lib.hid h3
  have H5 := Lib.hid h5
  clear h1 h2 h3 h5
  rcases h6 with ⟨h6, rfl⟩ | ⟨rfl, rfl, rfl⟩ | ⟨rfl, rfl, rfl⟩
  all_goals
    go_enter Tryd.func47, Tryd.ntmps47
    go_wp2_with (first | (go_at_call 56; refine (H1.out _).mono ?_; rintro e w1 ⟨rfl, hb⟩; (refine mem hb ?_; intro N hN hz hc hf; (try simp at hN); subst hN)) | (go_at_call 57; refine (H2.out _).mono ?_; rintro e w2 ⟨rfl, rfl⟩) | (go_at_call 58; refine (H3.out _).mono ?_; rintro e w3 ⟨rfl, hb⟩; (refine mem hb ?_; intro N hN hz hc hf; (try simp at hN); subst hN)) | (go_at_call 60; refine (H5.out _).mono ?_; rintro e w4 ⟨rfl, hb⟩; (refine mem hb ?_; intro N hN hz hc hf; (try simp at hN); subst hN)))
    ((try simp only [Exit.inBlock, Exit.then]); refine bodyPost_ret (by first | (simp [results, Tryd.results47, go_sem, *]; done) | (simp [results, Tryd.results47, go_sem, *]; rfl) | (simp [results, Tryd.results47, go_sem, ↓IntWalk.iteOmega, *]; try rfl)) rfl ?_)
    refine ⟨rfl, ?_⟩
    (repeat' (first | (with_reducible exact Below.refl _ _) | (with_reducible assumption) | (with_reducible refine Below.alloc ?_ ?_ _) | (with_reducible refine below_drewN ?_ _) | (with_reducible refine Below.drew ?_) | (with_reducible refine Below.setCell ?_ ?_ _) | (with_reducible refine below_via (by assumption) ?_ ?_) | (with_reducible refine below_via (later_below _) ?_ ?_) | (with_reducible exact Nat.le_refl _) | omega | (simp; omega) | (simp; done)))

set_option maxHeartbeats 4000000 in
theorem parse_far (s t u : ByteArray) (m hex : Bool) (pt en fr P Q E : Int) (T : Int × Int × Int) (w : World) (h1 : TrimSays s t) (h2 : SignSays t u m) (h3 : FindSays u hex pt en fr true) (h4 : (en == u.size) = false) (h5 : FracSays u P Q E)
    (hP1 : -2147483647 ≤ P) (hP2 : P ≤ 2147483647) (h6 : Shape m P Q E T) :
    Calls Tryd.prog 47 #[.string s] w fun e w' => e = .returned (tripV T) ∧ Below w.heap.size w w' := by
  have H1 := Lib.hid h1
  have H2 := Lib.hid h2
  have H3 := Lib.hid h3
  have H5 := Lib.hid h5
  clear h1 h2 h3 h5
  rcases h6 with ⟨h6, rfl⟩ | ⟨rfl, rfl, rfl⟩ | ⟨rfl, rfl, rfl⟩
  all_goals
    go_enter Tryd.func47, Tryd.ntmps47
    go_wp2_with (first | (go_at_call 56; refine (H1.out _).mono ?_; rintro e w1 ⟨rfl, hb⟩; (refine mem hb ?_; intro N hN hz hc hf; (try simp at hN); subst hN)) | (go_at_call 57; refine (H2.out _).mono ?_; rintro e w2 ⟨rfl, rfl⟩) | (go_at_call 58; refine (H3.out _).mono ?_; rintro e w3 ⟨rfl, hb⟩; (refine mem hb ?_; intro N hN hz hc hf; (try simp at hN); subst hN)) | (go_at_call 60; refine (H5.out _).mono ?_; rintro e w4 ⟨rfl, hb⟩; (refine mem hb ?_; intro N hN hz hc hf; (try simp at hN); subst hN)))
    ((try simp only [Exit.inBlock, Exit.then]); refine bodyPost_ret (by first | (simp [results, Tryd.results47, go_sem, *]; done) | (simp [results, Tryd.results47, go_sem, *]; rfl) | (simp [results, Tryd.results47, go_sem, ↓IntWalk.iteOmega, *]; try rfl)) rfl ?_)
    refine ⟨rfl, ?_⟩
    (repeat' (first | (with_reducible exact Below.refl _ _) | (with_reducible assumption) | (with_reducible refine Below.alloc ?_ ?_ _) | (with_reducible refine below_drewN ?_ _) | (with_reducible refine Below.drew ?_) | (with_reducible refine Below.setCell ?_ ?_ _) | (with_reducible refine below_via (by assumption) ?_ ?_) | (with_reducible refine below_via (later_below _) ?_ ?_) | (with_reducible exact Nat.le_refl _) | omega | (simp; omega) | (simp; done)))
end Go.Proofs.YtpahemohpaaeoaaDoor
