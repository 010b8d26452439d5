/- The contract of numeral.fraction, joined. -/
import Derived.Test.YtfclmnglckikbaaGreatDoorMNumW9
import Derived.Test.YtfclmnglckikbaaGreatDoorMPlainB
import Derived.Lib.Strings
namespace Go.Proofs.YtfclmnglckikbaaGreatDoor
open Go.RowKit
set_option linter.unusedVariables false

theorem run_says (p : ByteArray) (hs : p.size ≤ 9223372036854775807) : RunSays p (runL p.data.toList 10 0) := fun w => run_lit p 0 10 (Nat.zero_le _) hs (by omega) 10 rfl w _ rfl
theorem int_some_says (p : ByteArray) (n : Nat) (hs : p.size ≤ 9223372036854775807) (hd : ∀ c ∈ p.data.toList, dvN c.toNat < 10) (hn : numL 10 p.data.toList 0 = some n) : IntSays p n true := fun w => integer_some p 10 n 10 rfl hs (by omega) (by omega) hd hn w
theorem int_none_says (p : ByteArray) (hs : p.size ≤ 9223372036854775807) (hd : ∀ c ∈ p.data.toList, dvN c.toNat < 10) (hn : numL 10 p.data.toList 0 = none) : IntSays p 0 false := fun w => integer_none p 10 10 rfl hs (by omega) (by omega) hd hn w

theorem frac_parts (s p q : ByteArray) (hp : p.size ≤ 9223372036854775807) (hq : q.size ≤ 9223372036854775807) (w : World) (F : FracFacts s p q) :
    Calls Tryz.prog 120 #[.string s] w fun e w' => e = .returned (tripV (fracT p.data.toList q.data.toList)) ∧ Below w.heap.size w w' := by
  have lp : p.data.toList.length = p.size := by simp
  have lq : q.data.toList.length = q.size := by simp
  unfold fracT
  by_cases h1 : p.toList = []
  · have h1' := h1
    rw [Lib.toList_data] at h1'
    rw [if_neg (fun h => h.1 h1')]
    exact frac_empty1 s p q w F h1
  · by_cases h2 : q.toList = []
    · have h2' := h2
      rw [Lib.toList_data] at h2'
      rw [if_neg (fun h => h.2.1 h2')]
      exact frac_empty2 s p q w F h1 h2
    · have h1' : ¬ p.data.toList = [] := by rwa [Lib.toList_data] at h1
      have h2' : ¬ q.data.toList = [] := by rwa [Lib.toList_data] at h2
      by_cases h3 : runL p.data.toList 10 0 = p.data.toList.length
      · by_cases h4 : runL q.data.toList 10 0 = q.data.toList.length
        · rw [if_pos ⟨h1', h2', h3, h4⟩]
          have d1 := digits_of_run h3
          have d2 := digits_of_run h4
          have r1 := run_says p hp
          have r2 := run_says q hq
          rw [h3, lp] at r1
          rw [h4, lq] at r2
          cases ha : numL 10 p.data.toList 0 with
          | none =>
            cases hb : numL 10 q.data.toList 0 with
            | none => exact frac_ints s p q w F h1 h2 r1 r2 0 0 false false (int_none_says p hp d1 ha) (int_none_says q hq d2 hb) (.inl rfl)
            | some b => exact frac_ints s p q w F h1 h2 r1 r2 0 b false true (int_none_says p hp d1 ha) (int_some_says q b hq d2 hb) (.inl rfl)
          | some a =>
            cases hb : numL 10 q.data.toList 0 with
            | none => exact frac_ints s p q w F h1 h2 r1 r2 a 0 true false (int_some_says p a hp d1 ha) (int_none_says q hq d2 hb) (.inr ⟨rfl, rfl⟩)
            | some b =>
              have ba := numL_bd 10 (by omega) _ 0 a d1 (by omega) (by omega) ha
              have bb := numL_bd 10 (by omega) _ 0 b d2 (by omega) (by omega) hb
              refine frac_make s p q w F h1 h2 r1 r2 a b (int_some_says p a hp d1 ha) (int_some_says q b hq d2 hb) _ _ _ (fun w => make_any a b w) _ ?_
              by_cases hz : b = 0
              · right
                subst hz
                exact ⟨rfl, rfl⟩
              · have hm := makeT_cases (n := (a : Int)) (u := (b : Int)) (by omega) (by omega) (by omega) (by omega)
                dsimp only
                rw [if_neg hz]
                rcases hm with hm | hm
                · exact .inl ⟨hm, trip_eq hm⟩
                · right; rw [hm]; exact ⟨rfl, rfl⟩
        · rw [if_neg (fun h => h4 h.2.2.2)]
          have r1 := run_says p hp
          have r2 := run_says q hq
          rw [h3, lp] at r1
          rw [lq] at h4
          exact frac_run2 s p q w F h1 h2 r1 _ r2 (by simpa using by omega)
      · rw [if_neg (fun h => h3 h.2.2.1)]
        rw [lp] at h3
        exact frac_run1 s p q w F h1 h2 _ (run_says p hp) (by simpa using by omega)

theorem take_extract (s : ByteArray) (k : Nat) : (s.extract 0 k).data.toList = s.data.toList.take k := by rw [extract_list]; unfold sliceL; simp
theorem drop_extract (s : ByteArray) (k : Nat) : (s.extract k s.size).data.toList = s.data.toList.drop k := by
  rw [extract_list]; unfold sliceL
  rw [List.take_of_length_le]
  simp

theorem fraction_any (s : ByteArray) (hs : s.size ≤ 9223372036854775807) (w : World) :
    Calls Tryz.prog 120 #[.string s] w fun e w' => e = .returned (tripV (fracL s.data.toList)) ∧ Below w.heap.size w w' := by
  unfold fracL
  by_cases h : Lib.indexByte s.data.toList 47 = -1
  · rw [if_pos h]
    exact frac_no s h w
  · rw [if_neg h]
    have hge := Lib.indexByte_ge s.data.toList 47
    obtain ⟨k, hk⟩ : ∃ k : Nat, Lib.indexByte s.data.toList 47 = k := ⟨(Lib.indexByte s.data.toList 47).toNat, by omega⟩
    have hlt : k < s.size := by
      have := (Lib.indexByte_some hk).1
      have := (List.getElem?_eq_some_iff.1 this).1
      simpa using this
    rw [hk]
    rw [Int.toNat_natCast, ← take_extract, ← drop_extract]
    exact frac_parts s _ _ (size_extract_le s _ _ (by omega) hs) (size_extract_le s _ _ (by omega) hs) w ⟨fun w => cut_yes s _ _ 47 k hk hlt hs rfl rfl w⟩
end Go.Proofs.YtfclmnglckikbaaGreatDoor

/- The contracts of numeral.Parse and numeral.Scan. -/
namespace Go.Proofs.YtfclmnglckikbaaGreatDoor
open Go.RowKit
set_option linter.unusedVariables false

set_option maxHeartbeats 1000000 in
theorem ntrim_any (s : ByteArray) (hs : s.size ≤ 9223372036854775807) (w : World) :
    Calls Tryz.prog 116 #[.string s] w fun e w' => e = .returned (.string (mkS (Lib.trimS s.data.toList blanks))) ∧ Below w.heap.size w w' := by
  have HC := Lib.hid (trim_lib s hs)
  go_enter Tryz.func116, Tryz.ntmps116
  go_wp2_with (first | (go_at_call 129; refine (HC.out _).mono ?_; rintro e w1 ⟨rfl, hb⟩))
  go_returns
  exact ⟨rfl, hb⟩

abbrev TrimSays (s t : ByteArray) : Prop := ∀ w, Calls Tryz.prog 116 #[.string s] w fun e w' => e = .returned (.string t) ∧ Below w.heap.size w w'
abbrev SignSays (t u : ByteArray) (m : Bool) : Prop := ∀ w, Calls Tryz.prog 117 #[.string t, .string ⟨#[45]⟩] w fun e w' => e = .returned (.tuple #[.string u, .bool m]) ∧ w = w'
abbrev FindSays (u : ByteArray) (hex : Bool) (pt en fr : Int) (ok : Bool) : Prop := ∀ w, Calls Tryz.prog 118 #[.string u, .int .i64 0] w fun e w' => e = .returned (.tuple #[.agg #[.bool hex, .int .i64 pt, .int .i64 en, .int .i64 fr], .bool ok]) ∧ Below w.heap.size w w'
abbrev NumSays (u : ByteArray) (hex : Bool) (pt en fr : Int) (P Q E : Int) : Prop := ∀ w, Calls Tryz.prog 119 #[.agg #[.bool hex, .int .i64 pt, .int .i64 en, .int .i64 fr], .string u] w fun e w' => e = .returned (.tuple #[.agg #[.int .i64 P, .int .i64 Q], .int .i64 E]) ∧ Below w.heap.size w w'
abbrev FracSays (u : ByteArray) (P Q E : Int) : Prop := ∀ w, Calls Tryz.prog 120 #[.string u] w fun e w' => e = .returned (.tuple #[.agg #[.int .i64 P, .int .i64 Q], .int .i64 E]) ∧ Below w.heap.size w w'

/-- How the sign and the error shape what Parse returns. -/
def Shape (m : Bool) (P Q E : Int) (T : Int × Int × Int) : Prop := (E != 0) = true ∧ T = (0, 0, E) ∨ E = 0 ∧ m = false ∧ T = (P, Q, 0) ∨ E = 0 ∧ m = true ∧ T = (-P, Q, 0)

theorem shape_of (m : Bool) (t : Int × Int × Int) : Shape m t.1 t.2.1 t.2.2 (minusT m t) := by
  unfold Shape minusT
  by_cases h : t.2.2 = 0
  · rw [if_pos h]
    right
    cases m
    · left; exact ⟨h, rfl, rfl⟩
    · right; exact ⟨h, rfl, rfl⟩
  · rw [if_neg h]
    left
    exact ⟨by simpa using h, rfl⟩

set_option maxHeartbeats 4000000 in
theorem parse_num (s t u : ByteArray) (m hex : Bool) (pt en fr P Q E : Int) (T : Int × Int × Int) (w : World) (h1 : TrimSays s t) (h2 : SignSays t u m) (h3 : FindSays u hex pt en fr true) (h4 : (en == u.size) = true) (h5 : NumSays u hex pt en fr P Q E)
    (hP1 : -2147483647 ≤ P) (hP2 : P ≤ 2147483647) (h6 : Shape m P Q E T) :
    Calls Tryz.prog 107 #[.string s] w fun e w' => e = .returned (tripV T) ∧ Below w.heap.size w w' := by
  have H1 := Lib.hid h1
  have H2 := Lib.hid h2
  have H3 := Lib.hid h3
  have H5 := Lib.hid h5
  clear h1 h2 h3 h5
  rcases h6 with ⟨h6, rfl⟩ | ⟨rfl, rfl, rfl⟩ | ⟨rfl, rfl, rfl⟩
  all_goals
    go_enter Tryz.func107, Tryz.ntmps107
    go_wp2_with (first | (go_at_call 116; refine (H1.out _).mono ?_; rintro e w1 ⟨rfl, hb⟩; (refine mem hb ?_; intro N hN hz hc hf; (try simp at hN); subst hN)) | (go_at_call 117; refine (H2.out _).mono ?_; rintro e w2 ⟨rfl, rfl⟩) | (go_at_call 118; refine (H3.out _).mono ?_; rintro e w3 ⟨rfl, hb⟩; (refine mem hb ?_; intro N hN hz hc hf; (try simp at hN); subst hN)) | (go_at_call 119; refine (H5.out _).mono ?_; rintro e w4 ⟨rfl, hb⟩; (refine mem hb ?_; intro N hN hz hc hf; (try simp at hN); subst hN)))
    ((try simp only [Exit.inBlock, Exit.then]); refine bodyPost_ret (by first | (simp [results, Tryz.results107, go_sem, *]; done) | (simp [results, Tryz.results107, go_sem, *]; rfl) | (simp [results, Tryz.results107, go_sem, ↓IntWalk.iteOmega, *]; try rfl)) rfl ?_)
    refine ⟨rfl, ?_⟩
    (repeat' (first | (with_reducible exact Below.refl _ _) | (with_reducible assumption) | (with_reducible refine Below.alloc ?_ ?_ _) | (with_reducible refine below_drewN ?_ _) | (with_reducible refine Below.drew ?_) | (with_reducible refine Below.setCell ?_ ?_ _) | (with_reducible refine below_via (by assumption) ?_ ?_) | (with_reducible refine below_via (later_below _) ?_ ?_) | (with_reducible exact Nat.le_refl _) | omega | (simp; omega) | (simp; done)))

set_option maxHeartbeats 4000000 in
theorem parse_none (s t u : ByteArray) (m hex : Bool) (pt en fr P Q E : Int) (T : Int × Int × Int) (w : World) (h1 : TrimSays s t) (h2 : SignSays t u m) (h3 : FindSays u hex pt en fr false) (h5 : FracSays u P Q E)
    (hP1 : -2147483647 ≤ P) (hP2 : P ≤ 2147483647) (h6 : Shape m P Q E T) :
    Calls Tryz.prog 107 #[.string s] w fun e w' => e = .returned (tripV T) ∧ Below w.heap.size w w' := by
  have H1 := Lib.hid h1
  have H2 := Lib.hid h2
  have H3 := Lib.hid h3
  have H5 := Lib.hid h5
  clear h1 h2 h3 h5
  rcases h6 with ⟨h6, rfl⟩ | ⟨rfl, rfl, rfl⟩ | ⟨rfl, rfl, rfl⟩
  all_goals
    go_enter Tryz.func107, Tryz.ntmps107
    go_wp2_with (first | (go_at_call 116; refine (H1.out _).mono ?_; rintro e w1 ⟨rfl, hb⟩; (refine mem hb ?_; intro N hN hz hc hf; (try simp at hN); subst hN)) | (go_at_call 117; refine (H2.out _).mono ?_; rintro e w2 ⟨rfl, rfl⟩) | (go_at_call 118; refine (H3.out _).mono ?_; rintro e w3 ⟨rfl, hb⟩; (refine mem hb ?_; intro N hN hz hc hf; (try simp at hN); subst hN)) | (go_at_call 120; refine (H5.out _).mono ?_; rintro e w4 ⟨rfl, hb⟩; (refine mem hb ?_; intro N hN hz hc hf; (try simp at hN); subst hN)))
    ((try simp only [Exit.inBlock, Exit.then]); refine bodyPost_ret (by first | (simp [results, Tryz.results107, go_sem, *]; done) | (simp [results, Tryz.results107, go_sem, *]; rfl) | (simp [results, Tryz.results107, go_sem, ↓IntWalk.iteOmega, *]; try rfl)) rfl ?_)
    refine ⟨rfl, ?_⟩
    (repeat' (first | (with_reducible exact Below.refl _ _) | (with_reducible assumption) | (with_reducible refine Below.alloc ?_ ?_ _) | (with_reducible refine below_drewN ?_ _) | (with_reducible refine Below.drew ?_) | (with_reducible refine Below.setCell ?_ ?_ _) | (with_reducible refine below_via (by assumption) ?_ ?_) | (with_reducible refine below_via (later_below _) ?_ ?_) | (with_reducible exact Nat.le_refl _) | omega | (simp; omega) | (simp; done)))

set_option maxHeartbeats 4000000 in
theorem parse_far (s t u : ByteArray) (m hex : Bool) (pt en fr P Q E : Int) (T : Int × Int × Int) (w : World) (h1 : TrimSays s t) (h2 : SignSays t u m) (h3 : FindSays u hex pt en fr true) (h4 : (en == u.size) = false) (h5 : FracSays u P Q E)
    (hP1 : -2147483647 ≤ P) (hP2 : P ≤ 2147483647) (h6 : Shape m P Q E T) :
    Calls Tryz.prog 107 #[.string s] w fun e w' => e = .returned (tripV T) ∧ Below w.heap.size w w' := by
  have H1 := Lib.hid h1
  have H2 := Lib.hid h2
  have H3 := Lib.hid h3
  have H5 := Lib.hid h5
  clear h1 h2 h3 h5
  rcases h6 with ⟨h6, rfl⟩ | ⟨rfl, rfl, rfl⟩ | ⟨rfl, rfl, rfl⟩
  all_goals
    go_enter Tryz.func107, Tryz.ntmps107
    go_wp2_with (first | (go_at_call 116; refine (H1.out _).mono ?_; rintro e w1 ⟨rfl, hb⟩; (refine mem hb ?_; intro N hN hz hc hf; (try simp at hN); subst hN)) | (go_at_call 117; refine (H2.out _).mono ?_; rintro e w2 ⟨rfl, rfl⟩) | (go_at_call 118; refine (H3.out _).mono ?_; rintro e w3 ⟨rfl, hb⟩; (refine mem hb ?_; intro N hN hz hc hf; (try simp at hN); subst hN)) | (go_at_call 120; refine (H5.out _).mono ?_; rintro e w4 ⟨rfl, hb⟩; (refine mem hb ?_; intro N hN hz hc hf; (try simp at hN); subst hN)))
    ((try simp only [Exit.inBlock, Exit.then]); refine bodyPost_ret (by first | (simp [results, Tryz.results107, go_sem, *]; done) | (simp [results, Tryz.results107, go_sem, *]; rfl) | (simp [results, Tryz.results107, go_sem, ↓IntWalk.iteOmega, *]; try rfl)) rfl ?_)
    refine ⟨rfl, ?_⟩
    (repeat' (first | (with_reducible exact Below.refl _ _) | (with_reducible assumption) | (with_reducible refine Below.alloc ?_ ?_ _) | (with_reducible refine below_drewN ?_ _) | (with_reducible refine Below.drew ?_) | (with_reducible refine Below.setCell ?_ ?_ _) | (with_reducible refine below_via (by assumption) ?_ ?_) | (with_reducible refine below_via (later_below _) ?_ ?_) | (with_reducible exact Nat.le_refl _) | omega | (simp; omega) | (simp; done)))
end Go.Proofs.YtfclmnglckikbaaGreatDoor

/- The contracts of numeral.Parse and numeral.Scan, joined. -/
namespace Go.Proofs.YtfclmnglckikbaaGreatDoor
open Go.RowKit
set_option linter.unusedVariables false

theorem trimS_size (l cs : List UInt8) : (Lib.trimS l cs).length ≤ l.length := by
  unfold Lib.trimS Lib.trimLeftS Lib.trimRightS
  have h1 := (List.dropWhile_sublist (fun b => cs.contains b) (l := (List.dropWhile (fun b => cs.contains b) l.reverse).reverse)).length_le
  have h2 := (List.dropWhile_sublist (fun b => cs.contains b) (l := l.reverse)).length_le
  simp only [List.length_reverse] at h1 h2
  omega

theorem parse_signed (s t u : ByteArray) (m : Bool) (hu : u.size ≤ 9223372036854775807) (h1 : TrimSays s t) (h2 : SignSays t u m) (w : World) :
    Calls Tryz.prog 107 #[.string s] w fun e w' => e = .returned (tripV (minusT m (unsL u.data.toList))) ∧ Below w.heap.size w w' := by
  have lu : u.data.toList.length = u.size := by simp
  have hf := find_any u 0 (Nat.zero_le _) hu
  cases hk : findL u.data.toList 0 with
  | none =>
    rw [hk] at hf
    rw [unsL_none hk]
    have hb := fracL_bd u.data.toList
    exact parse_none s t u m false 0 0 0 _ _ _ _ w h1 h2 hf (fun w => fraction_any u hu w) hb.1 hb.2 (shape_of m _)
  | some f =>
    rw [hk] at hf
    have hkind := find_kind (by omega) hk
    by_cases he : f.end_ = u.data.toList.length
    · rw [unsL_num hk he]
      have hb := numT_bd u.data.toList f
      exact parse_num s t u m f.hex f.point f.end_ f.from_ _ _ _ _ w h1 h2 hf (by rw [he, lu]; simp) (fun w => number_any u 0 f hu hkind w) hb.1 hb.2 (shape_of m _)
    · rw [unsL_far hk he]
      have hb := fracL_bd u.data.toList
      exact parse_far s t u m f.hex f.point f.end_ f.from_ _ _ _ _ w h1 h2 hf (by simp; omega) (fun w => fraction_any u hu w) hb.1 hb.2 (shape_of m _)

theorem parse_any (s : ByteArray) (hs : s.size ≤ 9223372036854775807) (w : World) :
    Calls Tryz.prog 107 #[.string s] w fun e w' => e = .returned (tripV (parseL s.data.toList)) ∧ Below w.heap.size w w' := by
  have hsz := trimS_size s.data.toList blanks
  have ls : s.data.toList.length = s.size := by simp
  have h1 : TrimSays s (mkS (Lib.trimS s.data.toList blanks)) := fun w => ntrim_any s hs w
  unfold parseL
  rw [show blankL = blanks from rfl]
  cases ht : Lib.trimS s.data.toList blanks with
  | nil =>
    rw [ht] at h1
    exact parse_signed s (mkS []) (mkS []) false (by simp [mkS_size]) h1 (fun w => cutPrefix_no _ 45 (fun l h => by simp [mkS] at h) w) w
  | cons c l =>
    rw [ht] at h1 hsz
    simp only [List.length_cons] at hsz
    by_cases hc : c = 45
    · subst hc
      exact parse_signed s _ (mkS l) true (by rw [mkS_size]; omega) h1 (fun w => cutPrefix_yes _ 45 l rfl w) w
    · rw [if_neg (by simpa using hc)]
      exact parse_signed s _ (mkS (c :: l)) false (by rw [mkS_size]; simp; omega) h1 (fun w => cutPrefix_no _ 45 (fun l' h => by injection h with h _; exact hc h) w) w

def scanV (t : Int × Int × Int × Int) : Value := .tuple #[.agg #[.int .i64 t.1, .int .i64 t.2.1], .int .i64 t.2.2.1, .int .i64 t.2.2.2]

abbrev FindSaysAt (u : ByteArray) (i : Int) (hex : Bool) (pt en fr : Int) (ok : Bool) : Prop := ∀ w, Calls Tryz.prog 118 #[.string u, .int .i64 i] w fun e w' => e = .returned (.tuple #[.agg #[.bool hex, .int .i64 pt, .int .i64 en, .int .i64 fr], .bool ok]) ∧ Below w.heap.size w w'

end Go.Proofs.YtfclmnglckikbaaGreatDoor
