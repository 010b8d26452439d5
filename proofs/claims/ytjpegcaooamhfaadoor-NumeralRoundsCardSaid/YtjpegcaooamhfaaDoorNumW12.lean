/- The contracts of numeral.Parse and numeral.Scan, joined. -/
import Derived.Test.YtjpegcaooamhfaaDoorNumW11
namespace Go.Proofs.YtjpegcaooamhfaaDoor
open Go.RowKit
set_option linter.unusedVariables false

theorem trimS_size (l cs : List UInt8) : (Lib.trimS l cs).length ≤ l.length := by
  unfold Lib.trimS Lib.trimLeftS Lib.trimRightS
  have h1 := (List.dropWhile_sublist (fun b => cs.contains b) (l := (List.dropWhile (fun b => cs.contains b) l.reverse).reverse)).length_le
  have h2 := (List.dropWhile_sublist (fun b => cs.contains b) (l := l.reverse)).length_le
  simp only [List.length_reverse] at h1 h2
  omega

theorem parse_signed (s t u : ByteArray) (m : Bool) (hu : u.size ≤ 9223372036854775807) (h1 : TrimSays s t) (h2 : SignSays t u m) (w : World) :
    Calls Tryd.prog 16 #[.string s] w fun e w' => e = .returned (tripV (minusT m (unsL u.data.toList))) ∧ Below w.heap.size w w' := by
  have lu : u.data.toList.length = u.size := by simp
  have hf := find_any u 0 (Nat.zero_le _) hu
  cases hk : findL u.data.toList 0 with
  | none =>
    rw [hk] at hf
    rw [unsL_none hk]
    have hb := fracL_bd u.data.toList
    exact parse_none s t u m false 0 0 0 _ _ _ _ w h1 h2 hf (fun w => fraction_any u hu w) hb.1 hb.2 (shape_of m _)
  | some f =>
    rw [hk] at hf
    have hkind := find_kind (by omega) hk
    by_cases he : f.end_ = u.data.toList.length
    · rw [unsL_num hk he]
      have hb := numT_bd u.data.toList f
      exact parse_num s t u m f.hex f.point f.end_ f.from_ _ _ _ _ w h1 h2 hf (by rw [he, lu]; simp) (fun w => number_any u 0 f hu hkind w) hb.1 hb.2 (shape_of m _)
    · rw [unsL_far hk he]
      have hb := fracL_bd u.data.toList
      exact parse_far s t u m f.hex f.point f.end_ f.from_ _ _ _ _ w h1 h2 hf (by simp; omega) (fun w => fraction_any u hu w) hb.1 hb.2 (shape_of m _)

theorem parse_any (s : ByteArray) (hs : s.size ≤ 9223372036854775807) (w : World) :
    Calls Tryd.prog 16 #[.string s] w fun e w' => e = .returned (tripV (parseL s.data.toList)) ∧ Below w.heap.size w w' := by
  have hsz := trimS_size s.data.toList blanks
  have ls : s.data.toList.length = s.size := by simp
  have h1 : TrimSays s (mkS (Lib.trimS s.data.toList blanks)) := fun w => ntrim_any s hs w
  unfold parseL
  rw [show blankL = blanks from rfl]
  cases ht : Lib.trimS s.data.toList blanks with
  | nil =>
    rw [ht] at h1
    exact parse_signed s (mkS []) (mkS []) false (by simp [mkS_size]) h1 (fun w => cutPrefix_no _ 45 (fun l h => by simp [mkS] at h) w) w
  | cons c l =>
    rw [ht] at h1 hsz
    simp only [List.length_cons] at hsz
    by_cases hc : c = 45
    · subst hc
      exact parse_signed s _ (mkS l) true (by rw [mkS_size]; omega) h1 (fun w => cutPrefix_yes _ 45 l rfl w) w
    · rw [if_neg (by simpa using hc)]
      exact parse_signed s _ (mkS (c :: l)) false (by rw [mkS_size]; simp; omega) h1 (fun w => cutPrefix_no _ 45 (fun l' h => by injection h with h _; exact hc h) w) w

def scanV (t : Int × Int × Int × Int) : Value := .tuple #[.agg #[.int .i64 t.1, .int .i64 t.2.1], .int .i64 t.2.2.1, .int .i64 t.2.2.2]

set_option maxHeartbeats 1000000 in
theorem scan_out (s : ByteArray) (a : Int) (h : a < 0 ∨ (s.size : Int) < a) (w : World) :
    Calls Tryd.prog 18 #[.string s, .int .i64 a] w fun e w' => e = .returned (scanV (0, 0, 0, 6)) ∧ Below w.heap.size w w' := by
  rcases h with h | h
  all_goals
    go_enter Tryd.func18, Tryd.ntmps18
    go_wp2_with fail
    all_goals ((try simp only [Exit.inBlock, Exit.then]); refine bodyPost_ret (by first | (simp [results, Tryd.results18, go_sem, *]; done) | (simp [results, Tryd.results18, go_sem, *]; rfl) | (simp [results, Tryd.results18, go_sem, ↓IntWalk.iteOmega, *]; try rfl)) rfl ?_)
    all_goals refine ⟨rfl, ?_⟩
    all_goals (repeat' (first | (with_reducible exact Below.refl _ _) | (with_reducible assumption) | (with_reducible refine Below.alloc ?_ ?_ _) | (with_reducible refine below_drewN ?_ _) | (with_reducible refine Below.drew ?_) | (with_reducible refine Below.setCell ?_ ?_ _) | (with_reducible refine below_via (by assumption) ?_ ?_) | (with_reducible refine below_via (later_below _) ?_ ?_) | (with_reducible exact Nat.le_refl _) | omega | (simp; omega) | (simp; done)))

abbrev FindSaysAt (u : ByteArray) (i : Int) (hex : Bool) (pt en fr : Int) (ok : Bool) : Prop := ∀ w, Calls Tryd.prog 33 #[.string u, .int .i64 i] w fun e w' => e = .returned (.tuple #[.agg #[.bool hex, .int .i64 pt, .int .i64 en, .int .i64 fr], .bool ok]) ∧ Below w.heap.size w w'

set_option maxHeartbeats 1000000 in
theorem scan_none (s : ByteArray) (a : Int) (h0 : 0 ≤ a) (h1 : a ≤ s.size) (hex : Bool) (pt en fr : Int) (hf : FindSaysAt s a hex pt en fr false) (w : World) :
    Calls Tryd.prog 18 #[.string s, .int .i64 a] w fun e w' => e = .returned (scanV (0, 0, 0, 4)) ∧ Below w.heap.size w w' := by
  have HF := Lib.hid hf
  clear hf
  go_enter Tryd.func18, Tryd.ntmps18
  go_wp2_with (first | (go_at_call 33; refine (HF.out _).mono ?_; rintro e w3 ⟨rfl, hb⟩; (refine mem hb ?_; intro N hN hz hc hf; (try simp at hN); subst hN)))
  ((try simp only [Exit.inBlock, Exit.then]); refine bodyPost_ret (by first | (simp [results, Tryd.results18, go_sem, *]; done) | (simp [results, Tryd.results18, go_sem, *]; rfl) | (simp [results, Tryd.results18, go_sem, ↓IntWalk.iteOmega, *]; try rfl)) rfl ?_)
  refine ⟨rfl, ?_⟩
  (repeat' (first | (with_reducible exact Below.refl _ _) | (with_reducible assumption) | (with_reducible refine Below.alloc ?_ ?_ _) | (with_reducible refine below_drewN ?_ _) | (with_reducible refine Below.drew ?_) | (with_reducible refine Below.setCell ?_ ?_ _) | (with_reducible refine below_via (by assumption) ?_ ?_) | (with_reducible refine below_via (later_below _) ?_ ?_) | (with_reducible exact Nat.le_refl _) | omega | (simp; omega) | (simp; done)))

set_option maxHeartbeats 2000000 in
theorem scan_some (s : ByteArray) (a : Int) (h0 : 0 ≤ a) (h1 : a ≤ s.size) (hex : Bool) (pt en fr P Q E : Int) (hf : FindSaysAt s a hex pt en fr true) (hn : NumSays s hex pt en fr P Q E) (T : Int × Int × Int × Int) (h : E = 0 ∧ T = (P, Q, en, 0) ∨ (E != 0) = true ∧ T = (0, 0, 0, E)) (w : World) :
    Calls Tryd.prog 18 #[.string s, .int .i64 a] w fun e w' => e = .returned (scanV T) ∧ Below w.heap.size w w' := by
  have HF := Lib.hid hf
  have HN := Lib.hid hn
  clear hf hn
  rcases h with ⟨rfl, rfl⟩ | ⟨h, rfl⟩
  · go_enter Tryd.func18, Tryd.ntmps18
    go_wp2_with (first | (go_at_call 33; refine (HF.out _).mono ?_; rintro e w3 ⟨rfl, hb⟩; (refine mem hb ?_; intro N hN hz hc hf; (try simp at hN); subst hN)) | (go_at_call 34; refine (HN.out _).mono ?_; rintro e w4 ⟨rfl, hb⟩; (refine mem hb ?_; intro N hN hz hc hf; (try simp at hN); subst hN)))
    go_region
    go_wp2_with fail
    ((try simp only [Exit.inBlock, Exit.then]); refine bodyPost_ret (by first | (simp [results, Tryd.results18, go_sem, *]; done) | (simp [results, Tryd.results18, go_sem, *]; rfl) | (simp [results, Tryd.results18, go_sem, ↓IntWalk.iteOmega, *]; try rfl)) rfl ?_)
    refine ⟨rfl, ?_⟩
    (repeat' (first | (with_reducible exact Below.refl _ _) | (with_reducible assumption) | (with_reducible refine Below.alloc ?_ ?_ _) | (with_reducible refine below_drewN ?_ _) | (with_reducible refine Below.drew ?_) | (with_reducible refine Below.setCell ?_ ?_ _) | (with_reducible refine below_via (by assumption) ?_ ?_) | (with_reducible refine below_via (later_below _) ?_ ?_) | (with_reducible exact Nat.le_refl _) | omega | (simp; omega) | (simp; done)))
  · go_enter Tryd.func18, Tryd.ntmps18
    go_wp2_with (first | (go_at_call 33; refine (HF.out _).mono ?_; rintro e w3 ⟨rfl, hb⟩; (refine mem hb ?_; intro N hN hz hc hf; (try simp at hN); subst hN)) | (go_at_call 34; refine (HN.out _).mono ?_; rintro e w4 ⟨rfl, hb⟩; (refine mem hb ?_; intro N hN hz hc hf; (try simp at hN); subst hN)))
    ((try simp only [Exit.inBlock, Exit.then]); refine bodyPost_ret (by first | (simp [results, Tryd.results18, go_sem, *]; done) | (simp [results, Tryd.results18, go_sem, *]; rfl) | (simp [results, Tryd.results18, go_sem, ↓IntWalk.iteOmega, *]; try rfl)) rfl ?_)
    refine ⟨rfl, ?_⟩
    (repeat' (first | (with_reducible exact Below.refl _ _) | (with_reducible assumption) | (with_reducible refine Below.alloc ?_ ?_ _) | (with_reducible refine below_drewN ?_ _) | (with_reducible refine Below.drew ?_) | (with_reducible refine Below.setCell ?_ ?_ _) | (with_reducible refine below_via (by assumption) ?_ ?_) | (with_reducible refine below_via (later_below _) ?_ ?_) | (with_reducible exact Nat.le_refl _) | omega | (simp; omega) | (simp; done)))

theorem scan_any (s : ByteArray) (a : Int) (hs : s.size ≤ 9223372036854775807) (w : World) :
    Calls Tryd.prog 18 #[.string s, .int .i64 a] w fun e w' => e = .returned (scanV (scanL s.data.toList a)) ∧ Below w.heap.size w w' := by
  have ls : s.data.toList.length = s.size := by simp
  unfold scanL
  by_cases h : a < 0 ∨ (s.data.toList.length : Int) < a
  · rw [if_pos h]
    rw [ls] at h
    exact scan_out s a h w
  · rw [if_neg h]
    rw [ls] at h
    obtain ⟨i, rfl⟩ : ∃ i : Nat, a = i := ⟨a.toNat, by omega⟩
    have hf := find_any s i (by omega) hs
    rw [Int.toNat_natCast]
    cases hk : findL s.data.toList i with
    | none =>
      rw [hk] at hf
      exact scan_none s i (by omega) (by omega) _ _ _ _ hf w
    | some f =>
      rw [hk] at hf
      have hkind := find_kind (by omega) hk
      refine scan_some s i (by omega) (by omega) f.hex f.point f.end_ f.from_ _ _ _ hf (fun w => number_any s i f hs hkind w) _ ?_ w
      by_cases hz : (numT s.data.toList f).2.2 = 0
      · left; exact ⟨hz, by simp [hz]⟩
      · right; exact ⟨by simpa using hz, by simp [hz]⟩
end Go.Proofs.YtjpegcaooamhfaaDoor
