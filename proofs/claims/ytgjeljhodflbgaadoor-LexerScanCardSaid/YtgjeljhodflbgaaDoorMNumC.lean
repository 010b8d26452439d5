/- The contract of numeral.fraction, joined. -/
import Derived.Test.YtgjeljhodflbgaaDoorMNumW9
import Derived.Test.YtgjeljhodflbgaaDoorMPlainC
import Derived.Lib.Strings
namespace Go.Proofs.YtgjeljhodflbgaaDoor
open Go.RowKit
set_option linter.unusedVariables false

theorem int_some_says (p : ByteArray) (n : Nat) (hs : p.size ≤ 9223372036854775807) (hd : ∀ c ∈ p.data.toList, dvN c.toNat < 10) (hn : numL 10 p.data.toList 0 = some n) : IntSays p n true := fun w => integer_some p 10 n 10 rfl hs (by omega) (by omega) hd hn w
theorem int_none_says (p : ByteArray) (hs : p.size ≤ 9223372036854775807) (hd : ∀ c ∈ p.data.toList, dvN c.toNat < 10) (hn : numL 10 p.data.toList 0 = none) : IntSays p 0 false := fun w => integer_none p 10 10 rfl hs (by omega) (by omega) hd hn w

theorem take_extract (s : ByteArray) (k : Nat) : (s.extract 0 k).data.toList = s.data.toList.take k := by rw [extract_list]; unfold sliceL; simp
theorem drop_extract (s : ByteArray) (k : Nat) : (s.extract k s.size).data.toList = s.data.toList.drop k := by
  rw [extract_list]; unfold sliceL
  rw [List.take_of_length_le]
  simp

end Go.Proofs.YtgjeljhodflbgaaDoor

/- The contracts of numeral.Parse and numeral.Scan. -/
namespace Go.Proofs.YtgjeljhodflbgaaDoor
open Go.RowKit
set_option linter.unusedVariables false

abbrev FindSays (u : ByteArray) (hex : Bool) (pt en fr : Int) (ok : Bool) : Prop := ∀ w, Calls Tryd.prog 81 #[.string u, .int .i64 0] w fun e w' => e = .returned (.tuple #[.agg #[.bool hex, .int .i64 pt, .int .i64 en, .int .i64 fr], .bool ok]) ∧ Below w.heap.size w w'
abbrev NumSays (u : ByteArray) (hex : Bool) (pt en fr : Int) (P Q E : Int) : Prop := ∀ w, Calls Tryd.prog 82 #[.agg #[.bool hex, .int .i64 pt, .int .i64 en, .int .i64 fr], .string u] w fun e w' => e = .returned (.tuple #[.agg #[.int .i64 P, .int .i64 Q], .int .i64 E]) ∧ Below w.heap.size w w'
/-- How the sign and the error shape what Parse returns. -/
def Shape (m : Bool) (P Q E : Int) (T : Int × Int × Int) : Prop := (E != 0) = true ∧ T = (0, 0, E) ∨ E = 0 ∧ m = false ∧ T = (P, Q, 0) ∨ E = 0 ∧ m = true ∧ T = (-P, Q, 0)

theorem shape_of (m : Bool) (t : Int × Int × Int) : Shape m t.1 t.2.1 t.2.2 (minusT m t) := by
  unfold Shape minusT
  by_cases h : t.2.2 = 0
  · rw [if_pos h]
    right
    cases m
    · left; exact ⟨h, rfl, rfl⟩
    · right; exact ⟨h, rfl, rfl⟩
  · rw [if_neg h]
    left
    exact ⟨by simpa using h, rfl⟩

end Go.Proofs.YtgjeljhodflbgaaDoor

/- The contracts of numeral.Parse and numeral.Scan, joined. -/
namespace Go.Proofs.YtgjeljhodflbgaaDoor
open Go.RowKit
set_option linter.unusedVariables false

theorem trimS_size (l cs : List UInt8) : (Lib.trimS l cs).length ≤ l.length := by
  unfold Lib.trimS Lib.trimLeftS Lib.trimRightS
  have h1 := (List.dropWhile_sublist (fun b => cs.contains b) (l := (List.dropWhile (fun b => cs.contains b) l.reverse).reverse)).length_le
  have h2 := (List.dropWhile_sublist (fun b => cs.contains b) (l := l.reverse)).length_le
  simp only [List.length_reverse] at h1 h2
  omega

def scanV (t : Int × Int × Int × Int) : Value := .tuple #[.agg #[.int .i64 t.1, .int .i64 t.2.1], .int .i64 t.2.2.1, .int .i64 t.2.2.2]

set_option maxHeartbeats 1000000 in
theorem scan_out (s : ByteArray) (a : Int) (h : a < 0 ∨ (s.size : Int) < a) (w : World) :
    Calls Tryd.prog 64 #[.string s, .int .i64 a] w fun e w' => e = .returned (scanV (0, 0, 0, 6)) ∧ Below w.heap.size w w' := by
  rcases h with h | h
  all_goals
    go_enter Tryd.func64, Tryd.ntmps64
    go_wp2_with fail
    all_goals ((try simp only [Exit.inBlock, Exit.then]); refine bodyPost_ret (by first | (simp [results, Tryd.results64, go_sem, *]; done) | (simp [results, Tryd.results64, go_sem, *]; rfl) | (simp [results, Tryd.results64, go_sem, ↓IntWalk.iteOmega, *]; try rfl)) rfl ?_)
    all_goals refine ⟨rfl, ?_⟩
    all_goals (repeat' (first | (with_reducible exact Below.refl _ _) | (with_reducible assumption) | (with_reducible refine Below.alloc ?_ ?_ _) | (with_reducible refine Go.below_drewN ?_ _) | (with_reducible refine Below.drew ?_) | (with_reducible refine Below.setCell ?_ ?_ _) | (with_reducible refine below_via (by assumption) ?_ ?_) | (with_reducible refine below_via (later_below _) ?_ ?_) | (with_reducible exact Nat.le_refl _) | omega | (simp; omega) | (simp; done)))

abbrev FindSaysAt (u : ByteArray) (i : Int) (hex : Bool) (pt en fr : Int) (ok : Bool) : Prop := ∀ w, Calls Tryd.prog 81 #[.string u, .int .i64 i] w fun e w' => e = .returned (.tuple #[.agg #[.bool hex, .int .i64 pt, .int .i64 en, .int .i64 fr], .bool ok]) ∧ Below w.heap.size w w'

set_option maxHeartbeats 1000000 in
theorem scan_none (s : ByteArray) (a : Int) (h0 : 0 ≤ a) (h1 : a ≤ s.size) (hex : Bool) (pt en fr : Int) (hf : FindSaysAt s a hex pt en fr false) (w : World) :
    Calls Tryd.prog 64 #[.string s, .int .i64 a] w fun e w' => e = .returned (scanV (0, 0, 0, 4)) ∧ Below w.heap.size w w' := by
  have HF := Lib.hid hf
  clear hf
  go_enter Tryd.func64, Tryd.ntmps64
  go_wp2_with (first | (go_at_call 81; refine (HF.out _).mono ?_; rintro e w3 ⟨rfl, hb⟩; (refine mem hb ?_; intro N hN hz hc hf; (try simp at hN); subst hN)))
  ((try simp only [Exit.inBlock, Exit.then]); refine bodyPost_ret (by first | (simp [results, Tryd.results64, go_sem, *]; done) | (simp [results, Tryd.results64, go_sem, *]; rfl) | (simp [results, Tryd.results64, go_sem, ↓IntWalk.iteOmega, *]; try rfl)) rfl ?_)
  refine ⟨rfl, ?_⟩
  (repeat' (first | (with_reducible exact Below.refl _ _) | (with_reducible assumption) | (with_reducible refine Below.alloc ?_ ?_ _) | (with_reducible refine Go.below_drewN ?_ _) | (with_reducible refine Below.drew ?_) | (with_reducible refine Below.setCell ?_ ?_ _) | (with_reducible refine below_via (by assumption) ?_ ?_) | (with_reducible refine below_via (later_below _) ?_ ?_) | (with_reducible exact Nat.le_refl _) | omega | (simp; omega) | (simp; done)))

set_option maxHeartbeats 2000000 in
theorem scan_some (s : ByteArray) (a : Int) (h0 : 0 ≤ a) (h1 : a ≤ s.size) (hex : Bool) (pt en fr P Q E : Int) (hf : FindSaysAt s a hex pt en fr true) (hn : NumSays s hex pt en fr P Q E) (T : Int × Int × Int × Int) (h : E = 0 ∧ T = (P, Q, en, 0) ∨ (E != 0) = true ∧ T = (0, 0, 0, E)) (w : World) :
    Calls Tryd.prog 64 #[.string s, .int .i64 a] w fun e w' => e = .returned (scanV T) ∧ Below w.heap.size w w' := by
  have HF := Lib.hid hf
  have HN := Lib.hid hn
  clear hf hn
  rcases h with ⟨rfl, rfl⟩ | ⟨h, rfl⟩
  · go_enter Tryd.func64, Tryd.ntmps64
    go_wp2_with (first | (go_at_call 81; refine (HF.out _).mono ?_; rintro e w3 ⟨rfl, hb⟩; (refine mem hb ?_; intro N hN hz hc hf; (try simp at hN); subst hN)) | (go_at_call 82; refine (HN.out _).mono ?_; rintro e w4 ⟨rfl, hb⟩; (refine mem hb ?_; intro N hN hz hc hf; (try simp at hN); subst hN)))
    go_region
    go_wp2_with fail
    ((try simp only [Exit.inBlock, Exit.then]); refine bodyPost_ret (by first | (simp [results, Tryd.results64, go_sem, *]; done) | (simp [results, Tryd.results64, go_sem, *]; rfl) | (simp [results, Tryd.results64, go_sem, ↓IntWalk.iteOmega, *]; try rfl)) rfl ?_)
    refine ⟨rfl, ?_⟩
    (repeat' (first | (with_reducible exact Below.refl _ _) | (with_reducible assumption) | (with_reducible refine Below.alloc ?_ ?_ _) | (with_reducible refine Go.below_drewN ?_ _) | (with_reducible refine Below.drew ?_) | (with_reducible refine Below.setCell ?_ ?_ _) | (with_reducible refine below_via (by assumption) ?_ ?_) | (with_reducible refine below_via (later_below _) ?_ ?_) | (with_reducible exact Nat.le_refl _) | omega | (simp; omega) | (simp; done)))
  · go_enter Tryd.func64, Tryd.ntmps64
    go_wp2_with (first | (go_at_call 81; refine (HF.out _).mono ?_; rintro e w3 ⟨rfl, hb⟩; (refine mem hb ?_; intro N hN hz hc hf; (try simp at hN); subst hN)) | (go_at_call 82; refine (HN.out _).mono ?_; rintro e w4 ⟨rfl, hb⟩; (refine mem hb ?_; intro N hN hz hc hf; (try simp at hN); subst hN)))
    ((try simp only [Exit.inBlock, Exit.then]); refine bodyPost_ret (by first | (simp [results, Tryd.results64, go_sem, *]; done) | (simp [results, Tryd.results64, go_sem, *]; rfl) | (simp [results, Tryd.results64, go_sem, ↓IntWalk.iteOmega, *]; try rfl)) rfl ?_)
    refine ⟨rfl, ?_⟩
    (repeat' (first | (with_reducible exact Below.refl _ _) | (with_reducible assumption) | (with_reducible refine Below.alloc ?_ ?_ _) | (with_reducible refine Go.below_drewN ?_ _) | (with_reducible refine Below.drew ?_) | (with_reducible refine Below.setCell ?_ ?_ _) | (with_reducible refine below_via (by assumption) ?_ ?_) | (with_reducible refine below_via (later_below _) ?_ ?_) | (with_reducible exact Nat.le_refl _) | omega | (simp; omega) | (simp; done)))

theorem scan_any (s : ByteArray) (a : Int) (hs : s.size ≤ 9223372036854775807) (w : World) :
    Calls Tryd.prog 64 #[.string s, .int .i64 a] w fun e w' => e = .returned (scanV (scanL s.data.toList a)) ∧ Below w.heap.size w w' := by
  have ls : s.data.toList.length = s.size := by simp
  unfold scanL
  by_cases h : a < 0 ∨ (s.data.toList.length : Int) < a
  · rw [if_pos h]
    rw [ls] at h
    exact scan_out s a h w
  · rw [if_neg h]
    rw [ls] at h
    obtain ⟨i, rfl⟩ : ∃ i : Nat, a = i := ⟨a.toNat, by omega⟩
    have hf := find_any s i (by omega) hs
    rw [Int.toNat_natCast]
    cases hk : findL s.data.toList i with
    | none =>
      rw [hk] at hf
      exact scan_none s i (by omega) (by omega) _ _ _ _ hf w
    | some f =>
      rw [hk] at hf
      have hkind := find_kind (by omega) hk
      refine scan_some s i (by omega) (by omega) f.hex f.point f.end_ f.from_ _ _ _ hf (fun w => number_any s i f hs hkind w) _ ?_ w
      by_cases hz : (numT s.data.toList f).2.2 = 0
      · left; exact ⟨hz, by simp [hz]⟩
      · right; exact ⟨by simpa using hz, by simp [hz]⟩
end Go.Proofs.YtgjeljhodflbgaaDoor
