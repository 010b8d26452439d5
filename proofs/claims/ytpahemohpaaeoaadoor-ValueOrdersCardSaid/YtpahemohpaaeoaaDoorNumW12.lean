/- The contracts of numeral.Parse and numeral.Scan, joined. -/
import Derived.Test.YtpahemohpaaeoaaDoorNumW11
namespace Go.Proofs.YtpahemohpaaeoaaDoor
open Go.RowKit
set_option linter.unusedVariables false

theorem trimS_size (l cs : List UInt8) : (Lib.trimS l cs).length ≤ l.length := by
  unfold Lib.trimS Lib.trimLeftS Lib.trimRightS
  have h1 := (List.dropWhile_sublist (fun b => cs.contains b) (l := (List.dropWhile (fun b => cs.contains b) l.reverse).reverse)).length_le
  have h2 := (List.dropWhile_sublist (fun b => cs.contains b) (l := l.reverse)).length_le
  simp only [List.length_reverse] at h1 h2
  omega

theorem parse_signed (s t u : ByteArray) (m : Bool) (hu : u.size ≤ 9223372036854775807) (h1 : TrimSays s t) (h2 : SignSays t u m) (w : World) :
    Calls Tryd.prog 47 #[.string s] w fun e w' => e = .returned (tripV (minusT m (unsL u.data.toList))) ∧ Below w.heap.size w w' := by
  have lu : u.data.toList.length = u.size := by simp
  have hf := find_any u 0 (Nat.zero_le _) hu
  cases hk : findL u.data.toList 0 with
  | none =>
    rw [hk] at hf
    rw [unsL_none hk]
    have hb := fracL_bd u.data.toList
    exact parse_none s t u m false 0 0 0 _ _ _ _ w h1 h2 hf (fun w => fraction_any u hu w) hb.1 hb.2 (shape_of m _)
  | some f =>
    rw [hk] at hf
    have hkind := find_kind (by omega) hk
    by_cases he : f.end_ = u.data.toList.length
    · rw [unsL_num hk he]
      have hb := numT_bd u.data.toList f
      exact parse_num s t u m f.hex f.point f.end_ f.from_ _ _ _ _ w h1 h2 hf (by rw [he, lu]; simp) (fun w => number_any u 0 f hu hkind w) hb.1 hb.2 (shape_of m _)
    · rw [unsL_far hk he]
      have hb := fracL_bd u.data.toList
      exact parse_far s t u m f.hex f.point f.end_ f.from_ _ _ _ _ w h1 h2 hf (by simp; omega) (fun w => fraction_any u hu w) hb.1 hb.2 (shape_of m _)

theorem parse_any (s : ByteArray) (hs : s.size ≤ 9223372036854775807) (w : World) :
    Calls Tryd.prog 47 #[.string s] w fun e w' => e = .returned (tripV (parseL s.data.toList)) ∧ Below w.heap.size w w' := by
  have hsz := trimS_size s.data.toList blanks
  have ls : s.data.toList.length = s.size := by simp
  have h1 : TrimSays s (mkS (Lib.trimS s.data.toList blanks)) := fun w => ntrim_any s hs w
  unfold parseL
  rw [show blankL = blanks from rfl]
  cases ht : Lib.trimS s.data.toList blanks with
  | nil =>
    rw [ht] at h1
    exact parse_signed s (mkS []) (mkS []) false (by simp [mkS_size]) h1 (fun w => cutPrefix_no _ 45 (fun l h => by simp [mkS] at h) w) w
  | cons c l =>
    rw [ht] at h1 hsz
    simp only [List.length_cons] at hsz
    by_cases hc : c = 45
    · subst hc
      exact parse_signed s _ (mkS l) true (by rw [mkS_size]; omega) h1 (fun w => cutPrefix_yes _ 45 l rfl w) w
    · rw [if_neg (by simpa using hc)]
      exact parse_signed s _ (mkS (c :: l)) false (by rw [mkS_size]; simp; omega) h1 (fun w => cutPrefix_no _ 45 (fun l' h => by injection h with h _; exact hc h) w) w

def scanV (t : Int × Int × Int × Int) : Value := .tuple #[.agg #[.int .i64 t.1, .int .i64 t.2.1], .int .i64 t.2.2.1, .int .i64 t.2.2.2]

abbrev FindSaysAt (u : ByteArray) (i : Int) (hex : Bool) (pt en fr : Int) (ok : Bool) : Prop := ∀ w, Calls Tryd.prog 58 #[.string u, .int .i64 i] w fun e w' => e = .returned (.tuple #[.agg #[.bool hex, .int .i64 pt, .int .i64 en, .int .i64 fr], .bool ok]) ∧ Below w.heap.size w w'

end Go.Proofs.YtpahemohpaaeoaaDoor
