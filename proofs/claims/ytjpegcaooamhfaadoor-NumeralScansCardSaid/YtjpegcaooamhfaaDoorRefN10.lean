/- The reference's unsigned, Parse and Scan, joined. -/
import Derived.Test.YtjpegcaooamhfaaDoorRefN9
import Derived.Test.YtjpegcaooamhfaaDoorNumPlain6
import Derived.Test.YtjpegcaooamhfaaDoorNumW10
namespace Go.Proofs.YtjpegcaooamhfaaDoor
open Go.RowKit
set_option linter.unusedVariables false

theorem kind_pos {l : List UInt8} {i : Nat} {f : Find} (h : Kind l i f) : i < f.end_ := by
  cases h with
  | hex q h1 => show i < q; omega
  | point d q h1 h2 => show i < q; omega
  | whole q h1 => exact h1
theorem unsL_bd (u : List UInt8) : -2147483647 ≤ (unsL u).1 ∧ (unsL u).1 ≤ 2147483647 := by
  unfold unsL
  split
  · split
    · exact numT_bd _ _
    · exact fracL_bd _
  · exact fracL_bd _
abbrev RUnsT (s : ByteArray) (t : Int × Int × Int) : Prop := RUns s t.1 t.2.1 t.2.2

theorem runsigned_any (s : ByteArray) (hs : s.size ≤ 2000) : RUnsT s (unsL s.data.toList) := by
  have hl : s.data.toList.length = s.size := by simp
  have hs1 : s.size ≤ 9223372036854775807 := by omega
  have hsl : RSlash s (Lib.indexByte s.data.toList 47) := fun w => rslash_any s hs1 w
  by_cases h : Lib.indexByte s.data.toList 47 = -1
  · rw [h] at hsl
    have hn := rnumeral_any s 0 (Nat.zero_le _) hs
    cases hf : findL s.data.toList 0 with
    | none =>
      have e : rnumT s.data.toList 0 = (0, 0, 0, 4) := by unfold rnumT; rw [hf]
      rw [e] at hn
      rw [unsL_none hf, frac_none h]
      exact runs_form s hsl 0 _ _ _ hn (.inl rfl)
    | some f =>
      have hk := find_kind (by omega) hf
      have h1 := kind_pos hk
      have h2 := kind_end hk
      have e : rnumT s.data.toList 0 = (f.end_, numT s.data.toList f) := by unfold rnumT; rw [hf]
      rw [e] at hn
      by_cases he : f.end_ = s.data.toList.length
      · rw [unsL_num hf he]
        exact runs_num s hsl f.end_ _ _ _ hn (by omega) (by omega)
      · rw [unsL_far hf he, frac_none h]
        exact runs_form s hsl f.end_ _ _ _ hn (.inr ⟨by omega, by omega⟩)
  · have hge := Lib.indexByte_ge s.data.toList 47
    obtain ⟨k, hk⟩ : ∃ k : Nat, Lib.indexByte s.data.toList 47 = k := ⟨(Lib.indexByte s.data.toList 47).toNat, by omega⟩
    have hlt : k < s.size := by
      have := (Lib.indexByte_some hk).1
      have := (List.getElem?_eq_some_iff.1 this).1
      simpa using this
    rw [uns_slash hk]
    rw [hk] at hsl
    unfold fracL
    rw [if_neg h, hk, Int.toNat_natCast, ← take_extract, ← drop_extract]
    have hp : (s.extract 0 k).size ≤ 9223372036854775807 := size_extract_le s _ _ (by omega) hs1
    have hq : (s.extract (k + 1) s.size).size ≤ 9223372036854775807 := size_extract_le s _ _ (by omega) hs1
    have d1 : RDigits (s.extract 0 k) (digsB (s.extract 0 k).data.toList) := fun w => rdigits_any _ hp w
    have d2 : RDigits (s.extract (k + 1) s.size) (digsB (s.extract (k + 1) s.size).data.toList) := fun w => rdigits_any _ hq w
    unfold fracT
    by_cases c1 : (s.extract 0 k).data.toList ≠ [] ∧ runL (s.extract 0 k).data.toList 10 0 = (s.extract 0 k).data.toList.length
    · by_cases c2 : (s.extract (k + 1) s.size).data.toList ≠ [] ∧ runL (s.extract (k + 1) s.size).data.toList 10 0 = (s.extract (k + 1) s.size).data.toList.length
      · rw [if_pos ⟨c1.1, c2.1, c1.2, c2.2⟩]
        rw [show digsB (s.extract 0 k).data.toList = true from decide_eq_true c1] at d1
        rw [show digsB (s.extract (k + 1) s.size).data.toList = true from decide_eq_true c2] at d2
        have g1 := digits_of_run c1.2
        have g2 := digits_of_run c2.2
        cases ha : numL 10 (s.extract 0 k).data.toList 0 with
        | none =>
          have n1 := rnum_no _ 10 hp (by omega) (by omega) g1 ha
          cases hb : numL 10 (s.extract (k + 1) s.size).data.toList 0 with
          | none => exact runs_range s k hs hlt hsl d1 d2 0 0 false false n1 (rnum_no _ 10 hq (by omega) (by omega) g2 hb) (.inl rfl)
          | some b => exact runs_range s k hs hlt hsl d1 d2 0 b false true n1 (rnum_some _ 10 b hq (by omega) (by omega) g2 hb) (.inl rfl)
        | some a =>
          have n1 := rnum_some _ 10 a hp (by omega) (by omega) g1 ha
          cases hb : numL 10 (s.extract (k + 1) s.size).data.toList 0 with
          | none => exact runs_range s k hs hlt hsl d1 d2 a 0 true false n1 (rnum_no _ 10 hq (by omega) (by omega) g2 hb) (.inr (.inl ⟨rfl, rfl⟩))
          | some b =>
            have n2 := rnum_some _ 10 b hq (by omega) (by omega) g2 hb
            by_cases hz : b = 0
            · subst hz
              exact runs_range s k hs hlt hsl d1 d2 a _ true true n1 n2 (.inr (.inr ⟨rfl, rfl, rfl⟩))
            · dsimp only
              rw [if_neg hz]
              exact runs_make s k hs hlt hsl d1 d2 a b n1 n2 (by omega) _ _ _ (fun w => rmake_any a b w)
      · rw [if_neg (fun h => c2 ⟨h.2.1, h.2.2.2⟩)]
        rw [show digsB (s.extract 0 k).data.toList = true from decide_eq_true c1] at d1
        rw [show digsB (s.extract (k + 1) s.size).data.toList = false from decide_eq_false c2] at d2
        exact runs_bad s k hs hlt hsl true false d1 d2 (.inr ⟨rfl, rfl⟩)
    · rw [if_neg (fun h => c1 ⟨h.1, h.2.2.1⟩)]
      rw [show digsB (s.extract 0 k).data.toList = false from decide_eq_false c1] at d1
      exact runs_bad s k hs hlt hsl false _ d1 d2 (.inl rfl)

theorem rparse_any (s : ByteArray) (hs : s.size ≤ 2000) (w : World) :
    Calls Tryd.prog 17 #[.string s] w fun e w' => e = .returned (tripV (parseL s.data.toList)) ∧ Below w.heap.size w w' := by
  have hl : s.data.toList.length = s.size := by simp
  have hsz := trimS_size s.data.toList blankL
  have ht : RTrim s (mkS (Lib.trimS s.data.toList blankL)) := fun w => rtrim_any s (by omega) w
  suffices h : RPar s (parseL s.data.toList).1 (parseL s.data.toList).2.1 (parseL s.data.toList).2.2 from h w
  unfold parseL
  generalize Lib.trimS s.data.toList blankL = t at *
  have lt : (mkS t).size = t.length := mkS_size t
  have key : ∀ m x, minusT m x = (if x.2.2 = 0 then (if m then -x.1 else x.1) else 0, if x.2.2 = 0 then x.2.1 else 0, x.2.2) := by
    intro m x
    unfold minusT
    by_cases h : x.2.2 = 0
    · rw [if_pos h, if_pos h, if_pos h, h]
    · rw [if_neg h, if_neg h, if_neg h]
  by_cases hm : t.head? = some 45
  · rw [if_pos hm, key]
    cases t with
    | nil => simp at hm
    | cons c u =>
      obtain rfl : c = 45 := by simpa using hm
      rw [List.tail_cons]
      have hu := runsigned_any (mkS u) (by rw [mkS_size]; simp only [List.length_cons] at hsz; omega)
      rw [mkS_list] at hu
      have e : (mkS (45 :: u)).extract 1 (mkS (45 :: u)).size = mkS u := by
        refine mkS_ext ?_
        rw [drop_extract]
        rfl
      have hb := unsL_bd u
      show RPar s _ _ _
      refine rpar_minus s _ ht (by rw [Lib.toList_data, mkS_list]; rfl) (by omega) (by rw [mkS_size]; simp) rfl (unsL u).1 (unsL u).2.1 (unsL u).2.2 (by rw [e]; exact hu) hb _ _ ?_
      by_cases h : (unsL u).2.2 = 0
      · rw [if_pos h, if_pos h]; exact .inl ⟨h, rfl, rfl⟩
      · rw [if_neg h, if_neg h]; exact .inr ⟨h, rfl, rfl⟩
  · rw [if_neg hm, key]
    have hu := runsigned_any (mkS t) (by omega)
    rw [mkS_list] at hu
    refine rpar_plain s _ ht ?_ _ _ _ hu _ _ ?_
    · unfold NoMinus
      rw [Lib.toList_data, mkS_list]
      cases t with
      | nil => exact .inl ⟨rfl, rfl⟩
      | cons c u =>
        refine .inr ⟨by simp, rfl, by rw [mkS_size]; simp, ?_⟩
        intro h
        have h2 : c.toNat = (45 : UInt8).toNat := h
        have h3 : c = 45 := UInt8.toNat_inj.1 h2
        exact hm (by rw [List.head?_cons, h3])
    · by_cases h : (unsL t).2.2 = 0
      · rw [if_pos h, if_pos h]; exact .inl ⟨h, rfl, rfl⟩
      · rw [if_neg h, if_neg h]; exact .inr ⟨h, rfl, rfl⟩

theorem rscan_any (s : ByteArray) (a : Int) (hs : s.size ≤ 2000) (w : World) :
    Calls Tryd.prog 19 #[.string s, .int .i64 a] w fun e w' => e = .returned (scanV (scanL s.data.toList a)) ∧ Below w.heap.size w w' := by
  have hl : s.data.toList.length = s.size := by simp
  suffices h : RScan s a (scanL s.data.toList a).1 (scanL s.data.toList a).2.1 (scanL s.data.toList a).2.2.1 (scanL s.data.toList a).2.2.2 from h w
  unfold scanL
  by_cases h : a < 0 ∨ (s.data.toList.length : Int) < a
  · rw [if_pos h]
    exact rscan_out s a (by omega)
  · rw [if_neg h]
    obtain ⟨i, rfl⟩ : ∃ i : Nat, a = i := ⟨a.toNat, by omega⟩
    rw [Int.toNat_natCast]
    have hn := rnumeral_any s i (by omega) hs
    cases hf : findL s.data.toList i with
    | none =>
      have e : rnumT s.data.toList i = (i, 0, 0, 4) := by unfold rnumT; rw [hf]
      rw [e] at hn
      exact rscan_in s i (by omega) (by omega) i 0 0 4 hn 0 0 0 (.inr ⟨by omega, rfl, rfl, rfl⟩)
    | some f =>
      have e : rnumT s.data.toList i = (f.end_, numT s.data.toList f) := by unfold rnumT; rw [hf]
      rw [e] at hn
      dsimp only
      by_cases h2 : (numT s.data.toList f).2.2 = 0
      · rw [if_pos h2]
        have := rscan_in s i (by omega) (by omega) f.end_ _ _ _ hn _ _ _ (.inl ⟨h2, rfl, rfl, rfl⟩)
        rw [h2] at this
        exact this
      · rw [if_neg h2]
        exact rscan_in s i (by omega) (by omega) f.end_ _ _ _ hn 0 0 0 (.inr ⟨h2, rfl, rfl, rfl⟩)
end Go.Proofs.YtjpegcaooamhfaaDoor
