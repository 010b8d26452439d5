/- The reference's numeral, joined. -/
import Derived.Test.YtgjeljhodflbgaaDoorMRefN3
import Derived.Test.YtgjeljhodflbgaaDoorMRefN4
namespace Go.Proofs.YtgjeljhodflbgaaDoor
open Go.RowKit
set_option linter.unusedVariables false

theorem runL_gt {l : List UInt8} {b i : Nat} : i < runL l b i ↔ i < l.length ∧ dvN (bat l i) < b := by
  constructor
  · intro h
    by_cases h1 : i < l.length
    · refine ⟨h1, ?_⟩
      by_cases h2 : dvN (bat l i) < b
      · exact h2
      · rw [runL_stop l b i h1 h2] at h; omega
    · rw [runL_end l b i (by omega)] at h; omega
  · intro ⟨h1, h2⟩
    have := runL_ge l b (i + 1)
    rw [runL_step l b i h1 h2]; omega

/-- What the reference's numeral answers. -/
def rnumT (l : List UInt8) (i : Nat) : Nat × Int × Int × Int := match findL l i with | none => (i, 0, 0, 4) | some f => (f.end_, numT l f)
abbrev RNumeral (s : ByteArray) (i : Nat) (t : Nat × Int × Int × Int) : Prop := ∀ w, Calls Tryd.prog 67 #[.string s, .int .i64 i] w fun e w' => e = .returned (rnumV t.1 t.2.1 t.2.2.1 t.2.2.2) ∧ Below w.heap.size w w'

theorem rrun_at (s : ByteArray) (i : Nat) (b : Nat) (hi : i ≤ s.size) (hs : s.size ≤ 4000) (hb : b ≤ 16) (x : Int) (hx : x = i) : RRun s x b (runL s.data.toList b i) := fun w => by
  subst hx
  exact rrun_any s i b hi (by omega) hb w
theorem rnum_some (x : ByteArray) (b : Nat) (n : Nat) (hs : x.size ≤ 9223372036854775807) (hb2 : 2 ≤ b) (hb : b ≤ 16) (hd : ∀ c ∈ x.data.toList, dvN c.toNat < b) (h : numL b x.data.toList 0 = some n) : RNum x b n true := fun w => by
  have := rnumber_any x b hs hb2 hb hd w
  rw [h] at this
  exact this
theorem rnum_no (x : ByteArray) (b : Nat) (hs : x.size ≤ 9223372036854775807) (hb2 : 2 ≤ b) (hb : b ≤ 16) (hd : ∀ c ∈ x.data.toList, dvN c.toNat < b) (h : numL b x.data.toList 0 = none) : RNum x b 0 false := fun w => by
  have := rnumber_any x b hs hb2 hb hd w
  rw [h] at this
  exact this

theorem rnumeral_any (s : ByteArray) (i : Nat) (hi : i ≤ s.size) (hs : s.size ≤ 4000) : RNumeral s i (rnumT s.data.toList i) := by
  intro w
  have hl : s.data.toList.length = s.size := by simp
  have hle := runL_le s.data.toList 10 i (by omega)
  have hge := runL_ge s.data.toList 10 i
  by_cases hx : i + 2 < s.size ∧ bat s.data.toList i = 48 ∧ (bat s.data.toList (i + 1) = 120 ∨ bat s.data.toList (i + 1) = 88) ∧ dvN (bat s.data.toList (i + 2)) < 16
  · obtain ⟨h0, h1, h2, h3⟩ := hx
    have e1 : runL s.data.toList 10 i = i + 1 := by
      rw [runL_step _ _ _ (by omega) (by rw [h1]; decide), runL_stop _ _ _ (by omega) (by rcases h2 with h2 | h2 <;> rw [h2] <;> decide)]
    have r1 : i + 2 < runL s.data.toList 16 (i + 2) := runL_gt.2 ⟨by omega, h3⟩
    have r2 := runL_le s.data.toList 16 (i + 2) (by omega)
    have hf : findL s.data.toList i = some ⟨true, -1, i + 2, runL s.data.toList 16 (i + 2)⟩ := by
      unfold findL
      rw [e1]
      dsimp only
      rw [if_neg (by omega), if_pos ⟨rfl, h1, by omega, h2, r1⟩]
    have hd := slice_run_digits s.data.toList 16 (i + 2)
    have hr := rrun_at s (i + 2) 16 (by omega) hs (by omega) ((i : Int) + 2) (by push_cast; rfl)
    have hsz : (s.extract (i + 2) (runL s.data.toList 16 (i + 2))).size ≤ 9223372036854775807 := by simp; omega
    rw [← extract_list] at hd
    rw [bat_get s i (by omega)] at h1
    rw [bat_get s (i + 1) (by omega)] at h2
    rw [bat_get s (i + 2) h0] at h3
    cases ho : numL 16 (s.extract (i + 2) (runL s.data.toList 16 (i + 2))).data.toList 0 with
    | none =>
      have ht : rnumT s.data.toList i = (runL s.data.toList 16 (i + 2), 0, 0, 6) := by
        unfold rnumT; rw [hf]; dsimp only [numT]; rw [if_pos rfl, ← extract_list, ho]; rfl
      rw [ht]
      exact rnum_hex_no s i w hs hi h0 h1 h2 h3 _ (by omega) (by omega) hr (rnum_no _ 16 hsz (by omega) (by omega) hd ho)
    | some n =>
      have ht : rnumT s.data.toList i = (runL s.data.toList 16 (i + 2), makeT n 1) := by
        unfold rnumT; rw [hf]; dsimp only [numT]; rw [if_pos rfl, ← extract_list, ho]; rfl
      rw [ht]
      exact rnum_hex s i w hs hi h0 h1 h2 h3 _ (by omega) (by omega) hr n _ _ _ (rnum_some _ 16 n hsz (by omega) (by omega) hd ho) (fun w => rmake_any n 1 w)
  · have hno : NoHex s i := by
      unfold NoHex
      by_cases h0 : i + 2 < s.size
      · right
        refine ⟨h0, ?_⟩
        rw [bat_get s i (by omega), bat_get s (i + 1) (by omega), bat_get s (i + 2) h0] at hx
        by_cases h1 : (s[i]'(by omega)).toNat = 48
        · by_cases h2 : (s[i + 1]'(by omega)).toNat = 120
          · exact .inr (.inr (.inl ⟨h1, h2, fun h => hx ⟨h0, h1, .inl h2, h⟩⟩))
          · by_cases h3 : (s[i + 1]'(by omega)).toNat = 88
            · exact .inr (.inr (.inr ⟨h1, h3, fun h => hx ⟨h0, h1, .inr h3, h⟩⟩))
            · exact .inr (.inl ⟨h1, h2, h3⟩)
        · exact .inl h1
      · left; omega
    have hr := rrun_at s i 10 hi hs (by omega) (i : Int) rfl
    have hd := slice_run_digits s.data.toList 10 i
    have hnx : ¬ (runL s.data.toList 10 i = i + 1 ∧ bat s.data.toList i = 48 ∧ runL s.data.toList 10 i < s.data.toList.length ∧ (bat s.data.toList (runL s.data.toList 10 i) = 120 ∨ bat s.data.toList (runL s.data.toList 10 i) = 88) ∧ runL s.data.toList 10 i + 1 < runL s.data.toList 16 (runL s.data.toList 10 i + 1)) := by
      intro ⟨g1, g2, g3, g4, g5⟩
      rw [g1] at g3 g4 g5
      have := runL_gt.1 g5
      exact hx ⟨by omega, g2, g4, this.2⟩
    have hf : findL s.data.toList i = if runL s.data.toList 10 i = i then none else if runL s.data.toList 10 i < s.data.toList.length ∧ bat s.data.toList (runL s.data.toList 10 i) = 46 ∧ runL s.data.toList 10 i + 1 < runL s.data.toList 10 (runL s.data.toList 10 i + 1) then some ⟨false, runL s.data.toList 10 i, i, runL s.data.toList 10 (runL s.data.toList 10 i + 1)⟩ else some ⟨false, -1, i, runL s.data.toList 10 i⟩ := by
      unfold findL
      dsimp only
      rw [if_neg hnx]
    generalize hj : runL s.data.toList 10 i = j at *
    clear hx hnx
    by_cases hji : j = i
    · subst hji
      rw [if_pos rfl] at hf
      have ht : rnumT s.data.toList j = (j, 0, 0, 4) := by unfold rnumT; rw [hf]
      rw [ht]
      exact rnum_none s j w hs hi hno hr
    · rw [if_neg hji] at hf
      have hij : i < j := by omega
      have hsz : (s.extract i j).size ≤ 9223372036854775807 := by simp; omega
      by_cases hp : j < s.data.toList.length ∧ bat s.data.toList j = 46 ∧ j + 1 < runL s.data.toList 10 (j + 1)
      · rw [if_pos hp] at hf
        obtain ⟨p1, p2, p3⟩ := hp
        obtain ⟨q1, q2⟩ := runL_gt.1 p3
        have q0 : j + 1 < s.size := by omega
        have r2 := runL_le s.data.toList 10 (j + 1) (by omega)
        have hr2 := rrun_at s (j + 1) 10 (by omega) hs (by omega) ((j : Int) + 1) (by push_cast; rfl)
        have hd2 := slice_run_digits s.data.toList 10 (j + 1)
        generalize hrr : runL s.data.toList 10 (j + 1) = r at *
        rw [bat_get s j (by omega)] at p2
        rw [bat_get s (j + 1) q0] at q2
        have hsz2 : (s.extract i j ++ s.extract (j + 1) r).size ≤ 9223372036854775807 := by simp; omega
        have hdd : ∀ c ∈ (s.extract i j ++ s.extract (j + 1) r).data.toList, dvN c.toNat < 10 := by
          rw [cat_list, extract_list, extract_list]
          intro c hc
          rcases List.mem_append.1 hc with hc | hc
          · exact hd c hc
          · exact hd2 c hc
        have hlist : (s.extract i j ++ s.extract (j + 1) r).data.toList = sliceL s.data.toList i j ++ sliceL s.data.toList (j + 1) r := by rw [cat_list, extract_list, extract_list]
        have ht : rnumT s.data.toList i = (r, if 9 < r - (j + 1) then (0, 0, 6) else ofNum (numL 10 (s.extract i j ++ s.extract (j + 1) r).data.toList 0) (10 ^ (r - (j + 1)))) := by
          unfold rnumT; rw [hf]; dsimp only [numT]
          rw [if_neg (by simp), if_neg (by omega), Int.toNat_natCast, hlist]
        rw [ht]
        cases ho : numL 10 (s.extract i j ++ s.extract (j + 1) r).data.toList 0 with
        | none =>
          have e : (if 9 < r - (j + 1) then ((0 : Int), (0 : Int), (6 : Int)) else ofNum none (10 ^ (r - (j + 1)))) = (0, 0, 6) := by split <;> rfl
          rw [e]
          exact rnum_pt_no s i w hs hi hno j (by omega) (by omega) hr hij q0 p2 q2 r (by omega) (by omega) hr2 (rnum_no _ 10 hsz2 (by omega) (by omega) hdd ho)
        | some n =>
          have hn := rnum_some _ 10 n hsz2 (by omega) (by omega) hdd ho
          by_cases h9 : 9 < r - (j + 1)
          · rw [if_pos h9]
            exact rnum_pt_far s i w hs hi hno j (by omega) (by omega) hr hij q0 p2 q2 r (by omega) (by omega) hr2 h9 n hn
          · rw [if_neg h9]
            refine rnum_pt s i w hs hi hno j (by omega) (by omega) hr hij q0 p2 q2 r (by omega) (by omega) hr2 (by omega) n ((10 ^ (r - (j + 1)) : Nat) : Int) _ _ _ hn (fun w => ?_) (fun w => rmake_any n _ w)
            have := rpower_any (r - (j + 1)) (by omega) w
            rw [show (((r - (j + 1) : Nat)) : Int) = (r : Int) - ((j : Int) + 1) by omega] at this
            exact this
      · rw [if_neg hp] at hf
        have hnp : NoPoint s j := by
          unfold NoPoint
          by_cases h0 : j + 1 < s.size
          · right
            refine ⟨h0, ?_⟩
            rw [runL_gt, bat_get s j (by omega), bat_get s (j + 1) h0] at hp
            by_cases h1 : (s[j]'(by omega)).toNat = 46
            · exact .inr ⟨h1, fun h => hp ⟨by omega, h1, by omega, h⟩⟩
            · exact .inl h1
          · left; omega
        rw [← extract_list] at hd
        cases ho : numL 10 (s.extract i j).data.toList 0 with
        | none =>
          have ht : rnumT s.data.toList i = (j, 0, 0, 6) := by
            unfold rnumT; rw [hf]; dsimp only [numT]; rw [if_neg (by simp), if_pos (by omega), ← extract_list, ho]; rfl
          rw [ht]
          exact rnum_int_no s i w hs hi hno j (by omega) (by omega) hr hij hnp (rnum_no _ 10 hsz (by omega) (by omega) hd ho)
        | some n =>
          have ht : rnumT s.data.toList i = (j, makeT n 1) := by
            unfold rnumT; rw [hf]; dsimp only [numT]; rw [if_neg (by simp), if_pos (by omega), ← extract_list, ho]; rfl
          rw [ht]
          exact rnum_int s i w hs hi hno j (by omega) (by omega) hr hij hnp n _ _ _ (rnum_some _ 10 n hsz (by omega) (by omega) hd ho) (fun w => rpower_any 0 (by omega) w) (fun w => rmake_any n 1 w)
end Go.Proofs.YtgjeljhodflbgaaDoor
