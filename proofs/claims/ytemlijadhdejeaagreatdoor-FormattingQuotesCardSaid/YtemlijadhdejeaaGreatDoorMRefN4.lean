/- The reference's Trim, slash, digits: what each call returns. -/
import Derived.Test.YtemlijadhdejeaaGreatDoorMRefN2
import Derived.Test.YtemlijadhdejeaaGreatDoorMNumPlain7
import Derived.Test.YtemlijadhdejeaaGreatDoorMNumC
namespace Go.Proofs.YtemlijadhdejeaaGreatDoor
open Go.RowKit
set_option linter.unusedVariables false

def blankB2 (c : Nat) : Bool := c == 32 || (c == 9 || (c == 10 || c == 13))
theorem blank_eq (c : UInt8) : blankL.contains c = blankB2 c.toNat := by
  have : ∀ c : Fin 256, blankL.contains (UInt8.ofNat c.val) = blankB2 c.val := by decide +kernel
  have := this ⟨c.toNat, UInt8.toNat_lt c⟩
  simpa using this

set_option maxHeartbeats 1000000 in
theorem rblank_any (c : Nat) (hc : c < 256) (w : World) :
    Calls Tryz.prog 129 #[.int .u8 c] w fun e w' => e = .returned (.bool (blankB2 c)) ∧ w = w' := by
  by_cases h1 : c = 32
  · subst h1
    go_enter Tryz.func129, Tryz.ntmps129
    go_wp2
    go_returns
    exact ⟨rfl, rfl⟩
  · by_cases h2 : c = 9
    · subst h2
      go_enter Tryz.func129, Tryz.ntmps129
      go_wp2
      go_returns
      exact ⟨rfl, rfl⟩
    · by_cases h3 : c = 10
      · subst h3
        go_enter Tryz.func129, Tryz.ntmps129
        go_wp2
        go_returns
        exact ⟨rfl, rfl⟩
      · by_cases h4 : c = 13
        · subst h4
          go_enter Tryz.func129, Tryz.ntmps129
          go_wp2
          go_returns
          exact ⟨rfl, rfl⟩
        · have e : blankB2 c = false := by unfold blankB2; simp; omega
          rw [e]
          have g1 : ((c : Int) == 32) = false := by simp; omega
          have g2 : ((c : Int) == 9) = false := by simp; omega
          have g3 : ((c : Int) == 10) = false := by simp; omega
          have g4 : ((c : Int) == 13) = false := by simp; omega
          go_enter Tryz.func129, Tryz.ntmps129
          go_wp2
          all_goals go_returns
          all_goals exact ⟨rfl, rfl⟩
abbrev RBlank (c : Nat) (b : Bool) : Prop := ∀ w, Calls Tryz.prog 129 #[.int .u8 (c : Int)] w fun e w' => e = .returned (.bool b) ∧ w = w'
theorem rblank_is (c : UInt8) (b : Bool) (h : blankL.contains c = b) : RBlank c.toNat b := fun w => by
  have := rblank_any c.toNat (UInt8.toNat_lt c) w
  rw [← blank_eq, h] at this
  exact this

theorem data_get (s : ByteArray) (k : Nat) (h : k < s.size) : s.data.toList[k]'(by simpa using h) = s[k] := rfl

set_option maxHeartbeats 2000000 in
theorem rtrim_any (s : ByteArray) (hs : s.size ≤ 9223372036854775807) (w : World) :
    Calls Tryz.prog 107 #[.string s] w fun e w' => e = .returned (.string (mkS (Lib.trimS s.data.toList blankL))) ∧ w = w' := by
  have hl : s.data.toList.length = s.size := by simp
  have HL := Lib.hid hl
  clear hl
  go_enter Tryz.func107, Tryz.ntmps107
  go_wp2
  go_loop [3] (fun u => ∃ k : Nat, k ≤ s.size ∧ u = .int .i64 k ∧ Hid (∀ j, (h : j < k) → (hj : j < s.size) → blankL.contains (s[j]'hj) = true)) (fun u => s.size - (intOf u).toNat)
  case atStart => exact ⟨0, Nat.zero_le _, rfl, fun j h => by omega⟩
  case round =>
    obtain ⟨k, hk, rfl, hall⟩ := hrel
    have stop : ∀ (hst : (h : k < s.size) → blankL.contains (s[k]'h) = false), Hid (∀ h : k < s.size, blankL.contains (s[k]'h) = false) := fun h => h
    by_cases hgo : ∃ h : k < s.size, blankL.contains (s[k]'h) = true
    · obtain ⟨hlt, hb⟩ := hgo
      have HB := Lib.hid (rblank_is _ _ hb)
      have HBB := Lib.hid hb
      clear hb stop
      go_wp2_with (first | (go_at_call 129; refine (HB.out _).mono ?_; rintro e w2 ⟨rfl, rfl⟩))
      refine ⟨⟨k + 1, hlt, by go_num, ?_⟩, by simp [intOf]; omega⟩
      intro j h hj
      rcases Nat.lt_or_ge j k with h2 | h2
      · exact hall.out j h2 hj
      · obtain rfl : j = k := by omega
        exact HBB.out
    · have hst := stop (fun h => by
        cases hb : blankL.contains (s[k]'h)
        · rfl
        · exact absurd ⟨h, hb⟩ hgo)
      clear hgo stop
      have second : True := trivial
      by_cases hlt : k < s.size
      all_goals
        try have HB := Lib.hid (rblank_is _ _ (hst.out hlt))
        try (go_wp2_with (first | (go_at_call 129; refine (HB.out _).mono ?_; rintro e w2 ⟨rfl, rfl⟩)))
        go_loop [4] (fun u => ∃ m : Nat, k ≤ m ∧ m ≤ s.size ∧ u = .int .i64 m ∧ Hid (∀ j, m ≤ j → (hj : j < s.size) → blankL.contains (s[j]'hj) = true)) (fun u => (intOf u).toNat)
        case atStart => exact ⟨s.size, hk, Nat.le_refl _, rfl, fun j h hj => by omega⟩
        case round =>
          obtain ⟨m, hkm, hm, rfl, hend⟩ := hrel
          by_cases hgo2 : ∃ h : k < m, blankL.contains (s[m - 1]'(by omega)) = true
          · obtain ⟨hlt2, hb2⟩ := hgo2
            obtain ⟨m', rfl⟩ : ∃ m', m = m' + 1 := ⟨m - 1, by omega⟩
            simp only [Nat.add_sub_cancel] at hb2
            have HB2 := Lib.hid (rblank_is _ _ hb2)
            have HBB2 := Lib.hid hb2
            clear hb2
            have hm' : m' < s.size := by omega
            go_wp2_with (first | (go_at_call 129; refine (HB2.out _).mono ?_; rintro e w2 ⟨rfl, rfl⟩))
            all_goals refine ⟨⟨m', by omega, by omega, by go_num, ?_⟩, by simp [intOf] <;> omega⟩
            all_goals intro j h hj
            all_goals
              rcases Nat.lt_or_ge m' j with h2 | h2
              · exact hend.out j h2 hj
              · obtain rfl : j = m' := by omega
                exact HBB2.out
          · have hst2 : Hid (∀ h : k < m, blankL.contains (s[m - 1]'(by omega)) = false) := fun h => by
              cases hb : blankL.contains (s[m - 1]'(by omega))
              · rfl
              · exact absurd ⟨h, hb⟩ hgo2
            clear hgo2
            have hres : (s.extract k m).data.toList = Lib.trimS s.data.toList blankL := by
              rw [extract_list]
              refine (trim_slice hkm (by rw [HL.out]; exact hm) ?_ ?_ ?_ ?_).symm
              · intro j h; exact hall.out j h (by omega)
              · intro j h1 h2; exact hend.out j h1 (by rw [HL.out] at h2; exact h2)
              · intro h; exact hst.out (by omega)
              · intro h; exact hst2.out h
            have HRES := Lib.hid (mkS_ext hres)
            clear hres
            rcases Nat.eq_or_lt_of_le hkm with he | hlt2
            · subst he
              go_wp2
              go_returns
              refine ⟨?_, rfl⟩
              rw [← HRES.out, show s.extract k k = ByteArray.empty by simp]
              rfl
            · obtain ⟨m', rfl⟩ : ∃ m', m = m' + 1 := ⟨m - 1, by omega⟩
              have hb3 := hst2.out hlt2
              simp only [Nat.add_sub_cancel] at hb3
              have HB3 := Lib.hid (rblank_is _ _ hb3)
              clear hb3
              have hm' : m' < s.size := by omega
              go_wp2_with (first | (go_at_call 129; refine (HB3.out _).mono ?_; rintro e w2 ⟨rfl, rfl⟩))
              all_goals go_returns
              all_goals
                refine ⟨?_, rfl⟩
                rw [← HRES.out]
                rfl

set_option maxHeartbeats 2000000 in
theorem rslash_any (s : ByteArray) (hs : s.size ≤ 9223372036854775807) (w : World) :
    Calls Tryz.prog 130 #[.string s] w fun e w' => e = .returned (.int .i64 (Lib.indexByte s.data.toList 47)) ∧ w = w' := by
  have hl : s.data.toList.length = s.size := by simp
  have HL := Lib.hid hl
  clear hl
  go_enter Tryz.func130, Tryz.ntmps130
  go_wp2
  go_loop [3] (fun u => ∃ k : Nat, k ≤ s.size ∧ u = .int .i64 k ∧ Hid (∀ j, (h : j < k) → s.data.toList[j]? ≠ some 47)) (fun u => s.size - (intOf u).toNat)
  case atStart => exact ⟨0, Nat.zero_le _, rfl, fun j h => by omega⟩
  case round =>
    obtain ⟨k, hk, rfl, hall⟩ := hrel
    by_cases hlt : k < s.size
    · have hget : s.data.toList[k]? = some (s[k]'hlt) := by rw [List.getElem?_eq_getElem (by rw [HL.out]; exact hlt)]; rfl
      have HG := Lib.hid hget
      clear hget
      by_cases hc : (s[k]'hlt).toNat = 47
      · have hres : Lib.indexByte s.data.toList 47 = k := by
          have h47 : s[k]'hlt = 47 := UInt8.toNat_inj.1 hc
          have hge := Lib.indexByte_ge s.data.toList 47
          by_cases h : Lib.indexByte s.data.toList 47 < 0
          · have : Lib.indexByte s.data.toList 47 = -1 := by omega
            exact absurd (by rw [HG.out, h47]) (Lib.indexByte_none this k)
          · obtain ⟨o, ho⟩ : ∃ o : Nat, Lib.indexByte s.data.toList 47 = o := ⟨(Lib.indexByte s.data.toList 47).toNat, by omega⟩
            obtain ⟨h1, h2⟩ := Lib.indexByte_some ho
            rw [ho]
            rcases Nat.lt_trichotomy o k with h3 | h3 | h3
            · exact absurd h1 (hall.out o h3)
            · rw [h3]
            · exact absurd (by rw [HG.out, h47]) (h2 k h3)
        have HRES := Lib.hid hres
        clear hres
        go_wp2
        go_returns
        refine ⟨?_, rfl⟩
        rw [HRES.out]
        rfl
      · go_wp2
        refine ⟨⟨k + 1, hlt, by go_num, ?_⟩, by simp [intOf]; omega⟩
        intro j h he
        rcases Nat.lt_or_ge j k with h2 | h2
        · exact hall.out j h2 he
        · obtain rfl : j = k := by omega
          rw [HG.out] at he
          simp only [Option.some.injEq] at he
          exact hc (by rw [he]; rfl)
    · obtain rfl : k = s.size := by omega
      have hres : Lib.indexByte s.data.toList 47 = -1 := by
        have hge := Lib.indexByte_ge s.data.toList 47
        by_cases h : Lib.indexByte s.data.toList 47 < 0
        · omega
        · obtain ⟨o, ho⟩ : ∃ o : Nat, Lib.indexByte s.data.toList 47 = o := ⟨(Lib.indexByte s.data.toList 47).toNat, by omega⟩
          obtain ⟨h1, h2⟩ := Lib.indexByte_some ho
          have := (List.getElem?_eq_some_iff.1 h1).1
          exact absurd h1 (hall.out o (by rw [HL.out] at this; exact this))
      have HRES := Lib.hid hres
      clear hres
      go_wp2
      go_returns
      refine ⟨?_, rfl⟩
      rw [HRES.out]
      rfl

abbrev RRun0 (s : ByteArray) (r : Nat) : Prop := ∀ w, Calls Tryz.prog 110 #[.string s, .int .i64 0, .int .i64 10] w fun e w' => e = .returned (.int .i64 r) ∧ w = w'
theorem run_eq (s : ByteArray) (hs : s.size ≤ 9223372036854775807) : RRun0 s (runL s.data.toList 10 0) := fun w => rrun_any s 0 10 (Nat.zero_le _) hs (by omega) w
/-- Whether a text is digits alone. -/
def digsB (l : List UInt8) : Bool := decide (l ≠ [] ∧ runL l 10 0 = l.length)
set_option maxHeartbeats 1000000 in
theorem rdigits_any (s : ByteArray) (hs : s.size ≤ 9223372036854775807) (w : World) :
    Calls Tryz.prog 131 #[.string s] w fun e w' => e = .returned (.bool (digsB s.data.toList)) ∧ w = w' := by
  have hl : s.data.toList.length = s.size := by simp
  by_cases h0 : s.toList = []
  · have e : digsB s.data.toList = false := by
      unfold digsB
      rw [decide_eq_false_iff_not]
      rw [Lib.toList_data] at h0
      exact fun h => h.1 h0
    rw [e]
    have h1 : s.toList.isEmpty = true := by rw [h0]; rfl
    clear e hl
    go_enter Tryz.func131, Tryz.ntmps131
    go_wp2
    go_returns
    exact ⟨rfl, rfl⟩
  · have h1 : s.toList.isEmpty = false := by simpa using h0
    have hr := run_eq s hs
    have e : digsB s.data.toList = (((runL s.data.toList 10 0 : Nat) : Int) == (s.size : Int)) := by
      unfold digsB
      rw [Lib.toList_data] at h0
      rw [Bool.eq_iff_iff]
      simp only [decide_eq_true_eq, beq_iff_eq]
      rw [hl]
      constructor
      · intro h; omega
      · intro h; exact ⟨h0, by omega⟩
    rw [e]
    have HR := Lib.hid hr
    clear e hl hr
    go_enter Tryz.func131, Tryz.ntmps131
    go_wp2_with (first | (go_at_call 110; refine (HR.out _).mono ?_; rintro e w2 ⟨rfl, rfl⟩))
    go_returns
    exact ⟨rfl, rfl⟩
end Go.Proofs.YtemlijadhdejeaaGreatDoor
