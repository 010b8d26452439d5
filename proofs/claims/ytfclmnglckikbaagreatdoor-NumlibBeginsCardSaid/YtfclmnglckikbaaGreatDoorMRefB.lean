/- The reference's Trim, slash, digits: what each call returns. -/
import Derived.Test.YtfclmnglckikbaaGreatDoorMRefN2
import Derived.Test.YtfclmnglckikbaaGreatDoorMPlainC
import Derived.Test.YtfclmnglckikbaaGreatDoorMNumC
import Derived.Test.YtfclmnglckikbaaGreatDoorMRefN3
namespace Go.Proofs.YtfclmnglckikbaaGreatDoor
open Go.RowKit
set_option linter.unusedVariables false

def blankB2 (c : Nat) : Bool := c == 32 || (c == 9 || (c == 10 || c == 13))
theorem blank_eq (c : UInt8) : blankL.contains c = blankB2 c.toNat := by
  have : ∀ c : Fin 256, blankL.contains (UInt8.ofNat c.val) = blankB2 c.val := by decide +kernel
  have := this ⟨c.toNat, UInt8.toNat_lt c⟩
  simpa using this

set_option maxHeartbeats 1000000 in
theorem rblank_any (c : Nat) (hc : c < 256) (w : World) :
    Calls Tryz.prog 121 #[.int .u8 c] w fun e w' => e = .returned (.bool (blankB2 c)) ∧ w = w' := by
  by_cases h1 : c = 32
  · subst h1
    go_enter Tryz.func121, Tryz.ntmps121
    go_wp2
    go_returns
    exact ⟨rfl, rfl⟩
  · by_cases h2 : c = 9
    · subst h2
      go_enter Tryz.func121, Tryz.ntmps121
      go_wp2
      go_returns
      exact ⟨rfl, rfl⟩
    · by_cases h3 : c = 10
      · subst h3
        go_enter Tryz.func121, Tryz.ntmps121
        go_wp2
        go_returns
        exact ⟨rfl, rfl⟩
      · by_cases h4 : c = 13
        · subst h4
          go_enter Tryz.func121, Tryz.ntmps121
          go_wp2
          go_returns
          exact ⟨rfl, rfl⟩
        · have e : blankB2 c = false := by unfold blankB2; simp; omega
          rw [e]
          have g1 : ((c : Int) == 32) = false := by simp; omega
          have g2 : ((c : Int) == 9) = false := by simp; omega
          have g3 : ((c : Int) == 10) = false := by simp; omega
          have g4 : ((c : Int) == 13) = false := by simp; omega
          go_enter Tryz.func121, Tryz.ntmps121
          go_wp2
          all_goals go_returns
          all_goals exact ⟨rfl, rfl⟩
abbrev RBlank (c : Nat) (b : Bool) : Prop := ∀ w, Calls Tryz.prog 121 #[.int .u8 (c : Int)] w fun e w' => e = .returned (.bool b) ∧ w = w'
theorem rblank_is (c : UInt8) (b : Bool) (h : blankL.contains c = b) : RBlank c.toNat b := fun w => by
  have := rblank_any c.toNat (UInt8.toNat_lt c) w
  rw [← blank_eq, h] at this
  exact this

theorem data_get (s : ByteArray) (k : Nat) (h : k < s.size) : s.data.toList[k]'(by simpa using h) = s[k] := rfl

set_option maxHeartbeats 2000000 in
theorem rtrim_any (s : ByteArray) (hs : s.size ≤ 9223372036854775807) (w : World) :
    Calls Tryz.prog 109 #[.string s] w fun e w' => e = .returned (.string (mkS (Lib.trimS s.data.toList blankL))) ∧ w = w' := by
  have hl : s.data.toList.length = s.size := by simp
  have HL := Lib.hid hl
  clear hl
  go_enter Tryz.func109, Tryz.ntmps109
  go_wp2
  go_loop [3] (fun u => ∃ k : Nat, k ≤ s.size ∧ u = .int .i64 k ∧ Hid (∀ j, (h : j < k) → (hj : j < s.size) → blankL.contains (s[j]'hj) = true)) (fun u => s.size - (intOf u).toNat)
  case atStart => exact ⟨0, Nat.zero_le _, rfl, fun j h => by omega⟩
  case round =>
    obtain ⟨k, hk, rfl, hall⟩ := hrel
    have stop : ∀ (hst : (h : k < s.size) → blankL.contains (s[k]'h) = false), Hid (∀ h : k < s.size, blankL.contains (s[k]'h) = false) := fun h => h
    by_cases hgo : ∃ h : k < s.size, blankL.contains (s[k]'h) = true
    · obtain ⟨hlt, hb⟩ := hgo
      have HB := Lib.hid (rblank_is _ _ hb)
      have HBB := Lib.hid hb
      clear hb stop
      go_wp2_with (first | (go_at_call 121; refine (HB.out _).mono ?_; rintro e w2 ⟨rfl, rfl⟩))
      refine ⟨⟨k + 1, hlt, by go_num, ?_⟩, by simp [intOf]; omega⟩
      intro j h hj
      rcases Nat.lt_or_ge j k with h2 | h2
      · exact hall.out j h2 hj
      · obtain rfl : j = k := by omega
        exact HBB.out
    · have hst := stop (fun h => by
        cases hb : blankL.contains (s[k]'h)
        · rfl
        · exact absurd ⟨h, hb⟩ hgo)
      clear hgo stop
      have second : True := trivial
      by_cases hlt : k < s.size
      all_goals
        try have HB := Lib.hid (rblank_is _ _ (hst.out hlt))
        try (go_wp2_with (first | (go_at_call 121; refine (HB.out _).mono ?_; rintro e w2 ⟨rfl, rfl⟩)))
        go_loop [4] (fun u => ∃ m : Nat, k ≤ m ∧ m ≤ s.size ∧ u = .int .i64 m ∧ Hid (∀ j, m ≤ j → (hj : j < s.size) → blankL.contains (s[j]'hj) = true)) (fun u => (intOf u).toNat)
        case atStart => exact ⟨s.size, hk, Nat.le_refl _, rfl, fun j h hj => by omega⟩
        case round =>
          obtain ⟨m, hkm, hm, rfl, hend⟩ := hrel
          by_cases hgo2 : ∃ h : k < m, blankL.contains (s[m - 1]'(by omega)) = true
          · obtain ⟨hlt2, hb2⟩ := hgo2
            obtain ⟨m', rfl⟩ : ∃ m', m = m' + 1 := ⟨m - 1, by omega⟩
            simp only [Nat.add_sub_cancel] at hb2
            have HB2 := Lib.hid (rblank_is _ _ hb2)
            have HBB2 := Lib.hid hb2
            clear hb2
            have hm' : m' < s.size := by omega
            go_wp2_with (first | (go_at_call 121; refine (HB2.out _).mono ?_; rintro e w2 ⟨rfl, rfl⟩))
            all_goals refine ⟨⟨m', by omega, by omega, by go_num, ?_⟩, by simp [intOf] <;> omega⟩
            all_goals intro j h hj
            all_goals
              rcases Nat.lt_or_ge m' j with h2 | h2
              · exact hend.out j h2 hj
              · obtain rfl : j = m' := by omega
                exact HBB2.out
          · have hst2 : Hid (∀ h : k < m, blankL.contains (s[m - 1]'(by omega)) = false) := fun h => by
              cases hb : blankL.contains (s[m - 1]'(by omega))
              · rfl
              · exact absurd ⟨h, hb⟩ hgo2
            clear hgo2
            have hres : (s.extract k m).data.toList = Lib.trimS s.data.toList blankL := by
              rw [extract_list]
              refine (trim_slice hkm (by rw [HL.out]; exact hm) ?_ ?_ ?_ ?_).symm
              · intro j h; exact hall.out j h (by omega)
              · intro j h1 h2; exact hend.out j h1 (by rw [HL.out] at h2; exact h2)
              · intro h; exact hst.out (by omega)
              · intro h; exact hst2.out h
            have HRES := Lib.hid (mkS_ext hres)
            clear hres
            rcases Nat.eq_or_lt_of_le hkm with he | hlt2
            · subst he
              go_wp2
              go_returns
              refine ⟨?_, rfl⟩
              rw [← HRES.out, show s.extract k k = ByteArray.empty by simp]
              rfl
            · obtain ⟨m', rfl⟩ : ∃ m', m = m' + 1 := ⟨m - 1, by omega⟩
              have hb3 := hst2.out hlt2
              simp only [Nat.add_sub_cancel] at hb3
              have HB3 := Lib.hid (rblank_is _ _ hb3)
              clear hb3
              have hm' : m' < s.size := by omega
              go_wp2_with (first | (go_at_call 121; refine (HB3.out _).mono ?_; rintro e w2 ⟨rfl, rfl⟩))
              all_goals go_returns
              all_goals
                refine ⟨?_, rfl⟩
                rw [← HRES.out]
                rfl

set_option maxHeartbeats 2000000 in
theorem rslash_any (s : ByteArray) (hs : s.size ≤ 9223372036854775807) (w : World) :
    Calls Tryz.prog 122 #[.string s] w fun e w' => e = .returned (.int .i64 (Lib.indexByte s.data.toList 47)) ∧ w = w' := by
  have hl : s.data.toList.length = s.size := by simp
  have HL := Lib.hid hl
  clear hl
  go_enter Tryz.func122, Tryz.ntmps122
  go_wp2
  go_loop [3] (fun u => ∃ k : Nat, k ≤ s.size ∧ u = .int .i64 k ∧ Hid (∀ j, (h : j < k) → s.data.toList[j]? ≠ some 47)) (fun u => s.size - (intOf u).toNat)
  case atStart => exact ⟨0, Nat.zero_le _, rfl, fun j h => by omega⟩
  case round =>
    obtain ⟨k, hk, rfl, hall⟩ := hrel
    by_cases hlt : k < s.size
    · have hget : s.data.toList[k]? = some (s[k]'hlt) := by rw [List.getElem?_eq_getElem (by rw [HL.out]; exact hlt)]; rfl
      have HG := Lib.hid hget
      clear hget
      by_cases hc : (s[k]'hlt).toNat = 47
      · have hres : Lib.indexByte s.data.toList 47 = k := by
          have h47 : s[k]'hlt = 47 := UInt8.toNat_inj.1 hc
          have hge := Lib.indexByte_ge s.data.toList 47
          by_cases h : Lib.indexByte s.data.toList 47 < 0
          · have : Lib.indexByte s.data.toList 47 = -1 := by omega
            exact absurd (by rw [HG.out, h47]) (Lib.indexByte_none this k)
          · obtain ⟨o, ho⟩ : ∃ o : Nat, Lib.indexByte s.data.toList 47 = o := ⟨(Lib.indexByte s.data.toList 47).toNat, by omega⟩
            obtain ⟨h1, h2⟩ := Lib.indexByte_some ho
            rw [ho]
            rcases Nat.lt_trichotomy o k with h3 | h3 | h3
            · exact absurd h1 (hall.out o h3)
            · rw [h3]
            · exact absurd (by rw [HG.out, h47]) (h2 k h3)
        have HRES := Lib.hid hres
        clear hres
        go_wp2
        go_returns
        refine ⟨?_, rfl⟩
        rw [HRES.out]
        rfl
      · go_wp2
        refine ⟨⟨k + 1, hlt, by go_num, ?_⟩, by simp [intOf]; omega⟩
        intro j h he
        rcases Nat.lt_or_ge j k with h2 | h2
        · exact hall.out j h2 he
        · obtain rfl : j = k := by omega
          rw [HG.out] at he
          simp only [Option.some.injEq] at he
          exact hc (by rw [he]; rfl)
    · obtain rfl : k = s.size := by omega
      have hres : Lib.indexByte s.data.toList 47 = -1 := by
        have hge := Lib.indexByte_ge s.data.toList 47
        by_cases h : Lib.indexByte s.data.toList 47 < 0
        · omega
        · obtain ⟨o, ho⟩ : ∃ o : Nat, Lib.indexByte s.data.toList 47 = o := ⟨(Lib.indexByte s.data.toList 47).toNat, by omega⟩
          obtain ⟨h1, h2⟩ := Lib.indexByte_some ho
          have := (List.getElem?_eq_some_iff.1 h1).1
          exact absurd h1 (hall.out o (by rw [HL.out] at this; exact this))
      have HRES := Lib.hid hres
      clear hres
      go_wp2
      go_returns
      refine ⟨?_, rfl⟩
      rw [HRES.out]
      rfl

abbrev RRun0 (s : ByteArray) (r : Nat) : Prop := ∀ w, Calls Tryz.prog 136 #[.string s, .int .i64 0, .int .i64 10] w fun e w' => e = .returned (.int .i64 r) ∧ w = w'
theorem run_eq (s : ByteArray) (hs : s.size ≤ 9223372036854775807) : RRun0 s (runL s.data.toList 10 0) := fun w => rrun_any s 0 10 (Nat.zero_le _) hs (by omega) w
/-- Whether a text is digits alone. -/
def digsB (l : List UInt8) : Bool := decide (l ≠ [] ∧ runL l 10 0 = l.length)
set_option maxHeartbeats 1000000 in
theorem rdigits_any (s : ByteArray) (hs : s.size ≤ 9223372036854775807) (w : World) :
    Calls Tryz.prog 124 #[.string s] w fun e w' => e = .returned (.bool (digsB s.data.toList)) ∧ w = w' := by
  have hl : s.data.toList.length = s.size := by simp
  by_cases h0 : s.toList = []
  · have e : digsB s.data.toList = false := by
      unfold digsB
      rw [decide_eq_false_iff_not]
      rw [Lib.toList_data] at h0
      exact fun h => h.1 h0
    rw [e]
    have h1 : s.toList.isEmpty = true := by rw [h0]; rfl
    clear e hl
    go_enter Tryz.func124, Tryz.ntmps124
    go_wp2
    go_returns
    exact ⟨rfl, rfl⟩
  · have h1 : s.toList.isEmpty = false := by simpa using h0
    have hr := run_eq s hs
    have e : digsB s.data.toList = (((runL s.data.toList 10 0 : Nat) : Int) == (s.size : Int)) := by
      unfold digsB
      rw [Lib.toList_data] at h0
      rw [Bool.eq_iff_iff]
      simp only [decide_eq_true_eq, beq_iff_eq]
      rw [hl]
      constructor
      · intro h; omega
      · intro h; exact ⟨h0, by omega⟩
    rw [e]
    have HR := Lib.hid hr
    clear e hl hr
    go_enter Tryz.func124, Tryz.ntmps124
    go_wp2_with (first | (go_at_call 136; refine (HR.out _).mono ?_; rintro e w2 ⟨rfl, rfl⟩))
    go_returns
    exact ⟨rfl, rfl⟩
end Go.Proofs.YtfclmnglckikbaaGreatDoor

/- The reference's numeral, joined. -/
namespace Go.Proofs.YtfclmnglckikbaaGreatDoor
open Go.RowKit
set_option linter.unusedVariables false

theorem runL_gt {l : List UInt8} {b i : Nat} : i < runL l b i ↔ i < l.length ∧ dvN (bat l i) < b := by
  constructor
  · intro h
    by_cases h1 : i < l.length
    · refine ⟨h1, ?_⟩
      by_cases h2 : dvN (bat l i) < b
      · exact h2
      · rw [runL_stop l b i h1 h2] at h; omega
    · rw [runL_end l b i (by omega)] at h; omega
  · intro ⟨h1, h2⟩
    have := runL_ge l b (i + 1)
    rw [runL_step l b i h1 h2]; omega

/-- What the reference's numeral answers. -/
def rnumT (l : List UInt8) (i : Nat) : Nat × Int × Int × Int := match findL l i with | none => (i, 0, 0, 4) | some f => (f.end_, numT l f)
abbrev RNumeral (s : ByteArray) (i : Nat) (t : Nat × Int × Int × Int) : Prop := ∀ w, Calls Tryz.prog 123 #[.string s, .int .i64 i] w fun e w' => e = .returned (rnumV t.1 t.2.1 t.2.2.1 t.2.2.2) ∧ Below w.heap.size w w'

theorem rrun_at (s : ByteArray) (i : Nat) (b : Nat) (hi : i ≤ s.size) (hs : s.size ≤ 4200) (hb : b ≤ 16) (x : Int) (hx : x = i) : RRun s x b (runL s.data.toList b i) := fun w => by
  subst hx
  exact rrun_any s i b hi (by omega) hb w
theorem rnum_some (x : ByteArray) (b : Nat) (n : Nat) (hs : x.size ≤ 9223372036854775807) (hb2 : 2 ≤ b) (hb : b ≤ 16) (hd : ∀ c ∈ x.data.toList, dvN c.toNat < b) (h : numL b x.data.toList 0 = some n) : RNum x b n true := fun w => by
  have := rnumber_any x b hs hb2 hb hd w
  rw [h] at this
  exact this
theorem rnum_no (x : ByteArray) (b : Nat) (hs : x.size ≤ 9223372036854775807) (hb2 : 2 ≤ b) (hb : b ≤ 16) (hd : ∀ c ∈ x.data.toList, dvN c.toNat < b) (h : numL b x.data.toList 0 = none) : RNum x b 0 false := fun w => by
  have := rnumber_any x b hs hb2 hb hd w
  rw [h] at this
  exact this

theorem rnumeral_any (s : ByteArray) (i : Nat) (hi : i ≤ s.size) (hs : s.size ≤ 4200) : RNumeral s i (rnumT s.data.toList i) := by
  intro w
  have hl : s.data.toList.length = s.size := by simp
  have hle := runL_le s.data.toList 10 i (by omega)
  have hge := runL_ge s.data.toList 10 i
  by_cases hx : i + 2 < s.size ∧ bat s.data.toList i = 48 ∧ (bat s.data.toList (i + 1) = 120 ∨ bat s.data.toList (i + 1) = 88) ∧ dvN (bat s.data.toList (i + 2)) < 16
  · obtain ⟨h0, h1, h2, h3⟩ := hx
    have e1 : runL s.data.toList 10 i = i + 1 := by
      rw [runL_step _ _ _ (by omega) (by rw [h1]; decide), runL_stop _ _ _ (by omega) (by rcases h2 with h2 | h2 <;> rw [h2] <;> decide)]
    have r1 : i + 2 < runL s.data.toList 16 (i + 2) := runL_gt.2 ⟨by omega, h3⟩
    have r2 := runL_le s.data.toList 16 (i + 2) (by omega)
    have hf : findL s.data.toList i = some ⟨true, -1, i + 2, runL s.data.toList 16 (i + 2)⟩ := by
      unfold findL
      rw [e1]
      dsimp only
      rw [if_neg (by omega), if_pos ⟨rfl, h1, by omega, h2, r1⟩]
    have hd := slice_run_digits s.data.toList 16 (i + 2)
    have hr := rrun_at s (i + 2) 16 (by omega) hs (by omega) ((i : Int) + 2) (by push_cast; rfl)
    have hsz : (s.extract (i + 2) (runL s.data.toList 16 (i + 2))).size ≤ 9223372036854775807 := by simp; omega
    rw [← extract_list] at hd
    rw [bat_get s i (by omega)] at h1
    rw [bat_get s (i + 1) (by omega)] at h2
    rw [bat_get s (i + 2) h0] at h3
    cases ho : numL 16 (s.extract (i + 2) (runL s.data.toList 16 (i + 2))).data.toList 0 with
    | none =>
      have ht : rnumT s.data.toList i = (runL s.data.toList 16 (i + 2), 0, 0, 6) := by
        unfold rnumT; rw [hf]; dsimp only [numT]; rw [if_pos rfl, ← extract_list, ho]; rfl
      rw [ht]
      exact rnum_hex_no s i w hs hi h0 h1 h2 h3 _ (by omega) (by omega) hr (rnum_no _ 16 hsz (by omega) (by omega) hd ho)
    | some n =>
      have ht : rnumT s.data.toList i = (runL s.data.toList 16 (i + 2), makeT n 1) := by
        unfold rnumT; rw [hf]; dsimp only [numT]; rw [if_pos rfl, ← extract_list, ho]; rfl
      rw [ht]
      exact rnum_hex s i w hs hi h0 h1 h2 h3 _ (by omega) (by omega) hr n _ _ _ (rnum_some _ 16 n hsz (by omega) (by omega) hd ho) (fun w => rmake_any n 1 w)
  · have hno : NoHex s i := by
      unfold NoHex
      by_cases h0 : i + 2 < s.size
      · right
        refine ⟨h0, ?_⟩
        rw [bat_get s i (by omega), bat_get s (i + 1) (by omega), bat_get s (i + 2) h0] at hx
        by_cases h1 : (s[i]'(by omega)).toNat = 48
        · by_cases h2 : (s[i + 1]'(by omega)).toNat = 120
          · exact .inr (.inr (.inl ⟨h1, h2, fun h => hx ⟨h0, h1, .inl h2, h⟩⟩))
          · by_cases h3 : (s[i + 1]'(by omega)).toNat = 88
            · exact .inr (.inr (.inr ⟨h1, h3, fun h => hx ⟨h0, h1, .inr h3, h⟩⟩))
            · exact .inr (.inl ⟨h1, h2, h3⟩)
        · exact .inl h1
      · left; omega
    have hr := rrun_at s i 10 hi hs (by omega) (i : Int) rfl
    have hd := slice_run_digits s.data.toList 10 i
    have hnx : ¬ (runL s.data.toList 10 i = i + 1 ∧ bat s.data.toList i = 48 ∧ runL s.data.toList 10 i < s.data.toList.length ∧ (bat s.data.toList (runL s.data.toList 10 i) = 120 ∨ bat s.data.toList (runL s.data.toList 10 i) = 88) ∧ runL s.data.toList 10 i + 1 < runL s.data.toList 16 (runL s.data.toList 10 i + 1)) := by
      intro ⟨g1, g2, g3, g4, g5⟩
      rw [g1] at g3 g4 g5
      have := runL_gt.1 g5
      exact hx ⟨by omega, g2, g4, this.2⟩
    have hf : findL s.data.toList i = if runL s.data.toList 10 i = i then none else if runL s.data.toList 10 i < s.data.toList.length ∧ bat s.data.toList (runL s.data.toList 10 i) = 46 ∧ runL s.data.toList 10 i + 1 < runL s.data.toList 10 (runL s.data.toList 10 i + 1) then some ⟨false, runL s.data.toList 10 i, i, runL s.data.toList 10 (runL s.data.toList 10 i + 1)⟩ else some ⟨false, -1, i, runL s.data.toList 10 i⟩ := by
      unfold findL
      dsimp only
      rw [if_neg hnx]
    generalize hj : runL s.data.toList 10 i = j at *
    clear hx hnx
    by_cases hji : j = i
    · subst hji
      rw [if_pos rfl] at hf
      have ht : rnumT s.data.toList j = (j, 0, 0, 4) := by unfold rnumT; rw [hf]
      rw [ht]
      exact rnum_none s j w hs hi hno hr
    · rw [if_neg hji] at hf
      have hij : i < j := by omega
      have hsz : (s.extract i j).size ≤ 9223372036854775807 := by simp; omega
      by_cases hp : j < s.data.toList.length ∧ bat s.data.toList j = 46 ∧ j + 1 < runL s.data.toList 10 (j + 1)
      · rw [if_pos hp] at hf
        obtain ⟨p1, p2, p3⟩ := hp
        obtain ⟨q1, q2⟩ := runL_gt.1 p3
        have q0 : j + 1 < s.size := by omega
        have r2 := runL_le s.data.toList 10 (j + 1) (by omega)
        have hr2 := rrun_at s (j + 1) 10 (by omega) hs (by omega) ((j : Int) + 1) (by push_cast; rfl)
        have hd2 := slice_run_digits s.data.toList 10 (j + 1)
        generalize hrr : runL s.data.toList 10 (j + 1) = r at *
        rw [bat_get s j (by omega)] at p2
        rw [bat_get s (j + 1) q0] at q2
        have hsz2 : (s.extract i j ++ s.extract (j + 1) r).size ≤ 9223372036854775807 := by simp; omega
        have hdd : ∀ c ∈ (s.extract i j ++ s.extract (j + 1) r).data.toList, dvN c.toNat < 10 := by
          rw [cat_list, extract_list, extract_list]
          intro c hc
          rcases List.mem_append.1 hc with hc | hc
          · exact hd c hc
          · exact hd2 c hc
        have hlist : (s.extract i j ++ s.extract (j + 1) r).data.toList = sliceL s.data.toList i j ++ sliceL s.data.toList (j + 1) r := by rw [cat_list, extract_list, extract_list]
        have ht : rnumT s.data.toList i = (r, if 9 < r - (j + 1) then (0, 0, 6) else ofNum (numL 10 (s.extract i j ++ s.extract (j + 1) r).data.toList 0) (10 ^ (r - (j + 1)))) := by
          unfold rnumT; rw [hf]; dsimp only [numT]
          rw [if_neg (by simp), if_neg (by omega), Int.toNat_natCast, hlist]
        rw [ht]
        cases ho : numL 10 (s.extract i j ++ s.extract (j + 1) r).data.toList 0 with
        | none =>
          have e : (if 9 < r - (j + 1) then ((0 : Int), (0 : Int), (6 : Int)) else ofNum none (10 ^ (r - (j + 1)))) = (0, 0, 6) := by split <;> rfl
          rw [e]
          exact rnum_pt_no s i w hs hi hno j (by omega) (by omega) hr hij q0 p2 q2 r (by omega) (by omega) hr2 (rnum_no _ 10 hsz2 (by omega) (by omega) hdd ho)
        | some n =>
          have hn := rnum_some _ 10 n hsz2 (by omega) (by omega) hdd ho
          by_cases h9 : 9 < r - (j + 1)
          · rw [if_pos h9]
            exact rnum_pt_far s i w hs hi hno j (by omega) (by omega) hr hij q0 p2 q2 r (by omega) (by omega) hr2 h9 n hn
          · rw [if_neg h9]
            refine rnum_pt s i w hs hi hno j (by omega) (by omega) hr hij q0 p2 q2 r (by omega) (by omega) hr2 (by omega) n ((10 ^ (r - (j + 1)) : Nat) : Int) _ _ _ hn (fun w => ?_) (fun w => rmake_any n _ w)
            have := rpower_any (r - (j + 1)) (by omega) w
            rw [show (((r - (j + 1) : Nat)) : Int) = (r : Int) - ((j : Int) + 1) by omega] at this
            exact this
      · rw [if_neg hp] at hf
        have hnp : NoPoint s j := by
          unfold NoPoint
          by_cases h0 : j + 1 < s.size
          · right
            refine ⟨h0, ?_⟩
            rw [runL_gt, bat_get s j (by omega), bat_get s (j + 1) h0] at hp
            by_cases h1 : (s[j]'(by omega)).toNat = 46
            · exact .inr ⟨h1, fun h => hp ⟨by omega, h1, by omega, h⟩⟩
            · exact .inl h1
          · left; omega
        rw [← extract_list] at hd
        cases ho : numL 10 (s.extract i j).data.toList 0 with
        | none =>
          have ht : rnumT s.data.toList i = (j, 0, 0, 6) := by
            unfold rnumT; rw [hf]; dsimp only [numT]; rw [if_neg (by simp), if_pos (by omega), ← extract_list, ho]; rfl
          rw [ht]
          exact rnum_int_no s i w hs hi hno j (by omega) (by omega) hr hij hnp (rnum_no _ 10 hsz (by omega) (by omega) hd ho)
        | some n =>
          have ht : rnumT s.data.toList i = (j, makeT n 1) := by
            unfold rnumT; rw [hf]; dsimp only [numT]; rw [if_neg (by simp), if_pos (by omega), ← extract_list, ho]; rfl
          rw [ht]
          exact rnum_int s i w hs hi hno j (by omega) (by omega) hr hij hnp n _ _ _ (rnum_some _ 10 n hsz (by omega) (by omega) hd ho) (fun w => rpower_any 0 (by omega) w) (fun w => rmake_any n 1 w)
end Go.Proofs.YtfclmnglckikbaaGreatDoor

/- The reference's unsigned, Parse and Scan: the walks. -/
namespace Go.Proofs.YtfclmnglckikbaaGreatDoor
open Go.RowKit
set_option linter.unusedVariables false

abbrev RSlash (s : ByteArray) (k : Int) : Prop := ∀ w, Calls Tryz.prog 122 #[.string s] w fun e w' => e = .returned (.int .i64 k) ∧ w = w'
abbrev RDigits (s : ByteArray) (b : Bool) : Prop := ∀ w, Calls Tryz.prog 124 #[.string s] w fun e w' => e = .returned (.bool b) ∧ w = w'
abbrev RTrim (s t : ByteArray) : Prop := ∀ w, Calls Tryz.prog 109 #[.string s] w fun e w' => e = .returned (.string t) ∧ w = w'
abbrev RNumr (s : ByteArray) (i : Int) (r P Q E : Int) : Prop := ∀ w, Calls Tryz.prog 123 #[.string s, .int .i64 i] w fun e w' => e = .returned (.tuple #[.int .i64 r, .agg #[.int .i64 P, .int .i64 Q], .int .i64 E]) ∧ Below w.heap.size w w'
abbrev RUns (s : ByteArray) (P Q E : Int) : Prop := ∀ w, Calls Tryz.prog 110 #[.string s] w fun e w' => e = .returned (.tuple #[.agg #[.int .i64 P, .int .i64 Q], .int .i64 E]) ∧ Below w.heap.size w w'

set_option maxHeartbeats 2000000 in
set_option maxRecDepth 100000 in
theorem runs_form (s : ByteArray) (hk : RSlash s (-1)) (r : Nat) (P Q E : Int) (hn : RNumr s 0 r P Q E) (h : r = 0 ∨ (¬ r = 0 ∧ r < s.size)) : RUns s 0 0 4 := by
  intro w
  have HK := Lib.hid hk
  have HN := Lib.hid hn
  clear hk hn
  rcases h with rfl | ⟨h, h2⟩
  all_goals
    go_enter Tryz.func110, Tryz.ntmps110
    go_wp2_with (first | (go_at_call 122; refine (HK.out _).mono ?_; rintro e w2 ⟨rfl, rfl⟩) | (go_at_call 123; refine (HN.out _).mono ?_; rintro e w9 ⟨rfl, hb⟩; (refine mem hb ?_; intro N hN hz hc hf; (try simp at hN); subst hN)))
    ((try simp only [Exit.inBlock, Exit.then]); refine bodyPost_ret (by first | (simp [results, Tryz.results110, go_sem, *]; done) | (simp [results, Tryz.results110, go_sem, *]; rfl) | (simp [results, Tryz.results110, go_sem, ↓IntWalk.iteOmega, *]; try rfl)) rfl ?_)
    refine ⟨rfl, ?_⟩
    (repeat' (first | (with_reducible exact Below.refl _ _) | (with_reducible assumption) | (with_reducible refine Below.alloc ?_ ?_ _) | (with_reducible refine below_drewN ?_ _) | (with_reducible refine Below.drew ?_) | (with_reducible refine Below.setCell ?_ ?_ _) | (with_reducible refine below_via (by assumption) ?_ ?_) | (with_reducible refine below_via (later_below _) ?_ ?_) | (with_reducible exact Nat.le_refl _) | omega | (simp; omega) | (simp; done)))

set_option maxHeartbeats 2000000 in
set_option maxRecDepth 100000 in
theorem runs_num (s : ByteArray) (hk : RSlash s (-1)) (r : Nat) (P Q E : Int) (hn : RNumr s 0 r P Q E) (h : ¬ r = 0) (h2 : ¬ r < s.size) : RUns s P Q E := by
  intro w
  have HK := Lib.hid hk
  have HN := Lib.hid hn
  clear hk hn
  go_enter Tryz.func110, Tryz.ntmps110
  go_wp2_with (first | (go_at_call 122; refine (HK.out _).mono ?_; rintro e w2 ⟨rfl, rfl⟩) | (go_at_call 123; refine (HN.out _).mono ?_; rintro e w9 ⟨rfl, hb⟩; (refine mem hb ?_; intro N hN hz hc hf; (try simp at hN); subst hN)))
  ((try simp only [Exit.inBlock, Exit.then]); refine bodyPost_ret (by first | (simp [results, Tryz.results110, go_sem, *]; done) | (simp [results, Tryz.results110, go_sem, *]; rfl) | (simp [results, Tryz.results110, go_sem, ↓IntWalk.iteOmega, *]; try rfl)) rfl ?_)
  refine ⟨rfl, ?_⟩
  (repeat' (first | (with_reducible exact Below.refl _ _) | (with_reducible assumption) | (with_reducible refine Below.alloc ?_ ?_ _) | (with_reducible refine below_drewN ?_ _) | (with_reducible refine Below.drew ?_) | (with_reducible refine Below.setCell ?_ ?_ _) | (with_reducible refine below_via (by assumption) ?_ ?_) | (with_reducible refine below_via (later_below _) ?_ ?_) | (with_reducible exact Nat.le_refl _) | omega | (simp; omega) | (simp; done)))

set_option maxHeartbeats 2000000 in
set_option maxRecDepth 100000 in
theorem runs_bad (s : ByteArray) (k : Nat) (hs : s.size ≤ 4200) (hk1 : k < s.size) (hk : RSlash s k) (b1 b2 : Bool) (h1 : RDigits (s.extract 0 k) b1) (h2 : RDigits (s.extract (k + 1) s.size) b2) (h : b1 = false ∨ (b1 = true ∧ b2 = false)) : RUns s 0 0 4 := by
  intro w
  have HK := Lib.hid hk
  have H1 := Lib.hid h1
  have H2 := Lib.hid h2
  clear hk h1 h2
  rcases h with rfl | ⟨rfl, rfl⟩
  all_goals
    go_enter Tryz.func110, Tryz.ntmps110
    go_wp2_with (first | (go_at_call 122; refine (HK.out _).mono ?_; rintro e w2 ⟨rfl, rfl⟩) | (go_at_call 124; (with_reducible refine (H1.out _).mono ?_); rintro e w2 ⟨rfl, rfl⟩) | (go_at_call 124; (with_reducible refine (H2.out _).mono ?_); rintro e w2 ⟨rfl, rfl⟩))
    ((try simp only [Exit.inBlock, Exit.then]); refine bodyPost_ret (by first | (simp [results, Tryz.results110, go_sem, *]; done) | (simp [results, Tryz.results110, go_sem, *]; rfl) | (simp [results, Tryz.results110, go_sem, ↓IntWalk.iteOmega, *]; try rfl)) rfl ?_)
    refine ⟨rfl, ?_⟩
    (repeat' (first | (with_reducible exact Below.refl _ _) | (with_reducible assumption) | (with_reducible refine Below.alloc ?_ ?_ _) | (with_reducible refine below_drewN ?_ _) | (with_reducible refine Below.drew ?_) | (with_reducible refine Below.setCell ?_ ?_ _) | (with_reducible refine below_via (by assumption) ?_ ?_) | (with_reducible refine below_via (later_below _) ?_ ?_) | (with_reducible exact Nat.le_refl _) | omega | (simp; omega) | (simp; done)))

set_option maxHeartbeats 2000000 in
set_option maxRecDepth 100000 in
theorem runs_range (s : ByteArray) (k : Nat) (hs : s.size ≤ 4200) (hk1 : k < s.size) (hk : RSlash s k) (h1 : RDigits (s.extract 0 k) true) (h2 : RDigits (s.extract (k + 1) s.size) true) (p q : Int) (o1 o2 : Bool) (n1 : RNum (s.extract 0 k) 10 p o1) (n2 : RNum (s.extract (k + 1) s.size) 10 q o2)
    (h : o1 = false ∨ (o1 = true ∧ o2 = false) ∨ (o1 = true ∧ o2 = true ∧ q = 0)) : RUns s 0 0 6 := by
  intro w
  have HK := Lib.hid hk
  have H1 := Lib.hid h1
  have H2 := Lib.hid h2
  have N1 := Lib.hid n1
  have N2 := Lib.hid n2
  clear hk h1 h2 n1 n2
  rcases h with rfl | ⟨rfl, rfl⟩ | ⟨rfl, rfl, rfl⟩
  all_goals
    go_enter Tryz.func110, Tryz.ntmps110
    go_wp2_with (first | (go_at_call 122; refine (HK.out _).mono ?_; rintro e w2 ⟨rfl, rfl⟩) | (go_at_call 124; (with_reducible refine (H1.out _).mono ?_); rintro e w2 ⟨rfl, rfl⟩) | (go_at_call 124; (with_reducible refine (H2.out _).mono ?_); rintro e w2 ⟨rfl, rfl⟩) | (go_at_call 125; (with_reducible refine (N1.out _).mono ?_); rintro e w2 ⟨rfl, rfl⟩) | (go_at_call 125; (with_reducible refine (N2.out _).mono ?_); rintro e w2 ⟨rfl, rfl⟩))
    ((try simp only [Exit.inBlock, Exit.then]); refine bodyPost_ret (by first | (simp [results, Tryz.results110, go_sem, *]; done) | (simp [results, Tryz.results110, go_sem, *]; rfl) | (simp [results, Tryz.results110, go_sem, ↓IntWalk.iteOmega, *]; try rfl)) rfl ?_)
    refine ⟨rfl, ?_⟩
    (repeat' (first | (with_reducible exact Below.refl _ _) | (with_reducible assumption) | (with_reducible refine Below.alloc ?_ ?_ _) | (with_reducible refine below_drewN ?_ _) | (with_reducible refine Below.drew ?_) | (with_reducible refine Below.setCell ?_ ?_ _) | (with_reducible refine below_via (by assumption) ?_ ?_) | (with_reducible refine below_via (later_below _) ?_ ?_) | (with_reducible exact Nat.le_refl _) | omega | (simp; omega) | (simp; done)))

set_option maxHeartbeats 2000000 in
set_option maxRecDepth 100000 in
theorem runs_make (s : ByteArray) (k : Nat) (hs : s.size ≤ 4200) (hk1 : k < s.size) (hk : RSlash s k) (h1 : RDigits (s.extract 0 k) true) (h2 : RDigits (s.extract (k + 1) s.size) true) (p q : Int) (n1 : RNum (s.extract 0 k) 10 p true) (n2 : RNum (s.extract (k + 1) s.size) 10 q true)
    (h : ¬ q = 0) (P Q E : Int) (hm : RMake p q P Q E) : RUns s P Q E := by
  intro w
  have HK := Lib.hid hk
  have H1 := Lib.hid h1
  have H2 := Lib.hid h2
  have N1 := Lib.hid n1
  have N2 := Lib.hid n2
  have HM := Lib.hid hm
  clear hk h1 h2 n1 n2 hm
  go_enter Tryz.func110, Tryz.ntmps110
  go_wp2_with (first | (go_at_call 122; refine (HK.out _).mono ?_; rintro e w2 ⟨rfl, rfl⟩) | (go_at_call 124; (with_reducible refine (H1.out _).mono ?_); rintro e w2 ⟨rfl, rfl⟩) | (go_at_call 124; (with_reducible refine (H2.out _).mono ?_); rintro e w2 ⟨rfl, rfl⟩) | (go_at_call 125; (with_reducible refine (N1.out _).mono ?_); rintro e w2 ⟨rfl, rfl⟩) | (go_at_call 125; (with_reducible refine (N2.out _).mono ?_); rintro e w2 ⟨rfl, rfl⟩) | (go_at_call 126; refine (HM.out _).mono ?_; rintro e w9 ⟨rfl, hb⟩; (refine mem hb ?_; intro N hN hz hc hf; (try simp at hN); subst hN)))
  ((try simp only [Exit.inBlock, Exit.then]); refine bodyPost_ret (by first | (simp [results, Tryz.results110, go_sem, *]; done) | (simp [results, Tryz.results110, go_sem, *]; rfl) | (simp [results, Tryz.results110, go_sem, ↓IntWalk.iteOmega, *]; try rfl)) rfl ?_)
  refine ⟨rfl, ?_⟩
  (repeat' (first | (with_reducible exact Below.refl _ _) | (with_reducible assumption) | (with_reducible refine Below.alloc ?_ ?_ _) | (with_reducible refine below_drewN ?_ _) | (with_reducible refine Below.drew ?_) | (with_reducible refine Below.setCell ?_ ?_ _) | (with_reducible refine below_via (by assumption) ?_ ?_) | (with_reducible refine below_via (later_below _) ?_ ?_) | (with_reducible exact Nat.le_refl _) | omega | (simp; omega) | (simp; done)))
end Go.Proofs.YtfclmnglckikbaaGreatDoor

/- The reference's Parse and Scan: the walks. -/
namespace Go.Proofs.YtfclmnglckikbaaGreatDoor
open Go.RowKit
set_option linter.unusedVariables false

abbrev RPar (s : ByteArray) (P Q E : Int) : Prop := ∀ w, Calls Tryz.prog 99 #[.string s] w fun e w' => e = .returned (.tuple #[.agg #[.int .i64 P, .int .i64 Q], .int .i64 E]) ∧ Below w.heap.size w w'
/-- A text without a minus ahead. -/
def NoMinus (t : ByteArray) : Prop := (t.toList = [] ∧ t.toList.isEmpty = true) ∨ (¬ t.toList = [] ∧ t.toList.isEmpty = false ∧ ∃ h : 0 < t.size, ¬ (t[0]'h).toNat = 45)

set_option maxHeartbeats 2000000 in
set_option maxRecDepth 100000 in
theorem rpar_plain (s t : ByteArray) (ht : RTrim s t) (hm : NoMinus t) (P Q E : Int) (hu : RUns t P Q E) (P' Q' : Int) (h : (E = 0 ∧ P' = P ∧ Q' = Q) ∨ (¬ E = 0 ∧ P' = 0 ∧ Q' = 0)) : RPar s P' Q' E := by
  intro w
  have HT := Lib.hid ht
  have HU := Lib.hid hu
  clear ht hu
  unfold NoMinus at hm
  rcases h with ⟨rfl, rfl, rfl⟩ | ⟨h, rfl, rfl⟩
  all_goals rcases hm with ⟨h1, h2⟩ | ⟨h1, h2, h3, h4⟩
  all_goals
    go_enter Tryz.func99, Tryz.ntmps99
    go_wp2_with (first | (go_at_call 109; refine (HT.out _).mono ?_; rintro e w2 ⟨rfl, rfl⟩) | (go_at_call 110; refine (HU.out _).mono ?_; rintro e w9 ⟨rfl, hb⟩; (refine mem hb ?_; intro N hN hz hc hf; (try simp at hN); subst hN)))
    all_goals ((try simp only [Exit.inBlock, Exit.then]); refine bodyPost_ret (by first | (simp [results, Tryz.results99, go_sem, *]; done) | (simp [results, Tryz.results99, go_sem, *]; rfl) | (simp [results, Tryz.results99, go_sem, ↓IntWalk.iteOmega, *]; try rfl)) rfl ?_)
    all_goals refine ⟨rfl, ?_⟩
    all_goals (repeat' (first | (with_reducible exact Below.refl _ _) | (with_reducible assumption) | (with_reducible refine Below.alloc ?_ ?_ _) | (with_reducible refine below_drewN ?_ _) | (with_reducible refine Below.drew ?_) | (with_reducible refine Below.setCell ?_ ?_ _) | (with_reducible refine below_via (by assumption) ?_ ?_) | (with_reducible refine below_via (later_below _) ?_ ?_) | (with_reducible exact Nat.le_refl _) | omega | (simp; omega) | (simp; done)))

set_option maxHeartbeats 2000000 in
set_option maxRecDepth 100000 in
theorem rpar_minus (s t : ByteArray) (ht : RTrim s t) (h2 : t.toList.isEmpty = false) (hs : t.size ≤ 4200) (h3 : 0 < t.size) (h4 : (t[0]'h3).toNat = 45) (P Q E : Int) (hu : RUns (t.extract 1 t.size) P Q E) (hP : -2147483647 ≤ P ∧ P ≤ 2147483647) (P' Q' : Int) (h : (E = 0 ∧ P' = -P ∧ Q' = Q) ∨ (¬ E = 0 ∧ P' = 0 ∧ Q' = 0)) : RPar s P' Q' E := by
  intro w
  have HT := Lib.hid ht
  have HU := Lib.hid hu
  clear ht hu
  obtain ⟨hP1, hP2⟩ := hP
  rcases h with ⟨rfl, rfl, rfl⟩ | ⟨h, rfl, rfl⟩
  all_goals
    go_enter Tryz.func99, Tryz.ntmps99
    go_wp2_with (first | (go_at_call 109; refine (HT.out _).mono ?_; rintro e w2 ⟨rfl, rfl⟩) | (go_at_call 110; refine (HU.out _).mono ?_; rintro e w9 ⟨rfl, hb⟩; (refine mem hb ?_; intro N hN hz hc hf; (try simp at hN); subst hN)))
    all_goals ((try simp only [Exit.inBlock, Exit.then]); refine bodyPost_ret (by first | (simp [results, Tryz.results99, go_sem, *]; done) | (simp [results, Tryz.results99, go_sem, *]; rfl) | (simp [results, Tryz.results99, go_sem, ↓IntWalk.iteOmega, *]; try rfl)) rfl ?_)
    all_goals refine ⟨rfl, ?_⟩
    all_goals (repeat' (first | (with_reducible exact Below.refl _ _) | (with_reducible assumption) | (with_reducible refine Below.alloc ?_ ?_ _) | (with_reducible refine below_drewN ?_ _) | (with_reducible refine Below.drew ?_) | (with_reducible refine Below.setCell ?_ ?_ _) | (with_reducible refine below_via (by assumption) ?_ ?_) | (with_reducible refine below_via (later_below _) ?_ ?_) | (with_reducible exact Nat.le_refl _) | omega | (simp; omega) | (simp; done)))

end Go.Proofs.YtfclmnglckikbaaGreatDoor

/- The reference's unsigned, Parse and Scan, joined. -/
namespace Go.Proofs.YtfclmnglckikbaaGreatDoor
open Go.RowKit
set_option linter.unusedVariables false

theorem kind_pos {l : List UInt8} {i : Nat} {f : Find} (h : Kind l i f) : i < f.end_ := by
  cases h with
  | hex q h1 => show i < q; omega
  | point d q h1 h2 => show i < q; omega
  | whole q h1 => exact h1
theorem unsL_bd (u : List UInt8) : -2147483647 ≤ (unsL u).1 ∧ (unsL u).1 ≤ 2147483647 := by
  unfold unsL
  split
  · split
    · exact numT_bd _ _
    · exact fracL_bd _
  · exact fracL_bd _
abbrev RUnsT (s : ByteArray) (t : Int × Int × Int) : Prop := RUns s t.1 t.2.1 t.2.2

theorem runsigned_any (s : ByteArray) (hs : s.size ≤ 4200) : RUnsT s (unsL s.data.toList) := by
  have hl : s.data.toList.length = s.size := by simp
  have hs1 : s.size ≤ 9223372036854775807 := by omega
  have hsl : RSlash s (Lib.indexByte s.data.toList 47) := fun w => rslash_any s hs1 w
  by_cases h : Lib.indexByte s.data.toList 47 = -1
  · rw [h] at hsl
    have hn := rnumeral_any s 0 (Nat.zero_le _) hs
    cases hf : findL s.data.toList 0 with
    | none =>
      have e : rnumT s.data.toList 0 = (0, 0, 0, 4) := by unfold rnumT; rw [hf]
      rw [e] at hn
      rw [unsL_none hf, frac_none h]
      exact runs_form s hsl 0 _ _ _ hn (.inl rfl)
    | some f =>
      have hk := find_kind (by omega) hf
      have h1 := kind_pos hk
      have h2 := kind_end hk
      have e : rnumT s.data.toList 0 = (f.end_, numT s.data.toList f) := by unfold rnumT; rw [hf]
      rw [e] at hn
      by_cases he : f.end_ = s.data.toList.length
      · rw [unsL_num hf he]
        exact runs_num s hsl f.end_ _ _ _ hn (by omega) (by omega)
      · rw [unsL_far hf he, frac_none h]
        exact runs_form s hsl f.end_ _ _ _ hn (.inr ⟨by omega, by omega⟩)
  · have hge := Lib.indexByte_ge s.data.toList 47
    obtain ⟨k, hk⟩ : ∃ k : Nat, Lib.indexByte s.data.toList 47 = k := ⟨(Lib.indexByte s.data.toList 47).toNat, by omega⟩
    have hlt : k < s.size := by
      have := (Lib.indexByte_some hk).1
      have := (List.getElem?_eq_some_iff.1 this).1
      simpa using this
    rw [uns_slash hk]
    rw [hk] at hsl
    unfold fracL
    rw [if_neg h, hk, Int.toNat_natCast, ← take_extract, ← drop_extract]
    have hp : (s.extract 0 k).size ≤ 9223372036854775807 := size_extract_le s _ _ (by omega) hs1
    have hq : (s.extract (k + 1) s.size).size ≤ 9223372036854775807 := size_extract_le s _ _ (by omega) hs1
    have d1 : RDigits (s.extract 0 k) (digsB (s.extract 0 k).data.toList) := fun w => rdigits_any _ hp w
    have d2 : RDigits (s.extract (k + 1) s.size) (digsB (s.extract (k + 1) s.size).data.toList) := fun w => rdigits_any _ hq w
    unfold fracT
    by_cases c1 : (s.extract 0 k).data.toList ≠ [] ∧ runL (s.extract 0 k).data.toList 10 0 = (s.extract 0 k).data.toList.length
    · by_cases c2 : (s.extract (k + 1) s.size).data.toList ≠ [] ∧ runL (s.extract (k + 1) s.size).data.toList 10 0 = (s.extract (k + 1) s.size).data.toList.length
      · rw [if_pos ⟨c1.1, c2.1, c1.2, c2.2⟩]
        rw [show digsB (s.extract 0 k).data.toList = true from decide_eq_true c1] at d1
        rw [show digsB (s.extract (k + 1) s.size).data.toList = true from decide_eq_true c2] at d2
        have g1 := digits_of_run c1.2
        have g2 := digits_of_run c2.2
        cases ha : numL 10 (s.extract 0 k).data.toList 0 with
        | none =>
          have n1 := rnum_no _ 10 hp (by omega) (by omega) g1 ha
          cases hb : numL 10 (s.extract (k + 1) s.size).data.toList 0 with
          | none => exact runs_range s k hs hlt hsl d1 d2 0 0 false false n1 (rnum_no _ 10 hq (by omega) (by omega) g2 hb) (.inl rfl)
          | some b => exact runs_range s k hs hlt hsl d1 d2 0 b false true n1 (rnum_some _ 10 b hq (by omega) (by omega) g2 hb) (.inl rfl)
        | some a =>
          have n1 := rnum_some _ 10 a hp (by omega) (by omega) g1 ha
          cases hb : numL 10 (s.extract (k + 1) s.size).data.toList 0 with
          | none => exact runs_range s k hs hlt hsl d1 d2 a 0 true false n1 (rnum_no _ 10 hq (by omega) (by omega) g2 hb) (.inr (.inl ⟨rfl, rfl⟩))
          | some b =>
            have n2 := rnum_some _ 10 b hq (by omega) (by omega) g2 hb
            by_cases hz : b = 0
            · subst hz
              exact runs_range s k hs hlt hsl d1 d2 a _ true true n1 n2 (.inr (.inr ⟨rfl, rfl, rfl⟩))
            · dsimp only
              rw [if_neg hz]
              exact runs_make s k hs hlt hsl d1 d2 a b n1 n2 (by omega) _ _ _ (fun w => rmake_any a b w)
      · rw [if_neg (fun h => c2 ⟨h.2.1, h.2.2.2⟩)]
        rw [show digsB (s.extract 0 k).data.toList = true from decide_eq_true c1] at d1
        rw [show digsB (s.extract (k + 1) s.size).data.toList = false from decide_eq_false c2] at d2
        exact runs_bad s k hs hlt hsl true false d1 d2 (.inr ⟨rfl, rfl⟩)
    · rw [if_neg (fun h => c1 ⟨h.1, h.2.2.1⟩)]
      rw [show digsB (s.extract 0 k).data.toList = false from decide_eq_false c1] at d1
      exact runs_bad s k hs hlt hsl false _ d1 d2 (.inl rfl)

theorem rparse_any (s : ByteArray) (hs : s.size ≤ 4200) (w : World) :
    Calls Tryz.prog 99 #[.string s] w fun e w' => e = .returned (tripV (parseL s.data.toList)) ∧ Below w.heap.size w w' := by
  have hl : s.data.toList.length = s.size := by simp
  have hsz := trimS_size s.data.toList blankL
  have ht : RTrim s (mkS (Lib.trimS s.data.toList blankL)) := fun w => rtrim_any s (by omega) w
  suffices h : RPar s (parseL s.data.toList).1 (parseL s.data.toList).2.1 (parseL s.data.toList).2.2 from h w
  unfold parseL
  generalize Lib.trimS s.data.toList blankL = t at *
  have lt : (mkS t).size = t.length := mkS_size t
  have key : ∀ m x, minusT m x = (if x.2.2 = 0 then (if m then -x.1 else x.1) else 0, if x.2.2 = 0 then x.2.1 else 0, x.2.2) := by
    intro m x
    unfold minusT
    by_cases h : x.2.2 = 0
    · rw [if_pos h, if_pos h, if_pos h, h]
    · rw [if_neg h, if_neg h, if_neg h]
  by_cases hm : t.head? = some 45
  · rw [if_pos hm, key]
    cases t with
    | nil => simp at hm
    | cons c u =>
      obtain rfl : c = 45 := by simpa using hm
      rw [List.tail_cons]
      have hu := runsigned_any (mkS u) (by rw [mkS_size]; simp only [List.length_cons] at hsz; omega)
      rw [mkS_list] at hu
      have e : (mkS (45 :: u)).extract 1 (mkS (45 :: u)).size = mkS u := by
        refine mkS_ext ?_
        rw [drop_extract]
        rfl
      have hb := unsL_bd u
      show RPar s _ _ _
      refine rpar_minus s _ ht (by rw [Lib.toList_data, mkS_list]; rfl) (by omega) (by rw [mkS_size]; simp) rfl (unsL u).1 (unsL u).2.1 (unsL u).2.2 (by rw [e]; exact hu) hb _ _ ?_
      by_cases h : (unsL u).2.2 = 0
      · rw [if_pos h, if_pos h]; exact .inl ⟨h, rfl, rfl⟩
      · rw [if_neg h, if_neg h]; exact .inr ⟨h, rfl, rfl⟩
  · rw [if_neg hm, key]
    have hu := runsigned_any (mkS t) (by omega)
    rw [mkS_list] at hu
    refine rpar_plain s _ ht ?_ _ _ _ hu _ _ ?_
    · unfold NoMinus
      rw [Lib.toList_data, mkS_list]
      cases t with
      | nil => exact .inl ⟨rfl, rfl⟩
      | cons c u =>
        refine .inr ⟨by simp, rfl, by rw [mkS_size]; simp, ?_⟩
        intro h
        have h2 : c.toNat = (45 : UInt8).toNat := h
        have h3 : c = 45 := UInt8.toNat_inj.1 h2
        exact hm (by rw [List.head?_cons, h3])
    · by_cases h : (unsL t).2.2 = 0
      · rw [if_pos h, if_pos h]; exact .inl ⟨h, rfl, rfl⟩
      · rw [if_neg h, if_neg h]; exact .inr ⟨h, rfl, rfl⟩

end Go.Proofs.YtfclmnglckikbaaGreatDoor
