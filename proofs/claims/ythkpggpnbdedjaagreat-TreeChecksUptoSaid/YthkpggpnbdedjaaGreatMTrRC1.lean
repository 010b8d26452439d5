/- The reference's Check: tests that go through a list. -/
import Derived.Test.YthkpggpnbdedjaaGreatMTrS
namespace Go.Proofs.YthkpggpnbdedjaaGreat
open Go.RowKit Go.Instr
set_option linter.unusedVariables false

theorem all_no {α : Type} {p : α → Bool} {l : List α} {k : Nat} (hk : k < l.length) (h : p l[k] = false) : l.all p = false := by
  rw [List.all_eq_false]
  exact ⟨l[k], List.getElem_mem hk, by rw [h]; simp⟩
theorem all_yes {α : Type} {p : α → Bool} {l : List α} (h : ∀ j (hj : j < l.length), p l[j] = true) : l.all p = true := by
  rw [List.all_eq_true]
  intro x hx
  obtain ⟨i, hi, rfl⟩ := List.getElem_of_mem hx
  exact h i hi

set_option maxHeartbeats 1600000 in
theorem rplain_any (l : List (ByteArray × Int)) (a : Option Addr) (c N : Nat) (w : World) (hs : Slc a l.length c) (hl : LsAt w N a l) :
    Calls Tryz.prog 72 #[.slice a l.length c] w fun e w' => e = .returned (.bool (l.all (fun y => y.2 == 0))) ∧ ∃ m, w' = w.drewN m := by
  have HL := Lib.hid hl
  obtain ⟨hn1, hn2, -⟩ := hs
  have hn : (l.length : Int) ≤ 9223372036854775807 := by omega
  have HA : Hid (∀ k (hk : k < l.length), (fun y => y.2 == 0) l[k] = false → l.all (fun y => y.2 == 0) = false) := fun k hk h => all_no hk h
  have HY : Hid ((∀ j (hj : j < l.length), (fun y => y.2 == 0) l[j] = true) → l.all (fun y => y.2 == 0) = true) := fun h => all_yes h
  obtain ⟨R, hR⟩ : ∃ R, l.all (fun y => y.2 == 0) = R := ⟨_, rfl⟩
  rw [hR] at HA HY ⊢
  clear hl hR
  go_enter Tryz.func72, Tryz.ntmps72
  go_wp2_with fail
  go_loopw [3] (fun i wr => ∃ k m : Nat, k ≤ l.length ∧ i = .int .i64 k ∧ wr = w.drewN m ∧ Hid (∀ j (hj : j < l.length), j < k → (fun y => y.2 == 0) l[j] = true)) (fun i _ => l.length - (intOf i).toNat)
  case atStart => exact ⟨0, 0, Nat.zero_le _, rfl, rfl, fun j hj h => by omega⟩
  case round =>
    obtain ⟨k, m, hk, rfl, rfl, HT⟩ := hrel
    by_cases hlt : k < l.length
    · obtain ⟨b, o, rfl, hb, hcs⟩ := HL.out.resolve_left (by omega)
      have hc := hcs k hlt
      have HNo := Lib.hid (HA.out k hlt)
      have HYes : Hid ((fun y => y.2 == 0) l[k] = true → ∀ j (hj : j < l.length), j < k + 1 → (fun y => y.2 == 0) l[j] = true) := fun h j hj hjk => by
        rcases Nat.lt_or_ge j k with h1 | h1
        · exact HT.out j hj h1
        · obtain rfl : j = k := by omega
          exact h
      obtain ⟨y, hy⟩ : ∃ y, l[k] = y := ⟨_, rfl⟩
      rw [hy] at hc HNo HYes
      obtain ⟨c0, c1⟩ := hc
      clear hcs hy
      by_cases h0 : y.2 = 0
      · have t0 : (y.2 != 0) = false := by simp [h0]
        have hyes := HYes.out (by simpa using h0)
        have HYS := Lib.hid hyes
        clear HNo HYes h0 hyes
        go_wp2_with fail
        exact ⟨⟨k + 1, m, by omega, by go_num, rfl, HYS.out⟩, by simp [intOf]; omega⟩
      · have t0 : (y.2 != 0) = true := by simpa using h0
        have hno := HNo.out (by simpa using h0)
        subst hno
        clear HNo HYes h0
        go_wp2_with fail
        go_returns
        exact ⟨rfl, m, rfl⟩
    · obtain rfl : k = l.length := by omega
      have hall := HY.out (fun j hj => HT.out j hj hj)
      subst hall
      clear HA HY HT
      go_wp2_with fail
      go_returns
      exact ⟨rfl, m, rfl⟩

set_option maxHeartbeats 1600000 in
theorem ritems_any (l : List TX) (a : Option Addr) (c N : Nat) (w : World) (hs : Slc a l.length c) (hl : XsAt w N a l) :
    Calls Tryz.prog 102 #[.slice a l.length c] w fun e w' => e = .returned (.bool (l.all (fun y => y.k == 13 || y.k == 14))) ∧ ∃ m, w' = w.drewN m := by
  have HL := Lib.hid hl
  obtain ⟨hn1, hn2, -⟩ := hs
  have hn : (l.length : Int) ≤ 9223372036854775807 := by omega
  have HA : Hid (∀ k (hk : k < l.length), (fun y => y.k == 13 || y.k == 14) l[k] = false → l.all (fun y => y.k == 13 || y.k == 14) = false) := fun k hk h => all_no hk h
  have HY : Hid ((∀ j (hj : j < l.length), (fun y => y.k == 13 || y.k == 14) l[j] = true) → l.all (fun y => y.k == 13 || y.k == 14) = true) := fun h => all_yes h
  obtain ⟨R, hR⟩ : ∃ R, l.all (fun y => y.k == 13 || y.k == 14) = R := ⟨_, rfl⟩
  rw [hR] at HA HY ⊢
  clear hl hR
  go_enter Tryz.func102, Tryz.ntmps102
  go_wp2_with fail
  go_loopw [3] (fun i wr => ∃ k m : Nat, k ≤ l.length ∧ i = .int .i64 k ∧ wr = w.drewN m ∧ Hid (∀ j (hj : j < l.length), j < k → (fun y => y.k == 13 || y.k == 14) l[j] = true)) (fun i _ => l.length - (intOf i).toNat)
  case atStart => exact ⟨0, 0, Nat.zero_le _, rfl, rfl, fun j hj h => by omega⟩
  case round =>
    obtain ⟨k, m, hk, rfl, rfl, HT⟩ := hrel
    by_cases hlt : k < l.length
    · obtain ⟨b, o, rfl, hb, hcs⟩ := HL.out.resolve_left (by omega)
      have hc := hcs k hlt
      have HNo := Lib.hid (HA.out k hlt)
      have HYes : Hid ((fun y => y.k == 13 || y.k == 14) l[k] = true → ∀ j (hj : j < l.length), j < k + 1 → (fun y => y.k == 13 || y.k == 14) l[j] = true) := fun h j hj hjk => by
        rcases Nat.lt_or_ge j k with h1 | h1
        · exact HT.out j hj h1
        · obtain rfl : j = k := by omega
          exact h
      obtain ⟨y, hy⟩ : ∃ y, l[k] = y := ⟨_, rfl⟩
      rw [hy] at hc HNo HYes
      obtain ⟨c0, c1, c2, c3, c4, c5, c6, c7⟩ := hc
      clear hcs hy
      by_cases h0 : y.k = 13
      · have t0 : (y.k != 13) = false := by simp [h0]
        have HYS := Lib.hid (HYes.out (by simp [h0]))
        clear HNo HYes h0
        go_wp2_with fail
        exact ⟨⟨k + 1, m, by omega, by go_num, rfl, HYS.out⟩, by simp [intOf]; omega⟩
      · have t0 : (y.k != 13) = true := by simpa using h0
        by_cases h1 : y.k = 14
        · have t1 : (y.k != 14) = false := by simp [h1]
          have HYS := Lib.hid (HYes.out (by simp [h1]))
          clear HNo HYes h0 h1
          go_wp2_with fail
          exact ⟨⟨k + 1, m, by omega, by go_num, rfl, HYS.out⟩, by simp [intOf]; omega⟩
        · have t1 : (y.k != 14) = true := by simpa using h1
          have hno := HNo.out (by simp [h0, h1])
          subst hno
          clear HNo HYes h0 h1
          go_wp2_with fail
          go_returns
          exact ⟨rfl, m, rfl⟩
    · obtain rfl : k = l.length := by omega
      have hall := HY.out (fun j hj => HT.out j hj hj)
      subst hall
      clear HA HY HT
      go_wp2_with fail
      go_returns
      exact ⟨rfl, m, rfl⟩

set_option maxHeartbeats 1600000 in
theorem rsides_any (l : List TX) (a : Option Addr) (c N : Nat) (w : World) (hs : Slc a l.length c) (hl : XsAt w N a l) :
    Calls Tryz.prog 73 #[.slice a l.length c] w fun e w' => e = .returned (.bool (l.all (fun y => y.k == 7 || y.k == 8) && decide (0 < l.length))) ∧ ∃ m, w' = w.drewN m := by
  have HL := Lib.hid hl
  obtain ⟨hn1, hn2, -⟩ := hs
  have hn : (l.length : Int) ≤ 9223372036854775807 := by omega
  have HA : Hid (∀ k (hk : k < l.length), (fun y => y.k == 7 || y.k == 8) l[k] = false → (l.all (fun y => y.k == 7 || y.k == 8) && decide (0 < l.length)) = false) := fun k hk h => by rw [all_no hk h]; rfl
  have HY : Hid ((∀ j (hj : j < l.length), (fun y => y.k == 7 || y.k == 8) l[j] = true) → (l.all (fun y => y.k == 7 || y.k == 8) && decide (0 < l.length)) = decide (0 < l.length)) := fun h => by rw [all_yes h]; rfl
  obtain ⟨R, hR⟩ : ∃ R, (l.all (fun y => y.k == 7 || y.k == 8) && decide (0 < l.length)) = R := ⟨_, rfl⟩
  rw [hR] at HA HY ⊢
  clear hl hR
  go_enter Tryz.func73, Tryz.ntmps73
  go_wp2_with fail
  go_loopw [3] (fun i wr => ∃ k m : Nat, k ≤ l.length ∧ i = .int .i64 k ∧ wr = w.drewN m ∧ Hid (∀ j (hj : j < l.length), j < k → (fun y => y.k == 7 || y.k == 8) l[j] = true)) (fun i _ => l.length - (intOf i).toNat)
  case atStart => exact ⟨0, 0, Nat.zero_le _, rfl, rfl, fun j hj h => by omega⟩
  case round =>
    obtain ⟨k, m, hk, rfl, rfl, HT⟩ := hrel
    by_cases hlt : k < l.length
    · obtain ⟨b, o, rfl, hb, hcs⟩ := HL.out.resolve_left (by omega)
      have hc := hcs k hlt
      have HNo := Lib.hid (HA.out k hlt)
      have HYes : Hid ((fun y => y.k == 7 || y.k == 8) l[k] = true → ∀ j (hj : j < l.length), j < k + 1 → (fun y => y.k == 7 || y.k == 8) l[j] = true) := fun h j hj hjk => by
        rcases Nat.lt_or_ge j k with h1 | h1
        · exact HT.out j hj h1
        · obtain rfl : j = k := by omega
          exact h
      obtain ⟨y, hy⟩ : ∃ y, l[k] = y := ⟨_, rfl⟩
      rw [hy] at hc HNo HYes
      obtain ⟨c0, c1, c2, c3, c4, c5, c6, c7⟩ := hc
      clear hcs hy
      by_cases h0 : y.k = 7
      · have t0 : (y.k != 7) = false := by simp [h0]
        have HYS := Lib.hid (HYes.out (by simp [h0]))
        clear HNo HYes h0
        go_wp2_with fail
        exact ⟨⟨k + 1, m, by omega, by go_num, rfl, HYS.out⟩, by simp [intOf]; omega⟩
      · have t0 : (y.k != 7) = true := by simpa using h0
        by_cases h1 : y.k = 8
        · have t1 : (y.k != 8) = false := by simp [h1]
          have HYS := Lib.hid (HYes.out (by simp [h1]))
          clear HNo HYes h0 h1
          go_wp2_with fail
          exact ⟨⟨k + 1, m, by omega, by go_num, rfl, HYS.out⟩, by simp [intOf]; omega⟩
        · have t1 : (y.k != 8) = true := by simpa using h1
          have hno := HNo.out (by simp [h0, h1])
          subst hno
          clear HNo HYes h0 h1
          go_wp2_with fail
          go_returns
          exact ⟨rfl, m, rfl⟩
    · obtain rfl : k = l.length := by omega
      have hall := HY.out (fun j hj => HT.out j hj hj)
      subst hall
      clear HA HY HT
      by_cases hz : l.length = 0
      · have tz : decide (0 < l.length) = false := decide_eq_false (by omega)
        have tz2 : decide (0 < (l.length : Int)) = false := decide_eq_false (by omega)
        go_wp2_with fail
        go_returns
        exact ⟨by (rw [tz]; rfl), m, rfl⟩
      · have tz : decide (0 < l.length) = true := decide_eq_true (by omega)
        have tz2 : decide (0 < (l.length : Int)) = true := decide_eq_true (by omega)
        have hz2 : 0 < l.length := by omega
        go_wp2_with fail
        go_returns
        exact ⟨by (rw [tz]; rfl), m, rfl⟩

set_option maxHeartbeats 1600000 in
theorem rattr_any (l : List (ByteArray × Int)) (a : Option Addr) (c N : Nat) (w : World) (hs : Slc a l.length c) (hl : LsAt w N a l) :
    Calls Tryz.prog 71 #[.slice a l.length c] w fun e w' => e = .returned (.bool (l.all (fun y => decide (0 ≤ y.2) && decide (y.2 ≤ 2)) && decide (0 < l.length))) ∧ ∃ m, w' = w.drewN m := by
  have HL := Lib.hid hl
  obtain ⟨hn1, hn2, -⟩ := hs
  have hn : (l.length : Int) ≤ 9223372036854775807 := by omega
  have HA : Hid (∀ k (hk : k < l.length), (fun y => decide (0 ≤ y.2) && decide (y.2 ≤ 2)) l[k] = false → (l.all (fun y => decide (0 ≤ y.2) && decide (y.2 ≤ 2)) && decide (0 < l.length)) = false) := fun k hk h => by rw [all_no hk h]; rfl
  have HY : Hid ((∀ j (hj : j < l.length), (fun y => decide (0 ≤ y.2) && decide (y.2 ≤ 2)) l[j] = true) → (l.all (fun y => decide (0 ≤ y.2) && decide (y.2 ≤ 2)) && decide (0 < l.length)) = decide (0 < l.length)) := fun h => by rw [all_yes h]; rfl
  obtain ⟨R, hR⟩ : ∃ R, (l.all (fun y => decide (0 ≤ y.2) && decide (y.2 ≤ 2)) && decide (0 < l.length)) = R := ⟨_, rfl⟩
  rw [hR] at HA HY ⊢
  clear hl hR
  go_enter Tryz.func71, Tryz.ntmps71
  go_wp2_with fail
  go_loopw [3] (fun i wr => ∃ k m : Nat, k ≤ l.length ∧ i = .int .i64 k ∧ wr = w.drewN m ∧ Hid (∀ j (hj : j < l.length), j < k → (fun y => decide (0 ≤ y.2) && decide (y.2 ≤ 2)) l[j] = true)) (fun i _ => l.length - (intOf i).toNat)
  case atStart => exact ⟨0, 0, Nat.zero_le _, rfl, rfl, fun j hj h => by omega⟩
  case round =>
    obtain ⟨k, m, hk, rfl, rfl, HT⟩ := hrel
    by_cases hlt : k < l.length
    · obtain ⟨b, o, rfl, hb, hcs⟩ := HL.out.resolve_left (by omega)
      have hc := hcs k hlt
      have HNo := Lib.hid (HA.out k hlt)
      have HYes : Hid ((fun y => decide (0 ≤ y.2) && decide (y.2 ≤ 2)) l[k] = true → ∀ j (hj : j < l.length), j < k + 1 → (fun y => decide (0 ≤ y.2) && decide (y.2 ≤ 2)) l[j] = true) := fun h j hj hjk => by
        rcases Nat.lt_or_ge j k with h1 | h1
        · exact HT.out j hj h1
        · obtain rfl : j = k := by omega
          exact h
      obtain ⟨y, hy⟩ : ∃ y, l[k] = y := ⟨_, rfl⟩
      rw [hy] at hc HNo HYes
      obtain ⟨c0, c1⟩ := hc
      clear hcs hy
      by_cases h0 : y.2 < 0
      · have hno := HNo.out (by simp; omega)
        subst hno
        clear HNo HYes
        go_wp2_with fail
        go_returns
        exact ⟨rfl, m, rfl⟩
      · by_cases h1 : 2 < y.2
        · have hno := HNo.out (by simp; omega)
          subst hno
          clear HNo HYes
          go_wp2_with fail
          go_returns
          exact ⟨rfl, m, rfl⟩
        · have HYS := Lib.hid (HYes.out (by simp; omega))
          clear HNo HYes
          go_wp2_with fail
          exact ⟨⟨k + 1, m, by omega, by go_num, rfl, HYS.out⟩, by simp [intOf]; omega⟩
    · obtain rfl : k = l.length := by omega
      have hall := HY.out (fun j hj => HT.out j hj hj)
      subst hall
      clear HA HY HT
      by_cases hz : l.length = 0
      · have tz : decide (0 < l.length) = false := decide_eq_false (by omega)
        have tz2 : decide (0 < (l.length : Int)) = false := decide_eq_false (by omega)
        go_wp2_with fail
        go_returns
        exact ⟨by (rw [tz]; rfl), m, rfl⟩
      · have tz : decide (0 < l.length) = true := decide_eq_true (by omega)
        have tz2 : decide (0 < (l.length : Int)) = true := decide_eq_true (by omega)
        have hz2 : 0 < l.length := by omega
        go_wp2_with fail
        go_returns
        exact ⟨by (rw [tz]; rfl), m, rfl⟩
end Go.Proofs.YthkpggpnbdedjaaGreat
