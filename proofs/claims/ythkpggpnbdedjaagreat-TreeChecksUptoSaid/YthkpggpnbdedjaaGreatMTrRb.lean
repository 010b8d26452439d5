/- The reference's Check: too long texts, names. -/
import Derived.Test.YthkpggpnbdedjaaGreatMTrRa
import Derived.Test.YthkpggpnbdedjaaGreatMTrAB
namespace Go.Proofs.YthkpggpnbdedjaaGreat
open Go.RowKit Go.Instr
set_option linter.unusedVariables false

theorem any_yes {α : Type} {p : α → Bool} {l : List α} {k : Nat} (hk : k < l.length) (h : p l[k] = true) : l.any p = true := List.any_eq_true.2 ⟨l[k], List.getElem_mem hk, h⟩
def colB (s : ByteArray) : Bool := s.data.toList.any fun c => c.toNat == 58
theorem any_from (s : ByteArray) (k : Nat) (h : k < s.size) : ((s.data.toList.drop k).any fun c => c.toNat == 58) = ((s[k]'h).toNat == 58 || (s.data.toList.drop (k + 1)).any fun c => c.toNat == 58) := by rw [drop_get s k h, List.any_cons]
set_option maxHeartbeats 1600000 in
theorem rcolon_any (s : ByteArray) (w : World) (hs : s.size ≤ 9223372036854775807) : Calls Tryz.prog 116 #[.string s] w fun e w' => e = .returned (.bool (colB s)) ∧ w = w' := by
  obtain ⟨R, hR⟩ : ∃ R, colB s = R := ⟨_, rfl⟩
  have HR := Lib.hid hR
  rw [hR]
  clear hR
  go_enter Tryz.func116, Tryz.ntmps116
  go_wp2_with fail
  go_loop [3] (fun i => ∃ k : Nat, k ≤ s.size ∧ i = .int .i64 k ∧ Hid (((s.data.toList.drop k).any fun c => c.toNat == 58) = R)) (fun i => s.size - (intOf i).toNat)
  case atStart => exact ⟨0, Nat.zero_le _, rfl, HR.out⟩
  case round =>
    obtain ⟨k, hk, rfl, HA⟩ := hrel
    by_cases hlt : k < s.size
    · have hs1 := any_from s k hlt
      rw [HA.out] at hs1
      by_cases hb : (s[k]'hlt).toNat = 58
      · have d1 : (((s[k]'hlt).toNat : Int) == 58) = true := by simp; omega
        have d2 : ((s[k]'hlt).toNat == 58) = true := by simpa using hb
        rw [d2, Bool.true_or] at hs1
        subst hs1
        clear HA HR
        go_wp2_with fail
        go_returns
        exact ⟨rfl, rfl⟩
      · have d1 : (((s[k]'hlt).toNat : Int) == 58) = false := by simp; omega
        have d2 : ((s[k]'hlt).toNat == 58) = false := by simpa using hb
        rw [d2, Bool.false_or] at hs1
        have HS := Lib.hid hs1.symm
        clear hs1
        go_wp2_with fail
        refine ⟨⟨k + 1, by omega, by go_num, HS.out⟩, by simp [intOf]; omega⟩
    · have h0 := HA.out
      rw [List.drop_eq_nil_of_le (by simp; omega)] at h0
      obtain rfl : false = R := h0
      clear HA HR
      go_wp2_with fail
      go_returns
      exact ⟨rfl, rfl⟩

set_option maxHeartbeats 1600000 in
set_option maxRecDepth 100000 in
theorem rstatLong_any (s : TS) (w : World) (hin : InS w w.heap.size s) : Calls Tryz.prog 48 #[s.v] w fun e w' => e = .returned (.bool (s.names.any longN || decide (40 < s.label.size))) ∧ Below w.heap.size w w' := by
  have h0 := ((inS_iff s).1 hin).1
  have HN := Lib.hid h0.nAt
  have g1 := h0.ni.1
  have g2 := h0.ni.2.1
  have hn : (s.names.length : Int) ≤ 9223372036854775807 := by omega
  have HS := Lib.hid h0.ns
  have hbl := h0.bl
  have HA : Hid (∀ k (hk : k < s.names.length), longN s.names[k] = true → (s.names.any longN || decide (40 < s.label.size)) = true) := fun k hk h => by rw [any_yes hk h]; rfl
  have HY : Hid ((∀ j (hj : j < s.names.length), longN s.names[j] = false) → (s.names.any longN || decide (40 < s.label.size)) = decide (40 < s.label.size)) := fun h => by rw [any_no h]; rfl
  obtain ⟨R, hR⟩ : ∃ R, (s.names.any longN || decide (40 < s.label.size)) = R := ⟨_, rfl⟩
  rw [hR] at HA HY ⊢
  clear hin h0 g1 g2 hR
  obtain ⟨uN, huN⟩ : ∃ v, s.nA = v := ⟨_, rfl⟩
  go_enter Tryz.func48, Tryz.ntmps48
  go_wp2_with fail
  go_loop [3] (fun i => ∃ k : Nat, k ≤ s.names.length ∧ i = .int .i64 k ∧ Hid (∀ j (hj : j < s.names.length), j < k → longN s.names[j] = false)) (fun i => s.names.length - (intOf i).toNat)
  case atStart => exact ⟨0, Nat.zero_le _, rfl, fun j hj h => by omega⟩
  case round =>
    obtain ⟨k, hk, rfl, HT⟩ := hrel
    by_cases hlt : k < s.names.length
    · rcases HN.out with h0 | ⟨b, o, hnA, hb, hc⟩
      · omega
      rw [huN] at hnA
      subst hnA
      have hck := hc k hlt
      have hsz := (HS.out _ (List.getElem_mem hlt)).1
      have HNo := Lib.hid (HA.out k hlt)
      have HYes : Hid (longN s.names[k] = false → ∀ j (hj : j < s.names.length), j < k + 1 → longN s.names[j] = false) := fun h j hj hjk => by
        rcases Nat.lt_or_ge j k with h1 | h1
        · exact HT.out j hj h1
        · obtain rfl : j = k := by omega
          exact h
      obtain ⟨x, hx⟩ : ∃ x, s.names[k] = x := ⟨_, rfl⟩
      rw [hx] at hck hsz HNo HYes
      obtain ⟨c0, c1⟩ := hck
      clear hc hx
      by_cases h41 : 40 < x.1.size
      · have d2 : decide (40 < (x.1.size : Int)) = true := by simp; omega
        have hno := HNo.out (decide_eq_true h41)
        subst hno
        clear HNo HYes HA HY HT
        go_wp2_with fail
        go_returns
        exact ⟨rfl, by (repeat' (first | (with_reducible exact Below.refl _ _) | (with_reducible assumption) | (with_reducible refine Below.alloc ?_ ?_ _) | (with_reducible refine below_drewN ?_ _) | (with_reducible refine Below.drew ?_) | (with_reducible refine Below.setCell ?_ ?_ _) | (with_reducible refine below_via (by assumption) ?_ ?_) | (with_reducible refine below_via (later_below _) ?_ ?_) | (with_reducible exact Nat.le_refl _) | omega | (simp; omega) | (simp; done)))⟩
      · have d2 : decide (40 < (x.1.size : Int)) = false := by simp; omega
        have HYS := Lib.hid (HYes.out (decide_eq_false h41))
        clear HNo HYes
        go_wp2_with fail
        exact ⟨⟨k + 1, by omega, by go_num, HYS.out⟩, by simp [intOf]; omega⟩
    · obtain rfl : k = s.names.length := by omega
      have hall := HY.out (fun j hj => HT.out j hj hj)
      have e40 : decide (40 < (s.label.size : Int)) = decide (40 < s.label.size) := by rw [Bool.eq_iff_iff, decide_eq_true_eq, decide_eq_true_eq]; omega
      have e41 := e40.trans hall.symm
      clear HA HY HT e40 hall
      go_wp2_with fail
      go_returns
      exact ⟨by rw [← e41]; rfl, by (repeat' (first | (with_reducible exact Below.refl _ _) | (with_reducible assumption) | (with_reducible refine Below.alloc ?_ ?_ _) | (with_reducible refine below_drewN ?_ _) | (with_reducible refine Below.drew ?_) | (with_reducible refine Below.setCell ?_ ?_ _) | (with_reducible refine below_via (by assumption) ?_ ?_) | (with_reducible refine below_via (later_below _) ?_ ?_) | (with_reducible exact Nat.le_refl _) | omega | (simp; omega) | (simp; done)))⟩

set_option maxHeartbeats 3200000 in
set_option maxRecDepth 100000 in
theorem rstatNamed_any (s : TS) (w : World) (hin : InS w w.heap.size s) : Calls Tryz.prog 50 #[s.v] w fun e w' => e = .returned (.bool (!(s.names.any badN) && !((s.k == 13 || s.k == 14) && !nameB s.label.data.toList))) ∧ Below w.heap.size w w' := by
  have h0 := ((inS_iff s).1 hin).1
  have HN := Lib.hid h0.nAt
  have g1 := h0.ni.1
  have g2 := h0.ni.2.1
  have hn : (s.names.length : Int) ≤ 9223372036854775807 := by omega
  have HS := Lib.hid h0.ns
  have hbl := h0.bl
  obtain ⟨T, hT⟩ : ∃ T, (!((s.k == 13 || s.k == 14) && !nameB s.label.data.toList)) = T := ⟨_, rfl⟩
  rw [hT]
  have HA : Hid (∀ k (hk : k < s.names.length), badN s.names[k] = true → (!(s.names.any badN) && T) = false) := fun k hk h => by rw [any_yes hk h]; rfl
  have HY : Hid ((∀ j (hj : j < s.names.length), badN s.names[j] = false) → (!(s.names.any badN) && T) = T) := fun h => by rw [any_no h]; rfl
  obtain ⟨R, hR⟩ : ∃ R, (!(s.names.any badN) && T) = R := ⟨_, rfl⟩
  rw [hR] at HA HY ⊢
  have HTT := Lib.hid hT
  have HM : Hid (∀ W, Calls Tryz.prog 74 #[.string s.label] W fun e W' => e = .returned (.bool (nameB s.label.data.toList)) ∧ W = W') := fun W => r3name_any s.label W hbl
  clear hin h0 g1 g2 hR hT
  obtain ⟨uN, huN⟩ : ∃ v, s.nA = v := ⟨_, rfl⟩
  go_enter Tryz.func50, Tryz.ntmps50
  go_wp2_with fail
  go_loop [3] (fun i => ∃ k : Nat, k ≤ s.names.length ∧ i = .int .i64 k ∧ Hid (∀ j (hj : j < s.names.length), j < k → badN s.names[j] = false)) (fun i => s.names.length - (intOf i).toNat)
  case atStart => exact ⟨0, Nat.zero_le _, rfl, fun j hj h => by omega⟩
  case round =>
    obtain ⟨k, hk, rfl, HT⟩ := hrel
    by_cases hlt : k < s.names.length
    · rcases HN.out with h0 | ⟨b, o, hnA, hb, hc⟩
      · omega
      rw [huN] at hnA
      subst hnA
      have hck := hc k hlt
      have hsz := (HS.out _ (List.getElem_mem hlt)).1
      have HNo := Lib.hid (HA.out k hlt)
      have HYes : Hid (badN s.names[k] = false → ∀ j (hj : j < s.names.length), j < k + 1 → badN s.names[j] = false) := fun h j hj hjk => by
        rcases Nat.lt_or_ge j k with h1 | h1
        · exact HT.out j hj h1
        · obtain rfl : j = k := by omega
          exact h
      obtain ⟨x, hx⟩ : ∃ x, s.names[k] = x := ⟨_, rfl⟩
      rw [hx] at hck hsz HNo HYes
      obtain ⟨c0, c1⟩ := hck
      have HM2 : Hid (∀ W, Calls Tryz.prog 74 #[.string x.1] W fun e W' => e = .returned (.bool (nameB x.1.data.toList)) ∧ W = W') := fun W => r3name_any x.1 W hsz
      clear hc hx
      obtain ⟨q, hq⟩ : ∃ q, nameB x.1.data.toList = q := ⟨_, rfl⟩
      have hbq : badN x = !q := by unfold badN; rw [hq]
      rw [hq] at HM2
      rw [hbq] at HNo HYes
      clear hq hbq
      cases q with
      | false =>
        have hno := HNo.out rfl
        subst hno
        clear HNo HYes HA HY HT HTT
        go_wp2_with (first | (go_at_call 74; (with_reducible refine (HM2.out _).mono ?_); rintro e w1 ⟨rfl, rfl⟩))
        go_returns
        exact ⟨rfl, by (repeat' (first | (with_reducible exact Below.refl _ _) | (with_reducible assumption) | (with_reducible refine Below.alloc ?_ ?_ _) | (with_reducible refine below_drewN ?_ _) | (with_reducible refine Below.drew ?_) | (with_reducible refine Below.setCell ?_ ?_ _) | (with_reducible refine below_via (by assumption) ?_ ?_) | (with_reducible refine below_via (later_below _) ?_ ?_) | (with_reducible exact Nat.le_refl _) | omega | (simp; omega) | (simp; done)))⟩
      | true =>
        have HYS := Lib.hid (HYes.out rfl)
        clear HNo HYes
        go_wp2_with (first | (go_at_call 74; (with_reducible refine (HM2.out _).mono ?_); rintro e w1 ⟨rfl, rfl⟩))
        exact ⟨⟨k + 1, by omega, by go_num, HYS.out⟩, by simp [intOf]; omega⟩
    · obtain rfl : k = s.names.length := by omega
      have hall := HY.out (fun j hj => HT.out j hj hj)
      have hTT := HTT.out.trans hall.symm
      clear HA HY HT HTT hall
      cases h13 : (s.k == 13) with
      | true =>
        have e13 : (s.k != 13) = false := by unfold bne; rw [h13]; rfl
        rw [h13] at hTT
        obtain ⟨q, hq⟩ : ∃ q, nameB s.label.data.toList = q := ⟨_, rfl⟩
        rw [hq] at HM hTT
        clear hq
        cases q
        all_goals
          subst hTT
          go_wp2_with (first | (go_at_call 74; (with_reducible refine (HM.out _).mono ?_); rintro e w1 ⟨rfl, rfl⟩))
          go_returns
          exact ⟨rfl, by (repeat' (first | (with_reducible exact Below.refl _ _) | (with_reducible assumption) | (with_reducible refine Below.alloc ?_ ?_ _) | (with_reducible refine below_drewN ?_ _) | (with_reducible refine Below.drew ?_) | (with_reducible refine Below.setCell ?_ ?_ _) | (with_reducible refine below_via (by assumption) ?_ ?_) | (with_reducible refine below_via (later_below _) ?_ ?_) | (with_reducible exact Nat.le_refl _) | omega | (simp; omega) | (simp; done)))⟩
      | false =>
        have e13 : (s.k != 13) = true := by unfold bne; rw [h13]; rfl
        rw [h13] at hTT
        cases h14 : (s.k == 14) with
        | true =>
          have e14 : (s.k != 14) = false := by unfold bne; rw [h14]; rfl
          rw [h14] at hTT
          obtain ⟨q, hq⟩ : ∃ q, nameB s.label.data.toList = q := ⟨_, rfl⟩
          rw [hq] at HM hTT
          clear hq
          cases q
          all_goals
            subst hTT
            go_wp2_with (first | (go_at_call 74; (with_reducible refine (HM.out _).mono ?_); rintro e w1 ⟨rfl, rfl⟩))
            go_returns
            exact ⟨rfl, by (repeat' (first | (with_reducible exact Below.refl _ _) | (with_reducible assumption) | (with_reducible refine Below.alloc ?_ ?_ _) | (with_reducible refine below_drewN ?_ _) | (with_reducible refine Below.drew ?_) | (with_reducible refine Below.setCell ?_ ?_ _) | (with_reducible refine below_via (by assumption) ?_ ?_) | (with_reducible refine below_via (later_below _) ?_ ?_) | (with_reducible exact Nat.le_refl _) | omega | (simp; omega) | (simp; done)))⟩
        | false =>
          have e14 : (s.k != 14) = true := by unfold bne; rw [h14]; rfl
          rw [h14] at hTT
          subst hTT
          go_wp2_with fail
          go_returns
          exact ⟨rfl, by (repeat' (first | (with_reducible exact Below.refl _ _) | (with_reducible assumption) | (with_reducible refine Below.alloc ?_ ?_ _) | (with_reducible refine below_drewN ?_ _) | (with_reducible refine Below.drew ?_) | (with_reducible refine Below.setCell ?_ ?_ _) | (with_reducible refine below_via (by assumption) ?_ ?_) | (with_reducible refine below_via (later_below _) ?_ ?_) | (with_reducible exact Nat.le_refl _) | omega | (simp; omega) | (simp; done)))⟩

theorem f5at {x : TX} {w : World} {N : Nat} (h : InX w N x) {j : Nat} (hj : j < x.funcs.length) : ∃ b o, x.fA = some ⟨b, o, none⟩ ∧ b < N ∧ F5 w b (o + j * 5) x.funcs[j] ∧ InF w N x.funcs[j] := by
  rcases ((inX_iff x).1 h).1.fAt with h0 | ⟨b, o, h1, h2, h3⟩
  · omega
  · exact ⟨b, o, h1, h2, h3 j hj, (inFs_iff _).1 ((inX_iff x).1 h).2.2 _ (List.getElem_mem hj)⟩
theorem p1at {f : TF} {w : World} {N : Nat} (h : InF w N f) {j : Nat} (hj : j < f.params.length) : ∃ b o, f.pA = some ⟨b, o, none⟩ ∧ b < N ∧ w.cell? ⟨b, o + j, none⟩ = some (.string f.params[j]) ∧ (f.params[j]).size ≤ 9223372036854775807 := by
  rcases ((inF_iff f).1 h).1.pAt with h0 | ⟨b, o, h1, h2, h3⟩
  · omega
  · have := h3 j hj
    rw [Nat.mul_one] at this
    exact ⟨b, o, h1, h2, this, ((inF_iff f).1 h).1.ps _ (List.getElem_mem hj)⟩
theorem step_no {α : Type} {p : α → Bool} {l : List α} {k : Nat} (hk : k < l.length) (HT : ∀ j (hj : j < l.length), j < k → p l[j] = false) (h : p l[k] = false) : ∀ j (hj : j < l.length), j < k + 1 → p l[j] = false := fun j hj hjk => by
  rcases Nat.lt_or_ge j k with h1 | h1
  · exact HT j hj h1
  · obtain rfl : j = k := by omega
    exact h

def longB (x : TX) : Bool := decide (mostI x < (x.s.size : Int)) || x.funcs.any longF
set_option maxHeartbeats 6400000 in
set_option maxRecDepth 100000 in
theorem rlong_any (x : TX) (w : World) (hin : InX w w.heap.size x) : Calls Tryz.prog 75 #[x.v] w fun e w' => e = .returned (.bool (longB x)) ∧ Below w.heap.size w w' := by
  have HIN := Lib.hid hin
  have h0 := ((inX_iff x).1 hin).1
  have g1 := h0.fi.1
  have g2 := h0.fi.2.1
  have hn : (x.funcs.length : Int) ≤ 9223372036854775807 := by omega
  have hsz := h0.si
  obtain ⟨uF, huF⟩ : ∃ v, x.fA = v := ⟨_, rfl⟩
  by_cases hm : mostI x < (x.s.size : Int)
  · have HR : Hid (longB x = true) := by show _ = _; unfold longB; rw [decide_eq_true hm]; rfl
    rw [HR.out]
    unfold mostI at hm
    by_cases h5 : x.k = 5
    · rw [if_pos h5] at hm
      have k5 : (x.k == 5) = true := by simpa using h5
      have d1 : decide (4096 < (x.s.size : Int)) = true := decide_eq_true hm
      clear h0 g1 g2 hin HIN HR
      go_enter Tryz.func75, Tryz.ntmps75
      go_wp2_with fail
      go_returns
      exact ⟨rfl, by (repeat' (first | (with_reducible exact Below.refl _ _) | (with_reducible assumption) | (with_reducible refine Below.alloc ?_ ?_ _) | (with_reducible refine below_drewN ?_ _) | (with_reducible refine Below.drew ?_) | (with_reducible refine Below.setCell ?_ ?_ _) | (with_reducible refine below_via (by assumption) ?_ ?_) | (with_reducible refine below_via (later_below _) ?_ ?_) | (with_reducible exact Nat.le_refl _) | omega | (simp; omega) | (simp; done)))⟩
    · rw [if_neg h5] at hm
      have k5 : (x.k == 5) = false := by simpa using h5
      have k6 : (x.k != 5) = true := by simpa using h5
      have d1 : decide (40 < (x.s.size : Int)) = true := decide_eq_true hm
      clear h0 g1 g2 hin HIN HR
      go_enter Tryz.func75, Tryz.ntmps75
      go_wp2_with fail
      go_returns
      exact ⟨rfl, by (repeat' (first | (with_reducible exact Below.refl _ _) | (with_reducible assumption) | (with_reducible refine Below.alloc ?_ ?_ _) | (with_reducible refine below_drewN ?_ _) | (with_reducible refine Below.drew ?_) | (with_reducible refine Below.setCell ?_ ?_ _) | (with_reducible refine below_via (by assumption) ?_ ?_) | (with_reducible refine below_via (later_below _) ?_ ?_) | (with_reducible exact Nat.le_refl _) | omega | (simp; omega) | (simp; done)))⟩
  · have hR : longB x = x.funcs.any longF := by unfold longB; rw [decide_eq_false hm]; rfl
    rw [hR]
    clear hR
    have HA : Hid (∀ k (hk : k < x.funcs.length), longF x.funcs[k] = true → x.funcs.any longF = true) := fun k hk h => any_yes hk h
    have HY : Hid ((∀ j (hj : j < x.funcs.length), longF x.funcs[j] = false) → x.funcs.any longF = false) := fun h => any_no h
    obtain ⟨R, hR⟩ : ∃ R, x.funcs.any longF = R := ⟨_, rfl⟩
    rw [hR] at HA HY ⊢
    have hfacts : ((x.k == 5) = true ∧ (x.k != 5) = false ∧ decide (4096 < (x.s.size : Int)) = false) ∨ ((x.k == 5) = false ∧ (x.k != 5) = true ∧ decide (40 < (x.s.size : Int)) = false) := by
      unfold mostI at hm
      by_cases h5 : x.k = 5
      · rw [if_pos h5] at hm
        exact .inl ⟨by simpa using h5, by simpa using h5, decide_eq_false hm⟩
      · rw [if_neg h5] at hm
        exact .inr ⟨by simpa using h5, by simpa using h5, decide_eq_false hm⟩
    clear h0 g1 g2 hin hm hR
    rcases hfacts with ⟨k5, k6, d1⟩ | ⟨k5, k6, d1⟩
    all_goals
      go_enter Tryz.func75, Tryz.ntmps75
      go_wp2_with fail
      go_loop [3] (fun i => ∃ k : Nat, k ≤ x.funcs.length ∧ i = .int .i64 k ∧ Hid (∀ j (hj : j < x.funcs.length), j < k → longF x.funcs[j] = false)) (fun i => x.funcs.length - (intOf i).toNat)
      case atStart => exact ⟨0, Nat.zero_le _, rfl, fun j hj h => by omega⟩
      case round =>
        obtain ⟨k, hk, rfl, HT⟩ := hrel
        by_cases hlt : k < x.funcs.length
        · obtain ⟨b, o, hfA, hb, hc, hF⟩ := f5at HIN.out hlt
          rw [huF] at hfA
          subst hfA
          have HNo := Lib.hid (HA.out k hlt)
          have HYes := Lib.hid (step_no hlt HT.out)
          obtain ⟨f, hf⟩ : ∃ f, x.funcs[k] = f := ⟨_, rfl⟩
          rw [hf] at hc hF HNo HYes
          obtain ⟨c0, c1, c2, c3, c4⟩ := hc
          have HF := Lib.hid hF
          have hfp := ((inF_iff f).1 hF).1
          have p1 := hfp.pi.1
          have p2 := hfp.pi.2.1
          have p3 := hfp.ni
          have hnP : (f.params.length : Int) ≤ 9223372036854775807 := by omega
          obtain ⟨uP, huP⟩ : ∃ v, f.pA = v := ⟨_, rfl⟩
          rw [huP] at c1
          clear hf hF hfp p1 p2 HT
          by_cases h41 : 4096 < f.name.size
          · have d2 : decide (4096 < (f.name.size : Int)) = true := by simp; omega
            have hno := HNo.out (by unfold longF; rw [decide_eq_true h41]; rfl)
            subst hno
            clear HNo HYes HA HY
            go_wp2_with fail
            go_returns
            exact ⟨rfl, by (repeat' (first | (with_reducible exact Below.refl _ _) | (with_reducible assumption) | (with_reducible refine Below.alloc ?_ ?_ _) | (with_reducible refine below_drewN ?_ _) | (with_reducible refine Below.drew ?_) | (with_reducible refine Below.setCell ?_ ?_ _) | (with_reducible refine below_via (by assumption) ?_ ?_) | (with_reducible refine below_via (later_below _) ?_ ?_) | (with_reducible exact Nat.le_refl _) | omega | (simp; omega) | (simp; done)))⟩
          · have d2 : decide (4096 < (f.name.size : Int)) = false := by simp; omega
            have hlf : longF f = f.params.any longP := by unfold longF; rw [decide_eq_false h41]; rfl
            rw [hlf] at HNo HYes
            clear hlf
            go_wp2_with fail
            go_loop [4] (fun i => ∃ m : Nat, m ≤ f.params.length ∧ i = .int .i64 m ∧ Hid (∀ j (hj : j < f.params.length), j < m → longP f.params[j] = false)) (fun i => f.params.length - (intOf i).toNat)
            case atStart => exact ⟨0, Nat.zero_le _, rfl, fun j hj h => by omega⟩
            case round =>
              obtain ⟨m, hm, rfl, HT2⟩ := hrel
              by_cases hlm : m < f.params.length
              · obtain ⟨b2, o2, hpA, hb2, hq0, hqs⟩ := p1at HF.out hlm
                rw [huP] at hpA
                subst hpA
                have HS2 := Lib.hid (step_no hlm HT2.out)
                have HA2 : Hid (longP f.params[m] = true → f.params.any longP = true) := fun h => any_yes hlm h
                obtain ⟨q, hq⟩ : ∃ q, f.params[m] = q := ⟨_, rfl⟩
                rw [hq] at hq0 hqs HS2 HA2
                clear hq
                by_cases h42 : 40 < q.size
                · have d3 : decide (40 < (q.size : Int)) = true := by simp; omega
                  have hno := HNo.out (HA2.out (decide_eq_true h42))
                  subst hno
                  clear HNo HYes HA HY HS2 HA2 HT2
                  go_wp2_with fail
                  go_returns
                  exact ⟨rfl, by (repeat' (first | (with_reducible exact Below.refl _ _) | (with_reducible assumption) | (with_reducible refine Below.alloc ?_ ?_ _) | (with_reducible refine below_drewN ?_ _) | (with_reducible refine Below.drew ?_) | (with_reducible refine Below.setCell ?_ ?_ _) | (with_reducible refine below_via (by assumption) ?_ ?_) | (with_reducible refine below_via (later_below _) ?_ ?_) | (with_reducible exact Nat.le_refl _) | omega | (simp; omega) | (simp; done)))⟩
                · have d3 : decide (40 < (q.size : Int)) = false := by simp; omega
                  have HS3 := Lib.hid (HS2.out (decide_eq_false h42))
                  clear HS2 HA2 HT2
                  go_wp2_with fail
                  exact ⟨⟨m + 1, by omega, by go_num, HS3.out⟩, by simp [intOf]; omega⟩
              · obtain rfl : m = f.params.length := by omega
                have HYS := Lib.hid (HYes.out (any_no fun j hj => HT2.out j hj hj))
                clear HYes HNo HT2
                go_wp2_with fail
                exact ⟨⟨k + 1, by omega, by go_num, HYS.out⟩, by simp [intOf]; omega⟩
        · obtain rfl : k = x.funcs.length := by omega
          have hall := HY.out (fun j hj => HT.out j hj hj)
          subst hall
          clear HA HY HT
          go_wp2_with fail
          go_returns
          exact ⟨rfl, by (repeat' (first | (with_reducible exact Below.refl _ _) | (with_reducible assumption) | (with_reducible refine Below.alloc ?_ ?_ _) | (with_reducible refine below_drewN ?_ _) | (with_reducible refine Below.drew ?_) | (with_reducible refine Below.setCell ?_ ?_ _) | (with_reducible refine below_via (by assumption) ?_ ?_) | (with_reducible refine below_via (later_below _) ?_ ?_) | (with_reducible exact Nat.le_refl _) | omega | (simp; omega) | (simp; done)))⟩

def namedB (x : TX) : Bool := !((x.k == 7 || x.k == 10) && !nameB x.s.data.toList) && !(x.funcs.any badF)
set_option maxHeartbeats 6400000 in
set_option maxRecDepth 100000 in
theorem rnamed_any (x : TX) (w : World) (hin : InX w w.heap.size x) : Calls Tryz.prog 77 #[x.v] w fun e w' => e = .returned (.bool (namedB x)) ∧ Below w.heap.size w w' := by
  have HIN := Lib.hid hin
  have h0 := ((inX_iff x).1 hin).1
  have g1 := h0.fi.1
  have g2 := h0.fi.2.1
  have hn : (x.funcs.length : Int) ≤ 9223372036854775807 := by omega
  have hsz := h0.si
  have HM : Hid (∀ W, Calls Tryz.prog 74 #[.string x.s] W fun e W' => e = .returned (.bool (nameB x.s.data.toList)) ∧ W = W') := fun W => r3name_any x.s W hsz
  obtain ⟨uF, huF⟩ : ∃ v, x.fA = v := ⟨_, rfl⟩
  unfold namedB
  have hw : ((x.k == 7) = true ∨ ((x.k == 7) = false ∧ (x.k == 10) = true)) ∨ ((x.k == 7) = false ∧ (x.k == 10) = false) := by
    cases (x.k == 7) <;> cases (x.k == 10) <;> simp
  obtain ⟨q, hq⟩ : ∃ q, nameB x.s.data.toList = q := ⟨_, rfl⟩
  rw [hq] at HM ⊢
  by_cases hf : ((x.k == 7 || x.k == 10) && !q) = true
  · rw [hf]
    have hq0 : q = false := by cases q <;> simp_all
    have hk2 : (x.k == 7) = true ∨ ((x.k == 7) = false ∧ (x.k == 10) = true) := by
      rcases hw with h | h
      · exact h
      · rw [h.1, h.2] at hf; simp at hf
    subst hq0
    clear hw hf hq h0 g1 g2 hin HIN
    rcases hk2 with k7 | ⟨k7, k10⟩
    all_goals
      go_enter Tryz.func77, Tryz.ntmps77
      go_wp2_with (first | (go_at_call 74; (with_reducible refine (HM.out _).mono ?_); rintro e w1 ⟨rfl, rfl⟩))
      go_returns
      exact ⟨rfl, by (repeat' (first | (with_reducible exact Below.refl _ _) | (with_reducible assumption) | (with_reducible refine Below.alloc ?_ ?_ _) | (with_reducible refine below_drewN ?_ _) | (with_reducible refine Below.drew ?_) | (with_reducible refine Below.setCell ?_ ?_ _) | (with_reducible refine below_via (by assumption) ?_ ?_) | (with_reducible refine below_via (later_below _) ?_ ?_) | (with_reducible exact Nat.le_refl _) | omega | (simp; omega) | (simp; done)))⟩
  · have hf2 : ((x.k == 7 || x.k == 10) && !q) = false := by simpa using hf
    rw [hf2, Bool.not_false, Bool.true_and]
    have hfacts : (((x.k == 7) = true ∨ ((x.k == 7) = false ∧ (x.k == 10) = true)) ∧ q = true) ∨ ((x.k == 7) = false ∧ (x.k == 10) = false) := by
      rcases hw with h | h
      · refine .inl ⟨h, ?_⟩
        rcases h with h | ⟨h, h'⟩
        · rw [h] at hf2; simpa using hf2
        · rw [h, h'] at hf2; simpa using hf2
      · exact .inr h
    have HA : Hid (∀ k (hk : k < x.funcs.length), badF x.funcs[k] = true → (!x.funcs.any badF) = false) := fun k hk h => by rw [any_yes hk h]; rfl
    have HY : Hid ((∀ j (hj : j < x.funcs.length), badF x.funcs[j] = false) → (!x.funcs.any badF) = true) := fun h => by rw [any_no h]; rfl
    obtain ⟨R, hR⟩ : ∃ R, (!x.funcs.any badF) = R := ⟨_, rfl⟩
    rw [hR] at HA HY ⊢
    clear h0 g1 g2 hin hf hf2 hR hw hq
    have hf3 : ((x.k == 7) = true ∧ q = true) ∨ ((x.k == 7) = false ∧ (x.k == 10) = true ∧ q = true) ∨ ((x.k == 7) = false ∧ (x.k == 10) = false) := by
      rcases hfacts with ⟨h | ⟨h, h'⟩, hq⟩ | h
      · exact .inl ⟨h, hq⟩
      · exact .inr (.inl ⟨h, h', hq⟩)
      · exact .inr (.inr h)
    clear hfacts
    rcases hf3 with ⟨k7, rfl⟩ | ⟨k7, k10, rfl⟩ | ⟨k7, k10⟩
    all_goals
      go_enter Tryz.func77, Tryz.ntmps77
      go_wp2_with (first | (go_at_call 74; (with_reducible refine (HM.out _).mono ?_); rintro e w1 ⟨rfl, rfl⟩))
      clear HM
      go_loop [3] (fun i => ∃ k : Nat, k ≤ x.funcs.length ∧ i = .int .i64 k ∧ Hid (∀ j (hj : j < x.funcs.length), j < k → badF x.funcs[j] = false)) (fun i => x.funcs.length - (intOf i).toNat)
      case atStart => exact ⟨0, Nat.zero_le _, rfl, fun j hj h => by omega⟩
      case round =>
        obtain ⟨k, hk, rfl, HT⟩ := hrel
        by_cases hlt : k < x.funcs.length
        · obtain ⟨b, o, hfA, hb, hc, hF⟩ := f5at HIN.out hlt
          rw [huF] at hfA
          subst hfA
          have HNo := Lib.hid (HA.out k hlt)
          have HYes := Lib.hid (step_no hlt HT.out)
          obtain ⟨f, hf⟩ : ∃ f, x.funcs[k] = f := ⟨_, rfl⟩
          rw [hf] at hc hF HNo HYes
          obtain ⟨c0, c1, c2, c3, c4⟩ := hc
          have HF := Lib.hid hF
          have hfp := ((inF_iff f).1 hF).1
          have p1 := hfp.pi.1
          have p2 := hfp.pi.2.1
          have hnP : (f.params.length : Int) ≤ 9223372036854775807 := by omega
          obtain ⟨uP, huP⟩ : ∃ v, f.pA = v := ⟨_, rfl⟩
          rw [huP] at c1
          clear hf hF hfp p1 p2 HT
          go_wp2_with fail
          go_loop [4] (fun i => ∃ m : Nat, m ≤ f.params.length ∧ i = .int .i64 m ∧ Hid (∀ j (hj : j < f.params.length), j < m → badP f.params[j] = false)) (fun i => f.params.length - (intOf i).toNat)
          case atStart => exact ⟨0, Nat.zero_le _, rfl, fun j hj h => by omega⟩
          case round =>
            obtain ⟨m, hm, rfl, HT2⟩ := hrel
            by_cases hlm : m < f.params.length
            · obtain ⟨b2, o2, hpA, hb2, hq0, hqs⟩ := p1at HF.out hlm
              rw [huP] at hpA
              subst hpA
              have HS2 := Lib.hid (step_no hlm HT2.out)
              have HA2 : Hid (badP f.params[m] = true → f.params.any badP = true) := fun h => any_yes hlm h
              obtain ⟨s2, hq⟩ : ∃ q, f.params[m] = q := ⟨_, rfl⟩
              rw [hq] at hq0 hqs HS2 HA2
              have HM2 : Hid (∀ W, Calls Tryz.prog 74 #[.string s2] W fun e W' => e = .returned (.bool (nameB s2.data.toList)) ∧ W = W') := fun W => r3name_any s2 W hqs
              obtain ⟨r, hr⟩ : ∃ q, nameB s2.data.toList = q := ⟨_, rfl⟩
              have hbr : badP s2 = !r := by unfold badP; rw [hr]
              rw [hr] at HM2
              rw [hbr] at HS2 HA2
              clear hq hr hbr
              cases r with
              | false =>
                have hno := HNo.out (HA2.out rfl)
                subst hno
                clear HNo HYes HA HY HS2 HA2 HT2
                go_wp2_with (first | (go_at_call 74; (with_reducible refine (HM2.out _).mono ?_); rintro e w1 ⟨rfl, rfl⟩))
                go_returns
                exact ⟨rfl, by (repeat' (first | (with_reducible exact Below.refl _ _) | (with_reducible assumption) | (with_reducible refine Below.alloc ?_ ?_ _) | (with_reducible refine below_drewN ?_ _) | (with_reducible refine Below.drew ?_) | (with_reducible refine Below.setCell ?_ ?_ _) | (with_reducible refine below_via (by assumption) ?_ ?_) | (with_reducible refine below_via (later_below _) ?_ ?_) | (with_reducible exact Nat.le_refl _) | omega | (simp; omega) | (simp; done)))⟩
              | true =>
                have HS3 := Lib.hid (HS2.out rfl)
                clear HS2 HA2 HT2
                go_wp2_with (first | (go_at_call 74; (with_reducible refine (HM2.out _).mono ?_); rintro e w1 ⟨rfl, rfl⟩))
                exact ⟨⟨m + 1, by omega, by go_num, HS3.out⟩, by simp [intOf]; omega⟩
            · obtain rfl : m = f.params.length := by omega
              have HYS := Lib.hid (HYes.out (any_no fun j hj => HT2.out j hj hj))
              clear HYes HNo HT2
              go_wp2_with fail
              exact ⟨⟨k + 1, by omega, by go_num, HYS.out⟩, by simp [intOf]; omega⟩
        · obtain rfl : k = x.funcs.length := by omega
          have hall := HY.out (fun j hj => HT.out j hj hj)
          subst hall
          clear HA HY HT
          go_wp2_with fail
          go_returns
          exact ⟨rfl, by (repeat' (first | (with_reducible exact Below.refl _ _) | (with_reducible assumption) | (with_reducible refine Below.alloc ?_ ?_ _) | (with_reducible refine below_drewN ?_ _) | (with_reducible refine Below.drew ?_) | (with_reducible refine Below.setCell ?_ ?_ _) | (with_reducible refine below_via (by assumption) ?_ ?_) | (with_reducible refine below_via (later_below _) ?_ ?_) | (with_reducible exact Nat.le_refl _) | omega | (simp; omega) | (simp; done)))⟩
end Go.Proofs.YthkpggpnbdedjaaGreat

/- The reference's Multi and nameless. -/
namespace Go.Proofs.YthkpggpnbdedjaaGreat
open Go.RowKit Go.Instr
set_option linter.unusedVariables false

set_option maxHeartbeats 1600000 in
theorem r5multi_any (x : TX) (w : World) : Calls Tryz.prog 103 #[x.v] w fun e w' => e = .returned (.bool (multiB x)) ∧ Below w.heap.size w w' := by
  unfold multiB
  cases h1 : (x.k == 9)
  · cases h2 : (x.k == 10)
    · go_enter Tryz.func103, Tryz.ntmps103
      go_wp2_with fail
      go_returns
      exact ⟨rfl, by (repeat' (first | (with_reducible exact Below.refl _ _) | (with_reducible assumption) | (with_reducible refine Below.alloc ?_ ?_ _) | (with_reducible refine below_drewN ?_ _) | (with_reducible refine Below.drew ?_) | (with_reducible refine Below.setCell ?_ ?_ _) | (with_reducible refine below_via (by assumption) ?_ ?_) | (with_reducible refine below_via (later_below _) ?_ ?_) | (with_reducible exact Nat.le_refl _) | omega | (simp; omega) | (simp; done)))⟩
    · go_enter Tryz.func103, Tryz.ntmps103
      go_wp2_with fail
      go_returns
      exact ⟨rfl, by (repeat' (first | (with_reducible exact Below.refl _ _) | (with_reducible assumption) | (with_reducible refine Below.alloc ?_ ?_ _) | (with_reducible refine below_drewN ?_ _) | (with_reducible refine Below.drew ?_) | (with_reducible refine Below.setCell ?_ ?_ _) | (with_reducible refine below_via (by assumption) ?_ ?_) | (with_reducible refine below_via (later_below _) ?_ ?_) | (with_reducible exact Nat.le_refl _) | omega | (simp; omega) | (simp; done)))⟩
  · go_enter Tryz.func103, Tryz.ntmps103
    go_wp2_with fail
    go_returns
    exact ⟨rfl, by (repeat' (first | (with_reducible exact Below.refl _ _) | (with_reducible assumption) | (with_reducible refine Below.alloc ?_ ?_ _) | (with_reducible refine below_drewN ?_ _) | (with_reducible refine Below.drew ?_) | (with_reducible refine Below.setCell ?_ ?_ _) | (with_reducible refine below_via (by assumption) ?_ ?_) | (with_reducible refine below_via (later_below _) ?_ ?_) | (with_reducible exact Nat.le_refl _) | omega | (simp; omega) | (simp; done)))⟩

/-- A name that a function may have. -/
def nm1 (f : TF) (n : ByteArray) : Bool := n.toList == f.name.toList && (selfB f.params || !colB n)
def nmF (names : List ByteArray) (f : TF) : Bool := names.any (nm1 f) && decide (0 ≤ f.ln)
theorem self_at (l : List ByteArray) (h : 0 < l.length) : selfB l = (l[0].toList == [115, 101, 108, 102]) := by
  cases l with
  | nil => simp at h
  | cons u v => rfl
theorem quiet_same2 {P : Program} {f : FuncId} {args : Array Value} {w : World} {a n : Nat} {v : Value}
    (h : Calls P f args (w.drewN (a + n)) fun e w' => e = .returned v ∧ w' = w.drewN (a + n)) : Calls P f args (w.drewN (a + n)) fun e w'' => e = .returned v ∧ ∃ m, w'' = (w.drewN a).drewN m :=
  h.mono fun _ _ ⟨he, hm⟩ => ⟨he, n, by rw [hm, World.drewN_drewN]⟩
theorem quiet_same3 {P : Program} {f : FuncId} {args : Array Value} {w : World} {a n : Nat} {v : Value}
    (h : Calls P f args (w.drewN (a + n)) fun e w' => e = .returned v ∧ w' = w.drewN (a + n)) : Calls P f args (w.drewN (a + n)) fun e w'' => e = .returned v ∧ ∃ m, w'' = w.drewN (a + m) :=
  h.mono fun _ _ ⟨he, hm⟩ => ⟨he, n, hm⟩
theorem take_any {α : Type} (p : α → Bool) (l : List α) (k : Nat) (hk : k < l.length) : (l.drop k).any p = (p l[k] || (l.drop (k + 1)).any p) := by
  rw [List.drop_eq_getElem_cons hk, List.any_cons]
set_option maxHeartbeats 12800000 in
set_option maxRecDepth 100000 in
theorem rnameless_any (l : List TF) (a : Option Addr) (c : Nat) (names : List ByteArray) (an : Option Addr) (cn M N : Nat) (w : World) (hs : Slc a l.length c) (hl : FsAt w N a l) (hf : ∀ f ∈ l, InF w M f)
    (hsn : Slc an names.length cn) (hn : PsAt w N an names) (hz : ∀ s ∈ names, s.size ≤ 9223372036854775807) :
    Calls Tryz.prog 101 #[.slice a l.length c, .slice an names.length cn] w fun e w' => e = .returned (.bool (l.all (nmF names))) ∧ ∃ m, w' = w.drewN m := by
  have HL := Lib.hid hl
  have HFI := Lib.hid hf
  have HNM := Lib.hid hn
  have HZ := Lib.hid hz
  obtain ⟨s1, s2, -⟩ := hs
  obtain ⟨s3, s4, -⟩ := hsn
  have hnl : (l.length : Int) ≤ 9223372036854775807 := by omega
  have hnn : (names.length : Int) ≤ 9223372036854775807 := by omega
  have HA : Hid (∀ k (hk : k < l.length), nmF names l[k] = false → l.all (nmF names) = false) := fun k hk h => all_no hk h
  have HY : Hid ((∀ j (hj : j < l.length), nmF names l[j] = true) → l.all (nmF names) = true) := fun h => all_yes h
  obtain ⟨R, hR⟩ : ∃ R, l.all (nmF names) = R := ⟨_, rfl⟩
  rw [hR] at HA HY ⊢
  clear hl hf hn hz hR
  go_enter Tryz.func101, Tryz.ntmps101
  go_wp2_with fail
  go_loopw [5] (fun i wr => ∃ k m : Nat, k ≤ l.length ∧ i = .int .i64 k ∧ wr = w.drewN m ∧ Hid (∀ j (hj : j < l.length), j < k → nmF names l[j] = true)) (fun i _ => l.length - (intOf i).toNat)
  case atStart => exact ⟨0, 0, Nat.zero_le _, rfl, rfl, fun j hj h => by omega⟩
  case round =>
    obtain ⟨k, m, hk, rfl, rfl, HT⟩ := hrel
    by_cases hlt : k < l.length
    · rcases HL.out with h0 | ⟨b, o, hb0, hb, hcs⟩
      · omega
      subst hb0
      have hc := hcs k hlt
      have hfk := HFI.out _ (List.getElem_mem hlt)
      have HNo := Lib.hid (HA.out k hlt)
      have HYes : Hid (nmF names l[k] = true → ∀ j (hj : j < l.length), j < k + 1 → nmF names l[j] = true) := fun h j hj hjk => by
        rcases Nat.lt_or_ge j k with h1 | h1
        · exact HT.out j hj h1
        · obtain rfl : j = k := by omega
          exact h
      obtain ⟨f, hf⟩ : ∃ f, l[k] = f := ⟨_, rfl⟩
      rw [hf] at hc hfk HNo HYes
      obtain ⟨c0, c1, c2, c3, c4⟩ := hc
      have hfp := ((inF_iff f).1 hfk).1
      have p1 := hfp.pi.1
      have p2 := hfp.pi.2.1
      have hnP : (f.params.length : Int) ≤ 9223372036854775807 := by omega
      have hself : (f.params.length = 0 ∧ selfB f.params = false) ∨ (0 < f.params.length ∧ ∃ b2 o2 q, f.pA = some ⟨b2, o2, none⟩ ∧ w.cell? ⟨b2, o2, none⟩ = some (.string q) ∧ (q.toList == [115, 101, 108, 102]) = selfB f.params) := by
        by_cases h0 : 0 < f.params.length
        · obtain ⟨b2, o2, e1, -, e2, -⟩ := p1at hfk h0
          exact .inr ⟨h0, b2, o2, _, e1, by simpa using e2, (self_at _ h0).symm⟩
        · have h1 : f.params = [] := List.eq_nil_of_length_eq_zero (by omega)
          exact .inl ⟨by omega, by rw [h1]; rfl⟩
      obtain ⟨SB, hSB⟩ : ∃ SB, selfB f.params = SB := ⟨_, rfl⟩
      rw [hSB] at hself
      have HSB := Lib.hid hSB
      clear hSB hcs hf hfp p1 p2 hfk HT
      have HP0 : Hid (((false : Bool) || (names.drop 0).any (nm1 f)) = names.any (nm1 f)) := by show _ = _; rfl
      have HG : Hid (nmF names f = (names.any (nm1 f) && decide (0 ≤ f.ln))) := by show _ = _; rfl
      obtain ⟨T, hT⟩ : ∃ T, names.any (nm1 f) = T := ⟨_, rfl⟩
      rw [hT] at HP0 HG
      clear hT
      obtain ⟨uP, huP⟩ : ∃ v, f.pA = v := ⟨_, rfl⟩
      rw [huP] at c1 hself
      rcases hself with ⟨hp0, rfl⟩ | ⟨hp0, b2, o2, q, rfl, hq, hqq⟩
      all_goals
        go_wp2_with fail
        go_loopw [6, 7] (fun ov kv wr => ∃ (j m2 : Nat) (ob : Bool), j ≤ names.length ∧ kv = .int .i64 j ∧ ov = .bool ob ∧ wr = w.drewN m2 ∧ Hid ((ob || (names.drop j).any (nm1 f)) = T)) (fun _ i _ => names.length - (intOf i).toNat)
        case atStart => exact ⟨0, m, false, Nat.zero_le _, rfl, rfl, rfl, HP0.out⟩
        case round =>
          obtain ⟨j, m2, ob, hj, rfl, rfl, rfl, HP⟩ := hrel
          by_cases hjl : j < names.length
          · rcases HNM.out with h0 | ⟨bn, on, hbn, hbnN, hcn⟩
            · omega
            subst hbn
            have hq1 : w.cell? ⟨bn, on + j, none⟩ = some (.string names[j]) := by have := hcn j hjl; rw [Nat.mul_one] at this; exact this
            have hz1 := HZ.out _ (List.getElem_mem hjl)
            have ht := take_any (nm1 f) names j hjl
            have HP1 := HP.out
            rw [ht] at HP1
            have hone : nm1 f names[j] = (names[j].toList == f.name.toList && (selfB f.params || !colB names[j])) := rfl
            rw [HSB.out] at hone
            rw [hone] at HP1
            obtain ⟨s, hs⟩ : ∃ s, names[j] = s := ⟨_, rfl⟩
            rw [hs] at hq1 hz1 HP1
            have HCO : Hid (∀ W, Calls Tryz.prog 116 #[.string s] W fun e W' => e = .returned (.bool (colB s)) ∧ W' = W) := fun W => (rcolon_any s W hz1).mono fun _ _ h => ⟨h.1, h.2.symm⟩
            obtain ⟨CB, hCB⟩ : ∃ CB, colB s = CB := ⟨_, rfl⟩
            rw [hCB] at HCO HP1
            have HP2 := Lib.hid HP1
            clear hCB hs ht hone HP1 hcn HP
            cases ob with
            | true =>
              go_wp2_with fail
              go_quiet (fail)
              go_wp2_with fail
              exact ⟨⟨j + 1, m2 + nq, true, by omega, by go_num, rfl, by first | rfl | rw [World.drewN_drewN], by show _ = _; have := HP2.out; simpa using this⟩, by simp [intOf]; omega⟩
            | false =>
              cases hE : (s.toList == f.name.toList) with
              | false =>
                go_wp2_with fail
                go_quiet (fail)
                go_wp2_with fail
                exact ⟨⟨j + 1, m2 + nq, false, by omega, by go_num, rfl, by first | rfl | rw [World.drewN_drewN], by show _ = _; have := HP2.out; rw [hE] at this; simpa using this⟩, by simp [intOf]; omega⟩
              | true =>
                first
                | (cases CB
                   all_goals
                     go_wp2_with fail
                     go_quiet ((go_at_call 116; first | exact quiet_same2 (HCO.out _) | exact quiet_same3 (HCO.out _) | exact Calls.quiet_of_same (HCO.out _)))
                     go_wp2_with fail
                     refine ⟨⟨j + 1, m2 + nq, _, by omega, by go_num, rfl, by first | rfl | rw [World.drewN_drewN], ?_⟩, by simp [intOf]; omega⟩
                     show _ = _
                     have := HP2.out
                     rw [hE] at this
                     simpa using this
                   done)
                | (cases SB
                   all_goals cases CB
                   all_goals
                     go_wp2_with fail
                     first
                     | go_quiet (fail)
                     | go_quiet ((go_at_call 116; first | exact quiet_same2 (HCO.out _) | exact quiet_same3 (HCO.out _) | exact Calls.quiet_of_same (HCO.out _)))
                     go_wp2_with fail
                     refine ⟨⟨j + 1, m2 + nq, _, by omega, by go_num, rfl, by first | rfl | rw [World.drewN_drewN], ?_⟩, by simp [intOf]; omega⟩
                     show _ = _
                     have := HP2.out
                     rw [hE] at this
                     simpa using this)
          · obtain rfl : j = names.length := by omega
            have HTT : ob = T := by have := HP.out; rw [List.drop_length] at this; simpa using this
            subst HTT
            clear HP HP0
            cases ob with
            | false =>
              have hno := HNo.out (by rw [HG.out]; rfl)
              subst hno
              clear HNo HYes HA HY HG
              go_wp2_with fail
              go_returns
              exact ⟨rfl, m2, rfl⟩
            | true =>
              by_cases h0 : 0 ≤ f.ln
              · have d0 : decide (f.ln < 0) = false := decide_eq_false (by omega)
                have HYS := Lib.hid (HYes.out (by rw [HG.out, decide_eq_true h0]; rfl))
                clear HNo HYes HG
                go_wp2_with fail
                exact ⟨⟨k + 1, m2, by omega, by go_num, rfl, HYS.out⟩, by simp [intOf]; omega⟩
              · have d0 : decide (f.ln < 0) = true := decide_eq_true (by omega)
                have hno := HNo.out (by rw [HG.out, decide_eq_false h0]; rfl)
                subst hno
                clear HNo HYes HA HY HG
                go_wp2_with fail
                go_returns
                exact ⟨rfl, m2, rfl⟩
    · obtain rfl : k = l.length := by omega
      have hall := HY.out (fun j hj => HT.out j hj hj)
      subst hall
      clear HA HY HT
      go_wp2_with fail
      go_returns
      exact ⟨rfl, m, rfl⟩
end Go.Proofs.YthkpggpnbdedjaaGreat
