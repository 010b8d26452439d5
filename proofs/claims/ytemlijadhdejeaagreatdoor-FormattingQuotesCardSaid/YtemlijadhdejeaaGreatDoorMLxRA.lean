/- The reference's hexadecimal digits, gaps and symbols. -/
import Derived.Test.YtemlijadhdejeaaGreatDoorMLxN
import Derived.Test.YtemlijadhdejeaaGreatDoorMLxW4
import Derived.Test.YtemlijadhdejeaaGreatDoorMLxW12
import Derived.Test.YtemlijadhdejeaaGreatDoorMLxW9
import Derived.Test.YtemlijadhdejeaaGreatDoorMLxWX
import Derived.Test.YtemlijadhdejeaaGreatDoorMLxQ
namespace Go.Proofs.YtemlijadhdejeaaGreatDoor
open Go.RowKit Go.Instr
set_option linter.unusedVariables false

/-- The value of a hexadecimal digit, or -1. -/
def hexI (c : UInt8) : Int := if hexB c then (hexV c : Int) else -1
theorem hexB_of (c : UInt8) : hexB c = (decide (48 ≤ c.toNat) && decide (c.toNat ≤ 57) || (decide (97 ≤ c.toNat) && decide (c.toNat ≤ 102) || decide (65 ≤ c.toNat) && decide (c.toNat ≤ 70))) := rfl
set_option maxHeartbeats 1000000 in
theorem r3hex_any (c : UInt8) (w : World) : Calls Tryz.prog 114 #[.int .u8 c.toNat] w fun e w' => e = .returned (.int .i64 (hexI c)) ∧ w = w' := by
  have HD := Lib.hid (r3digit_any c)
  have hc0 := UInt8.toNat_lt c
  have hall : (48 ≤ c.toNat ∧ c.toNat ≤ 57) ∨ (97 ≤ c.toNat ∧ c.toNat ≤ 102) ∨ (65 ≤ c.toNat ∧ c.toNat ≤ 70) ∨ (c.toNat < 65 ∧ ¬ (48 ≤ c.toNat ∧ c.toNat ≤ 57)) ∨ (70 < c.toNat ∧ c.toNat < 97) ∨ 102 < c.toNat := by omega
  rcases hall with h | h | h | h | h | h
  · have HR : Hid (hexI c = (c.toNat : Int) - 48) := by show _ = _; unfold hexI; rw [show hexB c = true by rw [hexB_of]; simp; omega]; simp [hexV]; (try split) <;> (try split) <;> omega
    have hd : digB c = true := by unfold digB; simp; omega
    rw [hd] at HD
    rw [HR.out]
    go_enter Tryz.func114, Tryz.ntmps114
    go_wp2_with (first | (go_at_call 60; (with_reducible refine (HD.out _).mono ?_); rintro e w1 ⟨rfl, rfl⟩))
    go_returns
    exact ⟨ret_int (by omega), rfl⟩
  · have HR : Hid (hexI c = (c.toNat : Int) - 97 + 10) := by show _ = _; unfold hexI; rw [show hexB c = true by rw [hexB_of]; simp; omega]; simp [hexV]; (try split) <;> (try split) <;> omega
    have hd : digB c = false := by unfold digB; simp; omega
    rw [hd] at HD
    rw [HR.out]
    have d1 : decide ((97 : Int) ≤ (c.toNat : Int)) = true := by simp; omega
    have d2 : decide (((c.toNat : Nat) : Int) ≤ 102) = true := by simp; omega
    go_enter Tryz.func114, Tryz.ntmps114
    go_wp2_with (first | (go_at_call 60; (with_reducible refine (HD.out _).mono ?_); rintro e w1 ⟨rfl, rfl⟩))
    go_returns
    exact ⟨ret_int (by omega), rfl⟩
  · have HR : Hid (hexI c = (c.toNat : Int) - 65 + 10) := by show _ = _; unfold hexI; rw [show hexB c = true by rw [hexB_of]; simp; omega]; simp [hexV]; (try split) <;> (try split) <;> omega
    have hd : digB c = false := by unfold digB; simp; omega
    rw [hd] at HD
    rw [HR.out]
    have d1 : decide ((97 : Int) ≤ (c.toNat : Int)) = false := by simp; omega
    have d3 : decide ((65 : Int) ≤ (c.toNat : Int)) = true := by simp; omega
    have d4 : decide (((c.toNat : Nat) : Int) ≤ 70) = true := by simp; omega
    go_enter Tryz.func114, Tryz.ntmps114
    go_wp2_with (first | (go_at_call 60; (with_reducible refine (HD.out _).mono ?_); rintro e w1 ⟨rfl, rfl⟩))
    go_returns
    exact ⟨ret_int (by omega), rfl⟩
  · have HR : Hid (hexI c = -1) := by show _ = _; unfold hexI; rw [show hexB c = false by rw [hexB_of]; simp; omega]; rfl
    have hd : digB c = false := by unfold digB; simp; omega
    rw [hd] at HD
    rw [HR.out]
    have d1 : decide ((97 : Int) ≤ (c.toNat : Int)) = false := by simp; omega
    have d3 : decide ((65 : Int) ≤ (c.toNat : Int)) = false := by simp; omega
    go_enter Tryz.func114, Tryz.ntmps114
    go_wp2_with (first | (go_at_call 60; (with_reducible refine (HD.out _).mono ?_); rintro e w1 ⟨rfl, rfl⟩))
    go_returns
    exact ⟨rfl, rfl⟩
  · have HR : Hid (hexI c = -1) := by show _ = _; unfold hexI; rw [show hexB c = false by rw [hexB_of]; simp; omega]; rfl
    have hd : digB c = false := by unfold digB; simp; omega
    rw [hd] at HD
    rw [HR.out]
    have d1 : decide ((97 : Int) ≤ (c.toNat : Int)) = false := by simp; omega
    have d3 : decide ((65 : Int) ≤ (c.toNat : Int)) = true := by simp; omega
    have d4 : decide (((c.toNat : Nat) : Int) ≤ 70) = false := by simp; omega
    go_enter Tryz.func114, Tryz.ntmps114
    go_wp2_with (first | (go_at_call 60; (with_reducible refine (HD.out _).mono ?_); rintro e w1 ⟨rfl, rfl⟩))
    go_returns
    exact ⟨rfl, rfl⟩
  · have HR : Hid (hexI c = -1) := by show _ = _; unfold hexI; rw [show hexB c = false by rw [hexB_of]; simp; omega]; rfl
    have hd : digB c = false := by unfold digB; simp; omega
    rw [hd] at HD
    rw [HR.out]
    have d1 : decide ((97 : Int) ≤ (c.toNat : Int)) = true := by simp; omega
    have d2 : decide (((c.toNat : Nat) : Int) ≤ 102) = false := by simp; omega
    have d3 : decide ((65 : Int) ≤ (c.toNat : Int)) = true := by simp; omega
    have d4 : decide (((c.toNat : Nat) : Int) ≤ 70) = false := by simp; omega
    go_enter Tryz.func114, Tryz.ntmps114
    go_wp2_with (first | (go_at_call 60; (with_reducible refine (HD.out _).mono ?_); rintro e w1 ⟨rfl, rfl⟩))
    go_returns
    exact ⟨rfl, rfl⟩

set_option maxHeartbeats 8000000 in
set_option maxRecDepth 100000 in
theorem r3gap_any (s : ByteArray) (i : Nat) (w : World) (hi : i ≤ s.size) (hs : s.size ≤ 1000000) :
    Calls Tryz.prog 36 #[.string s, .int .i64 i] w fun e w' => e = .returned (.int .i64 (gapI s i)) ∧ w = w' := by
  go_enter Tryz.func36, Tryz.ntmps36
  go_wp2_with fail
  go_loop [1] (fun u => ∃ k : Nat, k ≤ s.size ∧ u = .int .i64 k ∧ Hid (gapI s k = gapI s i)) (fun u => s.size - (intOf u).toNat)
  case atStart => exact ⟨i, hi, rfl, rfl⟩
  case round =>
    obtain ⟨k, hk, rfl, HG⟩ := hrel
    by_cases hlt : k < s.size
    · have hnl := gap_nl (s := s) (ln := 0) hlt
      have hbl := gap_blank (s := s) (ln := 0) hlt
      have hrm := gap_rem (s := s) (ln := 0) hlt
      have hst := gap_stop (s := s) (ln := 0) hlt
      obtain ⟨c, hc⟩ : ∃ c, s[k]'hlt = c := ⟨_, rfl⟩
      rw [hc] at hnl hbl hrm hst
      have hc0 := UInt8.toNat_lt c
      by_cases hb : c.toNat = 32 ∨ c.toNat = 9 ∨ c.toNat = 10 ∨ c.toNat = 13
      · have HS : Hid (gapI s (k + 1) = gapI s i) := by
          show _ = _
          rw [← HG.out]
          by_cases h10 : c.toNat = 10
          · exact (hnl h10).1.symm
          · exact (hbl h10 (by unfold blkB; simp; omega)).1.symm
        clear hnl hbl hrm hst
        rcases hb with h | h | h | h
        · have b32 : ((c.toNat : Int) == 32) = true := by simp; omega
          clear h
          go_wp2_with fail
          refine ⟨⟨k + 1, by omega, by go_num, HS.out⟩, by simp [intOf]; omega⟩
        · have b32 : ((c.toNat : Int) == 32) = false := by simp; omega
          have b9 : ((c.toNat : Int) == 9) = true := by simp; omega
          clear h
          go_wp2_with fail
          refine ⟨⟨k + 1, by omega, by go_num, HS.out⟩, by simp [intOf]; omega⟩
        · have b32 : ((c.toNat : Int) == 32) = false := by simp; omega
          have b9 : ((c.toNat : Int) == 9) = false := by simp; omega
          have b10 : ((c.toNat : Int) == 10) = true := by simp; omega
          clear h
          go_wp2_with fail
          refine ⟨⟨k + 1, by omega, by go_num, HS.out⟩, by simp [intOf]; omega⟩
        · have b32 : ((c.toNat : Int) == 32) = false := by simp; omega
          have b9 : ((c.toNat : Int) == 9) = false := by simp; omega
          have b10 : ((c.toNat : Int) == 10) = false := by simp; omega
          have b13 : ((c.toNat : Int) == 13) = true := by simp; omega
          clear h
          go_wp2_with fail
          refine ⟨⟨k + 1, by omega, by go_num, HS.out⟩, by simp [intOf]; omega⟩
      · have b32 : ((c.toNat : Int) == 32) = false := by simp; omega
        have b9 : ((c.toNat : Int) == 9) = false := by simp; omega
        have b10 : ((c.toNat : Int) == 10) = false := by simp; omega
        have b13 : ((c.toNat : Int) == 13) = false := by simp; omega
        have hk0 : blkB c = false := by unfold blkB; simp; omega
        by_cases h45 : c.toNat = 45
        · have b45 : ((c.toNat : Int) == 45) = true := by simp; omega
          by_cases h1 : k + 1 < s.size
          · have bl : decide ((k : Int) + 1 < (s.size : Int)) = true := by simp; omega
            have hd1 : (s.data.toList.drop (k + 1)).head?.map UInt8.toNat = some (s[k + 1]'h1).toNat := by rw [drop_get s (k + 1) h1]; rfl
            obtain ⟨d, hd⟩ : ∃ d, s[k + 1]'h1 = d := ⟨_, rfl⟩
            rw [hd] at hd1
            rw [hd1] at hrm hst
            by_cases h452 : d.toNat = 45
            · have b452 : ((d.toNat : Int) == 45) = true := by simp; omega
              obtain ⟨hr1, -, hr2⟩ := hrm h45 (by rw [h452])
              have HR : Hid (gapI s (spanI notNl s k) = gapI s i) := by show _ = _; rw [← HG.out, hr1]
              have hsl := (spanI_le notNl s k hk).2
              clear hnl hbl hrm hst hd1 hb hk0 h45 h452 hr1
              go_wp2_with fail
              go_loop [1] (fun u => ∃ j : Nat, k ≤ j ∧ j ≤ s.size ∧ u = .int .i64 j ∧ Hid (spanI notNl s j = spanI notNl s k)) (fun u => s.size - (intOf u).toNat)
              case atStart => exact ⟨k, Nat.le_refl _, hk, rfl, rfl⟩
              case round =>
                obtain ⟨j, hkj, hj, rfl, HJ⟩ := hrel
                by_cases hlt2 : j < s.size
                · obtain ⟨x, hx⟩ : ∃ x, s[j]'hlt2 = x := ⟨_, rfl⟩
                  have hy := spanI_yes (p := notNl) hlt2
                  have hn := spanI_no (p := notNl) hlt2
                  rw [hx] at hy hn
                  by_cases h10 : x.toNat = 10
                  · have b : ((x.toNat : Int) != 10) = false := by simp; omega
                    have HE : Hid (spanI notNl s k = j) := by show _ = _; rw [← HJ.out]; exact hn (by unfold notNl; simp; omega)
                    clear hy hn h10
                    have e2 := HE.out
                    rw [HE.out] at hr2
                    go_wp2_with fail
                    refine ⟨⟨j, hj, rfl, by show _ = _; rw [← HR.out, HE.out]⟩, by simp [intOf]; omega⟩
                  · have b : ((x.toNat : Int) != 10) = true := by simp; omega
                    have HE : Hid (spanI notNl s (j + 1) = spanI notNl s k) := by show _ = _; rw [← HJ.out]; exact (hy (by unfold notNl; simp; omega)).symm
                    clear hy hn h10
                    go_wp2_with fail
                    refine ⟨⟨j + 1, by omega, by omega, by go_num, HE.out⟩, by simp [intOf]; omega⟩
                · have HE : Hid (spanI notNl s k = j) := by show _ = _; rw [← HJ.out]; exact spanI_end (by omega)
                  rw [HE.out] at hr2
                  go_wp2_with fail
                  refine ⟨⟨j, hj, rfl, by show _ = _; rw [← HR.out, HE.out]⟩, by simp [intOf]; omega⟩
            · have b452 : ((d.toNat : Int) == 45) = false := by simp; omega
              have HR : Hid (gapI s i = k) := by show _ = _; rw [← HG.out]; exact (hst (by omega) hk0 (by rintro ⟨-, h⟩; simp at h; omega)).1
              clear hnl hbl hrm hst hd1 hb hk0 h45 h452
              go_wp2_with fail
              go_returns
              exact ⟨ret_int (by rw [HR.out]), rfl⟩
          · have bl : decide ((k : Int) + 1 < (s.size : Int)) = false := by simp; omega
            have HR : Hid (gapI s i = k) := by
              show _ = _
              rw [← HG.out]
              refine (hst (by omega) hk0 ?_).1
              rw [List.drop_eq_nil_of_le (by simp; omega)]
              rintro ⟨-, h⟩; simp at h
            clear hnl hbl hrm hst hb hk0 h45
            go_wp2_with fail
            go_returns
            exact ⟨ret_int (by rw [HR.out]), rfl⟩
        · have b45 : ((c.toNat : Int) == 45) = false := by simp; omega
          have HR : Hid (gapI s i = k) := by show _ = _; rw [← HG.out]; exact (hst (by omega) hk0 (by omega)).1
          clear hnl hbl hrm hst hb hk0 h45
          go_wp2_with fail
          go_returns
          exact ⟨ret_int (by rw [HR.out]), rfl⟩
    · have HR : Hid (gapI s i = k) := by show _ = _; rw [← HG.out]; exact (gap_end (ln := 0) (by omega)).1
      go_wp2_with fail
      go_returns
      exact ⟨ret_int (by rw [HR.out]), rfl⟩

def twos : List (List UInt8) := [ [47, 47], [60, 60], [62, 62], [61, 61], [126, 61], [60, 61], [62, 61], [58, 58], [46, 46] ]
def ones : List UInt8 := [43, 45, 42, 47, 37, 94, 35, 38, 124, 126, 60, 62, 61, 40, 41, 123, 125, 91, 93, 59, 58, 44, 46]
theorem pre_take {p r : List UInt8} : p.isPrefixOf r = decide (p.length ≤ r.length ∧ r.take p.length = p) := by
  rw [Bool.eq_iff_iff, List.isPrefixOf_iff_prefix, List.prefix_iff_eq_take, decide_eq_true_eq]
  constructor
  · intro h
    refine ⟨?_, h.symm⟩
    have := congrArg List.length h
    rw [List.length_take] at this
    omega
  · rintro ⟨-, h⟩; exact h.symm
theorem find_first {p : List UInt8 → Bool} {a b : List (List UInt8)} {x : List UInt8} (h : ∀ y ∈ a, p y = false) (hx : p x = true) : (a ++ x :: b).find? p = some x := by
  rw [List.find?_append, List.find?_eq_none.2 (fun y hy => by rw [h y hy]; simp)]
  simp [hx]
theorem syms_split : syms = [ [46, 46, 46] ] ++ (twos ++ ones.map fun c => [c]) := by decide
theorem sym3 {r : List UInt8} (h : r.take 3 = [46, 46, 46]) : (symbolT r).n = 3 := by
  have hl : 3 ≤ r.length := by have := congrArg List.length h; rw [List.length_take] at this; simp at this; omega
  unfold symbolT
  rw [syms_split, List.find?_append, List.find?_cons, pre_take, decide_eq_true (by exact ⟨hl, h⟩)]
  rfl
theorem pre3_no {r : List UInt8} (h : ¬ (3 ≤ r.length ∧ r.take 3 = [46, 46, 46])) : ([46, 46, 46] : List UInt8).isPrefixOf r = false := by
  rw [pre_take]; exact decide_eq_false h
theorem sym2 {r : List UInt8} (h3 : ¬ (3 ≤ r.length ∧ r.take 3 = [46, 46, 46])) (h2 : 2 ≤ r.length) (h : r.take 2 ∈ twos) : (symbolT r).n = 2 := by
  unfold symbolT
  rw [syms_split, List.find?_append, List.find?_cons, pre3_no h3]
  have hlen : ∀ t ∈ twos, t.length = 2 := by decide
  have hf : twos.find? (fun s => s.isPrefixOf r) = some (r.take 2) := by
    have : ∀ l : List (List UInt8), (∀ t ∈ l, t.length = 2) → r.take 2 ∈ l → l.find? (fun s => s.isPrefixOf r) = some (r.take 2) := by
      intro l
      induction l with
      | nil => intro _ h; cases h
      | cons t l ih =>
        intro hl hm
        rw [List.find?_cons]
        by_cases ht : t = r.take 2
        · have : t.isPrefixOf r = true := by rw [pre_take]; exact decide_eq_true ⟨by rw [hl t (List.mem_cons_self)]; exact h2, by rw [hl t (List.mem_cons_self), ht]⟩
          rw [this, ht]
        · have : t.isPrefixOf r = false := by
            rw [pre_take]
            refine decide_eq_false ?_
            rintro ⟨-, h⟩
            rw [hl t (List.mem_cons_self)] at h
            exact ht h.symm
          rw [this]
          exact ih (fun u hu => hl u (List.mem_cons_of_mem _ hu)) ((List.mem_cons.1 hm).resolve_left (fun e => ht e.symm))
    exact this twos hlen h
  rw [List.find?_nil, Option.none_or, List.find?_append, hf]
  simp; omega
theorem two_no {r : List UInt8} (h : ¬ (2 ≤ r.length ∧ r.take 2 ∈ twos)) : twos.find? (fun s => s.isPrefixOf r) = none := by
  rw [List.find?_eq_none]
  intro t ht
  have hlen : ∀ t ∈ twos, t.length = 2 := by decide
  rw [pre_take, hlen t ht]
  simp only [decide_eq_true_eq]
  rintro ⟨h1, h2⟩
  exact h ⟨h1, by rw [h2]; exact ht⟩
theorem sym1 {r : List UInt8} {c : UInt8} {t : List UInt8} (hr : r = c :: t) (h3 : ¬ (3 ≤ r.length ∧ r.take 3 = [46, 46, 46])) (h2 : ¬ (2 ≤ r.length ∧ r.take 2 ∈ twos)) : (symbolT r).n = if c ∈ ones then 1 else 0 := by
  unfold symbolT
  rw [syms_split, List.find?_append, List.find?_cons, pre3_no h3, List.find?_nil, Option.none_or, List.find?_append, two_no h2, Option.none_or]
  have hone : ∀ l : List UInt8, (l.map fun c => [c]).find? (fun s => s.isPrefixOf r) = if c ∈ l then some [c] else none := by
    intro l
    induction l with
    | nil => rfl
    | cons d l ih =>
      rw [List.map_cons, List.find?_cons, hr]
      by_cases hd : d = c
      · subst hd; simp
      · have : ([d] : List UInt8).isPrefixOf (c :: t) = false := by rw [pre_take]; exact decide_eq_false (by rintro ⟨-, h⟩; simp at h; exact hd h.symm)
        rw [this, ← hr, ih]
        have : (c ∈ d :: l) ↔ (c ∈ l) := by rw [List.mem_cons]; exact ⟨fun h => h.resolve_left (fun e => hd e.symm), .inr⟩
        simp only [this]
  rw [hone]
  by_cases hm : c ∈ ones <;> simp [hm, errR]
theorem sym0 : (symbolT []).n = 0 := by decide

theorem ext_list (s : ByteArray) (k : Nat) : (s.extract 0 k).toList = s.data.toList.take k := by rw [Lib.toList_data, Lib.extract_data]; simp
theorem ones_no {c : UInt8} (h : c ∉ ones) : ((c.toNat : Int) == 43) = false ∧ ((c.toNat : Int) == 45) = false ∧ ((c.toNat : Int) == 42) = false ∧ ((c.toNat : Int) == 47) = false ∧ ((c.toNat : Int) == 37) = false ∧ ((c.toNat : Int) == 94) = false ∧ ((c.toNat : Int) == 35) = false ∧ ((c.toNat : Int) == 38) = false ∧ ((c.toNat : Int) == 124) = false ∧ ((c.toNat : Int) == 126) = false ∧ ((c.toNat : Int) == 60) = false ∧ ((c.toNat : Int) == 62) = false ∧ ((c.toNat : Int) == 61) = false ∧ ((c.toNat : Int) == 40) = false ∧ ((c.toNat : Int) == 41) = false ∧ ((c.toNat : Int) == 123) = false ∧ ((c.toNat : Int) == 125) = false ∧ ((c.toNat : Int) == 91) = false ∧ ((c.toNat : Int) == 93) = false ∧ ((c.toNat : Int) == 59) = false ∧ ((c.toNat : Int) == 58) = false ∧ ((c.toNat : Int) == 44) = false ∧ ((c.toNat : Int) == 46) = false := by
  unfold ones at h
  simp only [List.mem_cons, List.not_mem_nil, or_false, not_or] at h
  have e : ∀ n : UInt8, ¬ c = n → ((c.toNat : Int) == (n.toNat : Int)) = false := fun n hn => by
    rw [beq_eq_false_iff_ne]
    intro h0
    exact hn (UInt8.toNat_inj.1 (by omega))
  obtain ⟨h0, h1, h2, h3, h4, h5, h6, h7, h8, h9, h10, h11, h12, h13, h14, h15, h16, h17, h18, h19, h20, h21, h22⟩ := h
  exact ⟨e _ h0, e _ h1, e _ h2, e _ h3, e _ h4, e _ h5, e _ h6, e _ h7, e _ h8, e _ h9, e _ h10, e _ h11, e _ h12, e _ h13, e _ h14, e _ h15, e _ h16, e _ h17, e _ h18, e _ h19, e _ h20, e _ h21, e _ h22⟩

set_option maxHeartbeats 8000000 in
theorem r3sym_3 (s : ByteArray) (w : World) (hK : 3 ≤ s.size) : Calls Tryz.prog 63 #[.string s] w fun e w' => e = .returned (.int .i64 ((symbolT s.data.toList).n : Int)) ∧ w = w' := by
  have hln := size_len s
  have hpos : 0 < s.size := by omega
  have d1 : decide ((1 : Int) ≤ (s.size : Int)) = true := by simp; omega
  have d3 : decide ((3 : Int) ≤ (s.size : Int)) = true := by simp; omega
  have d2 : decide ((2 : Int) ≤ (s.size : Int)) = true := by simp; omega
  by_cases h3 : s.data.toList.take 3 = [46, 46, 46]
  · have HR := Lib.hid (sym3 h3)
    have e3 : (s.extract 0 3).toList = [46, 46, 46] := by rw [ext_list]; exact h3
    clear h3 hln
    go_enter Tryz.func63, Tryz.ntmps63
    go_wp2
    go_returns
    exact ⟨by rw [HR.out]; rfl, rfl⟩
  have hn3 : ¬ (3 ≤ s.data.toList.length ∧ s.data.toList.take 3 = [46, 46, 46]) := fun h => h3 h.2
  have e3 : ((s.extract 0 3).toList == [46, 46, 46]) = false := by rw [ext_list]; simpa using h3
  clear h3
  by_cases h2 : s.data.toList.take 2 ∈ twos
  · have HR := Lib.hid (sym2 hn3 (by omega) h2)
    have e2 := ext_list s 2
    obtain ⟨L, hL⟩ : ∃ L, s.data.toList.take 2 = L := ⟨_, rfl⟩
    rw [hL] at h2 e2
    clear hL hn3 hln
    unfold twos at h2
    simp only [List.mem_cons, List.not_mem_nil, or_false] at h2
    rcases h2 with rfl | rfl | rfl | rfl | rfl | rfl | rfl | rfl | rfl
    all_goals
      go_enter Tryz.func63, Tryz.ntmps63
      go_wp2
      go_returns
      exact ⟨by rw [HR.out]; rfl, rfl⟩
  have hn2 : ¬ (2 ≤ s.data.toList.length ∧ s.data.toList.take 2 ∈ twos) := fun h => h2 h.2
  rw [← ext_list] at h2
  unfold twos at h2
  simp only [List.mem_cons, List.not_mem_nil, or_false, not_or, ← beq_eq_false_iff_ne] at h2
  obtain ⟨k0, k1, k2, k3, k4, k5, k6, k7, k8⟩ := h2
  have hcons := drop_all s hpos
  have HS := Lib.hid (sym1 hcons hn3 hn2)
  obtain ⟨c, hc⟩ : ∃ c, s[0]'hpos = c := ⟨_, rfl⟩
  rw [hc] at HS
  clear hcons hn3 hn2 hln
  by_cases hm : c ∈ ones
  · have HR := Lib.hid HS.out
    rw [if_pos hm] at HR
    clear HS
    unfold ones at hm
    simp only [List.mem_cons, List.not_mem_nil, or_false] at hm
    rcases hm with rfl | rfl | rfl | rfl | rfl | rfl | rfl | rfl | rfl | rfl | rfl | rfl | rfl | rfl | rfl | rfl | rfl | rfl | rfl | rfl | rfl | rfl | rfl
    all_goals
      go_enter Tryz.func63, Tryz.ntmps63
      go_wp2
      go_returns
      exact ⟨by rw [HR.out]; rfl, rfl⟩
  · have HR := Lib.hid HS.out
    rw [if_neg hm] at HR
    obtain ⟨b0, b1, b2, b3, b4, b5, b6, b7, b8, b9, b10, b11, b12, b13, b14, b15, b16, b17, b18, b19, b20, b21, b22⟩ := ones_no hm
    clear HS hm
    go_enter Tryz.func63, Tryz.ntmps63
    go_wp2
    go_returns
    exact ⟨by rw [HR.out]; rfl, rfl⟩

set_option maxHeartbeats 8000000 in
theorem r3sym_2 (s : ByteArray) (w : World) (hK : s.size = 2) : Calls Tryz.prog 63 #[.string s] w fun e w' => e = .returned (.int .i64 ((symbolT s.data.toList).n : Int)) ∧ w = w' := by
  have hln := size_len s
  have hpos : 0 < s.size := by omega
  have d1 : decide ((1 : Int) ≤ (s.size : Int)) = true := by simp; omega
  have d3 : decide ((3 : Int) ≤ (s.size : Int)) = false := by simp; omega
  have d2 : decide ((2 : Int) ≤ (s.size : Int)) = true := by simp; omega
  have hn3 : ¬ (3 ≤ s.data.toList.length ∧ s.data.toList.take 3 = [46, 46, 46]) := fun h => by omega
  by_cases h2 : s.data.toList.take 2 ∈ twos
  · have HR := Lib.hid (sym2 hn3 (by omega) h2)
    have e2 := ext_list s 2
    obtain ⟨L, hL⟩ : ∃ L, s.data.toList.take 2 = L := ⟨_, rfl⟩
    rw [hL] at h2 e2
    clear hL hn3 hln
    unfold twos at h2
    simp only [List.mem_cons, List.not_mem_nil, or_false] at h2
    rcases h2 with rfl | rfl | rfl | rfl | rfl | rfl | rfl | rfl | rfl
    all_goals
      go_enter Tryz.func63, Tryz.ntmps63
      go_wp2
      go_returns
      exact ⟨by rw [HR.out]; rfl, rfl⟩
  have hn2 : ¬ (2 ≤ s.data.toList.length ∧ s.data.toList.take 2 ∈ twos) := fun h => h2 h.2
  rw [← ext_list] at h2
  unfold twos at h2
  simp only [List.mem_cons, List.not_mem_nil, or_false, not_or, ← beq_eq_false_iff_ne] at h2
  obtain ⟨k0, k1, k2, k3, k4, k5, k6, k7, k8⟩ := h2
  have hcons := drop_all s hpos
  have HS := Lib.hid (sym1 hcons hn3 hn2)
  obtain ⟨c, hc⟩ : ∃ c, s[0]'hpos = c := ⟨_, rfl⟩
  rw [hc] at HS
  clear hcons hn3 hn2 hln
  by_cases hm : c ∈ ones
  · have HR := Lib.hid HS.out
    rw [if_pos hm] at HR
    clear HS
    unfold ones at hm
    simp only [List.mem_cons, List.not_mem_nil, or_false] at hm
    rcases hm with rfl | rfl | rfl | rfl | rfl | rfl | rfl | rfl | rfl | rfl | rfl | rfl | rfl | rfl | rfl | rfl | rfl | rfl | rfl | rfl | rfl | rfl | rfl
    all_goals
      go_enter Tryz.func63, Tryz.ntmps63
      go_wp2
      go_returns
      exact ⟨by rw [HR.out]; rfl, rfl⟩
  · have HR := Lib.hid HS.out
    rw [if_neg hm] at HR
    obtain ⟨b0, b1, b2, b3, b4, b5, b6, b7, b8, b9, b10, b11, b12, b13, b14, b15, b16, b17, b18, b19, b20, b21, b22⟩ := ones_no hm
    clear HS hm
    go_enter Tryz.func63, Tryz.ntmps63
    go_wp2
    go_returns
    exact ⟨by rw [HR.out]; rfl, rfl⟩

set_option maxHeartbeats 8000000 in
theorem r3sym_1 (s : ByteArray) (w : World) (hK : s.size = 1) : Calls Tryz.prog 63 #[.string s] w fun e w' => e = .returned (.int .i64 ((symbolT s.data.toList).n : Int)) ∧ w = w' := by
  have hln := size_len s
  have hpos : 0 < s.size := by omega
  have d1 : decide ((1 : Int) ≤ (s.size : Int)) = true := by simp; omega
  have d3 : decide ((3 : Int) ≤ (s.size : Int)) = false := by simp; omega
  have d2 : decide ((2 : Int) ≤ (s.size : Int)) = false := by simp; omega
  have hn3 : ¬ (3 ≤ s.data.toList.length ∧ s.data.toList.take 3 = [46, 46, 46]) := fun h => by omega
  have hn2 : ¬ (2 ≤ s.data.toList.length ∧ s.data.toList.take 2 ∈ twos) := fun h => by omega
  have hcons := drop_all s hpos
  have HS := Lib.hid (sym1 hcons hn3 hn2)
  obtain ⟨c, hc⟩ : ∃ c, s[0]'hpos = c := ⟨_, rfl⟩
  rw [hc] at HS
  clear hcons hn3 hn2 hln
  by_cases hm : c ∈ ones
  · have HR := Lib.hid HS.out
    rw [if_pos hm] at HR
    clear HS
    unfold ones at hm
    simp only [List.mem_cons, List.not_mem_nil, or_false] at hm
    rcases hm with rfl | rfl | rfl | rfl | rfl | rfl | rfl | rfl | rfl | rfl | rfl | rfl | rfl | rfl | rfl | rfl | rfl | rfl | rfl | rfl | rfl | rfl | rfl
    all_goals
      go_enter Tryz.func63, Tryz.ntmps63
      go_wp2
      go_returns
      exact ⟨by rw [HR.out]; rfl, rfl⟩
  · have HR := Lib.hid HS.out
    rw [if_neg hm] at HR
    obtain ⟨b0, b1, b2, b3, b4, b5, b6, b7, b8, b9, b10, b11, b12, b13, b14, b15, b16, b17, b18, b19, b20, b21, b22⟩ := ones_no hm
    clear HS hm
    go_enter Tryz.func63, Tryz.ntmps63
    go_wp2
    go_returns
    exact ⟨by rw [HR.out]; rfl, rfl⟩
theorem r3sym_any (s : ByteArray) (w : World) : Calls Tryz.prog 63 #[.string s] w fun e w' => e = .returned (.int .i64 ((symbolT s.data.toList).n : Int)) ∧ w = w' := by
  by_cases h3 : 3 ≤ s.size
  · exact r3sym_3 s w h3
  · by_cases h2 : s.size = 2
    · exact r3sym_2 s w h2
    · by_cases h1 : s.size = 1
      · exact r3sym_1 s w h1
      · obtain rfl := byte_empty (show s.size = 0 by omega)
        clear h1 h2 h3
        rw [show (symbolT (⟨#[]⟩ : ByteArray).data.toList).n = 0 from sym0]
        go_enter Tryz.func63, Tryz.ntmps63
        go_wp2
        go_returns
        exact ⟨rfl, rfl⟩
end Go.Proofs.YtemlijadhdejeaaGreatDoor

/- The reference's escapes. -/
namespace Go.Proofs.YtemlijadhdejeaaGreatDoor
open Go.RowKit Go.Instr
set_option linter.unusedVariables false

theorem span2 {a b : UInt8} {t : List UInt8} : 2 ≤ spanN hexB (a :: b :: t) ↔ (hexB a = true ∧ hexB b = true) := by
  cases ha : hexB a
  · rw [spanN_no ha]; simp
  · rw [spanN_yes ha]
    cases hb : hexB b
    · rw [spanN_no hb]; simp
    · rw [spanN_yes hb]; simp
theorem span1 {l : List UInt8} (h : l.length ≤ 1) : ¬ 2 ≤ spanN hexB l := by have := spanN_le hexB l; omega
theorem span_hit {p : UInt8 → Bool} {l : List UInt8} {j : Nat} (h : j ≤ spanN p l) (hj : ∀ c, l[j]? = some c → p c = false) : spanN p l = j := by
  have hle := spanN_le p l
  by_cases hlt : j < spanN p l
  · have hm := span_all (p := p) (l := l) (k := j + 1) (by omega)
    have hjl : j < l.length := by omega
    have h1 := hj l[j] (List.getElem?_eq_getElem hjl)
    have h2 := hm l[j] (by rw [List.take_succ_eq_append_getElem hjl]; exact List.mem_append_right _ (List.mem_singleton.2 rfl))
    rw [h1] at h2; cases h2
  · omega
theorem span_go {p : UInt8 → Bool} {c : UInt8} : ∀ {l : List UInt8} {j : Nat}, j ≤ spanN p l → l[j]? = some c → p c = true → j + 1 ≤ spanN p l
  | [], j, _, h, _ => by simp at h
  | d :: l, 0, _, h, hp => by
    simp at h; subst h
    rw [spanN_yes hp]; omega
  | d :: l, j + 1, h1, h, hp => by
    cases hd : p d
    · rw [spanN_no hd] at h1; omega
    · rw [spanN_yes hd] at h1 ⊢
      have := span_go (l := l) (j := j) (by omega) (by simpa using h) hp
      omega
theorem drop_at (s : ByteArray) (i j : Nat) (h : i + j < s.size) : (s.data.toList.drop i)[j]? = some (s[i + j]'h) := by
  rw [List.getElem?_drop, List.getElem?_eq_getElem (by simpa using h)]; rfl
theorem hexV_dig {c : UInt8} (h : digB c = true) : hexV c = c.toNat - 48 ∧ 48 ≤ c.toNat ∧ c.toNat ≤ 57 := by
  unfold digB at h
  simp at h
  refine ⟨?_, h.1, h.2⟩
  unfold hexV
  rw [if_pos (by omega)]

set_option maxHeartbeats 8000000 in
set_option maxRecDepth 100000 in
theorem r3esc_any (s : ByteArray) (i : Nat) (w : World) (hi : i < s.size) (hs : s.size ≤ 1000000) :
    Calls Tryz.prog 88 #[.string s, .int .i64 i] w fun e w' => e = .returned (escV s i (escT (s.data.toList.drop (i + 1)))) ∧ Below w.heap.size w w' := by
  by_cases hend : i + 1 < s.size
  · have he1 : decide ((s.size : Int) ≤ (i : Int) + 1) = false := by simp; omega
    obtain ⟨c, hc⟩ : ∃ c, s[i + 1]'hend = c := ⟨_, rfl⟩
    have HC := Lib.hid hc
    have hlt := UInt8.toNat_lt c
    by_cases h110 : c.toNat = 110
    · have HE := Lib.hid (escV_ok (s := s) (i := i) (esc_n s i hend (by rw [hc]; exact h110)))
      have b1 : ((c.toNat : Int) == 110) = true := by simp; omega
      clear h110
      go_enter Tryz.func88, Tryz.ntmps88
      go_wp2
      go_returns
      exact ⟨by rw [HE.out]; go_num, Below.refl _ _⟩
    · have b1 : ((c.toNat : Int) == 110) = false := by simp; omega
      by_cases h116 : c.toNat = 116
      · have HE := Lib.hid (escV_ok (s := s) (i := i) (esc_t s i hend (by rw [hc]; exact h116)))
        have b2 : ((c.toNat : Int) == 116) = true := by simp; omega
        clear h110 h116
        go_enter Tryz.func88, Tryz.ntmps88
        go_wp2
        go_returns
        exact ⟨by rw [HE.out]; go_num, Below.refl _ _⟩
      · have b2 : ((c.toNat : Int) == 116) = false := by simp; omega
        by_cases hq : c.toNat = 92 ∨ c.toNat = 39 ∨ c.toNat = 34
        · have HE := Lib.hid (escV_ok (s := s) (i := i) (esc_q s i hend (by rw [hc]; exact hq)))
          rw [hc] at HE
          obtain ⟨B1, hB1⟩ : ∃ B, ((c.toNat : Int) == 92) = B := ⟨_, rfl⟩
          obtain ⟨B2, hB2⟩ : ∃ B, ((c.toNat : Int) == 39) = B := ⟨_, rfl⟩
          obtain ⟨B3, hB3⟩ : ∃ B, ((c.toNat : Int) == 34) = B := ⟨_, rfl⟩
          have hall : B1 = true ∨ (B1 = false ∧ B2 = true) ∨ (B1 = false ∧ B2 = false ∧ B3 = true) := by
            rw [← hB1, ← hB2, ← hB3]
            simp only [beq_iff_eq, beq_eq_false_iff_ne, ne_eq]
            omega
          clear hq h110 h116
          rcases hall with rfl | ⟨rfl, rfl⟩ | ⟨rfl, rfl, rfl⟩
          all_goals
            go_enter Tryz.func88, Tryz.ntmps88
            go_wp2
            go_returns
            exact ⟨by rw [HE.out]; go_num, Below.refl _ _⟩
        · have b3 : ((c.toNat : Int) == 92) = false := by simp; omega
          have b4 : ((c.toNat : Int) == 39) = false := by simp; omega
          have b5 : ((c.toNat : Int) == 34) = false := by simp; omega
          by_cases hx : c.toNat = 120
          · have b6 : ((c.toNat : Int) == 120) = true := by simp; omega
            have hEX := esc_x s i hend (by rw [hc]; exact hx)
            by_cases h3 : i + 3 < s.size
            · have he3 : decide ((s.size : Int) ≤ (i : Int) + 3) = false := by simp; omega
              have hd2 : s.data.toList.drop (i + 2) = s[i + 2]'(by omega) :: s[i + 3]'h3 :: s.data.toList.drop (i + 4) := by
                rw [drop_get s (i + 2) (by omega), drop_get s (i + 3) h3]
              obtain ⟨a, ha⟩ : ∃ a, s[i + 2]'(show i + 2 < s.size by omega) = a := ⟨_, rfl⟩
              obtain ⟨b, hb⟩ : ∃ b, s[i + 3]'h3 = b := ⟨_, rfl⟩
              rw [ha, hb] at hd2
              rw [hd2] at hEX
              have HA := Lib.hid (r3hex_any a)
              have HB := Lib.hid (r3hex_any b)
              clear hd2 hq h110 h116 hx
              by_cases hxa : hexB a = true
              · have eA : hexI a = (hexV a : Int) := by unfold hexI; rw [if_pos hxa]
                have bdA := (hex_bd3 hxa).2.2
                rw [eA] at HA
                have ba : decide ((hexV a : Int) < 0) = false := by rw [decide_eq_false_iff_not]; omega
                by_cases hxb : hexB b = true
                · have eB : hexI b = (hexV b : Int) := by unfold hexI; rw [if_pos hxb]
                  have bdB := (hex_bd3 hxb).2.2
                  rw [eB] at HB
                  have bb : decide ((hexV b : Int) < 0) = false := by rw [decide_eq_false_iff_not]; omega
                  rw [if_pos (span2.2 ⟨hxa, hxb⟩), show (a :: b :: s.data.toList.drop (i + 4)).take 2 = [a, b] from rfl, show valN 16 [a, b] = (0 * 16 + hexV a) * 16 + hexV b from rfl] at hEX
                  have HE := Lib.hid (escV_ok (s := s) (i := i) hEX)
                  clear hEX hxa hxb
                  obtain ⟨A, hA⟩ : ∃ A, hexV a = A := ⟨_, rfl⟩
                  obtain ⟨B, hB⟩ : ∃ B, hexV b = B := ⟨_, rfl⟩
                  rw [hA] at HA HE ba bdA eA
                  rw [hB] at HB HE bb bdB eB
                  clear hA hB
                  have HX : Hid (∀ c w, Calls Tryz.prog 114 #[.int .u8 (c : UInt8).toNat] w fun e w' => e = .returned (.int .i64 (hexI c)) ∧ w' = w) := fun c w => (r3hex_any c w).mono fun _ _ ⟨he, hw⟩ => ⟨he, hw.symm⟩
                  have hbA : (A : Int) ≤ 15 := by omega
                  have hbB : (B : Int) ≤ 15 := by omega
                  go_enter Tryz.func88, Tryz.ntmps88
                  go_wp2_with (first | (go_at_call 114; (first | (with_reducible refine (HA.out _).mono ?_) | (with_reducible refine (HB.out _).mono ?_)); rintro e w1 ⟨rfl, rfl⟩))
                  have e1 : IntKind.i64.wrap ((i : Int) + 2) = (i : Int) + 2 := IntWalk.i64_in _ (by omega)
                  have e2 : IntKind.i64.wrap ((i : Int) + 3) = (i : Int) + 3 := IntWalk.i64_in _ (by omega)
                  have e3 : IntKind.i64.wrap ((i : Int) + 4) = (i : Int) + 4 := IntWalk.i64_in _ (by omega)
                  have e4 : IntKind.i64.wrap (16 * (A : Int)) = 16 * (A : Int) := IntWalk.i64_in _ (by omega)
                  have e5 : IntKind.i64.wrap (16 * (A : Int) + (B : Int)) = 16 * (A : Int) + (B : Int) := IntWalk.i64_in _ (by omega)
                  have g1 : (0 : Int) ≤ (i : Int) + 2 := by omega
                  have g2 : (0 : Int) ≤ (i : Int) + 3 := by omega
                  have g3 : (i : Int) + 2 < (s.size : Int) := by omega
                  have g4 : (i : Int) + 3 < (s.size : Int) := by omega
                  have g5 : ((i : Int) + 2).toNat = i + 2 := by omega
                  have g6 : ((i : Int) + 3).toNat = i + 3 := by omega
                  go_quiet ((go_at_call 114; exact Calls.quiet_of_same (HX.out _ _)))
                  clear e1 e2 e3 e4 e5
                  go_wp2_with fail
                  go_returns
                  exact ⟨by rw [HE.out]; first | go_num | (congr 3; simp; omega), by (repeat' (first | (with_reducible exact Below.refl _ _) | (with_reducible assumption) | (with_reducible refine Below.alloc ?_ ?_ _) | (with_reducible refine below_drewN ?_ _) | (with_reducible refine Below.drew ?_) | (with_reducible refine Below.setCell ?_ ?_ _) | (with_reducible refine below_via (by assumption) ?_ ?_) | (with_reducible refine below_via (later_below _) ?_ ?_) | (with_reducible exact Nat.le_refl _) | omega | (simp; omega) | (simp; done)))⟩
                · have eB : hexI b = -1 := by unfold hexI; rw [if_neg hxb]
                  rw [eB] at HB
                  rw [if_neg (fun h => hxb (span2.1 h).2)] at hEX
                  have HE := Lib.hid (escV_err (s := s) (i := i) hEX (by decide))
                  clear hEX hxa hxb eA eB
                  obtain ⟨A, hA⟩ : ∃ A, hexV a = A := ⟨_, rfl⟩
                  rw [hA] at HA ba bdA
                  clear hA
                  go_enter Tryz.func88, Tryz.ntmps88
                  go_wp2_with (first | (go_at_call 114; (first | (with_reducible refine (HA.out _).mono ?_) | (with_reducible refine (HB.out _).mono ?_)); rintro e w1 ⟨rfl, rfl⟩))
                  go_returns
                  exact ⟨by rw [HE.out]; rfl, Below.refl _ _⟩
              · have eA : hexI a = -1 := by unfold hexI; rw [if_neg hxa]
                rw [eA] at HA
                rw [if_neg (fun h => hxa (span2.1 h).1)] at hEX
                have HE := Lib.hid (escV_err (s := s) (i := i) hEX (by decide))
                clear hEX hxa eA
                go_enter Tryz.func88, Tryz.ntmps88
                go_wp2_with (first | (go_at_call 114; (first | (with_reducible refine (HA.out _).mono ?_) | (with_reducible refine (HB.out _).mono ?_)); rintro e w1 ⟨rfl, rfl⟩))
                go_returns
                exact ⟨by rw [HE.out]; rfl, Below.refl _ _⟩
            · have he3 : decide ((s.size : Int) ≤ (i : Int) + 3) = true := by simp; omega
              rw [if_neg (span1 (by rw [List.length_drop]; simp; omega))] at hEX
              have HE := Lib.hid (escV_err (s := s) (i := i) hEX (by decide))
              clear hEX hq h110 h116 hx h3
              go_enter Tryz.func88, Tryz.ntmps88
              go_wp2
              go_returns
              exact ⟨by rw [HE.out]; rfl, Below.refl _ _⟩
          · have b6 : ((c.toNat : Int) == 120) = false := by simp; omega
            have hED := esc_d s i hend (by rw [hc]; exact h110) (by rw [hc]; exact h116) (by rw [hc]; exact hq) (by rw [hc]; exact hx)
            have hEN := esc_no s i hend (by rw [hc]; exact h110) (by rw [hc]; exact h116) (by rw [hc]; exact hq) (by rw [hc]; exact hx)
            rw [hc] at hED hEN
            obtain ⟨t, ht⟩ : ∃ t, s.data.toList.drop (i + 1) = t := ⟨_, rfl⟩
            have htl : t.length = s.size - (i + 1) := by rw [← ht]; simp
            have hat : ∀ j, (h : i + 1 + j < s.size) → t[j]? = some (s[i + 1 + j]'h) := fun j h => by rw [← ht]; exact drop_at s (i + 1) j h
            have ht0 : t[0]? = some c := by rw [hat 0 hend, ← hc]
            rw [ht] at hED hEN ⊢
            have HED := Lib.hid hED
            have HEN := Lib.hid hEN
            have HAT := Lib.hid hat
            have HT0 := Lib.hid ht0
            have HDG := Lib.hid r3digit_any
            clear hED hEN hat ht ht0 hq h110 h116 hx
            go_enter Tryz.func88, Tryz.ntmps88
            go_wp2_with fail
            go_loop [8, 9] (fun u v => ∃ j K N : Nat, j ≤ 3 ∧ i + 1 + j ≤ K ∧ K ≤ i + 1 + j ∧ K ≤ s.size ∧ N ≤ 1000 ∧ u = .int .i64 N ∧ v = .int .i64 K ∧ Hid (N = valN 10 (t.take j)) ∧ Hid (j ≤ spanN digB t) ∧ Hid (j = 1 → N ≤ 9) ∧ Hid (j = 2 → N ≤ 99)) (fun _ v => s.size - (intOf v).toNat)
            case atStart => exact ⟨0, i + 1, 0, by omega, by omega, by omega, by omega, by omega, rfl, by go_num, rfl, Nat.zero_le _, fun h => by omega, fun h => by omega⟩
            case round =>
              obtain ⟨j, K, N, hj, hK1, hK2, hKs, hN, rfl, rfl, HN, HJ, HN1, HN2⟩ := hrel
              have hKe : K = i + 1 + j := by omega
              by_cases hgo : ∃ h : K < s.size, j < 3 ∧ digB (s[K]'h) = true
              · obtain ⟨hlt2, hj3, hdg⟩ := hgo
                have hxt : t[j]? = some (s[K]'hlt2) := by subst hKe; exact HAT.out j hlt2
                obtain ⟨x, hx⟩ : ∃ x, s[K]'hlt2 = x := ⟨_, rfl⟩
                rw [hx] at hxt hdg
                obtain ⟨v1, v2, v3⟩ := hexV_dig hdg
                have HD := Lib.hid (HDG.out x)
                rw [hdg] at HD
                have HS : Hid (N * 10 + (x.toNat - 48) = valN 10 (t.take (j + 1))) := by
                  show _ = _
                  have hjl : j < t.length := (List.getElem?_eq_some_iff.1 hxt).1
                  have hxe : t[j] = x := (List.getElem?_eq_some_iff.1 hxt).2
                  rw [List.take_succ_eq_append_getElem hjl, valN_snoc, hxe, v1, ← HN.out]
                have HJ2 := Lib.hid (span_go HJ.out hxt hdg)
                have bl : decide ((K : Int) < (i : Int) + 4) = true := by simp; omega
                have q1 := HN1.out
                have q2 := HN2.out
                have q0 : j = 0 → N = 0 := fun h => by rw [HN.out, h]; rfl
                have hNn : N * 10 + (x.toNat - 48) ≤ 1000 := by omega
                have hn1 : Hid (j + 1 = 1 → N * 10 + (x.toNat - 48) ≤ 9) := fun h => by have := q0 (by omega); omega
                have hn2 : Hid (j + 1 = 2 → N * 10 + (x.toNat - 48) ≤ 99) := fun h => by have := q1 (by omega); omega
                have w48 : (48 : Int) ≤ (x.toNat : Int) := by omega
                have w57 : (x.toNat : Int) ≤ 57 := by omega
                clear hxt hdg v1 q0 q1 q2 hKe HED HEN
                go_wp2_with (first | (go_at_call 60; (with_reducible refine (HD.out _).mono ?_); rintro e w1 ⟨rfl, rfl⟩))
                refine ⟨⟨j + 1, K + 1, N * 10 + (x.toNat - 48), by omega, by omega, by omega, by omega, hNn, ?_, by go_num, HS.out, HJ2.out, hn1.out, hn2.out⟩, by simp [intOf]; omega⟩
                congr 1; omega
              · -- the loop ends
                have hexit : s.size ≤ K ∨ (K < s.size ∧ 3 ≤ j) ∨ (j < 3 ∧ ∃ h : K < s.size, digB (s[K]'h) = false) := by
                  by_cases h1 : K < s.size
                  · by_cases h2 : j < 3
                    · refine .inr (.inr ⟨h2, h1, ?_⟩)
                      cases hd : digB (s[K]'h1)
                      · rfl
                      · exact absurd ⟨h1, h2, hd⟩ hgo
                    · exact .inr (.inl ⟨h1, by omega⟩)
                  · exact .inl (by omega)
                have hsp : min (spanN digB t) 3 = j := by
                  have h0 := HJ.out
                  rcases hexit with h | h | ⟨h2, h3, h4⟩
                  · have := spanN_le digB t; omega
                  · omega
                  · have : spanN digB t = j := span_hit h0 (fun d hd => by
                      have h5 : t[j]? = some (s[K]'h3) := by subst hKe; exact HAT.out j h3
                      rw [h5] at hd; cases hd; exact h4)
                    omega
                have hres : (j = 0 ∧ escT t = (4, 0, 0)) ∨ (0 < j ∧ 255 < N ∧ escT t = (6, 0, 0)) ∨ (0 < j ∧ N ≤ 255 ∧ escT t = (0, N, j)) := by
                  cases hd : digB c
                  · have hz := span_hit (p := digB) (l := t) (j := 0) (Nat.zero_le _) (fun d hd' => by rw [HT0.out] at hd'; cases hd'; exact hd)
                    exact .inl ⟨by omega, HEN.out hd⟩
                  · have hz := span_go (p := digB) (l := t) (j := 0) (Nat.zero_le _) HT0.out hd
                    have h1 := HED.out hd
                    rw [hsp, ← HN.out] at h1
                    by_cases h255 : 255 < N
                    · rw [if_pos h255] at h1; exact .inr (.inl ⟨by omega, h255, h1⟩)
                    · rw [if_neg h255] at h1; exact .inr (.inr ⟨by omega, by omega, h1⟩)
                clear hgo hsp HED HEN HAT HT0
                have HEX := Lib.hid hexit
                clear hexit
                rcases hres with ⟨rfl, h⟩ | ⟨h0, h1, h⟩ | ⟨h0, h1, h⟩
                · have HE := Lib.hid (escV_err (s := s) (i := i) h (by decide))
                  clear h
                  have bk : ((K : Int) == (i : Int) + 1) = true := by simp; omega
                  have bl : decide ((K : Int) < (i : Int) + 4) = true := by simp; omega
                  clear hKe
                  rcases HEX.out with h | ⟨-, h⟩ | ⟨h2, h3, h4⟩
                  · omega
                  · omega
                  · have HD := Lib.hid (HDG.out (s[K]'h3))
                    rw [h4] at HD
                    clear h4
                    go_wp2_with (first | (go_at_call 60; (with_reducible refine (HD.out _).mono ?_); rintro e w1 ⟨rfl, rfl⟩))
                    go_returns
                    exact ⟨by rw [HE.out]; rfl, Below.refl _ _⟩
                · have HE := Lib.hid (escV_err (s := s) (i := i) h (by decide))
                  have bk : ((K : Int) == (i : Int) + 1) = false := by rw [beq_eq_false_iff_ne]; omega
                  have bn : decide (255 < (N : Int)) = true := by simp; omega
                  clear h hKe
                  rcases HEX.out with h | ⟨h, h2⟩ | ⟨h2, h3, h4⟩
                  · go_wp2_with fail
                    go_returns
                    exact ⟨by rw [HE.out]; rfl, Below.refl _ _⟩
                  · have bl : decide ((K : Int) < (i : Int) + 4) = false := by simp; omega
                    go_wp2_with fail
                    go_returns
                    exact ⟨by rw [HE.out]; rfl, Below.refl _ _⟩
                  · have HD := Lib.hid (HDG.out (s[K]'h3))
                    rw [h4] at HD
                    have bl : decide ((K : Int) < (i : Int) + 4) = true := by simp; omega
                    clear h4
                    go_wp2_with (first | (go_at_call 60; (with_reducible refine (HD.out _).mono ?_); rintro e w1 ⟨rfl, rfl⟩))
                    go_returns
                    exact ⟨by rw [HE.out]; rfl, Below.refl _ _⟩
                · have HE := Lib.hid (escV_ok (s := s) (i := i) h)
                  rw [← hKe] at HE
                  have bk : ((K : Int) == (i : Int) + 1) = false := by rw [beq_eq_false_iff_ne]; omega
                  have bn : decide (255 < (N : Int)) = false := by simp; omega
                  clear h hKe
                  rcases HEX.out with h | ⟨h, h2⟩ | ⟨h2, h3, h4⟩
                  · go_wp2_with fail
                    go_returns
                    exact ⟨by rw [HE.out]; rfl, Below.refl _ _⟩
                  · have bl : decide ((K : Int) < (i : Int) + 4) = false := by simp; omega
                    go_wp2_with fail
                    go_returns
                    exact ⟨by rw [HE.out]; rfl, Below.refl _ _⟩
                  · have HD := Lib.hid (HDG.out (s[K]'h3))
                    rw [h4] at HD
                    have bl : decide ((K : Int) < (i : Int) + 4) = true := by simp; omega
                    clear h4
                    go_wp2_with (first | (go_at_call 60; (with_reducible refine (HD.out _).mono ?_); rintro e w1 ⟨rfl, rfl⟩))
                    go_returns
                    exact ⟨by rw [HE.out]; rfl, Below.refl _ _⟩
  · have he1 : decide ((s.size : Int) ≤ (i : Int) + 1) = true := by simp; omega
    have HE := Lib.hid (escV_err (s := s) (i := i) (esc_end s i (by omega)) (by decide))
    go_enter Tryz.func88, Tryz.ntmps88
    go_wp2
    go_returns
    exact ⟨by rw [HE.out]; rfl, Below.refl _ _⟩
end Go.Proofs.YtemlijadhdejeaaGreatDoor

/- The reference's literals. -/
namespace Go.Proofs.YtemlijadhdejeaaGreatDoor
open Go.RowKit Go.Instr
set_option linter.unusedVariables false

/-- What the reference's literal hands back. -/
def litV (i : Nat) (r : TokR) : Value := if r.e = 0 then .tuple #[.string (mkS r.x), .int .i64 ((i + r.n : Nat) : Int), .int .i64 0] else .tuple #[.string ⟨#[]⟩, .int .i64 0, .int .i64 r.e]
theorem litV_err {i : Nat} {r : TokR} {e : Int} (h : r = errR e) (he : e ≠ 0) : litV i r = .tuple #[.string ⟨#[]⟩, .int .i64 0, .int .i64 e] := by
  subst h; unfold litV errR; rw [if_neg he]
theorem litV_ok {i k n : Nat} {r : TokR} {x : List UInt8} (h : r = ⟨0, 4, x, n⟩) (hk : i + n = k) : litV i r = .tuple #[.string (mkS x), .int .i64 (k : Int), .int .i64 0] := by
  subst h hk; rfl

set_option maxHeartbeats 8000000 in
set_option maxRecDepth 100000 in
theorem r3lit_any (s : ByteArray) (i : Nat) (w : World) (hi : i < s.size) (hs : s.size ≤ 1000000) (hq : (s[i]'hi).toNat ≠ 10) :
    Calls Tryz.prog 62 #[.string s, .int .i64 i] w fun e w' => e = .returned (litV i (stringT (s[i]'hi) (s.data.toList.drop (i + 1)))) ∧ Below w.heap.size w w' := by
  obtain ⟨i0, hi1, hz0, hz1, hz2⟩ := info_parts byte_info
  obtain ⟨q, hqe⟩ : ∃ q, s[i]'hi = q := ⟨_, rfl⟩
  rw [hqe] at hq ⊢
  go_enter Tryz.func62, Tryz.ntmps62
  go_wp2_with fail
  go_loopw [7, 8] (fun v u wr => ∃ (acc : List UInt8) (j : Nat), j ≤ s.size ∧ u = .int .i64 j ∧ Hid (Buf w w.heap.size 5 v (u8s acc) wr) ∧ Hid (acc = [] → v = .slice none 0 0) ∧ Hid (LitAt s i q acc j)) (fun _ u _ => s.size - (intOf u).toNat)
  case atStart =>
    refine ⟨[], i + 1, by omega, by go_num, Buf.nil _ _ _ _ (Below.refl _ _) (Nat.le_refl _), fun _ => rfl, ⟨Nat.le_refl _, by simp, ?_⟩⟩
    rw [Nat.sub_self, List.length_nil, litC_nil _ (litT_form _ _ _)]
  case round =>
    obtain ⟨acc, j, hj, rfl, HB, HN, HL⟩ := hrel
    obtain ⟨hj1, hal, hlit⟩ := HL.out
    obtain ⟨a, cap, hsh⟩ := HB.out.form
    rw [u8s_len] at hsh
    subst hsh
    have hsz := HB.out.2.2
    have HBB : Hid (Below w.heap.size w wr) := HB.out.2.1
    have hul : (u8s acc).length = acc.length := u8s_len acc
    by_cases hlt : j < s.size
    · have hdr := drop_get s j hlt
      obtain ⟨c, hc⟩ : ∃ c, s[j]'hlt = c := ⟨_, rfl⟩
      rw [hc] at hdr
      rw [hdr] at hlit
      have hlit2 := HL.out
      by_cases h10 : c.toNat = 10
      · have HE := Lib.hid (litV_err (i := i) (r := stringT q (s.data.toList.drop (i + 1))) (e := 4) (str_err (acc := acc) (d := j - (i + 1)) (by rw [hlit, litT_nl h10]) (by decide)) (by decide))
        have b10 : ((c.toNat : Int) != 10) = false := by simp; omega
        clear hlit hdr hlit2 h10
        go_wp2_with fail
        go_returns
        exact ⟨by rw [HE.out]; rfl, HBB.out⟩
      · have b10 : ((c.toNat : Int) != 10) = true := by simp; omega
        by_cases hcq : c = q
        · have HE := Lib.hid (litV_ok (i := i) (k := j + 1) (n := j - (i + 1) + 2) (r := stringT q (s.data.toList.drop (i + 1))) (x := acc) (str_ok (by rw [hlit, hcq, litT_end hq])) (by omega))
          have bq : ((c.toNat : Int) == (q.toNat : Int)) = true := by rw [hcq]; simp
          have hcv := fun n => (HB.out.later (below_drewN (Below.refl wr.heap.size wr) n)).str HN.out 52 9 Tryz.underlying52 Tryz.underlying5 Tryz.underlying9
          clear hlit hdr hlit2 h10 hcq
          go_wp2_with fail
          go_quiet (fail)
          go_wp2_with fail
          go_returns
          exact ⟨by rw [HE.out]; go_num, by have h0 := HBB.out; (repeat' (first | (with_reducible exact Below.refl _ _) | (with_reducible assumption) | (with_reducible refine Below.alloc ?_ ?_ _) | (with_reducible refine below_drewN ?_ _) | (with_reducible refine Below.drew ?_) | (with_reducible refine Below.setCell ?_ ?_ _) | (with_reducible refine below_via (by assumption) ?_ ?_) | (with_reducible refine below_via (later_below _) ?_ ?_) | (with_reducible exact Nat.le_refl _) | omega | (simp; omega) | (simp; done)))⟩
        · have bq : ((c.toNat : Int) == (q.toNat : Int)) = false := by
            simp only [beq_eq_false_iff_ne, ne_eq, Int.natCast_inj]
            exact fun e => hcq (UInt8.toNat_inj.1 e)
          by_cases h92 : c.toNat = 92
          · have b92 : ((c.toNat : Int) == 92) = true := by simp; omega
            have hES := fun w' => r3esc_any s j w' hlt hs
            have hbyte := escT_byte (s.data.toList.drop (j + 1))
            have hkle := escT_le (s.data.toList.drop (j + 1))
            have hlE := litT_esc (t := s.data.toList.drop (j + 1)) (n := acc.length) h92 hcq
            obtain ⟨⟨E, B, K⟩, hx⟩ : ∃ x, escT (s.data.toList.drop (j + 1)) = x := ⟨_, rfl⟩
            rw [hx] at hbyte hkle hlE
            dsimp only at hbyte hkle hlE
            simp at hkle
            by_cases hE0 : E = 0
            · subst hE0
              rw [if_pos rfl] at hlE
              have HES : Hid (∀ w', Calls Tryz.prog 88 #[.string s, .int .i64 j] w' fun e w'' => e = .returned (.tuple #[.int .u8 B, .int .i64 ((j : Int) + 1 + (K : Int)), .int .i64 0]) ∧ Below w'.heap.size w' w'') := fun w' => by
                have h0 := hES w'
                rw [escV_ok hx] at h0
                have e1 : ((j + 1 + K : Nat) : Int) = (j : Int) + 1 + (K : Int) := by omega
                rw [e1] at h0
                exact h0
              by_cases hfull : acc.length = 4096
              · rw [if_pos hfull] at hlE
                have HE := Lib.hid (litV_err (i := i) (r := stringT q (s.data.toList.drop (i + 1))) (e := 3) (str_err (acc := acc) (d := j - (i + 1)) (by rw [hlit, hlE]) (by decide)) (by decide))
                have bl : decide ((4096 : Int) ≤ (acc.length : Int)) = true := by rw [decide_eq_true_eq]; omega
                clear hlit hdr hlit2 h10 hcq h92 hES hx hlE hfull
                go_wp2_with fail
                go_quiet (fail)
                go_wp2_with (first | (go_at_call 88; (with_reducible refine (HES.out _).mono ?_); rintro e w8 ⟨rfl, hb8⟩))
                go_returns
                exact ⟨by rw [HE.out]; rfl, by have h0 := HBB.out; have h1 := h0.size; refine Below.trans ?_ (hb8.mono (by simp; omega)); (repeat' (first | (with_reducible exact Below.refl _ _) | (with_reducible assumption) | (with_reducible refine Below.alloc ?_ ?_ _) | (with_reducible refine below_drewN ?_ _) | (with_reducible refine Below.drew ?_) | (with_reducible refine Below.setCell ?_ ?_ _) | (with_reducible refine below_via (by assumption) ?_ ?_) | (with_reducible refine below_via (later_below _) ?_ ?_) | (with_reducible exact Nat.le_refl _) | omega | (simp; omega) | (simp; done)))⟩
              · rw [if_neg hfull] at hlE
                have HST : Hid (LitAt s i q (acc ++ [UInt8.ofNat B]) (j + (1 + K))) := by
                  refine LitAt.step hlit2 ?_ hfull
                  rw [hdr, hlE, List.drop_drop, Nat.add_assoc]
                have bl : decide ((4096 : Int) ≤ (acc.length : Int)) = false := by rw [decide_eq_false_iff_not]; omega
                have HBY : Hid (u8s (acc ++ [UInt8.ofNat B]) = u8s acc ++ [.int .u8 B]) := by
                  show _ = _
                  rw [u8s_app]
                  congr 1
                  show [Value.int .u8 ((UInt8.ofNat B).toNat : Int)] = _
                  congr 2; simp; omega
                have hal2 : acc.length < 4096 := by omega
                obtain ⟨xs, hxs⟩ : ∃ xs, u8s acc = xs := ⟨_, rfl⟩
                rw [hxs] at HB HBY hul
                clear hlit hdr hlit2 h10 hcq h92 hES hx hlE hfull hxs
                go_wp2_with fail
                go_quiet (fail)
                go_wp2_with (first | (go_at_call 88; (with_reducible refine (HES.out _).mono ?_); rintro e w8 ⟨rfl, hb8⟩; have HB2 := Lib.hid (HB.out.later ((by have h1 := hsz; (repeat' (first | (with_reducible exact Below.refl _ _) | (with_reducible assumption) | (with_reducible refine Below.alloc ?_ ?_ _) | (with_reducible refine below_drewN ?_ _) | (with_reducible refine Below.drew ?_) | (with_reducible refine Below.setCell ?_ ?_ _) | (with_reducible refine below_via (by assumption) ?_ ?_) | (with_reducible refine below_via (later_below _) ?_ ?_) | (with_reducible exact Nat.le_refl _) | omega | (simp; omega) | (simp; done))) : Below wr.heap.size wr _).trans (hb8.mono (by simp)))); clear hb8) | (at_builtin; refine wp_lit rfl _ _ 52 rfl 5 i0 (.int .u8 0) 1 Tryz.underlying52 hi1 hz0 hz1 hz2 rfl w w.heap.size _ xs HB2.out rfl ?_ ?_ ?_ ?_ ?_; (focus exact ⟨_, _, rfl, by first | rfl | simp⟩); (focus (simp [Value.oneCell'])); (focus (unfold maxLen; (try simp); omega)); (focus ((try simp); omega)); intro v' w' hb'))
                refine ⟨⟨acc ++ [UInt8.ofNat B], j + (1 + K), by omega, by first | go_num | (simp; omega), ?_, ?_, HST.out⟩, by simp [intOf]; omega⟩
                · show Buf _ _ _ _ _ _
                  exact hb'.eq HBY.out.symm
                · show _ → _
                  intro h0; simp at h0
            · rw [if_neg hE0] at hlE
              have HE := Lib.hid (litV_err (i := i) (r := stringT q (s.data.toList.drop (i + 1))) (e := E) (str_err (acc := acc) (d := j - (i + 1)) (by rw [hlit, hlE]) hE0) hE0)
              have hbk : B = 0 ∧ K = 0 := by
                have := escT_form (s.data.toList.drop (j + 1))
                rw [hx] at this
                exact this hE0
              obtain ⟨rfl, rfl⟩ := hbk
              have HES : Hid (∀ w', Calls Tryz.prog 88 #[.string s, .int .i64 j] w' fun e w'' => e = .returned (.tuple #[.int .u8 0, .int .i64 0, .int .i64 E]) ∧ Below w'.heap.size w' w'') := fun w' => by
                have h0 := hES w'
                rw [escV_err hx hE0] at h0
                exact h0
              have bE : (E != 0) = true := by simp; exact hE0
              clear hlit hdr hlit2 h10 hcq h92 hES hx hlE hE0
              go_wp2_with fail
              go_quiet (fail)
              go_wp2_with (first | (go_at_call 88; (with_reducible refine (HES.out _).mono ?_); rintro e w8 ⟨rfl, hb8⟩))
              go_returns
              exact ⟨by rw [HE.out]; rfl, by have h0 := HBB.out; have h1 := h0.size; refine Below.trans ?_ (hb8.mono (by simp; omega)); (repeat' (first | (with_reducible exact Below.refl _ _) | (with_reducible assumption) | (with_reducible refine Below.alloc ?_ ?_ _) | (with_reducible refine below_drewN ?_ _) | (with_reducible refine Below.drew ?_) | (with_reducible refine Below.setCell ?_ ?_ _) | (with_reducible refine below_via (by assumption) ?_ ?_) | (with_reducible refine below_via (later_below _) ?_ ?_) | (with_reducible exact Nat.le_refl _) | omega | (simp; omega) | (simp; done)))⟩
          · have b92 : ((c.toNat : Int) == 92) = false := by simp; omega
            have hlE := litT_any (t := s.data.toList.drop (j + 1)) (n := acc.length) h10 hcq h92
            by_cases hfull : acc.length = 4096
            · rw [if_pos hfull] at hlE
              have HE := Lib.hid (litV_err (i := i) (r := stringT q (s.data.toList.drop (i + 1))) (e := 3) (str_err (acc := acc) (d := j - (i + 1)) (by rw [hlit, hlE]) (by decide)) (by decide))
              have bl : decide ((4096 : Int) ≤ (acc.length : Int)) = true := by rw [decide_eq_true_eq]; omega
              clear hlit hdr hlit2 h10 hcq h92 hlE hfull
              go_wp2_with fail
              go_quiet (fail)
              go_wp2_with fail
              go_returns
              exact ⟨by rw [HE.out]; rfl, by have h0 := HBB.out; (repeat' (first | (with_reducible exact Below.refl _ _) | (with_reducible assumption) | (with_reducible refine Below.alloc ?_ ?_ _) | (with_reducible refine below_drewN ?_ _) | (with_reducible refine Below.drew ?_) | (with_reducible refine Below.setCell ?_ ?_ _) | (with_reducible refine below_via (by assumption) ?_ ?_) | (with_reducible refine below_via (later_below _) ?_ ?_) | (with_reducible exact Nat.le_refl _) | omega | (simp; omega) | (simp; done)))⟩
            · rw [if_neg hfull] at hlE
              have HST : Hid (LitAt s i q (acc ++ [c]) (j + 1)) := by
                refine LitAt.step hlit2 ?_ hfull
                rw [hdr, hlE]
              have bl : decide ((4096 : Int) ≤ (acc.length : Int)) = false := by rw [decide_eq_false_iff_not]; omega
              have HBY : Hid (u8s (acc ++ [c]) = u8s acc ++ [.int .u8 c.toNat]) := by show _ = _; rw [u8s_app]; rfl
              have hal2 : acc.length < 4096 := by omega
              obtain ⟨xs, hxs⟩ : ∃ xs, u8s acc = xs := ⟨_, rfl⟩
              rw [hxs] at HB HBY hul
              have HBd := Lib.hid (fun n => HB.out.later (below_drewN (Below.refl wr.heap.size wr) n))
              clear hlit hdr hlit2 h10 hcq h92 hlE hfull hxs
              go_wp2_with fail
              go_quiet (fail)
              go_wp2_with (first | (at_builtin; refine wp_lit rfl _ _ 52 rfl 5 i0 (.int .u8 0) 1 Tryz.underlying52 hi1 hz0 hz1 hz2 rfl w w.heap.size _ xs (HBd.out _) rfl ?_ ?_ ?_ ?_ ?_; (focus exact ⟨_, _, rfl, by first | rfl | simp⟩); (focus (simp [Value.oneCell'])); (focus (unfold maxLen; (try simp); omega)); (focus ((try simp); omega)); intro v' w' hb'))
              refine ⟨⟨acc ++ [c], j + 1, by omega, by go_num, ?_, ?_, HST.out⟩, by simp [intOf]; omega⟩
              · show Buf _ _ _ _ _ _
                exact hb'.eq HBY.out.symm
              · show _ → _
                intro h0; simp at h0
    · have HE : Hid (litV i (stringT q (s.data.toList.drop (i + 1))) = .tuple #[.string ⟨#[]⟩, .int .i64 0, .int .i64 4]) := by
        refine litV_err (str_err (acc := acc) (d := j - (i + 1)) ?_ (by decide)) (by decide)
        have hnil : s.data.toList.drop j = [] := List.drop_eq_nil_of_le (by simp; omega)
        rw [hlit, hnil, litT_nil]
      clear hlit
      go_wp2_with fail
      go_returns
      exact ⟨by rw [HE.out]; rfl, HBB.out⟩
end Go.Proofs.YtemlijadhdejeaaGreatDoor
