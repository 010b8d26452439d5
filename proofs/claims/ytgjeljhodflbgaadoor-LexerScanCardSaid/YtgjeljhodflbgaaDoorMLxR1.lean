/- The reference's hexadecimal digits, gaps and symbols. -/
import Derived.Test.YtgjeljhodflbgaaDoorMLxN
import Derived.Test.YtgjeljhodflbgaaDoorMLxW4
import Derived.Test.YtgjeljhodflbgaaDoorMLxW12
namespace Go.Proofs.YtgjeljhodflbgaaDoor
open Go.RowKit Go.Instr
set_option linter.unusedVariables false

/-- The value of a hexadecimal digit, or -1. -/
def hexI (c : UInt8) : Int := if hexB c then (hexV c : Int) else -1
theorem hexB_of (c : UInt8) : hexB c = (decide (48 ≤ c.toNat) && decide (c.toNat ≤ 57) || (decide (97 ≤ c.toNat) && decide (c.toNat ≤ 102) || decide (65 ≤ c.toNat) && decide (c.toNat ≤ 70))) := rfl
set_option maxHeartbeats 1000000 in
theorem r3hex_any (c : UInt8) (w : World) : Calls Tryd.prog 92 #[.int .u8 c.toNat] w fun e w' => e = .returned (.int .i64 (hexI c)) ∧ w = w' := by
  have HD := Lib.hid (r3digit_any c)
  have hc0 := UInt8.toNat_lt c
  have hall : (48 ≤ c.toNat ∧ c.toNat ≤ 57) ∨ (97 ≤ c.toNat ∧ c.toNat ≤ 102) ∨ (65 ≤ c.toNat ∧ c.toNat ≤ 70) ∨ (c.toNat < 65 ∧ ¬ (48 ≤ c.toNat ∧ c.toNat ≤ 57)) ∨ (70 < c.toNat ∧ c.toNat < 97) ∨ 102 < c.toNat := by omega
  rcases hall with h | h | h | h | h | h
  · have HR : Hid (hexI c = (c.toNat : Int) - 48) := by show _ = _; unfold hexI; rw [show hexB c = true by rw [hexB_of]; simp; omega]; simp [hexV]; (try split) <;> (try split) <;> omega
    have hd : digB c = true := by unfold digB; simp; omega
    rw [hd] at HD
    rw [HR.out]
    go_enter Tryd.func92, Tryd.ntmps92
    go_wp2_with (first | (go_at_call 33; (with_reducible refine (HD.out _).mono ?_); rintro e w1 ⟨rfl, rfl⟩))
    go_returns
    exact ⟨ret_int (by omega), rfl⟩
  · have HR : Hid (hexI c = (c.toNat : Int) - 97 + 10) := by show _ = _; unfold hexI; rw [show hexB c = true by rw [hexB_of]; simp; omega]; simp [hexV]; (try split) <;> (try split) <;> omega
    have hd : digB c = false := by unfold digB; simp; omega
    rw [hd] at HD
    rw [HR.out]
    have d1 : decide ((97 : Int) ≤ (c.toNat : Int)) = true := by simp; omega
    have d2 : decide (((c.toNat : Nat) : Int) ≤ 102) = true := by simp; omega
    go_enter Tryd.func92, Tryd.ntmps92
    go_wp2_with (first | (go_at_call 33; (with_reducible refine (HD.out _).mono ?_); rintro e w1 ⟨rfl, rfl⟩))
    go_returns
    exact ⟨ret_int (by omega), rfl⟩
  · have HR : Hid (hexI c = (c.toNat : Int) - 65 + 10) := by show _ = _; unfold hexI; rw [show hexB c = true by rw [hexB_of]; simp; omega]; simp [hexV]; (try split) <;> (try split) <;> omega
    have hd : digB c = false := by unfold digB; simp; omega
    rw [hd] at HD
    rw [HR.out]
    have d1 : decide ((97 : Int) ≤ (c.toNat : Int)) = false := by simp; omega
    have d3 : decide ((65 : Int) ≤ (c.toNat : Int)) = true := by simp; omega
    have d4 : decide (((c.toNat : Nat) : Int) ≤ 70) = true := by simp; omega
    go_enter Tryd.func92, Tryd.ntmps92
    go_wp2_with (first | (go_at_call 33; (with_reducible refine (HD.out _).mono ?_); rintro e w1 ⟨rfl, rfl⟩))
    go_returns
    exact ⟨ret_int (by omega), rfl⟩
  · have HR : Hid (hexI c = -1) := by show _ = _; unfold hexI; rw [show hexB c = false by rw [hexB_of]; simp; omega]; rfl
    have hd : digB c = false := by unfold digB; simp; omega
    rw [hd] at HD
    rw [HR.out]
    have d1 : decide ((97 : Int) ≤ (c.toNat : Int)) = false := by simp; omega
    have d3 : decide ((65 : Int) ≤ (c.toNat : Int)) = false := by simp; omega
    go_enter Tryd.func92, Tryd.ntmps92
    go_wp2_with (first | (go_at_call 33; (with_reducible refine (HD.out _).mono ?_); rintro e w1 ⟨rfl, rfl⟩))
    go_returns
    exact ⟨rfl, rfl⟩
  · have HR : Hid (hexI c = -1) := by show _ = _; unfold hexI; rw [show hexB c = false by rw [hexB_of]; simp; omega]; rfl
    have hd : digB c = false := by unfold digB; simp; omega
    rw [hd] at HD
    rw [HR.out]
    have d1 : decide ((97 : Int) ≤ (c.toNat : Int)) = false := by simp; omega
    have d3 : decide ((65 : Int) ≤ (c.toNat : Int)) = true := by simp; omega
    have d4 : decide (((c.toNat : Nat) : Int) ≤ 70) = false := by simp; omega
    go_enter Tryd.func92, Tryd.ntmps92
    go_wp2_with (first | (go_at_call 33; (with_reducible refine (HD.out _).mono ?_); rintro e w1 ⟨rfl, rfl⟩))
    go_returns
    exact ⟨rfl, rfl⟩
  · have HR : Hid (hexI c = -1) := by show _ = _; unfold hexI; rw [show hexB c = false by rw [hexB_of]; simp; omega]; rfl
    have hd : digB c = false := by unfold digB; simp; omega
    rw [hd] at HD
    rw [HR.out]
    have d1 : decide ((97 : Int) ≤ (c.toNat : Int)) = true := by simp; omega
    have d2 : decide (((c.toNat : Nat) : Int) ≤ 102) = false := by simp; omega
    have d3 : decide ((65 : Int) ≤ (c.toNat : Int)) = true := by simp; omega
    have d4 : decide (((c.toNat : Nat) : Int) ≤ 70) = false := by simp; omega
    go_enter Tryd.func92, Tryd.ntmps92
    go_wp2_with (first | (go_at_call 33; (with_reducible refine (HD.out _).mono ?_); rintro e w1 ⟨rfl, rfl⟩))
    go_returns
    exact ⟨rfl, rfl⟩

set_option maxHeartbeats 8000000 in
set_option maxRecDepth 100000 in
theorem r3gap_any (s : ByteArray) (i : Nat) (w : World) (hi : i ≤ s.size) (hs : s.size ≤ 1000000) :
    Calls Tryd.prog 28 #[.string s, .int .i64 i] w fun e w' => e = .returned (.int .i64 (gapI s i)) ∧ w = w' := by
  go_enter Tryd.func28, Tryd.ntmps28
  go_wp2_with fail
  go_loop [1] (fun u => ∃ k : Nat, k ≤ s.size ∧ u = .int .i64 k ∧ Hid (gapI s k = gapI s i)) (fun u => s.size - (intOf u).toNat)
  case atStart => exact ⟨i, hi, rfl, rfl⟩
  case round =>
    obtain ⟨k, hk, rfl, HG⟩ := hrel
    by_cases hlt : k < s.size
    · have hnl := gap_nl (s := s) (ln := 0) hlt
      have hbl := gap_blank (s := s) (ln := 0) hlt
      have hrm := gap_rem (s := s) (ln := 0) hlt
      have hst := gap_stop (s := s) (ln := 0) hlt
      obtain ⟨c, hc⟩ : ∃ c, s[k]'hlt = c := ⟨_, rfl⟩
      rw [hc] at hnl hbl hrm hst
      have hc0 := UInt8.toNat_lt c
      by_cases hb : c.toNat = 32 ∨ c.toNat = 9 ∨ c.toNat = 10 ∨ c.toNat = 13
      · have HS : Hid (gapI s (k + 1) = gapI s i) := by
          show _ = _
          rw [← HG.out]
          by_cases h10 : c.toNat = 10
          · exact (hnl h10).1.symm
          · exact (hbl h10 (by unfold blkB; simp; omega)).1.symm
        clear hnl hbl hrm hst
        rcases hb with h | h | h | h
        · have b32 : ((c.toNat : Int) == 32) = true := by simp; omega
          clear h
          go_wp2_with fail
          refine ⟨⟨k + 1, by omega, by go_num, HS.out⟩, by simp [intOf]; omega⟩
        · have b32 : ((c.toNat : Int) == 32) = false := by simp; omega
          have b9 : ((c.toNat : Int) == 9) = true := by simp; omega
          clear h
          go_wp2_with fail
          refine ⟨⟨k + 1, by omega, by go_num, HS.out⟩, by simp [intOf]; omega⟩
        · have b32 : ((c.toNat : Int) == 32) = false := by simp; omega
          have b9 : ((c.toNat : Int) == 9) = false := by simp; omega
          have b10 : ((c.toNat : Int) == 10) = true := by simp; omega
          clear h
          go_wp2_with fail
          refine ⟨⟨k + 1, by omega, by go_num, HS.out⟩, by simp [intOf]; omega⟩
        · have b32 : ((c.toNat : Int) == 32) = false := by simp; omega
          have b9 : ((c.toNat : Int) == 9) = false := by simp; omega
          have b10 : ((c.toNat : Int) == 10) = false := by simp; omega
          have b13 : ((c.toNat : Int) == 13) = true := by simp; omega
          clear h
          go_wp2_with fail
          refine ⟨⟨k + 1, by omega, by go_num, HS.out⟩, by simp [intOf]; omega⟩
      · have b32 : ((c.toNat : Int) == 32) = false := by simp; omega
        have b9 : ((c.toNat : Int) == 9) = false := by simp; omega
        have b10 : ((c.toNat : Int) == 10) = false := by simp; omega
        have b13 : ((c.toNat : Int) == 13) = false := by simp; omega
        have hk0 : blkB c = false := by unfold blkB; simp; omega
        by_cases h45 : c.toNat = 45
        · have b45 : ((c.toNat : Int) == 45) = true := by simp; omega
          by_cases h1 : k + 1 < s.size
          · have bl : decide ((k : Int) + 1 < (s.size : Int)) = true := by simp; omega
            have hd1 : (s.data.toList.drop (k + 1)).head?.map UInt8.toNat = some (s[k + 1]'h1).toNat := by rw [drop_get s (k + 1) h1]; rfl
            obtain ⟨d, hd⟩ : ∃ d, s[k + 1]'h1 = d := ⟨_, rfl⟩
            rw [hd] at hd1
            rw [hd1] at hrm hst
            by_cases h452 : d.toNat = 45
            · have b452 : ((d.toNat : Int) == 45) = true := by simp; omega
              obtain ⟨hr1, -, hr2⟩ := hrm h45 (by rw [h452])
              have HR : Hid (gapI s (spanI notNl s k) = gapI s i) := by show _ = _; rw [← HG.out, hr1]
              have hsl := (spanI_le notNl s k hk).2
              clear hnl hbl hrm hst hd1 hb hk0 h45 h452 hr1
              go_wp2_with fail
              go_loop [1] (fun u => ∃ j : Nat, k ≤ j ∧ j ≤ s.size ∧ u = .int .i64 j ∧ Hid (spanI notNl s j = spanI notNl s k)) (fun u => s.size - (intOf u).toNat)
              case atStart => exact ⟨k, Nat.le_refl _, hk, rfl, rfl⟩
              case round =>
                obtain ⟨j, hkj, hj, rfl, HJ⟩ := hrel
                by_cases hlt2 : j < s.size
                · obtain ⟨x, hx⟩ : ∃ x, s[j]'hlt2 = x := ⟨_, rfl⟩
                  have hy := spanI_yes (p := notNl) hlt2
                  have hn := spanI_no (p := notNl) hlt2
                  rw [hx] at hy hn
                  by_cases h10 : x.toNat = 10
                  · have b : ((x.toNat : Int) != 10) = false := by simp; omega
                    have HE : Hid (spanI notNl s k = j) := by show _ = _; rw [← HJ.out]; exact hn (by unfold notNl; simp; omega)
                    clear hy hn h10
                    have e2 := HE.out
                    rw [HE.out] at hr2
                    go_wp2_with fail
                    refine ⟨⟨j, hj, rfl, by show _ = _; rw [← HR.out, HE.out]⟩, by simp [intOf]; omega⟩
                  · have b : ((x.toNat : Int) != 10) = true := by simp; omega
                    have HE : Hid (spanI notNl s (j + 1) = spanI notNl s k) := by show _ = _; rw [← HJ.out]; exact (hy (by unfold notNl; simp; omega)).symm
                    clear hy hn h10
                    go_wp2_with fail
                    refine ⟨⟨j + 1, by omega, by omega, by go_num, HE.out⟩, by simp [intOf]; omega⟩
                · have HE : Hid (spanI notNl s k = j) := by show _ = _; rw [← HJ.out]; exact spanI_end (by omega)
                  rw [HE.out] at hr2
                  go_wp2_with fail
                  refine ⟨⟨j, hj, rfl, by show _ = _; rw [← HR.out, HE.out]⟩, by simp [intOf]; omega⟩
            · have b452 : ((d.toNat : Int) == 45) = false := by simp; omega
              have HR : Hid (gapI s i = k) := by show _ = _; rw [← HG.out]; exact (hst (by omega) hk0 (by rintro ⟨-, h⟩; simp at h; omega)).1
              clear hnl hbl hrm hst hd1 hb hk0 h45 h452
              go_wp2_with fail
              go_returns
              exact ⟨ret_int (by rw [HR.out]), rfl⟩
          · have bl : decide ((k : Int) + 1 < (s.size : Int)) = false := by simp; omega
            have HR : Hid (gapI s i = k) := by
              show _ = _
              rw [← HG.out]
              refine (hst (by omega) hk0 ?_).1
              rw [List.drop_eq_nil_of_le (by simp; omega)]
              rintro ⟨-, h⟩; simp at h
            clear hnl hbl hrm hst hb hk0 h45
            go_wp2_with fail
            go_returns
            exact ⟨ret_int (by rw [HR.out]), rfl⟩
        · have b45 : ((c.toNat : Int) == 45) = false := by simp; omega
          have HR : Hid (gapI s i = k) := by show _ = _; rw [← HG.out]; exact (hst (by omega) hk0 (by omega)).1
          clear hnl hbl hrm hst hb hk0 h45
          go_wp2_with fail
          go_returns
          exact ⟨ret_int (by rw [HR.out]), rfl⟩
    · have HR : Hid (gapI s i = k) := by show _ = _; rw [← HG.out]; exact (gap_end (ln := 0) (by omega)).1
      go_wp2_with fail
      go_returns
      exact ⟨ret_int (by rw [HR.out]), rfl⟩

def twos : List (List UInt8) := [ [47, 47], [60, 60], [62, 62], [61, 61], [126, 61], [60, 61], [62, 61], [58, 58], [46, 46] ]
def ones : List UInt8 := [43, 45, 42, 47, 37, 94, 35, 38, 124, 126, 60, 62, 61, 40, 41, 123, 125, 91, 93, 59, 58, 44, 46]
theorem pre_take {p r : List UInt8} : p.isPrefixOf r = decide (p.length ≤ r.length ∧ r.take p.length = p) := by
  rw [Bool.eq_iff_iff, List.isPrefixOf_iff_prefix, List.prefix_iff_eq_take, decide_eq_true_eq]
  constructor
  · intro h
    refine ⟨?_, h.symm⟩
    have := congrArg List.length h
    rw [List.length_take] at this
    omega
  · rintro ⟨-, h⟩; exact h.symm
theorem find_first {p : List UInt8 → Bool} {a b : List (List UInt8)} {x : List UInt8} (h : ∀ y ∈ a, p y = false) (hx : p x = true) : (a ++ x :: b).find? p = some x := by
  rw [List.find?_append, List.find?_eq_none.2 (fun y hy => by rw [h y hy]; simp)]
  simp [hx]
theorem syms_split : syms = [ [46, 46, 46] ] ++ (twos ++ ones.map fun c => [c]) := by decide
theorem sym3 {r : List UInt8} (h : r.take 3 = [46, 46, 46]) : (symbolT r).n = 3 := by
  have hl : 3 ≤ r.length := by have := congrArg List.length h; rw [List.length_take] at this; simp at this; omega
  unfold symbolT
  rw [syms_split, List.find?_append, List.find?_cons, pre_take, decide_eq_true (by exact ⟨hl, h⟩)]
  rfl
theorem pre3_no {r : List UInt8} (h : ¬ (3 ≤ r.length ∧ r.take 3 = [46, 46, 46])) : ([46, 46, 46] : List UInt8).isPrefixOf r = false := by
  rw [pre_take]; exact decide_eq_false h
theorem sym2 {r : List UInt8} (h3 : ¬ (3 ≤ r.length ∧ r.take 3 = [46, 46, 46])) (h2 : 2 ≤ r.length) (h : r.take 2 ∈ twos) : (symbolT r).n = 2 := by
  unfold symbolT
  rw [syms_split, List.find?_append, List.find?_cons, pre3_no h3]
  have hlen : ∀ t ∈ twos, t.length = 2 := by decide
  have hf : twos.find? (fun s => s.isPrefixOf r) = some (r.take 2) := by
    have : ∀ l : List (List UInt8), (∀ t ∈ l, t.length = 2) → r.take 2 ∈ l → l.find? (fun s => s.isPrefixOf r) = some (r.take 2) := by
      intro l
      induction l with
      | nil => intro _ h; cases h
      | cons t l ih =>
        intro hl hm
        rw [List.find?_cons]
        by_cases ht : t = r.take 2
        · have : t.isPrefixOf r = true := by rw [pre_take]; exact decide_eq_true ⟨by rw [hl t (List.mem_cons_self)]; exact h2, by rw [hl t (List.mem_cons_self), ht]⟩
          rw [this, ht]
        · have : t.isPrefixOf r = false := by
            rw [pre_take]
            refine decide_eq_false ?_
            rintro ⟨-, h⟩
            rw [hl t (List.mem_cons_self)] at h
            exact ht h.symm
          rw [this]
          exact ih (fun u hu => hl u (List.mem_cons_of_mem _ hu)) ((List.mem_cons.1 hm).resolve_left (fun e => ht e.symm))
    exact this twos hlen h
  rw [List.find?_nil, Option.none_or, List.find?_append, hf]
  simp; omega
theorem two_no {r : List UInt8} (h : ¬ (2 ≤ r.length ∧ r.take 2 ∈ twos)) : twos.find? (fun s => s.isPrefixOf r) = none := by
  rw [List.find?_eq_none]
  intro t ht
  have hlen : ∀ t ∈ twos, t.length = 2 := by decide
  rw [pre_take, hlen t ht]
  simp only [decide_eq_true_eq]
  rintro ⟨h1, h2⟩
  exact h ⟨h1, by rw [h2]; exact ht⟩
theorem sym1 {r : List UInt8} {c : UInt8} {t : List UInt8} (hr : r = c :: t) (h3 : ¬ (3 ≤ r.length ∧ r.take 3 = [46, 46, 46])) (h2 : ¬ (2 ≤ r.length ∧ r.take 2 ∈ twos)) : (symbolT r).n = if c ∈ ones then 1 else 0 := by
  unfold symbolT
  rw [syms_split, List.find?_append, List.find?_cons, pre3_no h3, List.find?_nil, Option.none_or, List.find?_append, two_no h2, Option.none_or]
  have hone : ∀ l : List UInt8, (l.map fun c => [c]).find? (fun s => s.isPrefixOf r) = if c ∈ l then some [c] else none := by
    intro l
    induction l with
    | nil => rfl
    | cons d l ih =>
      rw [List.map_cons, List.find?_cons, hr]
      by_cases hd : d = c
      · subst hd; simp
      · have : ([d] : List UInt8).isPrefixOf (c :: t) = false := by rw [pre_take]; exact decide_eq_false (by rintro ⟨-, h⟩; simp at h; exact hd h.symm)
        rw [this, ← hr, ih]
        have : (c ∈ d :: l) ↔ (c ∈ l) := by rw [List.mem_cons]; exact ⟨fun h => h.resolve_left (fun e => hd e.symm), .inr⟩
        simp only [this]
  rw [hone]
  by_cases hm : c ∈ ones <;> simp [hm, errR]
theorem sym0 : (symbolT []).n = 0 := by decide

theorem ext_list (s : ByteArray) (k : Nat) : (s.extract 0 k).toList = s.data.toList.take k := by rw [Lib.toList_data, Lib.extract_data]; simp
theorem ones_no {c : UInt8} (h : c ∉ ones) : ((c.toNat : Int) == 43) = false ∧ ((c.toNat : Int) == 45) = false ∧ ((c.toNat : Int) == 42) = false ∧ ((c.toNat : Int) == 47) = false ∧ ((c.toNat : Int) == 37) = false ∧ ((c.toNat : Int) == 94) = false ∧ ((c.toNat : Int) == 35) = false ∧ ((c.toNat : Int) == 38) = false ∧ ((c.toNat : Int) == 124) = false ∧ ((c.toNat : Int) == 126) = false ∧ ((c.toNat : Int) == 60) = false ∧ ((c.toNat : Int) == 62) = false ∧ ((c.toNat : Int) == 61) = false ∧ ((c.toNat : Int) == 40) = false ∧ ((c.toNat : Int) == 41) = false ∧ ((c.toNat : Int) == 123) = false ∧ ((c.toNat : Int) == 125) = false ∧ ((c.toNat : Int) == 91) = false ∧ ((c.toNat : Int) == 93) = false ∧ ((c.toNat : Int) == 59) = false ∧ ((c.toNat : Int) == 58) = false ∧ ((c.toNat : Int) == 44) = false ∧ ((c.toNat : Int) == 46) = false := by
  unfold ones at h
  simp only [List.mem_cons, List.not_mem_nil, or_false, not_or] at h
  have e : ∀ n : UInt8, ¬ c = n → ((c.toNat : Int) == (n.toNat : Int)) = false := fun n hn => by
    rw [beq_eq_false_iff_ne]
    intro h0
    exact hn (UInt8.toNat_inj.1 (by omega))
  obtain ⟨h0, h1, h2, h3, h4, h5, h6, h7, h8, h9, h10, h11, h12, h13, h14, h15, h16, h17, h18, h19, h20, h21, h22⟩ := h
  exact ⟨e _ h0, e _ h1, e _ h2, e _ h3, e _ h4, e _ h5, e _ h6, e _ h7, e _ h8, e _ h9, e _ h10, e _ h11, e _ h12, e _ h13, e _ h14, e _ h15, e _ h16, e _ h17, e _ h18, e _ h19, e _ h20, e _ h21, e _ h22⟩

set_option maxHeartbeats 8000000 in
theorem r3sym_3 (s : ByteArray) (w : World) (hK : 3 ≤ s.size) : Calls Tryd.prog 54 #[.string s] w fun e w' => e = .returned (.int .i64 ((symbolT s.data.toList).n : Int)) ∧ w = w' := by
  have hln := size_len s
  have hpos : 0 < s.size := by omega
  have d1 : decide ((1 : Int) ≤ (s.size : Int)) = true := by simp; omega
  have d3 : decide ((3 : Int) ≤ (s.size : Int)) = true := by simp; omega
  have d2 : decide ((2 : Int) ≤ (s.size : Int)) = true := by simp; omega
  by_cases h3 : s.data.toList.take 3 = [46, 46, 46]
  · have HR := Lib.hid (sym3 h3)
    have e3 : (s.extract 0 3).toList = [46, 46, 46] := by rw [ext_list]; exact h3
    clear h3 hln
    go_enter Tryd.func54, Tryd.ntmps54
    go_wp2
    go_returns
    exact ⟨by rw [HR.out]; rfl, rfl⟩
  have hn3 : ¬ (3 ≤ s.data.toList.length ∧ s.data.toList.take 3 = [46, 46, 46]) := fun h => h3 h.2
  have e3 : ((s.extract 0 3).toList == [46, 46, 46]) = false := by rw [ext_list]; simpa using h3
  clear h3
  by_cases h2 : s.data.toList.take 2 ∈ twos
  · have HR := Lib.hid (sym2 hn3 (by omega) h2)
    have e2 := ext_list s 2
    obtain ⟨L, hL⟩ : ∃ L, s.data.toList.take 2 = L := ⟨_, rfl⟩
    rw [hL] at h2 e2
    clear hL hn3 hln
    unfold twos at h2
    simp only [List.mem_cons, List.not_mem_nil, or_false] at h2
    rcases h2 with rfl | rfl | rfl | rfl | rfl | rfl | rfl | rfl | rfl
    all_goals
      go_enter Tryd.func54, Tryd.ntmps54
      go_wp2
      go_returns
      exact ⟨by rw [HR.out]; rfl, rfl⟩
  have hn2 : ¬ (2 ≤ s.data.toList.length ∧ s.data.toList.take 2 ∈ twos) := fun h => h2 h.2
  rw [← ext_list] at h2
  unfold twos at h2
  simp only [List.mem_cons, List.not_mem_nil, or_false, not_or, ← beq_eq_false_iff_ne] at h2
  obtain ⟨k0, k1, k2, k3, k4, k5, k6, k7, k8⟩ := h2
  have hcons := drop_all s hpos
  have HS := Lib.hid (sym1 hcons hn3 hn2)
  obtain ⟨c, hc⟩ : ∃ c, s[0]'hpos = c := ⟨_, rfl⟩
  rw [hc] at HS
  clear hcons hn3 hn2 hln
  by_cases hm : c ∈ ones
  · have HR := Lib.hid HS.out
    rw [if_pos hm] at HR
    clear HS
    unfold ones at hm
    simp only [List.mem_cons, List.not_mem_nil, or_false] at hm
    rcases hm with rfl | rfl | rfl | rfl | rfl | rfl | rfl | rfl | rfl | rfl | rfl | rfl | rfl | rfl | rfl | rfl | rfl | rfl | rfl | rfl | rfl | rfl | rfl
    all_goals
      go_enter Tryd.func54, Tryd.ntmps54
      go_wp2
      go_returns
      exact ⟨by rw [HR.out]; rfl, rfl⟩
  · have HR := Lib.hid HS.out
    rw [if_neg hm] at HR
    obtain ⟨b0, b1, b2, b3, b4, b5, b6, b7, b8, b9, b10, b11, b12, b13, b14, b15, b16, b17, b18, b19, b20, b21, b22⟩ := ones_no hm
    clear HS hm
    go_enter Tryd.func54, Tryd.ntmps54
    go_wp2
    go_returns
    exact ⟨by rw [HR.out]; rfl, rfl⟩

set_option maxHeartbeats 8000000 in
theorem r3sym_2 (s : ByteArray) (w : World) (hK : s.size = 2) : Calls Tryd.prog 54 #[.string s] w fun e w' => e = .returned (.int .i64 ((symbolT s.data.toList).n : Int)) ∧ w = w' := by
  have hln := size_len s
  have hpos : 0 < s.size := by omega
  have d1 : decide ((1 : Int) ≤ (s.size : Int)) = true := by simp; omega
  have d3 : decide ((3 : Int) ≤ (s.size : Int)) = false := by simp; omega
  have d2 : decide ((2 : Int) ≤ (s.size : Int)) = true := by simp; omega
  have hn3 : ¬ (3 ≤ s.data.toList.length ∧ s.data.toList.take 3 = [46, 46, 46]) := fun h => by omega
  by_cases h2 : s.data.toList.take 2 ∈ twos
  · have HR := Lib.hid (sym2 hn3 (by omega) h2)
    have e2 := ext_list s 2
    obtain ⟨L, hL⟩ : ∃ L, s.data.toList.take 2 = L := ⟨_, rfl⟩
    rw [hL] at h2 e2
    clear hL hn3 hln
    unfold twos at h2
    simp only [List.mem_cons, List.not_mem_nil, or_false] at h2
    rcases h2 with rfl | rfl | rfl | rfl | rfl | rfl | rfl | rfl | rfl
    all_goals
      go_enter Tryd.func54, Tryd.ntmps54
      go_wp2
      go_returns
      exact ⟨by rw [HR.out]; rfl, rfl⟩
  have hn2 : ¬ (2 ≤ s.data.toList.length ∧ s.data.toList.take 2 ∈ twos) := fun h => h2 h.2
  rw [← ext_list] at h2
  unfold twos at h2
  simp only [List.mem_cons, List.not_mem_nil, or_false, not_or, ← beq_eq_false_iff_ne] at h2
  obtain ⟨k0, k1, k2, k3, k4, k5, k6, k7, k8⟩ := h2
  have hcons := drop_all s hpos
  have HS := Lib.hid (sym1 hcons hn3 hn2)
  obtain ⟨c, hc⟩ : ∃ c, s[0]'hpos = c := ⟨_, rfl⟩
  rw [hc] at HS
  clear hcons hn3 hn2 hln
  by_cases hm : c ∈ ones
  · have HR := Lib.hid HS.out
    rw [if_pos hm] at HR
    clear HS
    unfold ones at hm
    simp only [List.mem_cons, List.not_mem_nil, or_false] at hm
    rcases hm with rfl | rfl | rfl | rfl | rfl | rfl | rfl | rfl | rfl | rfl | rfl | rfl | rfl | rfl | rfl | rfl | rfl | rfl | rfl | rfl | rfl | rfl | rfl
    all_goals
      go_enter Tryd.func54, Tryd.ntmps54
      go_wp2
      go_returns
      exact ⟨by rw [HR.out]; rfl, rfl⟩
  · have HR := Lib.hid HS.out
    rw [if_neg hm] at HR
    obtain ⟨b0, b1, b2, b3, b4, b5, b6, b7, b8, b9, b10, b11, b12, b13, b14, b15, b16, b17, b18, b19, b20, b21, b22⟩ := ones_no hm
    clear HS hm
    go_enter Tryd.func54, Tryd.ntmps54
    go_wp2
    go_returns
    exact ⟨by rw [HR.out]; rfl, rfl⟩

set_option maxHeartbeats 8000000 in
theorem r3sym_1 (s : ByteArray) (w : World) (hK : s.size = 1) : Calls Tryd.prog 54 #[.string s] w fun e w' => e = .returned (.int .i64 ((symbolT s.data.toList).n : Int)) ∧ w = w' := by
  have hln := size_len s
  have hpos : 0 < s.size := by omega
  have d1 : decide ((1 : Int) ≤ (s.size : Int)) = true := by simp; omega
  have d3 : decide ((3 : Int) ≤ (s.size : Int)) = false := by simp; omega
  have d2 : decide ((2 : Int) ≤ (s.size : Int)) = false := by simp; omega
  have hn3 : ¬ (3 ≤ s.data.toList.length ∧ s.data.toList.take 3 = [46, 46, 46]) := fun h => by omega
  have hn2 : ¬ (2 ≤ s.data.toList.length ∧ s.data.toList.take 2 ∈ twos) := fun h => by omega
  have hcons := drop_all s hpos
  have HS := Lib.hid (sym1 hcons hn3 hn2)
  obtain ⟨c, hc⟩ : ∃ c, s[0]'hpos = c := ⟨_, rfl⟩
  rw [hc] at HS
  clear hcons hn3 hn2 hln
  by_cases hm : c ∈ ones
  · have HR := Lib.hid HS.out
    rw [if_pos hm] at HR
    clear HS
    unfold ones at hm
    simp only [List.mem_cons, List.not_mem_nil, or_false] at hm
    rcases hm with rfl | rfl | rfl | rfl | rfl | rfl | rfl | rfl | rfl | rfl | rfl | rfl | rfl | rfl | rfl | rfl | rfl | rfl | rfl | rfl | rfl | rfl | rfl
    all_goals
      go_enter Tryd.func54, Tryd.ntmps54
      go_wp2
      go_returns
      exact ⟨by rw [HR.out]; rfl, rfl⟩
  · have HR := Lib.hid HS.out
    rw [if_neg hm] at HR
    obtain ⟨b0, b1, b2, b3, b4, b5, b6, b7, b8, b9, b10, b11, b12, b13, b14, b15, b16, b17, b18, b19, b20, b21, b22⟩ := ones_no hm
    clear HS hm
    go_enter Tryd.func54, Tryd.ntmps54
    go_wp2
    go_returns
    exact ⟨by rw [HR.out]; rfl, rfl⟩
theorem r3sym_any (s : ByteArray) (w : World) : Calls Tryd.prog 54 #[.string s] w fun e w' => e = .returned (.int .i64 ((symbolT s.data.toList).n : Int)) ∧ w = w' := by
  by_cases h3 : 3 ≤ s.size
  · exact r3sym_3 s w h3
  · by_cases h2 : s.size = 2
    · exact r3sym_2 s w h2
    · by_cases h1 : s.size = 1
      · exact r3sym_1 s w h1
      · obtain rfl := byte_empty (show s.size = 0 by omega)
        clear h1 h2 h3
        rw [show (symbolT (⟨#[]⟩ : ByteArray).data.toList).n = 0 from sym0]
        go_enter Tryd.func54, Tryd.ntmps54
        go_wp2
        go_returns
        exact ⟨rfl, rfl⟩
end Go.Proofs.YtgjeljhodflbgaaDoor
