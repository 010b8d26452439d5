/- The program's checkStat: the error of a single statement, as a panic. -/
import Derived.Test.YtplphejillkdeaaGreatDoorMTrC3
import Derived.Test.YtplphejillkdeaaGreatDoorMTrN
import Derived.Test.YtplphejillkdeaaGreatDoorMTrDp
namespace Go.Proofs.YtplphejillkdeaaGreatDoor
open Go.RowKit Go.Instr
set_option linter.unusedVariables false

theorem need_yes (e : Int) (w : World) : Calls Tryz.prog 76 #[.bool true, .int .i64 e] w fun r w' => r = .returned (.tuple #[]) ∧ w' = w :=
  (need_any true e w).mono fun r w' h => ⟨by rcases h.1 with h1 | h1; exact h1.2; exact absurd h1.1 (by simp), h.2⟩
theorem need_no (e : Int) (w : World) : Calls Tryz.prog 76 #[.bool false, .int .i64 e] w fun r w' => r = .panicked (faultP e) ∧ w' = w :=
  (need_any false e w).mono fun r w' h => ⟨by rcases h.1 with h1 | h1; exact absurd h1.1 (by simp); exact h1.2, h.2⟩
theorem any_no {α : Type} {p : α → Bool} {l : List α} (h : ∀ i (hi : i < l.length), p l[i] = false) : l.any p = false := by
  rw [List.any_eq_false]
  intro x hx
  obtain ⟨i, hi, rfl⟩ := List.mem_iff_getElem.1 hx
  rw [h i hi]
  simp
def longN (x : ByteArray × Int) : Bool := decide (40 < x.1.size)
def badN (x : ByteArray × Int) : Bool := !nameB x.1.data.toList
/-- The error of a statement alone. -/
def csE (s : TS) (last : Bool) : Int :=
  if 40 < s.label.size then 3
  else if s.names.any longN = true then 3
  else if (decide (0 ≤ s.ln) && fsB s last) = false then 4
  else if ((s.k == 13 || s.k == 14) && !nameB s.label.data.toList) = true then 9
  else if s.names.any badN = true then 9 else 0

set_option maxHeartbeats 3200000 in
set_option maxRecDepth 100000 in
theorem checkStat_any (y : TB) (k : Nat) (hk : k < y.l.length) (w : World) (hin : InB w w.heap.size y) :
    Calls Tryz.prog 52 #[y.v, .int .i64 k] w (PE (.tuple #[]) (csE y.l[k] ((k : Int) == (y.l.length : Int) - 1)) w) := by
  have HIN := Lib.hid hin
  obtain ⟨i1, i2, -⟩ := hin.ss.1
  have hnB : (y.l.length : Int) ≤ 9223372036854775807 := by omega
  obtain ⟨b0, o0, haA, hb0, hc0, hs0⟩ := hin.ss.at_ hk
  obtain ⟨s, hs⟩ : ∃ s, y.l[k] = s := ⟨_, rfl⟩
  rw [hs] at hc0 hs0 ⊢
  obtain ⟨c0, c1, c2, c3, c4, c5, c6⟩ := hc0
  have HS := Lib.hid hs0
  have hlab := ((inS_iff s).1 hs0).1.bl
  have g1 := ((inS_iff s).1 hs0).1.ni.1
  have g2 := ((inS_iff s).1 hs0).1.ni.2.1
  have hnN : (s.names.length : Int) ≤ 9223372036854775807 := by omega
  obtain ⟨L, hL⟩ : ∃ b, ((k : Int) == (y.l.length : Int) - 1) = b := ⟨_, rfl⟩
  rw [hL]
  obtain ⟨E, hE⟩ : ∃ e, csE s L = e := ⟨_, rfl⟩
  rw [hE]
  unfold csE at hE
  clear hin hs hs0
  show Calls Tryz.prog _ #[.slice y.a y.l.length y.c, .int .i64 k] w _
  rw [haA]
  by_cases h40 : 40 < s.label.size
  · rw [if_pos h40] at hE
    subst hE
    have d1 : decide ((s.label.size : Int) ≤ 40) = false := by simp; omega
    clear hL HIN HS
    go_enter Tryz.func52, Tryz.ntmps52
    go_wp2_with (first | (go_at_call 76; (with_reducible refine (need_no _ _).mono ?_); rintro e w1 ⟨rfl, rfl⟩))
    refine ⟨rfl, .inr ⟨by decide, rfl⟩, ?_⟩
    show Below _ _ _
    (repeat' (first | (with_reducible exact Below.refl _ _) | (with_reducible assumption) | (with_reducible refine Below.alloc ?_ ?_ _) | (with_reducible refine below_drewN ?_ _) | (with_reducible refine Below.drew ?_) | (with_reducible refine Below.setCell ?_ ?_ _) | (with_reducible refine below_via (by assumption) ?_ ?_) | (with_reducible refine below_via (later_below _) ?_ ?_) | (with_reducible exact Nat.le_refl _) | omega | (simp; omega) | (simp; done)))
  · rw [if_neg h40] at hE
    have d1 : decide ((s.label.size : Int) ≤ 40) = true := by simp; omega
    have HH := Lib.hid hE
    have HLL := Lib.hid hL
    have HV0 := Lib.hid (S7n.new s w 41)
    clear h40 hE hL
    obtain ⟨uN, huN⟩ : ∃ v, s.nA = v := ⟨_, rfl⟩
    go_enter Tryz.func52, Tryz.ntmps52
    go_wp2_with (first | (go_at_call 76; (with_reducible refine (need_yes _ _).mono ?_); rintro e w1 ⟨rfl, rfl⟩))
    go_loopw [21] (fun i wr => ∃ j : Nat, j ≤ s.names.length ∧ i = .int .i64 j ∧ Hid (Below w.heap.size w wr) ∧ Hid (S7n w.heap.size s wr) ∧ Hid (∀ i (hi : i < s.names.length), i < j → longN s.names[i] = false)) (fun i _ => s.names.length - (intOf i).toNat)
    case atStart => exact ⟨0, Nat.zero_le _, rfl, by show Below _ _ _; (repeat' (first | (with_reducible exact Below.refl _ _) | (with_reducible assumption) | (with_reducible refine Below.alloc ?_ ?_ _) | (with_reducible refine below_drewN ?_ _) | (with_reducible refine Below.drew ?_) | (with_reducible refine Below.setCell ?_ ?_ _) | (with_reducible refine below_via (by assumption) ?_ ?_) | (with_reducible refine below_via (later_below _) ?_ ?_) | (with_reducible exact Nat.le_refl _) | omega | (simp; omega) | (simp; done))), (by rw [← huN]; exact HV0.out), fun i _ h => by omega⟩
    case round =>
      obtain ⟨j, hj, rfl, HE, HV, HP⟩ := hrel
      obtain ⟨e0, e1, e2, e3, e4, e5, e6⟩ := HV.out
      have hzr := cell_lt e6
      by_cases hlt : j < s.names.length
      · rcases (((inS_iff s).1 HS.out).1.nAt) with h0 | ⟨b, o, hnA, hb, hc⟩
        · omega
        rw [huN] at hnA
        subst hnA
        rw [huN] at e2
        have hck := l2_still (still_of HE.out (Nat.le_refl _)) _ _ _ hb (hc j hlt)
        obtain ⟨x, hx⟩ : ∃ x, s.names[j] = x := ⟨_, rfl⟩
        have HX := Lib.hid hx
        rw [hx] at hck
        obtain ⟨n0, n1⟩ := hck
        have hxs := (((inS_iff s).1 HS.out).1.ns _ (List.getElem_mem hlt)).1
        rw [hx] at hxs
        have hbl := cell_lt n0
        clear hx hc
        by_cases h41 : 40 < x.1.size
        · have d2 : decide ((x.1.size : Int) ≤ 40) = false := by simp; omega
          have hEE := HH.out
          rw [if_pos (List.any_eq_true.2 ⟨_, List.getElem_mem hlt, by rw [HX.out]; unfold longN; exact decide_eq_true h41⟩)] at hEE
          subst hEE
          clear HH
          go_wp2_with (first | (go_at_call 76; (with_reducible refine (need_no _ _).mono ?_); rintro e w1 ⟨rfl, rfl⟩))
          refine ⟨rfl, .inr ⟨by decide, rfl⟩, ?_⟩
          show Below _ _ _
          have h0 := HE.out
          (repeat' (first | (with_reducible exact Below.refl _ _) | (with_reducible assumption) | (with_reducible refine Below.alloc ?_ ?_ _) | (with_reducible refine below_drewN ?_ _) | (with_reducible refine Below.drew ?_) | (with_reducible refine Below.setCell ?_ ?_ _) | (with_reducible refine below_via (by assumption) ?_ ?_) | (with_reducible refine below_via (later_below _) ?_ ?_) | (with_reducible exact Nat.le_refl _) | omega | (simp; omega) | (simp; done)))
        · have d2 : decide ((x.1.size : Int) ≤ 40) = true := by simp; omega
          go_wp2_with (first | (go_at_call 76; (with_reducible refine (need_yes _ _).mono ?_); rintro e w1 ⟨rfl, rfl⟩))
          refine ⟨⟨j + 1, by omega, by go_num, ?_, ?_, ?_⟩, by simp [intOf]; omega⟩
          · show Below _ _ _; have h0 := HE.out; (repeat' (first | (with_reducible exact Below.refl _ _) | (with_reducible assumption) | (with_reducible refine Below.alloc ?_ ?_ _) | (with_reducible refine below_drewN ?_ _) | (with_reducible refine Below.drew ?_) | (with_reducible refine Below.setCell ?_ ?_ _) | (with_reducible refine below_via (by assumption) ?_ ?_) | (with_reducible refine below_via (later_below _) ?_ ?_) | (with_reducible exact Nat.le_refl _) | omega | (simp; omega) | (simp; done)))
          · exact HV.out.kept (kept_of (a := 0) (b := 0) (by (repeat' (first | (with_reducible exact Below.refl _ _) | (with_reducible assumption) | (with_reducible refine Below.alloc ?_ ?_ _) | (with_reducible refine below_drewN ?_ _) | (with_reducible refine Below.drew ?_) | (with_reducible refine Below.setCell ?_ ?_ _) | (with_reducible refine below_via (by assumption) ?_ ?_) | (with_reducible refine below_via (later_below _) ?_ ?_) | (with_reducible exact Nat.le_refl _) | omega | (simp; omega) | (simp; done)))) (Nat.zero_le _)) (Nat.zero_le _)
          · intro i hi hij
            by_cases h : i = j
            · subst h; rw [HX.out]; unfold longN; exact decide_eq_false h41
            · exact HP.out i hi (by omega)
      · obtain rfl : j = s.names.length := by omega
        have hany : s.names.any longN = false := any_no fun i hi => HP.out i hi hi
        have hEE := HH.out
        rw [if_neg (by rw [hany]; simp)] at hEE
        have hL := HLL.out
        obtain ⟨F, hF⟩ : ∃ b, fsB s L = b := ⟨_, rfl⟩
        have HF : Hid (∀ W, Below w.heap.size w W → Calls Tryz.prog 77 #[s.v, .bool L] W fun e W' => e = .returned (.bool F) ∧ Below W.heap.size W W') := fun W hW => hF ▸ formStat_any s L W (HS.out.still (still_of hW (Nat.le_refl _)) hW.size)
        rw [hF] at hEE
        simp only [TS.v, huN] at HF
        rw [huN] at e2
        clear hF HH HP hany
        by_cases h5 : 0 ≤ s.ln
        · have d5 : decide (0 ≤ s.ln) = true := decide_eq_true h5
          rw [d5, Bool.true_and] at hEE
          cases F with
          | false =>
            rw [if_pos rfl] at hEE
            subst hEE
            go_wp2_with (first | (go_at_call 77; (with_reducible refine (HF.out _ ?_).mono ?_); (focus (have h0 := HE.out; (repeat' (first | (with_reducible exact Below.refl _ _) | (with_reducible assumption) | (with_reducible refine Below.alloc ?_ ?_ _) | (with_reducible refine below_drewN ?_ _) | (with_reducible refine Below.drew ?_) | (with_reducible refine Below.setCell ?_ ?_ _) | (with_reducible refine below_via (by assumption) ?_ ?_) | (with_reducible refine below_via (later_below _) ?_ ?_) | (with_reducible exact Nat.le_refl _) | omega | (simp; omega) | (simp; done))))); rintro e w2 ⟨rfl, hb⟩; (refine mem hb ?_; intro N hN hz hc hf; (try simp at hN); subst hN)) | (go_at_call 76; (with_reducible refine (need_no _ _).mono ?_); rintro e w1 ⟨rfl, rfl⟩))
            refine ⟨rfl, .inr ⟨by decide, rfl⟩, ?_⟩
            show Below _ _ _
            have h0 := HE.out
            (repeat' (first | (with_reducible exact Below.refl _ _) | (with_reducible assumption) | (with_reducible refine Below.alloc ?_ ?_ _) | (with_reducible refine below_drewN ?_ _) | (with_reducible refine Below.drew ?_) | (with_reducible refine Below.setCell ?_ ?_ _) | (with_reducible refine below_via (by assumption) ?_ ?_) | (with_reducible refine below_via (later_below _) ?_ ?_) | (with_reducible exact Nat.le_refl _) | omega | (simp; omega) | (simp; done)))
          | true =>
            rw [if_neg (by simp)] at hEE
            cases h13 : (s.k == 13) with
            | true =>
              rw [h13] at hEE
              rw [Bool.true_or, Bool.true_and] at hEE
              obtain ⟨q, hq⟩ : ∃ q, nameB s.label.data.toList = q := ⟨_, rfl⟩
              have HM : Hid (∀ W, Calls Tryz.prog 6 #[.string s.label] W fun e W' => e = .returned (.bool q) ∧ Below W.heap.size W W') := fun W => hq ▸ name_any s.label W hlab
              rw [hq] at hEE
              clear hq
              cases q with
              | false =>
                rw [Bool.not_false, if_pos rfl] at hEE
                subst hEE
                go_wp2_with (first | (go_at_call 77; (with_reducible refine (HF.out _ ?_).mono ?_); (focus (have h0 := HE.out; (repeat' (first | (with_reducible exact Below.refl _ _) | (with_reducible assumption) | (with_reducible refine Below.alloc ?_ ?_ _) | (with_reducible refine below_drewN ?_ _) | (with_reducible refine Below.drew ?_) | (with_reducible refine Below.setCell ?_ ?_ _) | (with_reducible refine below_via (by assumption) ?_ ?_) | (with_reducible refine below_via (later_below _) ?_ ?_) | (with_reducible exact Nat.le_refl _) | omega | (simp; omega) | (simp; done))))); rintro e w2 ⟨rfl, hb⟩; (refine mem hb ?_; intro N hN hz hc hf; (try simp at hN); subst hN)) | (go_at_call 6; (with_reducible refine (HM.out _).mono ?_); rintro e w3 ⟨rfl, hb⟩; (refine mem hb ?_; intro N hN hz hc hf; (try simp at hN); subst hN)) | (go_at_call 76; first | ((with_reducible refine (need_yes _ _).mono ?_); rintro e w1 ⟨rfl, rfl⟩) | ((with_reducible refine (need_no _ _).mono ?_); rintro e w1 ⟨rfl, rfl⟩)) | (go_at_call 76; (with_reducible refine (need_no _ _).mono ?_); rintro e w1 ⟨rfl, rfl⟩))
                refine ⟨rfl, .inr ⟨by decide, rfl⟩, ?_⟩
                show Below _ _ _
                have h0 := HE.out
                (repeat' (first | (with_reducible exact Below.refl _ _) | (with_reducible assumption) | (with_reducible refine Below.alloc ?_ ?_ _) | (with_reducible refine below_drewN ?_ _) | (with_reducible refine Below.drew ?_) | (with_reducible refine Below.setCell ?_ ?_ _) | (with_reducible refine below_via (by assumption) ?_ ?_) | (with_reducible refine below_via (later_below _) ?_ ?_) | (with_reducible exact Nat.le_refl _) | omega | (simp; omega) | (simp; done)))
              | true =>
                rw [Bool.not_true, if_neg (by simp)] at hEE
                have HH2 := Lib.hid hEE
                clear hEE
                go_wp2_with (first | (go_at_call 77; (with_reducible refine (HF.out _ ?_).mono ?_); (focus (have h0 := HE.out; (repeat' (first | (with_reducible exact Below.refl _ _) | (with_reducible assumption) | (with_reducible refine Below.alloc ?_ ?_ _) | (with_reducible refine below_drewN ?_ _) | (with_reducible refine Below.drew ?_) | (with_reducible refine Below.setCell ?_ ?_ _) | (with_reducible refine below_via (by assumption) ?_ ?_) | (with_reducible refine below_via (later_below _) ?_ ?_) | (with_reducible exact Nat.le_refl _) | omega | (simp; omega) | (simp; done))))); rintro e w2 ⟨rfl, hb⟩; (refine mem hb ?_; intro N hN hz hc hf; (try simp at hN); subst hN)) | (go_at_call 6; (with_reducible refine (HM.out _).mono ?_); rintro e w3 ⟨rfl, hb⟩; (refine mem hb ?_; intro N hN hz hc hf; (try simp at hN); subst hN)) | (go_at_call 76; (with_reducible refine (need_yes _ _).mono ?_); rintro e w1 ⟨rfl, rfl⟩))
                go_loopw [59] (fun i wr => ∃ j : Nat, j ≤ s.names.length ∧ i = .int .i64 j ∧ Hid (Below w.heap.size w wr) ∧ Hid (∀ i (hi : i < s.names.length), i < j → badN s.names[i] = false)) (fun i _ => s.names.length - (intOf i).toNat)
                case atStart => exact ⟨0, Nat.zero_le _, rfl, by show Below _ _ _; have h0 := HE.out; (repeat' (first | (with_reducible exact Below.refl _ _) | (with_reducible assumption) | (with_reducible refine Below.alloc ?_ ?_ _) | (with_reducible refine below_drewN ?_ _) | (with_reducible refine Below.drew ?_) | (with_reducible refine Below.setCell ?_ ?_ _) | (with_reducible refine below_via (by assumption) ?_ ?_) | (with_reducible refine below_via (later_below _) ?_ ?_) | (with_reducible exact Nat.le_refl _) | omega | (simp; omega) | (simp; done))), fun i _ h => by omega⟩
                case round =>
                  clear e0 e1 e2 e3 e4 e5 e6 hzr
                  obtain ⟨j, hj, rfl, HE2, HP⟩ := hrel
                  by_cases hlt : j < s.names.length
                  · rcases (((inS_iff s).1 HS.out).1.nAt) with h0 | ⟨b, o, hnA, hb, hc⟩
                    · omega
                    rw [huN] at hnA
                    subst hnA
                    have hck := l2_still (still_of HE2.out (Nat.le_refl _)) _ _ _ hb (hc j hlt)
                    obtain ⟨x, hx⟩ : ∃ x, s.names[j] = x := ⟨_, rfl⟩
                    have HX := Lib.hid hx
                    rw [hx] at hck
                    obtain ⟨n0, n1⟩ := hck
                    have hxs := (((inS_iff s).1 HS.out).1.ns _ (List.getElem_mem hlt)).1
                    rw [hx] at hxs
                    have hbl := cell_lt n0
                    obtain ⟨q, hq⟩ : ∃ q, nameB x.1.data.toList = q := ⟨_, rfl⟩
                    have HM2 : Hid (∀ W, Calls Tryz.prog 6 #[.string x.1] W fun e W' => e = .returned (.bool q) ∧ Below W.heap.size W W') := fun W => hq ▸ name_any x.1 W hxs
                    have HQ := Lib.hid hq
                    clear hx hc hq hb
                    cases q with
                    | false =>
                      have hEE := HH2.out
                      rw [if_pos (List.any_eq_true.2 ⟨_, List.getElem_mem hlt, by rw [HX.out]; unfold badN; rw [HQ.out]; rfl⟩)] at hEE
                      subst hEE
                      clear HH2
                      go_wp2_with (first | (go_at_call 6; (with_reducible refine (HM2.out _).mono ?_); rintro e w3 ⟨rfl, hb⟩; (refine mem hb ?_; intro N hN hz hc hf; (try simp at hN); subst hN)) | (go_at_call 76; (with_reducible refine (need_no _ _).mono ?_); rintro e w1 ⟨rfl, rfl⟩))
                      refine ⟨rfl, .inr ⟨by decide, rfl⟩, ?_⟩
                      show Below _ _ _
                      have h0 := HE2.out
                      have hs0 := h0.size
                      (repeat' (first | (with_reducible exact Below.refl _ _) | (with_reducible assumption) | (with_reducible refine Below.alloc ?_ ?_ _) | (with_reducible refine below_drewN ?_ _) | (with_reducible refine Below.drew ?_) | (with_reducible refine Below.setCell ?_ ?_ _) | (with_reducible refine below_via (by assumption) ?_ ?_) | (with_reducible refine below_via (later_below _) ?_ ?_) | (with_reducible exact Nat.le_refl _) | omega | (simp; omega) | (simp; done)))
                    | true =>
                      go_wp2_with (first | (go_at_call 6; (with_reducible refine (HM2.out _).mono ?_); rintro e w3 ⟨rfl, hb⟩; (refine mem hb ?_; intro N hN hz hc hf; (try simp at hN); subst hN)) | (go_at_call 76; (with_reducible refine (need_yes _ _).mono ?_); rintro e w1 ⟨rfl, rfl⟩))
                      refine ⟨⟨j + 1, by omega, by go_num, ?_, ?_⟩, by simp [intOf]; omega⟩
                      · show Below _ _ _; have h0 := HE2.out; have hs0 := h0.size; (repeat' (first | (with_reducible exact Below.refl _ _) | (with_reducible assumption) | (with_reducible refine Below.alloc ?_ ?_ _) | (with_reducible refine below_drewN ?_ _) | (with_reducible refine Below.drew ?_) | (with_reducible refine Below.setCell ?_ ?_ _) | (with_reducible refine below_via (by assumption) ?_ ?_) | (with_reducible refine below_via (later_below _) ?_ ?_) | (with_reducible exact Nat.le_refl _) | omega | (simp; omega) | (simp; done)))
                      · intro i hi hij
                        by_cases h : i = j
                        · subst h; rw [HX.out]; unfold badN; rw [HQ.out]; rfl
                        · exact HP.out i hi (by omega)
                  · obtain rfl : j = s.names.length := by omega
                    have hany : s.names.any badN = false := any_no fun i hi => HP.out i hi hi
                    have hEE := HH2.out
                    rw [if_neg (by rw [hany]; simp)] at hEE
                    subst hEE
                    clear HH2
                    go_wp2_with fail
                    go_end0
                    exact ⟨.inl ⟨rfl, rfl⟩, HE2.out⟩
            | false =>
              cases h14 : (s.k == 14) with
              | true =>
                rw [h13, h14] at hEE
                rw [Bool.false_or, Bool.true_and] at hEE
                obtain ⟨q, hq⟩ : ∃ q, nameB s.label.data.toList = q := ⟨_, rfl⟩
                have HM : Hid (∀ W, Calls Tryz.prog 6 #[.string s.label] W fun e W' => e = .returned (.bool q) ∧ Below W.heap.size W W') := fun W => hq ▸ name_any s.label W hlab
                rw [hq] at hEE
                clear hq
                cases q with
                | false =>
                  rw [Bool.not_false, if_pos rfl] at hEE
                  subst hEE
                  go_wp2_with (first | (go_at_call 77; (with_reducible refine (HF.out _ ?_).mono ?_); (focus (have h0 := HE.out; (repeat' (first | (with_reducible exact Below.refl _ _) | (with_reducible assumption) | (with_reducible refine Below.alloc ?_ ?_ _) | (with_reducible refine below_drewN ?_ _) | (with_reducible refine Below.drew ?_) | (with_reducible refine Below.setCell ?_ ?_ _) | (with_reducible refine below_via (by assumption) ?_ ?_) | (with_reducible refine below_via (later_below _) ?_ ?_) | (with_reducible exact Nat.le_refl _) | omega | (simp; omega) | (simp; done))))); rintro e w2 ⟨rfl, hb⟩; (refine mem hb ?_; intro N hN hz hc hf; (try simp at hN); subst hN)) | (go_at_call 6; (with_reducible refine (HM.out _).mono ?_); rintro e w3 ⟨rfl, hb⟩; (refine mem hb ?_; intro N hN hz hc hf; (try simp at hN); subst hN)) | (go_at_call 76; first | ((with_reducible refine (need_yes _ _).mono ?_); rintro e w1 ⟨rfl, rfl⟩) | ((with_reducible refine (need_no _ _).mono ?_); rintro e w1 ⟨rfl, rfl⟩)) | (go_at_call 76; (with_reducible refine (need_no _ _).mono ?_); rintro e w1 ⟨rfl, rfl⟩))
                  refine ⟨rfl, .inr ⟨by decide, rfl⟩, ?_⟩
                  show Below _ _ _
                  have h0 := HE.out
                  (repeat' (first | (with_reducible exact Below.refl _ _) | (with_reducible assumption) | (with_reducible refine Below.alloc ?_ ?_ _) | (with_reducible refine below_drewN ?_ _) | (with_reducible refine Below.drew ?_) | (with_reducible refine Below.setCell ?_ ?_ _) | (with_reducible refine below_via (by assumption) ?_ ?_) | (with_reducible refine below_via (later_below _) ?_ ?_) | (with_reducible exact Nat.le_refl _) | omega | (simp; omega) | (simp; done)))
                | true =>
                  rw [Bool.not_true, if_neg (by simp)] at hEE
                  have HH2 := Lib.hid hEE
                  clear hEE
                  go_wp2_with (first | (go_at_call 77; (with_reducible refine (HF.out _ ?_).mono ?_); (focus (have h0 := HE.out; (repeat' (first | (with_reducible exact Below.refl _ _) | (with_reducible assumption) | (with_reducible refine Below.alloc ?_ ?_ _) | (with_reducible refine below_drewN ?_ _) | (with_reducible refine Below.drew ?_) | (with_reducible refine Below.setCell ?_ ?_ _) | (with_reducible refine below_via (by assumption) ?_ ?_) | (with_reducible refine below_via (later_below _) ?_ ?_) | (with_reducible exact Nat.le_refl _) | omega | (simp; omega) | (simp; done))))); rintro e w2 ⟨rfl, hb⟩; (refine mem hb ?_; intro N hN hz hc hf; (try simp at hN); subst hN)) | (go_at_call 6; (with_reducible refine (HM.out _).mono ?_); rintro e w3 ⟨rfl, hb⟩; (refine mem hb ?_; intro N hN hz hc hf; (try simp at hN); subst hN)) | (go_at_call 76; (with_reducible refine (need_yes _ _).mono ?_); rintro e w1 ⟨rfl, rfl⟩))
                  go_loopw [59] (fun i wr => ∃ j : Nat, j ≤ s.names.length ∧ i = .int .i64 j ∧ Hid (Below w.heap.size w wr) ∧ Hid (∀ i (hi : i < s.names.length), i < j → badN s.names[i] = false)) (fun i _ => s.names.length - (intOf i).toNat)
                  case atStart => exact ⟨0, Nat.zero_le _, rfl, by show Below _ _ _; have h0 := HE.out; (repeat' (first | (with_reducible exact Below.refl _ _) | (with_reducible assumption) | (with_reducible refine Below.alloc ?_ ?_ _) | (with_reducible refine below_drewN ?_ _) | (with_reducible refine Below.drew ?_) | (with_reducible refine Below.setCell ?_ ?_ _) | (with_reducible refine below_via (by assumption) ?_ ?_) | (with_reducible refine below_via (later_below _) ?_ ?_) | (with_reducible exact Nat.le_refl _) | omega | (simp; omega) | (simp; done))), fun i _ h => by omega⟩
                  case round =>
                    clear e0 e1 e2 e3 e4 e5 e6 hzr
                    obtain ⟨j, hj, rfl, HE2, HP⟩ := hrel
                    by_cases hlt : j < s.names.length
                    · rcases (((inS_iff s).1 HS.out).1.nAt) with h0 | ⟨b, o, hnA, hb, hc⟩
                      · omega
                      rw [huN] at hnA
                      subst hnA
                      have hck := l2_still (still_of HE2.out (Nat.le_refl _)) _ _ _ hb (hc j hlt)
                      obtain ⟨x, hx⟩ : ∃ x, s.names[j] = x := ⟨_, rfl⟩
                      have HX := Lib.hid hx
                      rw [hx] at hck
                      obtain ⟨n0, n1⟩ := hck
                      have hxs := (((inS_iff s).1 HS.out).1.ns _ (List.getElem_mem hlt)).1
                      rw [hx] at hxs
                      have hbl := cell_lt n0
                      obtain ⟨q, hq⟩ : ∃ q, nameB x.1.data.toList = q := ⟨_, rfl⟩
                      have HM2 : Hid (∀ W, Calls Tryz.prog 6 #[.string x.1] W fun e W' => e = .returned (.bool q) ∧ Below W.heap.size W W') := fun W => hq ▸ name_any x.1 W hxs
                      have HQ := Lib.hid hq
                      clear hx hc hq hb
                      cases q with
                      | false =>
                        have hEE := HH2.out
                        rw [if_pos (List.any_eq_true.2 ⟨_, List.getElem_mem hlt, by rw [HX.out]; unfold badN; rw [HQ.out]; rfl⟩)] at hEE
                        subst hEE
                        clear HH2
                        go_wp2_with (first | (go_at_call 6; (with_reducible refine (HM2.out _).mono ?_); rintro e w3 ⟨rfl, hb⟩; (refine mem hb ?_; intro N hN hz hc hf; (try simp at hN); subst hN)) | (go_at_call 76; (with_reducible refine (need_no _ _).mono ?_); rintro e w1 ⟨rfl, rfl⟩))
                        refine ⟨rfl, .inr ⟨by decide, rfl⟩, ?_⟩
                        show Below _ _ _
                        have h0 := HE2.out
                        have hs0 := h0.size
                        (repeat' (first | (with_reducible exact Below.refl _ _) | (with_reducible assumption) | (with_reducible refine Below.alloc ?_ ?_ _) | (with_reducible refine below_drewN ?_ _) | (with_reducible refine Below.drew ?_) | (with_reducible refine Below.setCell ?_ ?_ _) | (with_reducible refine below_via (by assumption) ?_ ?_) | (with_reducible refine below_via (later_below _) ?_ ?_) | (with_reducible exact Nat.le_refl _) | omega | (simp; omega) | (simp; done)))
                      | true =>
                        go_wp2_with (first | (go_at_call 6; (with_reducible refine (HM2.out _).mono ?_); rintro e w3 ⟨rfl, hb⟩; (refine mem hb ?_; intro N hN hz hc hf; (try simp at hN); subst hN)) | (go_at_call 76; (with_reducible refine (need_yes _ _).mono ?_); rintro e w1 ⟨rfl, rfl⟩))
                        refine ⟨⟨j + 1, by omega, by go_num, ?_, ?_⟩, by simp [intOf]; omega⟩
                        · show Below _ _ _; have h0 := HE2.out; have hs0 := h0.size; (repeat' (first | (with_reducible exact Below.refl _ _) | (with_reducible assumption) | (with_reducible refine Below.alloc ?_ ?_ _) | (with_reducible refine below_drewN ?_ _) | (with_reducible refine Below.drew ?_) | (with_reducible refine Below.setCell ?_ ?_ _) | (with_reducible refine below_via (by assumption) ?_ ?_) | (with_reducible refine below_via (later_below _) ?_ ?_) | (with_reducible exact Nat.le_refl _) | omega | (simp; omega) | (simp; done)))
                        · intro i hi hij
                          by_cases h : i = j
                          · subst h; rw [HX.out]; unfold badN; rw [HQ.out]; rfl
                          · exact HP.out i hi (by omega)
                    · obtain rfl : j = s.names.length := by omega
                      have hany : s.names.any badN = false := any_no fun i hi => HP.out i hi hi
                      have hEE := HH2.out
                      rw [if_neg (by rw [hany]; simp)] at hEE
                      subst hEE
                      clear HH2
                      go_wp2_with fail
                      go_end0
                      exact ⟨.inl ⟨rfl, rfl⟩, HE2.out⟩
              | false =>
                rw [h13, h14, Bool.false_or, Bool.false_and, if_neg (by simp)] at hEE
                have HH2 := Lib.hid hEE
                clear hEE
                go_wp2_with (first | (go_at_call 77; (with_reducible refine (HF.out _ ?_).mono ?_); (focus (have h0 := HE.out; (repeat' (first | (with_reducible exact Below.refl _ _) | (with_reducible assumption) | (with_reducible refine Below.alloc ?_ ?_ _) | (with_reducible refine below_drewN ?_ _) | (with_reducible refine Below.drew ?_) | (with_reducible refine Below.setCell ?_ ?_ _) | (with_reducible refine below_via (by assumption) ?_ ?_) | (with_reducible refine below_via (later_below _) ?_ ?_) | (with_reducible exact Nat.le_refl _) | omega | (simp; omega) | (simp; done))))); rintro e w2 ⟨rfl, hb⟩; (refine mem hb ?_; intro N hN hz hc hf; (try simp at hN); subst hN)) | (go_at_call 76; (with_reducible refine (need_yes _ _).mono ?_); rintro e w1 ⟨rfl, rfl⟩))
                go_loopw [59] (fun i wr => ∃ j : Nat, j ≤ s.names.length ∧ i = .int .i64 j ∧ Hid (Below w.heap.size w wr) ∧ Hid (∀ i (hi : i < s.names.length), i < j → badN s.names[i] = false)) (fun i _ => s.names.length - (intOf i).toNat)
                case atStart => exact ⟨0, Nat.zero_le _, rfl, by show Below _ _ _; have h0 := HE.out; (repeat' (first | (with_reducible exact Below.refl _ _) | (with_reducible assumption) | (with_reducible refine Below.alloc ?_ ?_ _) | (with_reducible refine below_drewN ?_ _) | (with_reducible refine Below.drew ?_) | (with_reducible refine Below.setCell ?_ ?_ _) | (with_reducible refine below_via (by assumption) ?_ ?_) | (with_reducible refine below_via (later_below _) ?_ ?_) | (with_reducible exact Nat.le_refl _) | omega | (simp; omega) | (simp; done))), fun i _ h => by omega⟩
                case round =>
                  clear e0 e1 e2 e3 e4 e5 e6 hzr
                  obtain ⟨j, hj, rfl, HE2, HP⟩ := hrel
                  by_cases hlt : j < s.names.length
                  · rcases (((inS_iff s).1 HS.out).1.nAt) with h0 | ⟨b, o, hnA, hb, hc⟩
                    · omega
                    rw [huN] at hnA
                    subst hnA
                    have hck := l2_still (still_of HE2.out (Nat.le_refl _)) _ _ _ hb (hc j hlt)
                    obtain ⟨x, hx⟩ : ∃ x, s.names[j] = x := ⟨_, rfl⟩
                    have HX := Lib.hid hx
                    rw [hx] at hck
                    obtain ⟨n0, n1⟩ := hck
                    have hxs := (((inS_iff s).1 HS.out).1.ns _ (List.getElem_mem hlt)).1
                    rw [hx] at hxs
                    have hbl := cell_lt n0
                    obtain ⟨q, hq⟩ : ∃ q, nameB x.1.data.toList = q := ⟨_, rfl⟩
                    have HM2 : Hid (∀ W, Calls Tryz.prog 6 #[.string x.1] W fun e W' => e = .returned (.bool q) ∧ Below W.heap.size W W') := fun W => hq ▸ name_any x.1 W hxs
                    have HQ := Lib.hid hq
                    clear hx hc hq hb
                    cases q with
                    | false =>
                      have hEE := HH2.out
                      rw [if_pos (List.any_eq_true.2 ⟨_, List.getElem_mem hlt, by rw [HX.out]; unfold badN; rw [HQ.out]; rfl⟩)] at hEE
                      subst hEE
                      clear HH2
                      go_wp2_with (first | (go_at_call 6; (with_reducible refine (HM2.out _).mono ?_); rintro e w3 ⟨rfl, hb⟩; (refine mem hb ?_; intro N hN hz hc hf; (try simp at hN); subst hN)) | (go_at_call 76; (with_reducible refine (need_no _ _).mono ?_); rintro e w1 ⟨rfl, rfl⟩))
                      refine ⟨rfl, .inr ⟨by decide, rfl⟩, ?_⟩
                      show Below _ _ _
                      have h0 := HE2.out
                      have hs0 := h0.size
                      (repeat' (first | (with_reducible exact Below.refl _ _) | (with_reducible assumption) | (with_reducible refine Below.alloc ?_ ?_ _) | (with_reducible refine below_drewN ?_ _) | (with_reducible refine Below.drew ?_) | (with_reducible refine Below.setCell ?_ ?_ _) | (with_reducible refine below_via (by assumption) ?_ ?_) | (with_reducible refine below_via (later_below _) ?_ ?_) | (with_reducible exact Nat.le_refl _) | omega | (simp; omega) | (simp; done)))
                    | true =>
                      go_wp2_with (first | (go_at_call 6; (with_reducible refine (HM2.out _).mono ?_); rintro e w3 ⟨rfl, hb⟩; (refine mem hb ?_; intro N hN hz hc hf; (try simp at hN); subst hN)) | (go_at_call 76; (with_reducible refine (need_yes _ _).mono ?_); rintro e w1 ⟨rfl, rfl⟩))
                      refine ⟨⟨j + 1, by omega, by go_num, ?_, ?_⟩, by simp [intOf]; omega⟩
                      · show Below _ _ _; have h0 := HE2.out; have hs0 := h0.size; (repeat' (first | (with_reducible exact Below.refl _ _) | (with_reducible assumption) | (with_reducible refine Below.alloc ?_ ?_ _) | (with_reducible refine below_drewN ?_ _) | (with_reducible refine Below.drew ?_) | (with_reducible refine Below.setCell ?_ ?_ _) | (with_reducible refine below_via (by assumption) ?_ ?_) | (with_reducible refine below_via (later_below _) ?_ ?_) | (with_reducible exact Nat.le_refl _) | omega | (simp; omega) | (simp; done)))
                      · intro i hi hij
                        by_cases h : i = j
                        · subst h; rw [HX.out]; unfold badN; rw [HQ.out]; rfl
                        · exact HP.out i hi (by omega)
                  · obtain rfl : j = s.names.length := by omega
                    have hany : s.names.any badN = false := any_no fun i hi => HP.out i hi hi
                    have hEE := HH2.out
                    rw [if_neg (by rw [hany]; simp)] at hEE
                    subst hEE
                    clear HH2
                    go_wp2_with fail
                    go_end0
                    exact ⟨.inl ⟨rfl, rfl⟩, HE2.out⟩
        · have d5 : decide (0 ≤ s.ln) = false := decide_eq_false h5
          rw [d5, Bool.false_and, if_pos rfl] at hEE
          subst hEE
          go_wp2_with (first | (go_at_call 77; (with_reducible refine (HF.out _ ?_).mono ?_); (focus (have h0 := HE.out; (repeat' (first | (with_reducible exact Below.refl _ _) | (with_reducible assumption) | (with_reducible refine Below.alloc ?_ ?_ _) | (with_reducible refine below_drewN ?_ _) | (with_reducible refine Below.drew ?_) | (with_reducible refine Below.setCell ?_ ?_ _) | (with_reducible refine below_via (by assumption) ?_ ?_) | (with_reducible refine below_via (later_below _) ?_ ?_) | (with_reducible exact Nat.le_refl _) | omega | (simp; omega) | (simp; done))))); rintro e w2 ⟨rfl, hb⟩; (refine mem hb ?_; intro N hN hz hc hf; (try simp at hN); subst hN)) | (go_at_call 76; (with_reducible refine (need_no _ _).mono ?_); rintro e w1 ⟨rfl, rfl⟩))
          refine ⟨rfl, .inr ⟨by decide, rfl⟩, ?_⟩
          show Below _ _ _
          have h0 := HE.out
          (repeat' (first | (with_reducible exact Below.refl _ _) | (with_reducible assumption) | (with_reducible refine Below.alloc ?_ ?_ _) | (with_reducible refine below_drewN ?_ _) | (with_reducible refine Below.drew ?_) | (with_reducible refine Below.setCell ?_ ?_ _) | (with_reducible refine below_via (by assumption) ?_ ?_) | (with_reducible refine below_via (later_below _) ?_ ?_) | (with_reducible exact Nat.le_refl _) | omega | (simp; omega) | (simp; done)))
end Go.Proofs.YtplphejillkdeaaGreatDoor
