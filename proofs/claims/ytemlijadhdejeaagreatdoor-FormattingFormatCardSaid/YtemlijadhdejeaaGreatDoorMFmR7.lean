/- The reference's padded text of a directive. -/
import Derived.Test.YtemlijadhdejeaaGreatDoorMFmR5
import Derived.Test.YtemlijadhdejeaaGreatDoorMNumC
import Derived.Deep.DeepCutAuto
import Derived.RegionTactic
namespace Go.Proofs.YtemlijadhdejeaaGreatDoor
open Go.RowKit Go.Instr
set_option linter.unusedVariables false

/-- The text of a directive out of the text of its argument. -/
def bodyP (p : Pc) (D : List UInt8) : List UInt8 := if p.v = 115 ∨ p.v = 99 ∨ p.v = 113 then padL D p.w p.mi else padL (signA p D ++ zeroA p (signA p D) (bodyA D)) p.w p.mi
theorem rpadS (S : ByteArray) (l : List UInt8) (W : Int) (mi : Bool) (hS : S = mkS l) (w : World) (hl : l.length ≤ 10000000) (h1 : -9223372036854775808 ≤ W) (h2 : W ≤ 9223372036854775807) :
    Calls Tryz.prog 22 #[.string S, .int .i64 W, .bool mi] w fun e w' => e = .returned (.string (mkS (padL l W mi))) ∧ Below w.heap.size w w' := by
  subst hS; exact rpad_any l W mi w hl h1 h2
theorem tail_ext2 (c : UInt8) (t : List UInt8) : (mkS (c :: t)).extract 1 (mkS (c :: t)).size = mkS t := by
  apply mkS_ext
  rw [drop_extract, mkS_list]; rfl
theorem rep_cons (m : Nat) (l : List UInt8) : (⟨#[48]⟩ : ByteArray) ++ mkS (List.replicate m 48 ++ l) = mkS (List.replicate (m + 1) 48 ++ l) := by
  rw [show (⟨#[48]⟩ : ByteArray) = mkS [48] from rfl, cat_mk]
  rfl
set_option maxHeartbeats 8000000 in
set_option maxRecDepth 100000 in
theorem rpd_d (t : ByteArray) (mi ze pl : Bool) (W : Nat) (N : Int) (D : List UInt8) (hW : W ≤ 99) (hD : D.length ≤ 5000000) (w : World) :
    Calls Tryz.prog 35 #[pV t 100 mi ze pl W N, .string (mkS D)] w fun e w' => e = .returned (.string (mkS (bodyP ⟨[], 100, mi, ze, pl, W, N⟩ D))) ∧ Below w.heap.size w w' := by
  have HL0 : Hid (bodyP ⟨[], 100, mi, ze, pl, W, N⟩ D = padL (signA ⟨[], 100, mi, ze, pl, W, N⟩ D ++ zeroA ⟨[], 100, mi, ze, pl, W, N⟩ (signA ⟨[], 100, mi, ze, pl, W, N⟩ D) (bodyA D)) W mi) := if_neg (by simp)
  have HZ : Hid (∀ sg s, zeroA ⟨[], 100, mi, ze, pl, W, N⟩ sg s = if (ze && !mi) = true ∧ True then List.replicate (W - sg.length - s.length) 48 ++ s else s) := by
    intro sg s
    unfold zeroA
    cases ze <;> cases mi <;> simp
  have HS : Hid (signA ⟨[], 100, mi, ze, pl, W, N⟩ D = if D.head? = some 45 then [45] else if pl = true then [43] else []) := by
    show _ = _
    unfold signA
    cases pl <;> simp
  by_cases hh : D.head? = some 45
  · obtain ⟨D', rfl⟩ : ∃ D', D = 45 :: D' := by
      cases D with
      | nil => cases hh
      | cons c D' => simp at hh; exact ⟨D', by rw [hh]⟩
    have hex := tail_ext2 45 D'
    have hex2 := hex
    rw [mkS_size, List.length_cons] at hex2
    have hsz := mkS_size (45 :: D')
    have hsz2 := mkS_size D'
    have hg0 : (mkS (45 :: D'))[0]? = some 45 := rfl
    have HBD : Hid (bodyA (45 :: D') = D') := rfl
    rw [List.length_cons] at hD hsz
    clear hh
    go_enter Tryz.func35, Tryz.ntmps35
    go_upto_region 4 with fail
    go_region
    go_upto_region 8 with fail
    go_cut [71] (fun z wx => z = .bool (ze && !mi) ∧ wx = (w.alloc (.cells #[.string t, .int .u8 100, .bool mi, .bool ze, .bool pl, .int .i64 W, .int .i64 N] 32)).drew)
    case first =>
      cases ze <;> cases mi
      all_goals
        go_wp2_with fail
        go_meet
        exact ⟨rfl, rfl⟩
    case rest =>
      obtain ⟨rfl, rfl⟩ := hcut
      obtain ⟨Z, hZ⟩ : ∃ Z, (ze && !mi) = Z := ⟨_, rfl⟩
      rw [hZ] at HZ ⊢
      clear hZ
      cases Z
      · skip
        have HL : Hid (bodyP ⟨[], 100, mi, ze, pl, W, N⟩ (45 :: D') = padL ([45] ++ D') W mi) := by
          show _ = _
          rw [HL0.out, HS.out, HZ.out, HBD.out]
          simp
        clear HS HZ HBD HL0
        go_wp2_with (first | (go_at_call 22; (with_reducible refine (rpadS _ ([45] ++ D') W mi ?_ _ ?_ ?_ ?_).mono ?_); (focus (first | rfl | (simp only [show (⟨#[45]⟩ : ByteArray) = mkS [45] from rfl, show (⟨#[43]⟩ : ByteArray) = mkS [43] from rfl, show (⟨#[]⟩ : ByteArray) = mkS [] from rfl, cat_mk]; done) | (simp [cat_mk]; done))); (focus ((try simp); omega)); (focus omega); (focus omega); rintro e w4 ⟨rfl, hb⟩; (refine mem hb ?_; intro N hN hz hc hf; (try simp at hN); subst hN)))
        go_returns
        refine ⟨ret_s (by rw [HL.out]; first | done | rfl), ?_⟩
        (repeat' (first | (with_reducible exact Below.refl _ _) | (with_reducible assumption) | (with_reducible refine Below.alloc ?_ ?_ _) | (with_reducible refine below_drewN ?_ _) | (with_reducible refine Below.drew ?_) | (with_reducible refine Below.setCell ?_ ?_ _) | (with_reducible refine below_via (by assumption) ?_ ?_) | (with_reducible refine below_via (later_below _) ?_ ?_) | (with_reducible exact Nat.le_refl _) | omega | (simp; omega) | (simp; done)))
      · skip
        have HL : Hid (bodyP ⟨[], 100, mi, ze, pl, W, N⟩ (45 :: D') = padL ([45] ++ (List.replicate (W - 1 - D'.length) 48 ++ D')) W mi) := by
          show _ = _
          rw [HL0.out, HS.out, HZ.out, HBD.out]
          simp
        clear HS HZ HBD HL0
        go_wp2_with fail
        go_loop [1] (fun v => ∃ m : Nat, m ≤ (W - 1 - D'.length) ∧ v = .string (mkS (List.replicate m 48 ++ D'))) (fun v => 100 - (match v with | .string x => x.size - D'.length | _ => 0))
        case atStart => exact ⟨0, Nat.zero_le _, rfl⟩
        case round =>
          obtain ⟨m, hm, rfl⟩ := hrel
          have hms : (mkS (List.replicate m (48 : UInt8) ++ D')).size = m + D'.length := by rw [mkS_size, List.length_append, List.length_replicate]
          by_cases hlt : m < (W - 1 - D'.length)
          · have hc := rep_cons m D'
            have hms2 : (mkS (List.replicate (m + 1) (48 : UInt8) ++ D')).size = m + 1 + D'.length := by rw [mkS_size, List.length_append, List.length_replicate]
            have HMS := Lib.hid hms2
            clear hms2
            skip
            go_wp2_with fail
            go_round
            case rel => exact ⟨m + 1, by omega, by first | rfl | rw [hc]⟩
            case measure => have := HMS.out; simp [hms] at *; omega
          · obtain rfl : m = (W - 1 - D'.length) := by omega
            go_wp2_with (first | (go_at_call 22; (with_reducible refine (rpadS _ ([45] ++ (List.replicate (W - 1 - D'.length) 48 ++ D')) W mi ?_ _ ?_ ?_ ?_).mono ?_); (focus (first | rfl | (simp only [show (⟨#[45]⟩ : ByteArray) = mkS [45] from rfl, show (⟨#[43]⟩ : ByteArray) = mkS [43] from rfl, show (⟨#[]⟩ : ByteArray) = mkS [] from rfl, cat_mk]; done) | (simp [cat_mk]; done))); (focus ((try simp); omega)); (focus omega); (focus omega); rintro e w4 ⟨rfl, hb⟩; (refine mem hb ?_; intro N hN hz hc hf; (try simp at hN); subst hN)))
            go_returns
            refine ⟨ret_s (by rw [HL.out]; first | done | rfl), ?_⟩
            (repeat' (first | (with_reducible exact Below.refl _ _) | (with_reducible assumption) | (with_reducible refine Below.alloc ?_ ?_ _) | (with_reducible refine below_drewN ?_ _) | (with_reducible refine Below.drew ?_) | (with_reducible refine Below.setCell ?_ ?_ _) | (with_reducible refine below_via (by assumption) ?_ ?_) | (with_reducible refine below_via (later_below _) ?_ ?_) | (with_reducible exact Nat.le_refl _) | omega | (simp; omega) | (simp; done)))
  · have HBD : Hid (bodyA D = D) := if_neg hh
    have HH := Lib.hid hh
    have hsz := mkS_size D
    have HD0 : Hid (D.length = 0 ∨ ∃ h : 0 < (mkS D).size, ¬ ((mkS D)[0]'h).toNat = 45) := by
      cases D with
      | nil => exact .inl rfl
      | cons c D' =>
        right
        refine ⟨by rw [mkS_size]; simp, fun e => hh ?_⟩
        have : c = 45 := UInt8.toNat_inj.1 e
        simp [this]
    clear hh
    rcases HD0.out with h0 | ⟨h0, h45⟩
    · have d0 : decide (0 < D.length) = false := decide_eq_false (by omega)
      have d0' : decide ((0 : Int) < (D.length : Int)) = false := decide_eq_false (by omega)
      have hD0 : D = [] := List.eq_nil_of_length_eq_zero h0
      have HE0 := Lib.hid hD0
      clear h0 hD0
      cases pl
      · go_enter Tryz.func35, Tryz.ntmps35
        go_upto_region 8 with fail
        go_cut [71] (fun z wx => z = .bool (ze && !mi) ∧ wx = (w.alloc (.cells #[.string t, .int .u8 100, .bool mi, .bool ze, .bool false, .int .i64 W, .int .i64 N] 32)))
        case first =>
          cases ze <;> cases mi
          all_goals
            go_wp2_with fail
            go_meet
            exact ⟨rfl, rfl⟩
        case rest =>
          obtain ⟨rfl, rfl⟩ := hcut
          obtain ⟨Z, hZ⟩ : ∃ Z, (ze && !mi) = Z := ⟨_, rfl⟩
          rw [hZ] at HZ ⊢
          clear hZ
          cases Z
          · skip
            have HL : Hid (bodyP ⟨[], 100, mi, ze, false, W, N⟩ D = padL ([] ++ D) W mi) := by
              show _ = _
              rw [HL0.out, HS.out, HZ.out, HBD.out]
              simp [HH.out]
            clear HS HZ HBD HL0 HH
            go_wp2_with (first | (go_at_call 22; (with_reducible refine (rpadS _ ([] ++ D) W mi ?_ _ ?_ ?_ ?_).mono ?_); (focus (first | rfl | (simp only [show (⟨#[45]⟩ : ByteArray) = mkS [45] from rfl, show (⟨#[43]⟩ : ByteArray) = mkS [43] from rfl, show (⟨#[]⟩ : ByteArray) = mkS [] from rfl, cat_mk]; done) | (simp [cat_mk]; done))); (focus ((try simp); omega)); (focus omega); (focus omega); rintro e w4 ⟨rfl, hb⟩; (refine mem hb ?_; intro N hN hz hc hf; (try simp at hN); subst hN)))
            go_returns
            refine ⟨ret_s (by rw [HL.out]; first | done | rfl), ?_⟩
            (repeat' (first | (with_reducible exact Below.refl _ _) | (with_reducible assumption) | (with_reducible refine Below.alloc ?_ ?_ _) | (with_reducible refine below_drewN ?_ _) | (with_reducible refine Below.drew ?_) | (with_reducible refine Below.setCell ?_ ?_ _) | (with_reducible refine below_via (by assumption) ?_ ?_) | (with_reducible refine below_via (later_below _) ?_ ?_) | (with_reducible exact Nat.le_refl _) | omega | (simp; omega) | (simp; done)))
          · skip
            have HL : Hid (bodyP ⟨[], 100, mi, ze, false, W, N⟩ D = padL ([] ++ (List.replicate (W - D.length) 48 ++ D)) W mi) := by
              show _ = _
              rw [HL0.out, HS.out, HZ.out, HBD.out]
              simp [HH.out]
            clear HS HZ HBD HL0 HH
            go_wp2_with fail
            go_loop [1] (fun v => ∃ m : Nat, m ≤ (W - D.length) ∧ v = .string (mkS (List.replicate m 48 ++ D))) (fun v => 100 - (match v with | .string x => x.size - D.length | _ => 0))
            case atStart => exact ⟨0, Nat.zero_le _, rfl⟩
            case round =>
              obtain ⟨m, hm, rfl⟩ := hrel
              have hms : (mkS (List.replicate m (48 : UInt8) ++ D)).size = m + D.length := by rw [mkS_size, List.length_append, List.length_replicate]
              by_cases hlt : m < (W - D.length)
              · have hc := rep_cons m D
                have hms2 : (mkS (List.replicate (m + 1) (48 : UInt8) ++ D)).size = m + 1 + D.length := by rw [mkS_size, List.length_append, List.length_replicate]
                have HMS := Lib.hid hms2
                clear hms2
                skip
                go_wp2_with fail
                go_round
                case rel => exact ⟨m + 1, by omega, by first | rfl | rw [hc]⟩
                case measure => have := HMS.out; simp [hms] at *; omega
              · obtain rfl : m = (W - D.length) := by omega
                go_wp2_with (first | (go_at_call 22; (with_reducible refine (rpadS _ ([] ++ (List.replicate (W - D.length) 48 ++ D)) W mi ?_ _ ?_ ?_ ?_).mono ?_); (focus (first | rfl | (simp only [show (⟨#[45]⟩ : ByteArray) = mkS [45] from rfl, show (⟨#[43]⟩ : ByteArray) = mkS [43] from rfl, show (⟨#[]⟩ : ByteArray) = mkS [] from rfl, cat_mk]; done) | (simp [cat_mk]; done))); (focus ((try simp); omega)); (focus omega); (focus omega); rintro e w4 ⟨rfl, hb⟩; (refine mem hb ?_; intro N hN hz hc hf; (try simp at hN); subst hN)))
                go_returns
                refine ⟨ret_s (by rw [HL.out]; first | done | rfl), ?_⟩
                (repeat' (first | (with_reducible exact Below.refl _ _) | (with_reducible assumption) | (with_reducible refine Below.alloc ?_ ?_ _) | (with_reducible refine below_drewN ?_ _) | (with_reducible refine Below.drew ?_) | (with_reducible refine Below.setCell ?_ ?_ _) | (with_reducible refine below_via (by assumption) ?_ ?_) | (with_reducible refine below_via (later_below _) ?_ ?_) | (with_reducible exact Nat.le_refl _) | omega | (simp; omega) | (simp; done)))
      · go_enter Tryz.func35, Tryz.ntmps35
        go_upto_region 8 with fail
        go_cut [71] (fun z wx => z = .bool (ze && !mi) ∧ wx = (w.alloc (.cells #[.string t, .int .u8 100, .bool mi, .bool ze, .bool true, .int .i64 W, .int .i64 N] 32)))
        case first =>
          cases ze <;> cases mi
          all_goals
            go_wp2_with fail
            go_meet
            exact ⟨rfl, rfl⟩
        case rest =>
          obtain ⟨rfl, rfl⟩ := hcut
          obtain ⟨Z, hZ⟩ : ∃ Z, (ze && !mi) = Z := ⟨_, rfl⟩
          rw [hZ] at HZ ⊢
          clear hZ
          cases Z
          · skip
            have HL : Hid (bodyP ⟨[], 100, mi, ze, true, W, N⟩ D = padL ([43] ++ D) W mi) := by
              show _ = _
              rw [HL0.out, HS.out, HZ.out, HBD.out]
              simp [HH.out]
            clear HS HZ HBD HL0 HH
            go_wp2_with (first | (go_at_call 22; (with_reducible refine (rpadS _ ([43] ++ D) W mi ?_ _ ?_ ?_ ?_).mono ?_); (focus (first | rfl | (simp only [show (⟨#[45]⟩ : ByteArray) = mkS [45] from rfl, show (⟨#[43]⟩ : ByteArray) = mkS [43] from rfl, show (⟨#[]⟩ : ByteArray) = mkS [] from rfl, cat_mk]; done) | (simp [cat_mk]; done))); (focus ((try simp); omega)); (focus omega); (focus omega); rintro e w4 ⟨rfl, hb⟩; (refine mem hb ?_; intro N hN hz hc hf; (try simp at hN); subst hN)))
            go_returns
            refine ⟨ret_s (by rw [HL.out]; first | done | rfl), ?_⟩
            (repeat' (first | (with_reducible exact Below.refl _ _) | (with_reducible assumption) | (with_reducible refine Below.alloc ?_ ?_ _) | (with_reducible refine below_drewN ?_ _) | (with_reducible refine Below.drew ?_) | (with_reducible refine Below.setCell ?_ ?_ _) | (with_reducible refine below_via (by assumption) ?_ ?_) | (with_reducible refine below_via (later_below _) ?_ ?_) | (with_reducible exact Nat.le_refl _) | omega | (simp; omega) | (simp; done)))
          · skip
            have HL : Hid (bodyP ⟨[], 100, mi, ze, true, W, N⟩ D = padL ([43] ++ (List.replicate (W - 1 - D.length) 48 ++ D)) W mi) := by
              show _ = _
              rw [HL0.out, HS.out, HZ.out, HBD.out]
              simp [HH.out]
            clear HS HZ HBD HL0 HH
            go_wp2_with fail
            go_loop [1] (fun v => ∃ m : Nat, m ≤ (W - 1 - D.length) ∧ v = .string (mkS (List.replicate m 48 ++ D))) (fun v => 100 - (match v with | .string x => x.size - D.length | _ => 0))
            case atStart => exact ⟨0, Nat.zero_le _, rfl⟩
            case round =>
              obtain ⟨m, hm, rfl⟩ := hrel
              have hms : (mkS (List.replicate m (48 : UInt8) ++ D)).size = m + D.length := by rw [mkS_size, List.length_append, List.length_replicate]
              by_cases hlt : m < (W - 1 - D.length)
              · have hc := rep_cons m D
                have hms2 : (mkS (List.replicate (m + 1) (48 : UInt8) ++ D)).size = m + 1 + D.length := by rw [mkS_size, List.length_append, List.length_replicate]
                have HMS := Lib.hid hms2
                clear hms2
                skip
                go_wp2_with fail
                go_round
                case rel => exact ⟨m + 1, by omega, by first | rfl | rw [hc]⟩
                case measure => have := HMS.out; simp [hms] at *; omega
              · obtain rfl : m = (W - 1 - D.length) := by omega
                go_wp2_with (first | (go_at_call 22; (with_reducible refine (rpadS _ ([43] ++ (List.replicate (W - 1 - D.length) 48 ++ D)) W mi ?_ _ ?_ ?_ ?_).mono ?_); (focus (first | rfl | (simp only [show (⟨#[45]⟩ : ByteArray) = mkS [45] from rfl, show (⟨#[43]⟩ : ByteArray) = mkS [43] from rfl, show (⟨#[]⟩ : ByteArray) = mkS [] from rfl, cat_mk]; done) | (simp [cat_mk]; done))); (focus ((try simp); omega)); (focus omega); (focus omega); rintro e w4 ⟨rfl, hb⟩; (refine mem hb ?_; intro N hN hz hc hf; (try simp at hN); subst hN)))
                go_returns
                refine ⟨ret_s (by rw [HL.out]; first | done | rfl), ?_⟩
                (repeat' (first | (with_reducible exact Below.refl _ _) | (with_reducible assumption) | (with_reducible refine Below.alloc ?_ ?_ _) | (with_reducible refine below_drewN ?_ _) | (with_reducible refine Below.drew ?_) | (with_reducible refine Below.setCell ?_ ?_ _) | (with_reducible refine below_via (by assumption) ?_ ?_) | (with_reducible refine below_via (later_below _) ?_ ?_) | (with_reducible exact Nat.le_refl _) | omega | (simp; omega) | (simp; done)))
    · have hpos : 0 < D.length := by rw [hsz] at h0; exact h0
      have d0 : decide (0 < D.length) = true := decide_eq_true (by omega)
      have d0' : decide ((0 : Int) < (D.length : Int)) = true := decide_eq_true (by omega)
      have d45 : ((((mkS D)[0]'h0).toNat : Int) == 45) = false := by simp; omega
      cases pl
      · go_enter Tryz.func35, Tryz.ntmps35
        go_upto_region 8 with fail
        go_cut [71] (fun z wx => z = .bool (ze && !mi) ∧ wx = (w.alloc (.cells #[.string t, .int .u8 100, .bool mi, .bool ze, .bool false, .int .i64 W, .int .i64 N] 32)))
        case first =>
          cases ze <;> cases mi
          all_goals
            go_wp2_with fail
            go_meet
            exact ⟨rfl, rfl⟩
        case rest =>
          obtain ⟨rfl, rfl⟩ := hcut
          obtain ⟨Z, hZ⟩ : ∃ Z, (ze && !mi) = Z := ⟨_, rfl⟩
          rw [hZ] at HZ ⊢
          clear hZ
          cases Z
          · skip
            have HL : Hid (bodyP ⟨[], 100, mi, ze, false, W, N⟩ D = padL ([] ++ D) W mi) := by
              show _ = _
              rw [HL0.out, HS.out, HZ.out, HBD.out]
              simp [HH.out]
            clear HS HZ HBD HL0 HH
            go_wp2_with (first | (go_at_call 22; (with_reducible refine (rpadS _ ([] ++ D) W mi ?_ _ ?_ ?_ ?_).mono ?_); (focus (first | rfl | (simp only [show (⟨#[45]⟩ : ByteArray) = mkS [45] from rfl, show (⟨#[43]⟩ : ByteArray) = mkS [43] from rfl, show (⟨#[]⟩ : ByteArray) = mkS [] from rfl, cat_mk]; done) | (simp [cat_mk]; done))); (focus ((try simp); omega)); (focus omega); (focus omega); rintro e w4 ⟨rfl, hb⟩; (refine mem hb ?_; intro N hN hz hc hf; (try simp at hN); subst hN)))
            go_returns
            refine ⟨ret_s (by rw [HL.out]; first | done | rfl), ?_⟩
            (repeat' (first | (with_reducible exact Below.refl _ _) | (with_reducible assumption) | (with_reducible refine Below.alloc ?_ ?_ _) | (with_reducible refine below_drewN ?_ _) | (with_reducible refine Below.drew ?_) | (with_reducible refine Below.setCell ?_ ?_ _) | (with_reducible refine below_via (by assumption) ?_ ?_) | (with_reducible refine below_via (later_below _) ?_ ?_) | (with_reducible exact Nat.le_refl _) | omega | (simp; omega) | (simp; done)))
          · skip
            have HL : Hid (bodyP ⟨[], 100, mi, ze, false, W, N⟩ D = padL ([] ++ (List.replicate (W - D.length) 48 ++ D)) W mi) := by
              show _ = _
              rw [HL0.out, HS.out, HZ.out, HBD.out]
              simp [HH.out]
            clear HS HZ HBD HL0 HH
            go_wp2_with fail
            go_loop [1] (fun v => ∃ m : Nat, m ≤ (W - D.length) ∧ v = .string (mkS (List.replicate m 48 ++ D))) (fun v => 100 - (match v with | .string x => x.size - D.length | _ => 0))
            case atStart => exact ⟨0, Nat.zero_le _, rfl⟩
            case round =>
              obtain ⟨m, hm, rfl⟩ := hrel
              have hms : (mkS (List.replicate m (48 : UInt8) ++ D)).size = m + D.length := by rw [mkS_size, List.length_append, List.length_replicate]
              by_cases hlt : m < (W - D.length)
              · have hc := rep_cons m D
                have hms2 : (mkS (List.replicate (m + 1) (48 : UInt8) ++ D)).size = m + 1 + D.length := by rw [mkS_size, List.length_append, List.length_replicate]
                have HMS := Lib.hid hms2
                clear hms2
                skip
                go_wp2_with fail
                go_round
                case rel => exact ⟨m + 1, by omega, by first | rfl | rw [hc]⟩
                case measure => have := HMS.out; simp [hms] at *; omega
              · obtain rfl : m = (W - D.length) := by omega
                go_wp2_with (first | (go_at_call 22; (with_reducible refine (rpadS _ ([] ++ (List.replicate (W - D.length) 48 ++ D)) W mi ?_ _ ?_ ?_ ?_).mono ?_); (focus (first | rfl | (simp only [show (⟨#[45]⟩ : ByteArray) = mkS [45] from rfl, show (⟨#[43]⟩ : ByteArray) = mkS [43] from rfl, show (⟨#[]⟩ : ByteArray) = mkS [] from rfl, cat_mk]; done) | (simp [cat_mk]; done))); (focus ((try simp); omega)); (focus omega); (focus omega); rintro e w4 ⟨rfl, hb⟩; (refine mem hb ?_; intro N hN hz hc hf; (try simp at hN); subst hN)))
                go_returns
                refine ⟨ret_s (by rw [HL.out]; first | done | rfl), ?_⟩
                (repeat' (first | (with_reducible exact Below.refl _ _) | (with_reducible assumption) | (with_reducible refine Below.alloc ?_ ?_ _) | (with_reducible refine below_drewN ?_ _) | (with_reducible refine Below.drew ?_) | (with_reducible refine Below.setCell ?_ ?_ _) | (with_reducible refine below_via (by assumption) ?_ ?_) | (with_reducible refine below_via (later_below _) ?_ ?_) | (with_reducible exact Nat.le_refl _) | omega | (simp; omega) | (simp; done)))
      · go_enter Tryz.func35, Tryz.ntmps35
        go_upto_region 8 with fail
        go_cut [71] (fun z wx => z = .bool (ze && !mi) ∧ wx = (w.alloc (.cells #[.string t, .int .u8 100, .bool mi, .bool ze, .bool true, .int .i64 W, .int .i64 N] 32)))
        case first =>
          cases ze <;> cases mi
          all_goals
            go_wp2_with fail
            go_meet
            exact ⟨rfl, rfl⟩
        case rest =>
          obtain ⟨rfl, rfl⟩ := hcut
          obtain ⟨Z, hZ⟩ : ∃ Z, (ze && !mi) = Z := ⟨_, rfl⟩
          rw [hZ] at HZ ⊢
          clear hZ
          cases Z
          · skip
            have HL : Hid (bodyP ⟨[], 100, mi, ze, true, W, N⟩ D = padL ([43] ++ D) W mi) := by
              show _ = _
              rw [HL0.out, HS.out, HZ.out, HBD.out]
              simp [HH.out]
            clear HS HZ HBD HL0 HH
            go_wp2_with (first | (go_at_call 22; (with_reducible refine (rpadS _ ([43] ++ D) W mi ?_ _ ?_ ?_ ?_).mono ?_); (focus (first | rfl | (simp only [show (⟨#[45]⟩ : ByteArray) = mkS [45] from rfl, show (⟨#[43]⟩ : ByteArray) = mkS [43] from rfl, show (⟨#[]⟩ : ByteArray) = mkS [] from rfl, cat_mk]; done) | (simp [cat_mk]; done))); (focus ((try simp); omega)); (focus omega); (focus omega); rintro e w4 ⟨rfl, hb⟩; (refine mem hb ?_; intro N hN hz hc hf; (try simp at hN); subst hN)))
            go_returns
            refine ⟨ret_s (by rw [HL.out]; first | done | rfl), ?_⟩
            (repeat' (first | (with_reducible exact Below.refl _ _) | (with_reducible assumption) | (with_reducible refine Below.alloc ?_ ?_ _) | (with_reducible refine below_drewN ?_ _) | (with_reducible refine Below.drew ?_) | (with_reducible refine Below.setCell ?_ ?_ _) | (with_reducible refine below_via (by assumption) ?_ ?_) | (with_reducible refine below_via (later_below _) ?_ ?_) | (with_reducible exact Nat.le_refl _) | omega | (simp; omega) | (simp; done)))
          · skip
            have HL : Hid (bodyP ⟨[], 100, mi, ze, true, W, N⟩ D = padL ([43] ++ (List.replicate (W - 1 - D.length) 48 ++ D)) W mi) := by
              show _ = _
              rw [HL0.out, HS.out, HZ.out, HBD.out]
              simp [HH.out]
            clear HS HZ HBD HL0 HH
            go_wp2_with fail
            go_loop [1] (fun v => ∃ m : Nat, m ≤ (W - 1 - D.length) ∧ v = .string (mkS (List.replicate m 48 ++ D))) (fun v => 100 - (match v with | .string x => x.size - D.length | _ => 0))
            case atStart => exact ⟨0, Nat.zero_le _, rfl⟩
            case round =>
              obtain ⟨m, hm, rfl⟩ := hrel
              have hms : (mkS (List.replicate m (48 : UInt8) ++ D)).size = m + D.length := by rw [mkS_size, List.length_append, List.length_replicate]
              by_cases hlt : m < (W - 1 - D.length)
              · have hc := rep_cons m D
                have hms2 : (mkS (List.replicate (m + 1) (48 : UInt8) ++ D)).size = m + 1 + D.length := by rw [mkS_size, List.length_append, List.length_replicate]
                have HMS := Lib.hid hms2
                clear hms2
                skip
                go_wp2_with fail
                go_round
                case rel => exact ⟨m + 1, by omega, by first | rfl | rw [hc]⟩
                case measure => have := HMS.out; simp [hms] at *; omega
              · obtain rfl : m = (W - 1 - D.length) := by omega
                go_wp2_with (first | (go_at_call 22; (with_reducible refine (rpadS _ ([43] ++ (List.replicate (W - 1 - D.length) 48 ++ D)) W mi ?_ _ ?_ ?_ ?_).mono ?_); (focus (first | rfl | (simp only [show (⟨#[45]⟩ : ByteArray) = mkS [45] from rfl, show (⟨#[43]⟩ : ByteArray) = mkS [43] from rfl, show (⟨#[]⟩ : ByteArray) = mkS [] from rfl, cat_mk]; done) | (simp [cat_mk]; done))); (focus ((try simp); omega)); (focus omega); (focus omega); rintro e w4 ⟨rfl, hb⟩; (refine mem hb ?_; intro N hN hz hc hf; (try simp at hN); subst hN)))
                go_returns
                refine ⟨ret_s (by rw [HL.out]; first | done | rfl), ?_⟩
                (repeat' (first | (with_reducible exact Below.refl _ _) | (with_reducible assumption) | (with_reducible refine Below.alloc ?_ ?_ _) | (with_reducible refine below_drewN ?_ _) | (with_reducible refine Below.drew ?_) | (with_reducible refine Below.setCell ?_ ?_ _) | (with_reducible refine below_via (by assumption) ?_ ?_) | (with_reducible refine below_via (later_below _) ?_ ?_) | (with_reducible exact Nat.le_refl _) | omega | (simp; omega) | (simp; done)))
set_option maxHeartbeats 8000000 in
set_option maxRecDepth 100000 in
theorem rpd_f (t : ByteArray) (mi ze pl : Bool) (W : Nat) (N : Int) (D : List UInt8) (hW : W ≤ 99) (hD : D.length ≤ 5000000) (w : World) :
    Calls Tryz.prog 35 #[pV t 102 mi ze pl W N, .string (mkS D)] w fun e w' => e = .returned (.string (mkS (bodyP ⟨[], 102, mi, ze, pl, W, N⟩ D))) ∧ Below w.heap.size w w' := by
  have HL0 : Hid (bodyP ⟨[], 102, mi, ze, pl, W, N⟩ D = padL (signA ⟨[], 102, mi, ze, pl, W, N⟩ D ++ zeroA ⟨[], 102, mi, ze, pl, W, N⟩ (signA ⟨[], 102, mi, ze, pl, W, N⟩ D) (bodyA D)) W mi) := if_neg (by simp)
  have HZ : Hid (∀ sg s, zeroA ⟨[], 102, mi, ze, pl, W, N⟩ sg s = if (ze && !mi) = true ∧ True then List.replicate (W - sg.length - s.length) 48 ++ s else s) := by
    intro sg s
    unfold zeroA
    cases ze <;> cases mi <;> simp
  have HS : Hid (signA ⟨[], 102, mi, ze, pl, W, N⟩ D = if D.head? = some 45 then [45] else if pl = true then [43] else []) := by
    show _ = _
    unfold signA
    cases pl <;> simp
  by_cases hh : D.head? = some 45
  · obtain ⟨D', rfl⟩ : ∃ D', D = 45 :: D' := by
      cases D with
      | nil => cases hh
      | cons c D' => simp at hh; exact ⟨D', by rw [hh]⟩
    have hex := tail_ext2 45 D'
    have hex2 := hex
    rw [mkS_size, List.length_cons] at hex2
    have hsz := mkS_size (45 :: D')
    have hsz2 := mkS_size D'
    have hg0 : (mkS (45 :: D'))[0]? = some 45 := rfl
    have HBD : Hid (bodyA (45 :: D') = D') := rfl
    rw [List.length_cons] at hD hsz
    clear hh
    go_enter Tryz.func35, Tryz.ntmps35
    go_upto_region 4 with fail
    go_region
    go_upto_region 8 with fail
    go_cut [71] (fun z wx => z = .bool (ze && !mi) ∧ wx = (w.alloc (.cells #[.string t, .int .u8 102, .bool mi, .bool ze, .bool pl, .int .i64 W, .int .i64 N] 32)).drew)
    case first =>
      cases ze <;> cases mi
      all_goals
        go_wp2_with fail
        go_meet
        exact ⟨rfl, rfl⟩
    case rest =>
      obtain ⟨rfl, rfl⟩ := hcut
      obtain ⟨Z, hZ⟩ : ∃ Z, (ze && !mi) = Z := ⟨_, rfl⟩
      rw [hZ] at HZ ⊢
      clear hZ
      cases Z
      · skip
        have HL : Hid (bodyP ⟨[], 102, mi, ze, pl, W, N⟩ (45 :: D') = padL ([45] ++ D') W mi) := by
          show _ = _
          rw [HL0.out, HS.out, HZ.out, HBD.out]
          simp
        clear HS HZ HBD HL0
        go_wp2_with (first | (go_at_call 22; (with_reducible refine (rpadS _ ([45] ++ D') W mi ?_ _ ?_ ?_ ?_).mono ?_); (focus (first | rfl | (simp only [show (⟨#[45]⟩ : ByteArray) = mkS [45] from rfl, show (⟨#[43]⟩ : ByteArray) = mkS [43] from rfl, show (⟨#[]⟩ : ByteArray) = mkS [] from rfl, cat_mk]; done) | (simp [cat_mk]; done))); (focus ((try simp); omega)); (focus omega); (focus omega); rintro e w4 ⟨rfl, hb⟩; (refine mem hb ?_; intro N hN hz hc hf; (try simp at hN); subst hN)))
        go_returns
        refine ⟨ret_s (by rw [HL.out]; first | done | rfl), ?_⟩
        (repeat' (first | (with_reducible exact Below.refl _ _) | (with_reducible assumption) | (with_reducible refine Below.alloc ?_ ?_ _) | (with_reducible refine below_drewN ?_ _) | (with_reducible refine Below.drew ?_) | (with_reducible refine Below.setCell ?_ ?_ _) | (with_reducible refine below_via (by assumption) ?_ ?_) | (with_reducible refine below_via (later_below _) ?_ ?_) | (with_reducible exact Nat.le_refl _) | omega | (simp; omega) | (simp; done)))
      · skip
        have HL : Hid (bodyP ⟨[], 102, mi, ze, pl, W, N⟩ (45 :: D') = padL ([45] ++ (List.replicate (W - 1 - D'.length) 48 ++ D')) W mi) := by
          show _ = _
          rw [HL0.out, HS.out, HZ.out, HBD.out]
          simp
        clear HS HZ HBD HL0
        go_wp2_with fail
        go_loop [1] (fun v => ∃ m : Nat, m ≤ (W - 1 - D'.length) ∧ v = .string (mkS (List.replicate m 48 ++ D'))) (fun v => 100 - (match v with | .string x => x.size - D'.length | _ => 0))
        case atStart => exact ⟨0, Nat.zero_le _, rfl⟩
        case round =>
          obtain ⟨m, hm, rfl⟩ := hrel
          have hms : (mkS (List.replicate m (48 : UInt8) ++ D')).size = m + D'.length := by rw [mkS_size, List.length_append, List.length_replicate]
          by_cases hlt : m < (W - 1 - D'.length)
          · have hc := rep_cons m D'
            have hms2 : (mkS (List.replicate (m + 1) (48 : UInt8) ++ D')).size = m + 1 + D'.length := by rw [mkS_size, List.length_append, List.length_replicate]
            have HMS := Lib.hid hms2
            clear hms2
            skip
            go_wp2_with fail
            go_round
            case rel => exact ⟨m + 1, by omega, by first | rfl | rw [hc]⟩
            case measure => have := HMS.out; simp [hms] at *; omega
          · obtain rfl : m = (W - 1 - D'.length) := by omega
            go_wp2_with (first | (go_at_call 22; (with_reducible refine (rpadS _ ([45] ++ (List.replicate (W - 1 - D'.length) 48 ++ D')) W mi ?_ _ ?_ ?_ ?_).mono ?_); (focus (first | rfl | (simp only [show (⟨#[45]⟩ : ByteArray) = mkS [45] from rfl, show (⟨#[43]⟩ : ByteArray) = mkS [43] from rfl, show (⟨#[]⟩ : ByteArray) = mkS [] from rfl, cat_mk]; done) | (simp [cat_mk]; done))); (focus ((try simp); omega)); (focus omega); (focus omega); rintro e w4 ⟨rfl, hb⟩; (refine mem hb ?_; intro N hN hz hc hf; (try simp at hN); subst hN)))
            go_returns
            refine ⟨ret_s (by rw [HL.out]; first | done | rfl), ?_⟩
            (repeat' (first | (with_reducible exact Below.refl _ _) | (with_reducible assumption) | (with_reducible refine Below.alloc ?_ ?_ _) | (with_reducible refine below_drewN ?_ _) | (with_reducible refine Below.drew ?_) | (with_reducible refine Below.setCell ?_ ?_ _) | (with_reducible refine below_via (by assumption) ?_ ?_) | (with_reducible refine below_via (later_below _) ?_ ?_) | (with_reducible exact Nat.le_refl _) | omega | (simp; omega) | (simp; done)))
  · have HBD : Hid (bodyA D = D) := if_neg hh
    have HH := Lib.hid hh
    have hsz := mkS_size D
    have HD0 : Hid (D.length = 0 ∨ ∃ h : 0 < (mkS D).size, ¬ ((mkS D)[0]'h).toNat = 45) := by
      cases D with
      | nil => exact .inl rfl
      | cons c D' =>
        right
        refine ⟨by rw [mkS_size]; simp, fun e => hh ?_⟩
        have : c = 45 := UInt8.toNat_inj.1 e
        simp [this]
    clear hh
    rcases HD0.out with h0 | ⟨h0, h45⟩
    · have d0 : decide (0 < D.length) = false := decide_eq_false (by omega)
      have d0' : decide ((0 : Int) < (D.length : Int)) = false := decide_eq_false (by omega)
      have hD0 : D = [] := List.eq_nil_of_length_eq_zero h0
      have HE0 := Lib.hid hD0
      clear h0 hD0
      cases pl
      · go_enter Tryz.func35, Tryz.ntmps35
        go_upto_region 8 with fail
        go_cut [71] (fun z wx => z = .bool (ze && !mi) ∧ wx = (w.alloc (.cells #[.string t, .int .u8 102, .bool mi, .bool ze, .bool false, .int .i64 W, .int .i64 N] 32)))
        case first =>
          cases ze <;> cases mi
          all_goals
            go_wp2_with fail
            go_meet
            exact ⟨rfl, rfl⟩
        case rest =>
          obtain ⟨rfl, rfl⟩ := hcut
          obtain ⟨Z, hZ⟩ : ∃ Z, (ze && !mi) = Z := ⟨_, rfl⟩
          rw [hZ] at HZ ⊢
          clear hZ
          cases Z
          · skip
            have HL : Hid (bodyP ⟨[], 102, mi, ze, false, W, N⟩ D = padL ([] ++ D) W mi) := by
              show _ = _
              rw [HL0.out, HS.out, HZ.out, HBD.out]
              simp [HH.out]
            clear HS HZ HBD HL0 HH
            go_wp2_with (first | (go_at_call 22; (with_reducible refine (rpadS _ ([] ++ D) W mi ?_ _ ?_ ?_ ?_).mono ?_); (focus (first | rfl | (simp only [show (⟨#[45]⟩ : ByteArray) = mkS [45] from rfl, show (⟨#[43]⟩ : ByteArray) = mkS [43] from rfl, show (⟨#[]⟩ : ByteArray) = mkS [] from rfl, cat_mk]; done) | (simp [cat_mk]; done))); (focus ((try simp); omega)); (focus omega); (focus omega); rintro e w4 ⟨rfl, hb⟩; (refine mem hb ?_; intro N hN hz hc hf; (try simp at hN); subst hN)))
            go_returns
            refine ⟨ret_s (by rw [HL.out]; first | done | rfl), ?_⟩
            (repeat' (first | (with_reducible exact Below.refl _ _) | (with_reducible assumption) | (with_reducible refine Below.alloc ?_ ?_ _) | (with_reducible refine below_drewN ?_ _) | (with_reducible refine Below.drew ?_) | (with_reducible refine Below.setCell ?_ ?_ _) | (with_reducible refine below_via (by assumption) ?_ ?_) | (with_reducible refine below_via (later_below _) ?_ ?_) | (with_reducible exact Nat.le_refl _) | omega | (simp; omega) | (simp; done)))
          · skip
            have HL : Hid (bodyP ⟨[], 102, mi, ze, false, W, N⟩ D = padL ([] ++ (List.replicate (W - D.length) 48 ++ D)) W mi) := by
              show _ = _
              rw [HL0.out, HS.out, HZ.out, HBD.out]
              simp [HH.out]
            clear HS HZ HBD HL0 HH
            go_wp2_with fail
            go_loop [1] (fun v => ∃ m : Nat, m ≤ (W - D.length) ∧ v = .string (mkS (List.replicate m 48 ++ D))) (fun v => 100 - (match v with | .string x => x.size - D.length | _ => 0))
            case atStart => exact ⟨0, Nat.zero_le _, rfl⟩
            case round =>
              obtain ⟨m, hm, rfl⟩ := hrel
              have hms : (mkS (List.replicate m (48 : UInt8) ++ D)).size = m + D.length := by rw [mkS_size, List.length_append, List.length_replicate]
              by_cases hlt : m < (W - D.length)
              · have hc := rep_cons m D
                have hms2 : (mkS (List.replicate (m + 1) (48 : UInt8) ++ D)).size = m + 1 + D.length := by rw [mkS_size, List.length_append, List.length_replicate]
                have HMS := Lib.hid hms2
                clear hms2
                skip
                go_wp2_with fail
                go_round
                case rel => exact ⟨m + 1, by omega, by first | rfl | rw [hc]⟩
                case measure => have := HMS.out; simp [hms] at *; omega
              · obtain rfl : m = (W - D.length) := by omega
                go_wp2_with (first | (go_at_call 22; (with_reducible refine (rpadS _ ([] ++ (List.replicate (W - D.length) 48 ++ D)) W mi ?_ _ ?_ ?_ ?_).mono ?_); (focus (first | rfl | (simp only [show (⟨#[45]⟩ : ByteArray) = mkS [45] from rfl, show (⟨#[43]⟩ : ByteArray) = mkS [43] from rfl, show (⟨#[]⟩ : ByteArray) = mkS [] from rfl, cat_mk]; done) | (simp [cat_mk]; done))); (focus ((try simp); omega)); (focus omega); (focus omega); rintro e w4 ⟨rfl, hb⟩; (refine mem hb ?_; intro N hN hz hc hf; (try simp at hN); subst hN)))
                go_returns
                refine ⟨ret_s (by rw [HL.out]; first | done | rfl), ?_⟩
                (repeat' (first | (with_reducible exact Below.refl _ _) | (with_reducible assumption) | (with_reducible refine Below.alloc ?_ ?_ _) | (with_reducible refine below_drewN ?_ _) | (with_reducible refine Below.drew ?_) | (with_reducible refine Below.setCell ?_ ?_ _) | (with_reducible refine below_via (by assumption) ?_ ?_) | (with_reducible refine below_via (later_below _) ?_ ?_) | (with_reducible exact Nat.le_refl _) | omega | (simp; omega) | (simp; done)))
      · go_enter Tryz.func35, Tryz.ntmps35
        go_upto_region 8 with fail
        go_cut [71] (fun z wx => z = .bool (ze && !mi) ∧ wx = (w.alloc (.cells #[.string t, .int .u8 102, .bool mi, .bool ze, .bool true, .int .i64 W, .int .i64 N] 32)))
        case first =>
          cases ze <;> cases mi
          all_goals
            go_wp2_with fail
            go_meet
            exact ⟨rfl, rfl⟩
        case rest =>
          obtain ⟨rfl, rfl⟩ := hcut
          obtain ⟨Z, hZ⟩ : ∃ Z, (ze && !mi) = Z := ⟨_, rfl⟩
          rw [hZ] at HZ ⊢
          clear hZ
          cases Z
          · skip
            have HL : Hid (bodyP ⟨[], 102, mi, ze, true, W, N⟩ D = padL ([43] ++ D) W mi) := by
              show _ = _
              rw [HL0.out, HS.out, HZ.out, HBD.out]
              simp [HH.out]
            clear HS HZ HBD HL0 HH
            go_wp2_with (first | (go_at_call 22; (with_reducible refine (rpadS _ ([43] ++ D) W mi ?_ _ ?_ ?_ ?_).mono ?_); (focus (first | rfl | (simp only [show (⟨#[45]⟩ : ByteArray) = mkS [45] from rfl, show (⟨#[43]⟩ : ByteArray) = mkS [43] from rfl, show (⟨#[]⟩ : ByteArray) = mkS [] from rfl, cat_mk]; done) | (simp [cat_mk]; done))); (focus ((try simp); omega)); (focus omega); (focus omega); rintro e w4 ⟨rfl, hb⟩; (refine mem hb ?_; intro N hN hz hc hf; (try simp at hN); subst hN)))
            go_returns
            refine ⟨ret_s (by rw [HL.out]; first | done | rfl), ?_⟩
            (repeat' (first | (with_reducible exact Below.refl _ _) | (with_reducible assumption) | (with_reducible refine Below.alloc ?_ ?_ _) | (with_reducible refine below_drewN ?_ _) | (with_reducible refine Below.drew ?_) | (with_reducible refine Below.setCell ?_ ?_ _) | (with_reducible refine below_via (by assumption) ?_ ?_) | (with_reducible refine below_via (later_below _) ?_ ?_) | (with_reducible exact Nat.le_refl _) | omega | (simp; omega) | (simp; done)))
          · skip
            have HL : Hid (bodyP ⟨[], 102, mi, ze, true, W, N⟩ D = padL ([43] ++ (List.replicate (W - 1 - D.length) 48 ++ D)) W mi) := by
              show _ = _
              rw [HL0.out, HS.out, HZ.out, HBD.out]
              simp [HH.out]
            clear HS HZ HBD HL0 HH
            go_wp2_with fail
            go_loop [1] (fun v => ∃ m : Nat, m ≤ (W - 1 - D.length) ∧ v = .string (mkS (List.replicate m 48 ++ D))) (fun v => 100 - (match v with | .string x => x.size - D.length | _ => 0))
            case atStart => exact ⟨0, Nat.zero_le _, rfl⟩
            case round =>
              obtain ⟨m, hm, rfl⟩ := hrel
              have hms : (mkS (List.replicate m (48 : UInt8) ++ D)).size = m + D.length := by rw [mkS_size, List.length_append, List.length_replicate]
              by_cases hlt : m < (W - 1 - D.length)
              · have hc := rep_cons m D
                have hms2 : (mkS (List.replicate (m + 1) (48 : UInt8) ++ D)).size = m + 1 + D.length := by rw [mkS_size, List.length_append, List.length_replicate]
                have HMS := Lib.hid hms2
                clear hms2
                skip
                go_wp2_with fail
                go_round
                case rel => exact ⟨m + 1, by omega, by first | rfl | rw [hc]⟩
                case measure => have := HMS.out; simp [hms] at *; omega
              · obtain rfl : m = (W - 1 - D.length) := by omega
                go_wp2_with (first | (go_at_call 22; (with_reducible refine (rpadS _ ([43] ++ (List.replicate (W - 1 - D.length) 48 ++ D)) W mi ?_ _ ?_ ?_ ?_).mono ?_); (focus (first | rfl | (simp only [show (⟨#[45]⟩ : ByteArray) = mkS [45] from rfl, show (⟨#[43]⟩ : ByteArray) = mkS [43] from rfl, show (⟨#[]⟩ : ByteArray) = mkS [] from rfl, cat_mk]; done) | (simp [cat_mk]; done))); (focus ((try simp); omega)); (focus omega); (focus omega); rintro e w4 ⟨rfl, hb⟩; (refine mem hb ?_; intro N hN hz hc hf; (try simp at hN); subst hN)))
                go_returns
                refine ⟨ret_s (by rw [HL.out]; first | done | rfl), ?_⟩
                (repeat' (first | (with_reducible exact Below.refl _ _) | (with_reducible assumption) | (with_reducible refine Below.alloc ?_ ?_ _) | (with_reducible refine below_drewN ?_ _) | (with_reducible refine Below.drew ?_) | (with_reducible refine Below.setCell ?_ ?_ _) | (with_reducible refine below_via (by assumption) ?_ ?_) | (with_reducible refine below_via (later_below _) ?_ ?_) | (with_reducible exact Nat.le_refl _) | omega | (simp; omega) | (simp; done)))
    · have hpos : 0 < D.length := by rw [hsz] at h0; exact h0
      have d0 : decide (0 < D.length) = true := decide_eq_true (by omega)
      have d0' : decide ((0 : Int) < (D.length : Int)) = true := decide_eq_true (by omega)
      have d45 : ((((mkS D)[0]'h0).toNat : Int) == 45) = false := by simp; omega
      cases pl
      · go_enter Tryz.func35, Tryz.ntmps35
        go_upto_region 8 with fail
        go_cut [71] (fun z wx => z = .bool (ze && !mi) ∧ wx = (w.alloc (.cells #[.string t, .int .u8 102, .bool mi, .bool ze, .bool false, .int .i64 W, .int .i64 N] 32)))
        case first =>
          cases ze <;> cases mi
          all_goals
            go_wp2_with fail
            go_meet
            exact ⟨rfl, rfl⟩
        case rest =>
          obtain ⟨rfl, rfl⟩ := hcut
          obtain ⟨Z, hZ⟩ : ∃ Z, (ze && !mi) = Z := ⟨_, rfl⟩
          rw [hZ] at HZ ⊢
          clear hZ
          cases Z
          · skip
            have HL : Hid (bodyP ⟨[], 102, mi, ze, false, W, N⟩ D = padL ([] ++ D) W mi) := by
              show _ = _
              rw [HL0.out, HS.out, HZ.out, HBD.out]
              simp [HH.out]
            clear HS HZ HBD HL0 HH
            go_wp2_with (first | (go_at_call 22; (with_reducible refine (rpadS _ ([] ++ D) W mi ?_ _ ?_ ?_ ?_).mono ?_); (focus (first | rfl | (simp only [show (⟨#[45]⟩ : ByteArray) = mkS [45] from rfl, show (⟨#[43]⟩ : ByteArray) = mkS [43] from rfl, show (⟨#[]⟩ : ByteArray) = mkS [] from rfl, cat_mk]; done) | (simp [cat_mk]; done))); (focus ((try simp); omega)); (focus omega); (focus omega); rintro e w4 ⟨rfl, hb⟩; (refine mem hb ?_; intro N hN hz hc hf; (try simp at hN); subst hN)))
            go_returns
            refine ⟨ret_s (by rw [HL.out]; first | done | rfl), ?_⟩
            (repeat' (first | (with_reducible exact Below.refl _ _) | (with_reducible assumption) | (with_reducible refine Below.alloc ?_ ?_ _) | (with_reducible refine below_drewN ?_ _) | (with_reducible refine Below.drew ?_) | (with_reducible refine Below.setCell ?_ ?_ _) | (with_reducible refine below_via (by assumption) ?_ ?_) | (with_reducible refine below_via (later_below _) ?_ ?_) | (with_reducible exact Nat.le_refl _) | omega | (simp; omega) | (simp; done)))
          · skip
            have HL : Hid (bodyP ⟨[], 102, mi, ze, false, W, N⟩ D = padL ([] ++ (List.replicate (W - D.length) 48 ++ D)) W mi) := by
              show _ = _
              rw [HL0.out, HS.out, HZ.out, HBD.out]
              simp [HH.out]
            clear HS HZ HBD HL0 HH
            go_wp2_with fail
            go_loop [1] (fun v => ∃ m : Nat, m ≤ (W - D.length) ∧ v = .string (mkS (List.replicate m 48 ++ D))) (fun v => 100 - (match v with | .string x => x.size - D.length | _ => 0))
            case atStart => exact ⟨0, Nat.zero_le _, rfl⟩
            case round =>
              obtain ⟨m, hm, rfl⟩ := hrel
              have hms : (mkS (List.replicate m (48 : UInt8) ++ D)).size = m + D.length := by rw [mkS_size, List.length_append, List.length_replicate]
              by_cases hlt : m < (W - D.length)
              · have hc := rep_cons m D
                have hms2 : (mkS (List.replicate (m + 1) (48 : UInt8) ++ D)).size = m + 1 + D.length := by rw [mkS_size, List.length_append, List.length_replicate]
                have HMS := Lib.hid hms2
                clear hms2
                skip
                go_wp2_with fail
                go_round
                case rel => exact ⟨m + 1, by omega, by first | rfl | rw [hc]⟩
                case measure => have := HMS.out; simp [hms] at *; omega
              · obtain rfl : m = (W - D.length) := by omega
                go_wp2_with (first | (go_at_call 22; (with_reducible refine (rpadS _ ([] ++ (List.replicate (W - D.length) 48 ++ D)) W mi ?_ _ ?_ ?_ ?_).mono ?_); (focus (first | rfl | (simp only [show (⟨#[45]⟩ : ByteArray) = mkS [45] from rfl, show (⟨#[43]⟩ : ByteArray) = mkS [43] from rfl, show (⟨#[]⟩ : ByteArray) = mkS [] from rfl, cat_mk]; done) | (simp [cat_mk]; done))); (focus ((try simp); omega)); (focus omega); (focus omega); rintro e w4 ⟨rfl, hb⟩; (refine mem hb ?_; intro N hN hz hc hf; (try simp at hN); subst hN)))
                go_returns
                refine ⟨ret_s (by rw [HL.out]; first | done | rfl), ?_⟩
                (repeat' (first | (with_reducible exact Below.refl _ _) | (with_reducible assumption) | (with_reducible refine Below.alloc ?_ ?_ _) | (with_reducible refine below_drewN ?_ _) | (with_reducible refine Below.drew ?_) | (with_reducible refine Below.setCell ?_ ?_ _) | (with_reducible refine below_via (by assumption) ?_ ?_) | (with_reducible refine below_via (later_below _) ?_ ?_) | (with_reducible exact Nat.le_refl _) | omega | (simp; omega) | (simp; done)))
      · go_enter Tryz.func35, Tryz.ntmps35
        go_upto_region 8 with fail
        go_cut [71] (fun z wx => z = .bool (ze && !mi) ∧ wx = (w.alloc (.cells #[.string t, .int .u8 102, .bool mi, .bool ze, .bool true, .int .i64 W, .int .i64 N] 32)))
        case first =>
          cases ze <;> cases mi
          all_goals
            go_wp2_with fail
            go_meet
            exact ⟨rfl, rfl⟩
        case rest =>
          obtain ⟨rfl, rfl⟩ := hcut
          obtain ⟨Z, hZ⟩ : ∃ Z, (ze && !mi) = Z := ⟨_, rfl⟩
          rw [hZ] at HZ ⊢
          clear hZ
          cases Z
          · skip
            have HL : Hid (bodyP ⟨[], 102, mi, ze, true, W, N⟩ D = padL ([43] ++ D) W mi) := by
              show _ = _
              rw [HL0.out, HS.out, HZ.out, HBD.out]
              simp [HH.out]
            clear HS HZ HBD HL0 HH
            go_wp2_with (first | (go_at_call 22; (with_reducible refine (rpadS _ ([43] ++ D) W mi ?_ _ ?_ ?_ ?_).mono ?_); (focus (first | rfl | (simp only [show (⟨#[45]⟩ : ByteArray) = mkS [45] from rfl, show (⟨#[43]⟩ : ByteArray) = mkS [43] from rfl, show (⟨#[]⟩ : ByteArray) = mkS [] from rfl, cat_mk]; done) | (simp [cat_mk]; done))); (focus ((try simp); omega)); (focus omega); (focus omega); rintro e w4 ⟨rfl, hb⟩; (refine mem hb ?_; intro N hN hz hc hf; (try simp at hN); subst hN)))
            go_returns
            refine ⟨ret_s (by rw [HL.out]; first | done | rfl), ?_⟩
            (repeat' (first | (with_reducible exact Below.refl _ _) | (with_reducible assumption) | (with_reducible refine Below.alloc ?_ ?_ _) | (with_reducible refine below_drewN ?_ _) | (with_reducible refine Below.drew ?_) | (with_reducible refine Below.setCell ?_ ?_ _) | (with_reducible refine below_via (by assumption) ?_ ?_) | (with_reducible refine below_via (later_below _) ?_ ?_) | (with_reducible exact Nat.le_refl _) | omega | (simp; omega) | (simp; done)))
          · skip
            have HL : Hid (bodyP ⟨[], 102, mi, ze, true, W, N⟩ D = padL ([43] ++ (List.replicate (W - 1 - D.length) 48 ++ D)) W mi) := by
              show _ = _
              rw [HL0.out, HS.out, HZ.out, HBD.out]
              simp [HH.out]
            clear HS HZ HBD HL0 HH
            go_wp2_with fail
            go_loop [1] (fun v => ∃ m : Nat, m ≤ (W - 1 - D.length) ∧ v = .string (mkS (List.replicate m 48 ++ D))) (fun v => 100 - (match v with | .string x => x.size - D.length | _ => 0))
            case atStart => exact ⟨0, Nat.zero_le _, rfl⟩
            case round =>
              obtain ⟨m, hm, rfl⟩ := hrel
              have hms : (mkS (List.replicate m (48 : UInt8) ++ D)).size = m + D.length := by rw [mkS_size, List.length_append, List.length_replicate]
              by_cases hlt : m < (W - 1 - D.length)
              · have hc := rep_cons m D
                have hms2 : (mkS (List.replicate (m + 1) (48 : UInt8) ++ D)).size = m + 1 + D.length := by rw [mkS_size, List.length_append, List.length_replicate]
                have HMS := Lib.hid hms2
                clear hms2
                skip
                go_wp2_with fail
                go_round
                case rel => exact ⟨m + 1, by omega, by first | rfl | rw [hc]⟩
                case measure => have := HMS.out; simp [hms] at *; omega
              · obtain rfl : m = (W - 1 - D.length) := by omega
                go_wp2_with (first | (go_at_call 22; (with_reducible refine (rpadS _ ([43] ++ (List.replicate (W - 1 - D.length) 48 ++ D)) W mi ?_ _ ?_ ?_ ?_).mono ?_); (focus (first | rfl | (simp only [show (⟨#[45]⟩ : ByteArray) = mkS [45] from rfl, show (⟨#[43]⟩ : ByteArray) = mkS [43] from rfl, show (⟨#[]⟩ : ByteArray) = mkS [] from rfl, cat_mk]; done) | (simp [cat_mk]; done))); (focus ((try simp); omega)); (focus omega); (focus omega); rintro e w4 ⟨rfl, hb⟩; (refine mem hb ?_; intro N hN hz hc hf; (try simp at hN); subst hN)))
                go_returns
                refine ⟨ret_s (by rw [HL.out]; first | done | rfl), ?_⟩
                (repeat' (first | (with_reducible exact Below.refl _ _) | (with_reducible assumption) | (with_reducible refine Below.alloc ?_ ?_ _) | (with_reducible refine below_drewN ?_ _) | (with_reducible refine Below.drew ?_) | (with_reducible refine Below.setCell ?_ ?_ _) | (with_reducible refine below_via (by assumption) ?_ ?_) | (with_reducible refine below_via (later_below _) ?_ ?_) | (with_reducible exact Nat.le_refl _) | omega | (simp; omega) | (simp; done)))
set_option maxHeartbeats 8000000 in
set_option maxRecDepth 100000 in
theorem rpd_g (t : ByteArray) (mi ze pl : Bool) (W : Nat) (N : Int) (D : List UInt8) (hW : W ≤ 99) (hD : D.length ≤ 5000000) (w : World) :
    Calls Tryz.prog 35 #[pV t 103 mi ze pl W N, .string (mkS D)] w fun e w' => e = .returned (.string (mkS (bodyP ⟨[], 103, mi, ze, pl, W, N⟩ D))) ∧ Below w.heap.size w w' := by
  have HL0 : Hid (bodyP ⟨[], 103, mi, ze, pl, W, N⟩ D = padL (signA ⟨[], 103, mi, ze, pl, W, N⟩ D ++ zeroA ⟨[], 103, mi, ze, pl, W, N⟩ (signA ⟨[], 103, mi, ze, pl, W, N⟩ D) (bodyA D)) W mi) := if_neg (by simp)
  have HZ : Hid (∀ sg s, zeroA ⟨[], 103, mi, ze, pl, W, N⟩ sg s = if (ze && !mi) = true ∧ False then List.replicate (W - sg.length - s.length) 48 ++ s else s) := by
    intro sg s
    unfold zeroA
    cases ze <;> cases mi <;> simp
  have HS : Hid (signA ⟨[], 103, mi, ze, pl, W, N⟩ D = if D.head? = some 45 then [45] else if pl = true then [43] else []) := by
    show _ = _
    unfold signA
    cases pl <;> simp
  by_cases hh : D.head? = some 45
  · obtain ⟨D', rfl⟩ : ∃ D', D = 45 :: D' := by
      cases D with
      | nil => cases hh
      | cons c D' => simp at hh; exact ⟨D', by rw [hh]⟩
    have hex := tail_ext2 45 D'
    have hex2 := hex
    rw [mkS_size, List.length_cons] at hex2
    have hsz := mkS_size (45 :: D')
    have hsz2 := mkS_size D'
    have hg0 : (mkS (45 :: D'))[0]? = some 45 := rfl
    have HBD : Hid (bodyA (45 :: D') = D') := rfl
    rw [List.length_cons] at hD hsz
    clear hh
    go_enter Tryz.func35, Tryz.ntmps35
    have HL : Hid (bodyP ⟨[], 103, mi, ze, pl, W, N⟩ (45 :: D') = padL ([45] ++ D') W mi) := by
      show _ = _
      rw [HL0.out, HS.out, HZ.out, HBD.out]
      simp
    clear HS HZ HBD HL0
    go_upto_region 4 with fail
    go_region
    go_upto_region 8 with fail
    go_cut [71] (fun z wx => z = .bool false ∧ wx = (w.alloc (.cells #[.string t, .int .u8 103, .bool mi, .bool ze, .bool pl, .int .i64 W, .int .i64 N] 32)).drew)
    case first =>
      cases ze <;> cases mi
      all_goals
        go_wp2_with fail
        go_meet
        exact ⟨rfl, rfl⟩
    case rest =>
      obtain ⟨rfl, rfl⟩ := hcut
      go_wp2_with (first | (go_at_call 22; (with_reducible refine (rpadS _ ([45] ++ D') W mi ?_ _ ?_ ?_ ?_).mono ?_); (focus (first | rfl | (simp only [show (⟨#[45]⟩ : ByteArray) = mkS [45] from rfl, show (⟨#[43]⟩ : ByteArray) = mkS [43] from rfl, show (⟨#[]⟩ : ByteArray) = mkS [] from rfl, cat_mk]; done) | (simp [cat_mk]; done))); (focus ((try simp); omega)); (focus omega); (focus omega); rintro e w4 ⟨rfl, hb⟩; (refine mem hb ?_; intro N hN hz hc hf; (try simp at hN); subst hN)))
      go_returns
      refine ⟨ret_s (by rw [HL.out]; first | done | rfl), ?_⟩
      (repeat' (first | (with_reducible exact Below.refl _ _) | (with_reducible assumption) | (with_reducible refine Below.alloc ?_ ?_ _) | (with_reducible refine below_drewN ?_ _) | (with_reducible refine Below.drew ?_) | (with_reducible refine Below.setCell ?_ ?_ _) | (with_reducible refine below_via (by assumption) ?_ ?_) | (with_reducible refine below_via (later_below _) ?_ ?_) | (with_reducible exact Nat.le_refl _) | omega | (simp; omega) | (simp; done)))
  · have HBD : Hid (bodyA D = D) := if_neg hh
    have HH := Lib.hid hh
    have hsz := mkS_size D
    have HD0 : Hid (D.length = 0 ∨ ∃ h : 0 < (mkS D).size, ¬ ((mkS D)[0]'h).toNat = 45) := by
      cases D with
      | nil => exact .inl rfl
      | cons c D' =>
        right
        refine ⟨by rw [mkS_size]; simp, fun e => hh ?_⟩
        have : c = 45 := UInt8.toNat_inj.1 e
        simp [this]
    clear hh
    rcases HD0.out with h0 | ⟨h0, h45⟩
    · have d0 : decide (0 < D.length) = false := decide_eq_false (by omega)
      have d0' : decide ((0 : Int) < (D.length : Int)) = false := decide_eq_false (by omega)
      have hD0 : D = [] := List.eq_nil_of_length_eq_zero h0
      have HE0 := Lib.hid hD0
      clear h0 hD0
      cases pl
      · go_enter Tryz.func35, Tryz.ntmps35
        have HL : Hid (bodyP ⟨[], 103, mi, ze, false, W, N⟩ D = padL ([] ++ D) W mi) := by
          show _ = _
          rw [HL0.out, HS.out, HZ.out, HBD.out]
          simp [HH.out]
        clear HS HZ HBD HL0 HH
        go_upto_region 8 with fail
        go_cut [71] (fun z wx => z = .bool false ∧ wx = (w.alloc (.cells #[.string t, .int .u8 103, .bool mi, .bool ze, .bool false, .int .i64 W, .int .i64 N] 32)))
        case first =>
          cases ze <;> cases mi
          all_goals
            go_wp2_with fail
            go_meet
            exact ⟨rfl, rfl⟩
        case rest =>
          obtain ⟨rfl, rfl⟩ := hcut
          go_wp2_with (first | (go_at_call 22; (with_reducible refine (rpadS _ ([] ++ D) W mi ?_ _ ?_ ?_ ?_).mono ?_); (focus (first | rfl | (simp only [show (⟨#[45]⟩ : ByteArray) = mkS [45] from rfl, show (⟨#[43]⟩ : ByteArray) = mkS [43] from rfl, show (⟨#[]⟩ : ByteArray) = mkS [] from rfl, cat_mk]; done) | (simp [cat_mk]; done))); (focus ((try simp); omega)); (focus omega); (focus omega); rintro e w4 ⟨rfl, hb⟩; (refine mem hb ?_; intro N hN hz hc hf; (try simp at hN); subst hN)))
          go_returns
          refine ⟨ret_s (by rw [HL.out]; first | done | rfl), ?_⟩
          (repeat' (first | (with_reducible exact Below.refl _ _) | (with_reducible assumption) | (with_reducible refine Below.alloc ?_ ?_ _) | (with_reducible refine below_drewN ?_ _) | (with_reducible refine Below.drew ?_) | (with_reducible refine Below.setCell ?_ ?_ _) | (with_reducible refine below_via (by assumption) ?_ ?_) | (with_reducible refine below_via (later_below _) ?_ ?_) | (with_reducible exact Nat.le_refl _) | omega | (simp; omega) | (simp; done)))
      · go_enter Tryz.func35, Tryz.ntmps35
        have HL : Hid (bodyP ⟨[], 103, mi, ze, true, W, N⟩ D = padL ([43] ++ D) W mi) := by
          show _ = _
          rw [HL0.out, HS.out, HZ.out, HBD.out]
          simp [HH.out]
        clear HS HZ HBD HL0 HH
        go_upto_region 8 with fail
        go_cut [71] (fun z wx => z = .bool false ∧ wx = (w.alloc (.cells #[.string t, .int .u8 103, .bool mi, .bool ze, .bool true, .int .i64 W, .int .i64 N] 32)))
        case first =>
          cases ze <;> cases mi
          all_goals
            go_wp2_with fail
            go_meet
            exact ⟨rfl, rfl⟩
        case rest =>
          obtain ⟨rfl, rfl⟩ := hcut
          go_wp2_with (first | (go_at_call 22; (with_reducible refine (rpadS _ ([43] ++ D) W mi ?_ _ ?_ ?_ ?_).mono ?_); (focus (first | rfl | (simp only [show (⟨#[45]⟩ : ByteArray) = mkS [45] from rfl, show (⟨#[43]⟩ : ByteArray) = mkS [43] from rfl, show (⟨#[]⟩ : ByteArray) = mkS [] from rfl, cat_mk]; done) | (simp [cat_mk]; done))); (focus ((try simp); omega)); (focus omega); (focus omega); rintro e w4 ⟨rfl, hb⟩; (refine mem hb ?_; intro N hN hz hc hf; (try simp at hN); subst hN)))
          go_returns
          refine ⟨ret_s (by rw [HL.out]; first | done | rfl), ?_⟩
          (repeat' (first | (with_reducible exact Below.refl _ _) | (with_reducible assumption) | (with_reducible refine Below.alloc ?_ ?_ _) | (with_reducible refine below_drewN ?_ _) | (with_reducible refine Below.drew ?_) | (with_reducible refine Below.setCell ?_ ?_ _) | (with_reducible refine below_via (by assumption) ?_ ?_) | (with_reducible refine below_via (later_below _) ?_ ?_) | (with_reducible exact Nat.le_refl _) | omega | (simp; omega) | (simp; done)))
    · have hpos : 0 < D.length := by rw [hsz] at h0; exact h0
      have d0 : decide (0 < D.length) = true := decide_eq_true (by omega)
      have d0' : decide ((0 : Int) < (D.length : Int)) = true := decide_eq_true (by omega)
      have d45 : ((((mkS D)[0]'h0).toNat : Int) == 45) = false := by simp; omega
      cases pl
      · go_enter Tryz.func35, Tryz.ntmps35
        have HL : Hid (bodyP ⟨[], 103, mi, ze, false, W, N⟩ D = padL ([] ++ D) W mi) := by
          show _ = _
          rw [HL0.out, HS.out, HZ.out, HBD.out]
          simp [HH.out]
        clear HS HZ HBD HL0 HH
        go_upto_region 8 with fail
        go_cut [71] (fun z wx => z = .bool false ∧ wx = (w.alloc (.cells #[.string t, .int .u8 103, .bool mi, .bool ze, .bool false, .int .i64 W, .int .i64 N] 32)))
        case first =>
          cases ze <;> cases mi
          all_goals
            go_wp2_with fail
            go_meet
            exact ⟨rfl, rfl⟩
        case rest =>
          obtain ⟨rfl, rfl⟩ := hcut
          go_wp2_with (first | (go_at_call 22; (with_reducible refine (rpadS _ ([] ++ D) W mi ?_ _ ?_ ?_ ?_).mono ?_); (focus (first | rfl | (simp only [show (⟨#[45]⟩ : ByteArray) = mkS [45] from rfl, show (⟨#[43]⟩ : ByteArray) = mkS [43] from rfl, show (⟨#[]⟩ : ByteArray) = mkS [] from rfl, cat_mk]; done) | (simp [cat_mk]; done))); (focus ((try simp); omega)); (focus omega); (focus omega); rintro e w4 ⟨rfl, hb⟩; (refine mem hb ?_; intro N hN hz hc hf; (try simp at hN); subst hN)))
          go_returns
          refine ⟨ret_s (by rw [HL.out]; first | done | rfl), ?_⟩
          (repeat' (first | (with_reducible exact Below.refl _ _) | (with_reducible assumption) | (with_reducible refine Below.alloc ?_ ?_ _) | (with_reducible refine below_drewN ?_ _) | (with_reducible refine Below.drew ?_) | (with_reducible refine Below.setCell ?_ ?_ _) | (with_reducible refine below_via (by assumption) ?_ ?_) | (with_reducible refine below_via (later_below _) ?_ ?_) | (with_reducible exact Nat.le_refl _) | omega | (simp; omega) | (simp; done)))
      · go_enter Tryz.func35, Tryz.ntmps35
        have HL : Hid (bodyP ⟨[], 103, mi, ze, true, W, N⟩ D = padL ([43] ++ D) W mi) := by
          show _ = _
          rw [HL0.out, HS.out, HZ.out, HBD.out]
          simp [HH.out]
        clear HS HZ HBD HL0 HH
        go_upto_region 8 with fail
        go_cut [71] (fun z wx => z = .bool false ∧ wx = (w.alloc (.cells #[.string t, .int .u8 103, .bool mi, .bool ze, .bool true, .int .i64 W, .int .i64 N] 32)))
        case first =>
          cases ze <;> cases mi
          all_goals
            go_wp2_with fail
            go_meet
            exact ⟨rfl, rfl⟩
        case rest =>
          obtain ⟨rfl, rfl⟩ := hcut
          go_wp2_with (first | (go_at_call 22; (with_reducible refine (rpadS _ ([43] ++ D) W mi ?_ _ ?_ ?_ ?_).mono ?_); (focus (first | rfl | (simp only [show (⟨#[45]⟩ : ByteArray) = mkS [45] from rfl, show (⟨#[43]⟩ : ByteArray) = mkS [43] from rfl, show (⟨#[]⟩ : ByteArray) = mkS [] from rfl, cat_mk]; done) | (simp [cat_mk]; done))); (focus ((try simp); omega)); (focus omega); (focus omega); rintro e w4 ⟨rfl, hb⟩; (refine mem hb ?_; intro N hN hz hc hf; (try simp at hN); subst hN)))
          go_returns
          refine ⟨ret_s (by rw [HL.out]; first | done | rfl), ?_⟩
          (repeat' (first | (with_reducible exact Below.refl _ _) | (with_reducible assumption) | (with_reducible refine Below.alloc ?_ ?_ _) | (with_reducible refine below_drewN ?_ _) | (with_reducible refine Below.drew ?_) | (with_reducible refine Below.setCell ?_ ?_ _) | (with_reducible refine below_via (by assumption) ?_ ?_) | (with_reducible refine below_via (later_below _) ?_ ?_) | (with_reducible exact Nat.le_refl _) | omega | (simp; omega) | (simp; done)))
set_option maxHeartbeats 8000000 in
set_option maxRecDepth 100000 in
theorem rpd_x (t : ByteArray) (mi ze pl : Bool) (W : Nat) (N : Int) (D : List UInt8) (hW : W ≤ 99) (hD : D.length ≤ 5000000) (hH : ¬ D.head? = some 45) (w : World) :
    Calls Tryz.prog 35 #[pV t 120 mi ze pl W N, .string (mkS D)] w fun e w' => e = .returned (.string (mkS (bodyP ⟨[], 120, mi, ze, pl, W, N⟩ D))) ∧ Below w.heap.size w w' := by
  have HL0 : Hid (bodyP ⟨[], 120, mi, ze, pl, W, N⟩ D = padL (signA ⟨[], 120, mi, ze, pl, W, N⟩ D ++ zeroA ⟨[], 120, mi, ze, pl, W, N⟩ (signA ⟨[], 120, mi, ze, pl, W, N⟩ D) (bodyA D)) W mi) := if_neg (by simp)
  have HZ : Hid (∀ sg s, zeroA ⟨[], 120, mi, ze, pl, W, N⟩ sg s = if (ze && !mi) = true ∧ True then List.replicate (W - sg.length - s.length) 48 ++ s else s) := by
    intro sg s
    unfold zeroA
    cases ze <;> cases mi <;> simp
  have HS : Hid (signA ⟨[], 120, mi, ze, pl, W, N⟩ D = if D.head? = some 45 then [45] else if False then [43] else []) := by
    show _ = _
    unfold signA
    cases pl <;> simp
  have HBD : Hid (bodyA D = D) := if_neg hH
  have HH := Lib.hid hH
  have hsz := mkS_size D
  clear hH
  go_enter Tryz.func35, Tryz.ntmps35
  go_upto_region 8 with fail
  go_cut [71] (fun z wx => z = .bool (ze && !mi) ∧ wx = (w.alloc (.cells #[.string t, .int .u8 120, .bool mi, .bool ze, .bool pl, .int .i64 W, .int .i64 N] 32)))
  case first =>
    cases ze <;> cases mi
    all_goals
      go_wp2_with fail
      go_meet
      exact ⟨rfl, rfl⟩
  case rest =>
    obtain ⟨rfl, rfl⟩ := hcut
    obtain ⟨Z, hZ⟩ : ∃ Z, (ze && !mi) = Z := ⟨_, rfl⟩
    rw [hZ] at HZ ⊢
    clear hZ
    cases Z
    · skip
      have HL : Hid (bodyP ⟨[], 120, mi, ze, pl, W, N⟩ D = padL ([] ++ D) W mi) := by
        show _ = _
        rw [HL0.out, HS.out, HZ.out, HBD.out]
        simp [HH.out]
      clear HS HZ HBD HL0 HH
      go_wp2_with (first | (go_at_call 22; (with_reducible refine (rpadS _ ([] ++ D) W mi ?_ _ ?_ ?_ ?_).mono ?_); (focus (first | rfl | (simp only [show (⟨#[45]⟩ : ByteArray) = mkS [45] from rfl, show (⟨#[43]⟩ : ByteArray) = mkS [43] from rfl, show (⟨#[]⟩ : ByteArray) = mkS [] from rfl, cat_mk]; done) | (simp [cat_mk]; done))); (focus ((try simp); omega)); (focus omega); (focus omega); rintro e w4 ⟨rfl, hb⟩; (refine mem hb ?_; intro N hN hz hc hf; (try simp at hN); subst hN)))
      go_returns
      refine ⟨ret_s (by rw [HL.out]; first | done | rfl), ?_⟩
      (repeat' (first | (with_reducible exact Below.refl _ _) | (with_reducible assumption) | (with_reducible refine Below.alloc ?_ ?_ _) | (with_reducible refine below_drewN ?_ _) | (with_reducible refine Below.drew ?_) | (with_reducible refine Below.setCell ?_ ?_ _) | (with_reducible refine below_via (by assumption) ?_ ?_) | (with_reducible refine below_via (later_below _) ?_ ?_) | (with_reducible exact Nat.le_refl _) | omega | (simp; omega) | (simp; done)))
    · skip
      have HL : Hid (bodyP ⟨[], 120, mi, ze, pl, W, N⟩ D = padL ([] ++ (List.replicate (W - D.length) 48 ++ D)) W mi) := by
        show _ = _
        rw [HL0.out, HS.out, HZ.out, HBD.out]
        simp [HH.out]
      clear HS HZ HBD HL0 HH
      go_wp2_with fail
      go_loop [1] (fun v => ∃ m : Nat, m ≤ (W - D.length) ∧ v = .string (mkS (List.replicate m 48 ++ D))) (fun v => 100 - (match v with | .string x => x.size - D.length | _ => 0))
      case atStart => exact ⟨0, Nat.zero_le _, rfl⟩
      case round =>
        obtain ⟨m, hm, rfl⟩ := hrel
        have hms : (mkS (List.replicate m (48 : UInt8) ++ D)).size = m + D.length := by rw [mkS_size, List.length_append, List.length_replicate]
        by_cases hlt : m < (W - D.length)
        · have hc := rep_cons m D
          have hms2 : (mkS (List.replicate (m + 1) (48 : UInt8) ++ D)).size = m + 1 + D.length := by rw [mkS_size, List.length_append, List.length_replicate]
          have HMS := Lib.hid hms2
          clear hms2
          skip
          go_wp2_with fail
          go_round
          case rel => exact ⟨m + 1, by omega, by first | rfl | rw [hc]⟩
          case measure => have := HMS.out; simp [hms] at *; omega
        · obtain rfl : m = (W - D.length) := by omega
          go_wp2_with (first | (go_at_call 22; (with_reducible refine (rpadS _ ([] ++ (List.replicate (W - D.length) 48 ++ D)) W mi ?_ _ ?_ ?_ ?_).mono ?_); (focus (first | rfl | (simp only [show (⟨#[45]⟩ : ByteArray) = mkS [45] from rfl, show (⟨#[43]⟩ : ByteArray) = mkS [43] from rfl, show (⟨#[]⟩ : ByteArray) = mkS [] from rfl, cat_mk]; done) | (simp [cat_mk]; done))); (focus ((try simp); omega)); (focus omega); (focus omega); rintro e w4 ⟨rfl, hb⟩; (refine mem hb ?_; intro N hN hz hc hf; (try simp at hN); subst hN)))
          go_returns
          refine ⟨ret_s (by rw [HL.out]; first | done | rfl), ?_⟩
          (repeat' (first | (with_reducible exact Below.refl _ _) | (with_reducible assumption) | (with_reducible refine Below.alloc ?_ ?_ _) | (with_reducible refine below_drewN ?_ _) | (with_reducible refine Below.drew ?_) | (with_reducible refine Below.setCell ?_ ?_ _) | (with_reducible refine below_via (by assumption) ?_ ?_) | (with_reducible refine below_via (later_below _) ?_ ?_) | (with_reducible exact Nat.le_refl _) | omega | (simp; omega) | (simp; done)))
set_option maxHeartbeats 8000000 in
set_option maxRecDepth 100000 in
theorem rpd_X (t : ByteArray) (mi ze pl : Bool) (W : Nat) (N : Int) (D : List UInt8) (hW : W ≤ 99) (hD : D.length ≤ 5000000) (hH : ¬ D.head? = some 45) (w : World) :
    Calls Tryz.prog 35 #[pV t 88 mi ze pl W N, .string (mkS D)] w fun e w' => e = .returned (.string (mkS (bodyP ⟨[], 88, mi, ze, pl, W, N⟩ D))) ∧ Below w.heap.size w w' := by
  have HL0 : Hid (bodyP ⟨[], 88, mi, ze, pl, W, N⟩ D = padL (signA ⟨[], 88, mi, ze, pl, W, N⟩ D ++ zeroA ⟨[], 88, mi, ze, pl, W, N⟩ (signA ⟨[], 88, mi, ze, pl, W, N⟩ D) (bodyA D)) W mi) := if_neg (by simp)
  have HZ : Hid (∀ sg s, zeroA ⟨[], 88, mi, ze, pl, W, N⟩ sg s = if (ze && !mi) = true ∧ True then List.replicate (W - sg.length - s.length) 48 ++ s else s) := by
    intro sg s
    unfold zeroA
    cases ze <;> cases mi <;> simp
  have HS : Hid (signA ⟨[], 88, mi, ze, pl, W, N⟩ D = if D.head? = some 45 then [45] else if False then [43] else []) := by
    show _ = _
    unfold signA
    cases pl <;> simp
  have HBD : Hid (bodyA D = D) := if_neg hH
  have HH := Lib.hid hH
  have hsz := mkS_size D
  clear hH
  go_enter Tryz.func35, Tryz.ntmps35
  go_upto_region 8 with fail
  go_cut [71] (fun z wx => z = .bool (ze && !mi) ∧ wx = (w.alloc (.cells #[.string t, .int .u8 88, .bool mi, .bool ze, .bool pl, .int .i64 W, .int .i64 N] 32)))
  case first =>
    cases ze <;> cases mi
    all_goals
      go_wp2_with fail
      go_meet
      exact ⟨rfl, rfl⟩
  case rest =>
    obtain ⟨rfl, rfl⟩ := hcut
    obtain ⟨Z, hZ⟩ : ∃ Z, (ze && !mi) = Z := ⟨_, rfl⟩
    rw [hZ] at HZ ⊢
    clear hZ
    cases Z
    · skip
      have HL : Hid (bodyP ⟨[], 88, mi, ze, pl, W, N⟩ D = padL ([] ++ D) W mi) := by
        show _ = _
        rw [HL0.out, HS.out, HZ.out, HBD.out]
        simp [HH.out]
      clear HS HZ HBD HL0 HH
      go_wp2_with (first | (go_at_call 22; (with_reducible refine (rpadS _ ([] ++ D) W mi ?_ _ ?_ ?_ ?_).mono ?_); (focus (first | rfl | (simp only [show (⟨#[45]⟩ : ByteArray) = mkS [45] from rfl, show (⟨#[43]⟩ : ByteArray) = mkS [43] from rfl, show (⟨#[]⟩ : ByteArray) = mkS [] from rfl, cat_mk]; done) | (simp [cat_mk]; done))); (focus ((try simp); omega)); (focus omega); (focus omega); rintro e w4 ⟨rfl, hb⟩; (refine mem hb ?_; intro N hN hz hc hf; (try simp at hN); subst hN)))
      go_returns
      refine ⟨ret_s (by rw [HL.out]; first | done | rfl), ?_⟩
      (repeat' (first | (with_reducible exact Below.refl _ _) | (with_reducible assumption) | (with_reducible refine Below.alloc ?_ ?_ _) | (with_reducible refine below_drewN ?_ _) | (with_reducible refine Below.drew ?_) | (with_reducible refine Below.setCell ?_ ?_ _) | (with_reducible refine below_via (by assumption) ?_ ?_) | (with_reducible refine below_via (later_below _) ?_ ?_) | (with_reducible exact Nat.le_refl _) | omega | (simp; omega) | (simp; done)))
    · skip
      have HL : Hid (bodyP ⟨[], 88, mi, ze, pl, W, N⟩ D = padL ([] ++ (List.replicate (W - D.length) 48 ++ D)) W mi) := by
        show _ = _
        rw [HL0.out, HS.out, HZ.out, HBD.out]
        simp [HH.out]
      clear HS HZ HBD HL0 HH
      go_wp2_with fail
      go_loop [1] (fun v => ∃ m : Nat, m ≤ (W - D.length) ∧ v = .string (mkS (List.replicate m 48 ++ D))) (fun v => 100 - (match v with | .string x => x.size - D.length | _ => 0))
      case atStart => exact ⟨0, Nat.zero_le _, rfl⟩
      case round =>
        obtain ⟨m, hm, rfl⟩ := hrel
        have hms : (mkS (List.replicate m (48 : UInt8) ++ D)).size = m + D.length := by rw [mkS_size, List.length_append, List.length_replicate]
        by_cases hlt : m < (W - D.length)
        · have hc := rep_cons m D
          have hms2 : (mkS (List.replicate (m + 1) (48 : UInt8) ++ D)).size = m + 1 + D.length := by rw [mkS_size, List.length_append, List.length_replicate]
          have HMS := Lib.hid hms2
          clear hms2
          skip
          go_wp2_with fail
          go_round
          case rel => exact ⟨m + 1, by omega, by first | rfl | rw [hc]⟩
          case measure => have := HMS.out; simp [hms] at *; omega
        · obtain rfl : m = (W - D.length) := by omega
          go_wp2_with (first | (go_at_call 22; (with_reducible refine (rpadS _ ([] ++ (List.replicate (W - D.length) 48 ++ D)) W mi ?_ _ ?_ ?_ ?_).mono ?_); (focus (first | rfl | (simp only [show (⟨#[45]⟩ : ByteArray) = mkS [45] from rfl, show (⟨#[43]⟩ : ByteArray) = mkS [43] from rfl, show (⟨#[]⟩ : ByteArray) = mkS [] from rfl, cat_mk]; done) | (simp [cat_mk]; done))); (focus ((try simp); omega)); (focus omega); (focus omega); rintro e w4 ⟨rfl, hb⟩; (refine mem hb ?_; intro N hN hz hc hf; (try simp at hN); subst hN)))
          go_returns
          refine ⟨ret_s (by rw [HL.out]; first | done | rfl), ?_⟩
          (repeat' (first | (with_reducible exact Below.refl _ _) | (with_reducible assumption) | (with_reducible refine Below.alloc ?_ ?_ _) | (with_reducible refine below_drewN ?_ _) | (with_reducible refine Below.drew ?_) | (with_reducible refine Below.setCell ?_ ?_ _) | (with_reducible refine below_via (by assumption) ?_ ?_) | (with_reducible refine below_via (later_below _) ?_ ?_) | (with_reducible exact Nat.le_refl _) | omega | (simp; omega) | (simp; done)))
set_option maxHeartbeats 8000000 in
set_option maxRecDepth 100000 in
theorem rpd_o (t : ByteArray) (mi ze pl : Bool) (W : Nat) (N : Int) (D : List UInt8) (hW : W ≤ 99) (hD : D.length ≤ 5000000) (hH : ¬ D.head? = some 45) (w : World) :
    Calls Tryz.prog 35 #[pV t 111 mi ze pl W N, .string (mkS D)] w fun e w' => e = .returned (.string (mkS (bodyP ⟨[], 111, mi, ze, pl, W, N⟩ D))) ∧ Below w.heap.size w w' := by
  have HL0 : Hid (bodyP ⟨[], 111, mi, ze, pl, W, N⟩ D = padL (signA ⟨[], 111, mi, ze, pl, W, N⟩ D ++ zeroA ⟨[], 111, mi, ze, pl, W, N⟩ (signA ⟨[], 111, mi, ze, pl, W, N⟩ D) (bodyA D)) W mi) := if_neg (by simp)
  have HZ : Hid (∀ sg s, zeroA ⟨[], 111, mi, ze, pl, W, N⟩ sg s = if (ze && !mi) = true ∧ True then List.replicate (W - sg.length - s.length) 48 ++ s else s) := by
    intro sg s
    unfold zeroA
    cases ze <;> cases mi <;> simp
  have HS : Hid (signA ⟨[], 111, mi, ze, pl, W, N⟩ D = if D.head? = some 45 then [45] else if False then [43] else []) := by
    show _ = _
    unfold signA
    cases pl <;> simp
  have HBD : Hid (bodyA D = D) := if_neg hH
  have HH := Lib.hid hH
  have hsz := mkS_size D
  clear hH
  go_enter Tryz.func35, Tryz.ntmps35
  go_upto_region 8 with fail
  go_cut [71] (fun z wx => z = .bool (ze && !mi) ∧ wx = (w.alloc (.cells #[.string t, .int .u8 111, .bool mi, .bool ze, .bool pl, .int .i64 W, .int .i64 N] 32)))
  case first =>
    cases ze <;> cases mi
    all_goals
      go_wp2_with fail
      go_meet
      exact ⟨rfl, rfl⟩
  case rest =>
    obtain ⟨rfl, rfl⟩ := hcut
    obtain ⟨Z, hZ⟩ : ∃ Z, (ze && !mi) = Z := ⟨_, rfl⟩
    rw [hZ] at HZ ⊢
    clear hZ
    cases Z
    · skip
      have HL : Hid (bodyP ⟨[], 111, mi, ze, pl, W, N⟩ D = padL ([] ++ D) W mi) := by
        show _ = _
        rw [HL0.out, HS.out, HZ.out, HBD.out]
        simp [HH.out]
      clear HS HZ HBD HL0 HH
      go_wp2_with (first | (go_at_call 22; (with_reducible refine (rpadS _ ([] ++ D) W mi ?_ _ ?_ ?_ ?_).mono ?_); (focus (first | rfl | (simp only [show (⟨#[45]⟩ : ByteArray) = mkS [45] from rfl, show (⟨#[43]⟩ : ByteArray) = mkS [43] from rfl, show (⟨#[]⟩ : ByteArray) = mkS [] from rfl, cat_mk]; done) | (simp [cat_mk]; done))); (focus ((try simp); omega)); (focus omega); (focus omega); rintro e w4 ⟨rfl, hb⟩; (refine mem hb ?_; intro N hN hz hc hf; (try simp at hN); subst hN)))
      go_returns
      refine ⟨ret_s (by rw [HL.out]; first | done | rfl), ?_⟩
      (repeat' (first | (with_reducible exact Below.refl _ _) | (with_reducible assumption) | (with_reducible refine Below.alloc ?_ ?_ _) | (with_reducible refine below_drewN ?_ _) | (with_reducible refine Below.drew ?_) | (with_reducible refine Below.setCell ?_ ?_ _) | (with_reducible refine below_via (by assumption) ?_ ?_) | (with_reducible refine below_via (later_below _) ?_ ?_) | (with_reducible exact Nat.le_refl _) | omega | (simp; omega) | (simp; done)))
    · skip
      have HL : Hid (bodyP ⟨[], 111, mi, ze, pl, W, N⟩ D = padL ([] ++ (List.replicate (W - D.length) 48 ++ D)) W mi) := by
        show _ = _
        rw [HL0.out, HS.out, HZ.out, HBD.out]
        simp [HH.out]
      clear HS HZ HBD HL0 HH
      go_wp2_with fail
      go_loop [1] (fun v => ∃ m : Nat, m ≤ (W - D.length) ∧ v = .string (mkS (List.replicate m 48 ++ D))) (fun v => 100 - (match v with | .string x => x.size - D.length | _ => 0))
      case atStart => exact ⟨0, Nat.zero_le _, rfl⟩
      case round =>
        obtain ⟨m, hm, rfl⟩ := hrel
        have hms : (mkS (List.replicate m (48 : UInt8) ++ D)).size = m + D.length := by rw [mkS_size, List.length_append, List.length_replicate]
        by_cases hlt : m < (W - D.length)
        · have hc := rep_cons m D
          have hms2 : (mkS (List.replicate (m + 1) (48 : UInt8) ++ D)).size = m + 1 + D.length := by rw [mkS_size, List.length_append, List.length_replicate]
          have HMS := Lib.hid hms2
          clear hms2
          skip
          go_wp2_with fail
          go_round
          case rel => exact ⟨m + 1, by omega, by first | rfl | rw [hc]⟩
          case measure => have := HMS.out; simp [hms] at *; omega
        · obtain rfl : m = (W - D.length) := by omega
          go_wp2_with (first | (go_at_call 22; (with_reducible refine (rpadS _ ([] ++ (List.replicate (W - D.length) 48 ++ D)) W mi ?_ _ ?_ ?_ ?_).mono ?_); (focus (first | rfl | (simp only [show (⟨#[45]⟩ : ByteArray) = mkS [45] from rfl, show (⟨#[43]⟩ : ByteArray) = mkS [43] from rfl, show (⟨#[]⟩ : ByteArray) = mkS [] from rfl, cat_mk]; done) | (simp [cat_mk]; done))); (focus ((try simp); omega)); (focus omega); (focus omega); rintro e w4 ⟨rfl, hb⟩; (refine mem hb ?_; intro N hN hz hc hf; (try simp at hN); subst hN)))
          go_returns
          refine ⟨ret_s (by rw [HL.out]; first | done | rfl), ?_⟩
          (repeat' (first | (with_reducible exact Below.refl _ _) | (with_reducible assumption) | (with_reducible refine Below.alloc ?_ ?_ _) | (with_reducible refine below_drewN ?_ _) | (with_reducible refine Below.drew ?_) | (with_reducible refine Below.setCell ?_ ?_ _) | (with_reducible refine below_via (by assumption) ?_ ?_) | (with_reducible refine below_via (later_below _) ?_ ?_) | (with_reducible exact Nat.le_refl _) | omega | (simp; omega) | (simp; done)))
set_option maxHeartbeats 8000000 in
set_option maxRecDepth 100000 in
theorem rpd_s (t : ByteArray) (mi ze pl : Bool) (W : Nat) (N : Int) (D : List UInt8) (hW : W ≤ 99) (hD : D.length ≤ 5000000) (w : World) :
    Calls Tryz.prog 35 #[pV t 115 mi ze pl W N, .string (mkS D)] w fun e w' => e = .returned (.string (mkS (bodyP ⟨[], 115, mi, ze, pl, W, N⟩ D))) ∧ Below w.heap.size w w' := by
  have hsz := mkS_size D
  have HL : Hid (bodyP ⟨[], 115, mi, ze, pl, W, N⟩ D = padL D W mi) := if_pos (by simp)
  go_enter Tryz.func35, Tryz.ntmps35
  go_upto_region 8 with fail
  go_cut [71] (fun z wx => z = .bool false ∧ wx = (w.alloc (.cells #[.string t, .int .u8 115, .bool mi, .bool ze, .bool pl, .int .i64 W, .int .i64 N] 32)))
  case first =>
    cases ze <;> cases mi
    all_goals
      go_wp2_with fail
      go_meet
      exact ⟨rfl, rfl⟩
  case rest =>
    obtain ⟨rfl, rfl⟩ := hcut
    go_wp2_with (first | (go_at_call 22; (with_reducible refine (rpadS _ (D) W mi ?_ _ ?_ ?_ ?_).mono ?_); (focus (first | rfl | (simp only [show (⟨#[45]⟩ : ByteArray) = mkS [45] from rfl, show (⟨#[43]⟩ : ByteArray) = mkS [43] from rfl, show (⟨#[]⟩ : ByteArray) = mkS [] from rfl, cat_mk]; done) | (simp [cat_mk]; done))); (focus ((try simp); omega)); (focus omega); (focus omega); rintro e w4 ⟨rfl, hb⟩; (refine mem hb ?_; intro N hN hz hc hf; (try simp at hN); subst hN)))
    go_returns
    refine ⟨ret_s (by rw [HL.out]; first | done | rfl), ?_⟩
    (repeat' (first | (with_reducible exact Below.refl _ _) | (with_reducible assumption) | (with_reducible refine Below.alloc ?_ ?_ _) | (with_reducible refine below_drewN ?_ _) | (with_reducible refine Below.drew ?_) | (with_reducible refine Below.setCell ?_ ?_ _) | (with_reducible refine below_via (by assumption) ?_ ?_) | (with_reducible refine below_via (later_below _) ?_ ?_) | (with_reducible exact Nat.le_refl _) | omega | (simp; omega) | (simp; done)))
set_option maxHeartbeats 8000000 in
set_option maxRecDepth 100000 in
theorem rpd_c (t : ByteArray) (mi ze pl : Bool) (W : Nat) (N : Int) (D : List UInt8) (hW : W ≤ 99) (hD : D.length ≤ 5000000) (w : World) :
    Calls Tryz.prog 35 #[pV t 99 mi ze pl W N, .string (mkS D)] w fun e w' => e = .returned (.string (mkS (bodyP ⟨[], 99, mi, ze, pl, W, N⟩ D))) ∧ Below w.heap.size w w' := by
  have hsz := mkS_size D
  have HL : Hid (bodyP ⟨[], 99, mi, ze, pl, W, N⟩ D = padL D W mi) := if_pos (by simp)
  go_enter Tryz.func35, Tryz.ntmps35
  go_upto_region 8 with fail
  go_cut [71] (fun z wx => z = .bool false ∧ wx = (w.alloc (.cells #[.string t, .int .u8 99, .bool mi, .bool ze, .bool pl, .int .i64 W, .int .i64 N] 32)))
  case first =>
    cases ze <;> cases mi
    all_goals
      go_wp2_with fail
      go_meet
      exact ⟨rfl, rfl⟩
  case rest =>
    obtain ⟨rfl, rfl⟩ := hcut
    go_wp2_with (first | (go_at_call 22; (with_reducible refine (rpadS _ (D) W mi ?_ _ ?_ ?_ ?_).mono ?_); (focus (first | rfl | (simp only [show (⟨#[45]⟩ : ByteArray) = mkS [45] from rfl, show (⟨#[43]⟩ : ByteArray) = mkS [43] from rfl, show (⟨#[]⟩ : ByteArray) = mkS [] from rfl, cat_mk]; done) | (simp [cat_mk]; done))); (focus ((try simp); omega)); (focus omega); (focus omega); rintro e w4 ⟨rfl, hb⟩; (refine mem hb ?_; intro N hN hz hc hf; (try simp at hN); subst hN)))
    go_returns
    refine ⟨ret_s (by rw [HL.out]; first | done | rfl), ?_⟩
    (repeat' (first | (with_reducible exact Below.refl _ _) | (with_reducible assumption) | (with_reducible refine Below.alloc ?_ ?_ _) | (with_reducible refine below_drewN ?_ _) | (with_reducible refine Below.drew ?_) | (with_reducible refine Below.setCell ?_ ?_ _) | (with_reducible refine below_via (by assumption) ?_ ?_) | (with_reducible refine below_via (later_below _) ?_ ?_) | (with_reducible exact Nat.le_refl _) | omega | (simp; omega) | (simp; done)))
set_option maxHeartbeats 8000000 in
set_option maxRecDepth 100000 in
theorem rpd_q (t : ByteArray) (mi ze pl : Bool) (W : Nat) (N : Int) (D : List UInt8) (hW : W ≤ 99) (hD : D.length ≤ 5000000) (w : World) :
    Calls Tryz.prog 35 #[pV t 113 mi ze pl W N, .string (mkS D)] w fun e w' => e = .returned (.string (mkS (bodyP ⟨[], 113, mi, ze, pl, W, N⟩ D))) ∧ Below w.heap.size w w' := by
  have hsz := mkS_size D
  have HL : Hid (bodyP ⟨[], 113, mi, ze, pl, W, N⟩ D = padL D W mi) := if_pos (by simp)
  go_enter Tryz.func35, Tryz.ntmps35
  go_upto_region 8 with fail
  go_cut [71] (fun z wx => z = .bool false ∧ wx = (w.alloc (.cells #[.string t, .int .u8 113, .bool mi, .bool ze, .bool pl, .int .i64 W, .int .i64 N] 32)))
  case first =>
    cases ze <;> cases mi
    all_goals
      go_wp2_with fail
      go_meet
      exact ⟨rfl, rfl⟩
  case rest =>
    obtain ⟨rfl, rfl⟩ := hcut
    go_wp2_with (first | (go_at_call 22; (with_reducible refine (rpadS _ (D) W mi ?_ _ ?_ ?_ ?_).mono ?_); (focus (first | rfl | (simp only [show (⟨#[45]⟩ : ByteArray) = mkS [45] from rfl, show (⟨#[43]⟩ : ByteArray) = mkS [43] from rfl, show (⟨#[]⟩ : ByteArray) = mkS [] from rfl, cat_mk]; done) | (simp [cat_mk]; done))); (focus ((try simp); omega)); (focus omega); (focus omega); rintro e w4 ⟨rfl, hb⟩; (refine mem hb ?_; intro N hN hz hc hf; (try simp at hN); subst hN)))
    go_returns
    refine ⟨ret_s (by rw [HL.out]; first | done | rfl), ?_⟩
    (repeat' (first | (with_reducible exact Below.refl _ _) | (with_reducible assumption) | (with_reducible refine Below.alloc ?_ ?_ _) | (with_reducible refine below_drewN ?_ _) | (with_reducible refine Below.drew ?_) | (with_reducible refine Below.setCell ?_ ?_ _) | (with_reducible refine below_via (by assumption) ?_ ?_) | (with_reducible refine below_via (later_below _) ?_ ?_) | (with_reducible exact Nat.le_refl _) | omega | (simp; omega) | (simp; done)))
end Go.Proofs.YtemlijadhdejeaaGreatDoor
