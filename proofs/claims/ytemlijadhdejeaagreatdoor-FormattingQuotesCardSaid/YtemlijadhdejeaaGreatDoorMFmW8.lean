/- The program's text of an argument for a directive. -/
import Derived.Test.YtemlijadhdejeaaGreatDoorMFmC
import Derived.Test.YtemlijadhdejeaaGreatDoorMFmB
import Derived.Deep.DeepCutAuto
namespace Go.Proofs.YtemlijadhdejeaaGreatDoor
open Go.RowKit Go.Instr
set_option linter.unusedVariables false

theorem head_pre (s : List UInt8) : Lib.hasPrefix s [45] = decide (s.head? = some 45) := by
  cases s with
  | nil => rfl
  | cons c t =>
    show (List.isPrefixOf [45] (c :: t)) = _
    by_cases h : c = 45
    · subst h; simp [List.isPrefixOf]
    · have h2 : ¬ 45 = c := fun e => h e.symm
      simp [List.isPrefixOf, h, h2]
theorem tail_extract (c : UInt8) (t : List UInt8) : (mkS (c :: t)).extract 1 (mkS (c :: t)).size = mkS t := by
  apply mkS_ext
  rw [drop_extract, mkS_list]; rfl
theorem zrep_any (n : Nat) (hn : n ≤ 99) (k : Int) (hk : k = (n : Int)) (w : World) :
    Calls Tryz.prog 20 #[.string ⟨#[48]⟩, .int .i64 k] w fun e w' => e = .returned (.string (mkS (List.replicate n 48))) ∧ Below w.heap.size w w' := rep_any 48 n k hk (by omega) w
theorem fpadS (S : ByteArray) (l : List UInt8) (W : Int) (mi : Bool) (hS : S = mkS l) (w : World) (hl : l.length ≤ 10000000) (h1 : -9223372036854775808 ≤ W) (h2 : W ≤ 9223372036854775807) :
    Calls Tryz.prog 21 #[.string S, .int .i64 W, .bool mi] w fun e w' => e = .returned (.string (mkS (padL l W mi))) ∧ Below w.heap.size w w' := by
  subst hS; exact fpad_any l W mi w hl h1 h2
theorem hasp_any (S : ByteArray) (b : Bool) (h : decide (S.data.toList.head? = some 45) = b) (w : World) : Calls Tryz.prog 23 #[.string S, .string ⟨#[45]⟩] w fun e w' => e = .returned (.bool b) ∧ w = w' :=
  (Tryz.strings_HasPrefix S ⟨#[45]⟩ w).mono fun _ _ ⟨he, hw⟩ => ⟨by rw [he, ← h, ← head_pre], hw.symm⟩
set_option maxHeartbeats 4000000 in
set_option maxRecDepth 100000 in
theorem fform_d (v : VV) (t : ByteArray) (mi ze pl : Bool) (W : Nat) (N : Int) (D : List UInt8) (B : Bool) (hW : W ≤ 99) (hD : D.length ≤ 100) (w : World) (hT : Tabs w)
    (h : ∀ w, Tabs w → Calls Tryz.prog 50 #[pV t 100 mi ze pl W N, vV v.k v.p v.q v.s v.r] w fun e w' => e = .returned (.tuple #[.string (mkS D), .bool B]) ∧ Below w.heap.size w w') :
    Calls Tryz.prog 31 #[pV t 100 mi ze pl W N, vV v.k v.p v.q v.s v.r] w fun e w' => e = .returned (.tuple #[.string (mkS (padL (signA ⟨[], 100, mi, ze, pl, W, N⟩ D ++ zeroA ⟨[], 100, mi, ze, pl, W, N⟩ (signA ⟨[], 100, mi, ze, pl, W, N⟩ D) (bodyA D)) W mi)), .bool B]) ∧ Below w.heap.size w w' := by
  have HD := Lib.hid h
  have HT := Lib.hid hT
  clear h hT
  obtain ⟨k, p, q, s, r⟩ := v
  dsimp only at *
  have HZ : Hid (∀ sg s, zeroA ⟨[], 100, mi, ze, pl, W, N⟩ sg s = if (ze && !mi) = true ∧ True then List.replicate (W - sg.length - s.length) 48 ++ s else s) := by
    intro sg s
    unfold zeroA
    cases ze <;> cases mi <;> simp
  have HS : Hid (signA ⟨[], 100, mi, ze, pl, W, N⟩ D = if D.head? = some 45 then [45] else if pl = true then [43] else []) := by
    show _ = _
    unfold signA
    cases pl <;> simp
  go_enter Tryz.func31, Tryz.ntmps31
  go_upto_region 1 with fail
  go_cut [6] (fun z wx => z = .bool (ze && !mi) ∧ wx = (w.alloc (.cells #[.string t, .int .u8 100, .bool mi, .bool ze, .bool pl, .int .i64 W, .int .i64 N] 31)).alloc (.cells #[.int .i64 k, .int .i64 p, .int .i64 q, .string s, .int .i64 r] 42))
  case first =>
    cases ze <;> cases mi
    all_goals
      go_wp2_with fail
      go_meet
      exact ⟨rfl, rfl⟩
  case rest =>
    obtain ⟨rfl, rfl⟩ := hcut
    obtain ⟨Z, hZ⟩ : ∃ Z, (ze && !mi) = Z := ⟨_, rfl⟩
    rw [hZ] at HZ ⊢
    clear hZ
    by_cases hh : D.head? = some 45
    · obtain ⟨D', rfl⟩ : ∃ D', D = 45 :: D' := by
        cases D with
        | nil => cases hh
        | cons c D' => simp at hh; exact ⟨D', by rw [hh]⟩
      have HP := Lib.hid (fun w' => hasp_any (mkS (45 :: D')) true (by rw [mkS_list]; rfl) w')
      have hex := tail_extract 45 D'
      have hex2 := hex
      rw [mkS_size, List.length_cons] at hex2
      have hsz := mkS_size (45 :: D')
      have hsz2 := mkS_size D'
      have HBD : Hid (bodyA (45 :: D') = D') := rfl
      rw [List.length_cons] at hD hsz
      clear hh
      cases pl
      · skip
        cases Z
        · skip
          have HL : Hid (signA ⟨[], 100, mi, ze, false, W, N⟩ (45 :: D') ++ zeroA ⟨[], 100, mi, ze, false, W, N⟩ (signA ⟨[], 100, mi, ze, false, W, N⟩ (45 :: D')) (bodyA (45 :: D')) = [45] ++ D') := by
            show _ = _
            rw [HS.out, HZ.out, HBD.out]
            simp
          clear HS HZ HBD
          go_wp2_with (first | (go_at_call 50; (with_reducible refine (HD.out _ (HT.out.later ?_)).mono ?_); (focus ((repeat' (first | (with_reducible exact Below.refl _ _) | (with_reducible assumption) | (with_reducible refine Below.alloc ?_ ?_ _) | (with_reducible refine below_drewN ?_ _) | (with_reducible refine Below.drew ?_) | (with_reducible refine Below.setCell ?_ ?_ _) | (with_reducible refine below_via (by assumption) ?_ ?_) | (with_reducible refine below_via (later_below _) ?_ ?_) | (with_reducible exact Nat.le_refl _) | omega | (simp; omega) | (simp; done))))); rintro e w1 ⟨rfl, hb⟩; (refine mem hb ?_; intro N hN hz hc hf; (try simp at hN); subst hN)) | (go_at_call 23; (with_reducible refine (HP.out _).mono ?_); rintro e w2 ⟨rfl, rfl⟩) | (go_at_call 21; (with_reducible refine (fpadS _ ([45] ++ D') W mi ?_ _ ?_ ?_ ?_).mono ?_); (focus (first | rfl | (simp only [show (⟨#[45]⟩ : ByteArray) = mkS [45] from rfl, show (⟨#[43]⟩ : ByteArray) = mkS [43] from rfl, show (⟨#[]⟩ : ByteArray) = mkS [] from rfl, cat_mk]; done) | (simp [cat_mk]; done))); (focus ((try simp); omega)); (focus omega); (focus omega); rintro e w4 ⟨rfl, hb⟩; (refine mem hb ?_; intro N hN hz hc hf; (try simp at hN); subst hN)))
          go_region
          go_wp2_with (first | (go_at_call 50; (with_reducible refine (HD.out _ (HT.out.later ?_)).mono ?_); (focus ((repeat' (first | (with_reducible exact Below.refl _ _) | (with_reducible assumption) | (with_reducible refine Below.alloc ?_ ?_ _) | (with_reducible refine below_drewN ?_ _) | (with_reducible refine Below.drew ?_) | (with_reducible refine Below.setCell ?_ ?_ _) | (with_reducible refine below_via (by assumption) ?_ ?_) | (with_reducible refine below_via (later_below _) ?_ ?_) | (with_reducible exact Nat.le_refl _) | omega | (simp; omega) | (simp; done))))); rintro e w1 ⟨rfl, hb⟩; (refine mem hb ?_; intro N hN hz hc hf; (try simp at hN); subst hN)) | (go_at_call 23; (with_reducible refine (HP.out _).mono ?_); rintro e w2 ⟨rfl, rfl⟩) | (go_at_call 21; (with_reducible refine (fpadS _ ([45] ++ D') W mi ?_ _ ?_ ?_ ?_).mono ?_); (focus (first | rfl | (simp only [show (⟨#[45]⟩ : ByteArray) = mkS [45] from rfl, show (⟨#[43]⟩ : ByteArray) = mkS [43] from rfl, show (⟨#[]⟩ : ByteArray) = mkS [] from rfl, cat_mk]; done) | (simp [cat_mk]; done))); (focus ((try simp); omega)); (focus omega); (focus omega); rintro e w4 ⟨rfl, hb⟩; (refine mem hb ?_; intro N hN hz hc hf; (try simp at hN); subst hN)))
          go_returns
          refine ⟨ret_sb (by rw [HL.out]; first | done | rfl) rfl, ?_⟩
          (repeat' (first | (with_reducible exact Below.refl _ _) | (with_reducible assumption) | (with_reducible refine Below.alloc ?_ ?_ _) | (with_reducible refine below_drewN ?_ _) | (with_reducible refine Below.drew ?_) | (with_reducible refine Below.setCell ?_ ?_ _) | (with_reducible refine below_via (by assumption) ?_ ?_) | (with_reducible refine below_via (later_below _) ?_ ?_) | (with_reducible exact Nat.le_refl _) | omega | (simp; omega) | (simp; done)))
        · skip
          have HL : Hid (signA ⟨[], 100, mi, ze, false, W, N⟩ (45 :: D') ++ zeroA ⟨[], 100, mi, ze, false, W, N⟩ (signA ⟨[], 100, mi, ze, false, W, N⟩ (45 :: D')) (bodyA (45 :: D')) = [45] ++ (List.replicate (W - 1 - D'.length) 48 ++ D')) := by
            show _ = _
            rw [HS.out, HZ.out, HBD.out]
            simp
          clear HS HZ HBD
          have hrs : (mkS (List.replicate (W - 1 - D'.length) (48 : UInt8))).size ≤ 99 := by rw [mkS_size, List.length_replicate]; omega
          go_wp2_with (first | (go_at_call 50; (with_reducible refine (HD.out _ (HT.out.later ?_)).mono ?_); (focus ((repeat' (first | (with_reducible exact Below.refl _ _) | (with_reducible assumption) | (with_reducible refine Below.alloc ?_ ?_ _) | (with_reducible refine below_drewN ?_ _) | (with_reducible refine Below.drew ?_) | (with_reducible refine Below.setCell ?_ ?_ _) | (with_reducible refine below_via (by assumption) ?_ ?_) | (with_reducible refine below_via (later_below _) ?_ ?_) | (with_reducible exact Nat.le_refl _) | omega | (simp; omega) | (simp; done))))); rintro e w1 ⟨rfl, hb⟩; (refine mem hb ?_; intro N hN hz hc hf; (try simp at hN); subst hN)) | (go_at_call 23; (with_reducible refine (HP.out _).mono ?_); rintro e w2 ⟨rfl, rfl⟩) | (go_at_call 20; (with_reducible refine (zrep_any (W - 1 - D'.length) (by omega) _ ?_ _).mono ?_); (focus (first | omega | ((try simp [ByteArray.size]); omega))); rintro e w3 ⟨rfl, hb⟩; (refine mem hb ?_; intro N hN hz hc hf; (try simp at hN); subst hN)) | (go_at_call 21; (with_reducible refine (fpadS _ ([45] ++ (List.replicate (W - 1 - D'.length) 48 ++ D')) W mi ?_ _ ?_ ?_ ?_).mono ?_); (focus (first | rfl | (simp only [show (⟨#[45]⟩ : ByteArray) = mkS [45] from rfl, show (⟨#[43]⟩ : ByteArray) = mkS [43] from rfl, show (⟨#[]⟩ : ByteArray) = mkS [] from rfl, cat_mk]; done) | (simp [cat_mk]; done))); (focus ((try simp); omega)); (focus omega); (focus omega); rintro e w4 ⟨rfl, hb⟩; (refine mem hb ?_; intro N hN hz hc hf; (try simp at hN); subst hN)))
          go_region
          go_wp2_with (first | (go_at_call 50; (with_reducible refine (HD.out _ (HT.out.later ?_)).mono ?_); (focus ((repeat' (first | (with_reducible exact Below.refl _ _) | (with_reducible assumption) | (with_reducible refine Below.alloc ?_ ?_ _) | (with_reducible refine below_drewN ?_ _) | (with_reducible refine Below.drew ?_) | (with_reducible refine Below.setCell ?_ ?_ _) | (with_reducible refine below_via (by assumption) ?_ ?_) | (with_reducible refine below_via (later_below _) ?_ ?_) | (with_reducible exact Nat.le_refl _) | omega | (simp; omega) | (simp; done))))); rintro e w1 ⟨rfl, hb⟩; (refine mem hb ?_; intro N hN hz hc hf; (try simp at hN); subst hN)) | (go_at_call 23; (with_reducible refine (HP.out _).mono ?_); rintro e w2 ⟨rfl, rfl⟩) | (go_at_call 20; (with_reducible refine (zrep_any (W - 1 - D'.length) (by omega) _ ?_ _).mono ?_); (focus (first | omega | ((try simp [ByteArray.size]); omega))); rintro e w3 ⟨rfl, hb⟩; (refine mem hb ?_; intro N hN hz hc hf; (try simp at hN); subst hN)) | (go_at_call 21; (with_reducible refine (fpadS _ ([45] ++ (List.replicate (W - 1 - D'.length) 48 ++ D')) W mi ?_ _ ?_ ?_ ?_).mono ?_); (focus (first | rfl | (simp only [show (⟨#[45]⟩ : ByteArray) = mkS [45] from rfl, show (⟨#[43]⟩ : ByteArray) = mkS [43] from rfl, show (⟨#[]⟩ : ByteArray) = mkS [] from rfl, cat_mk]; done) | (simp [cat_mk]; done))); (focus ((try simp); omega)); (focus omega); (focus omega); rintro e w4 ⟨rfl, hb⟩; (refine mem hb ?_; intro N hN hz hc hf; (try simp at hN); subst hN)))
          go_returns
          refine ⟨ret_sb (by rw [HL.out]; first | done | rfl) rfl, ?_⟩
          (repeat' (first | (with_reducible exact Below.refl _ _) | (with_reducible assumption) | (with_reducible refine Below.alloc ?_ ?_ _) | (with_reducible refine below_drewN ?_ _) | (with_reducible refine Below.drew ?_) | (with_reducible refine Below.setCell ?_ ?_ _) | (with_reducible refine below_via (by assumption) ?_ ?_) | (with_reducible refine below_via (later_below _) ?_ ?_) | (with_reducible exact Nat.le_refl _) | omega | (simp; omega) | (simp; done)))
      · skip
        cases Z
        · skip
          have HL : Hid (signA ⟨[], 100, mi, ze, true, W, N⟩ (45 :: D') ++ zeroA ⟨[], 100, mi, ze, true, W, N⟩ (signA ⟨[], 100, mi, ze, true, W, N⟩ (45 :: D')) (bodyA (45 :: D')) = [45] ++ D') := by
            show _ = _
            rw [HS.out, HZ.out, HBD.out]
            simp
          clear HS HZ HBD
          go_wp2_with (first | (go_at_call 50; (with_reducible refine (HD.out _ (HT.out.later ?_)).mono ?_); (focus ((repeat' (first | (with_reducible exact Below.refl _ _) | (with_reducible assumption) | (with_reducible refine Below.alloc ?_ ?_ _) | (with_reducible refine below_drewN ?_ _) | (with_reducible refine Below.drew ?_) | (with_reducible refine Below.setCell ?_ ?_ _) | (with_reducible refine below_via (by assumption) ?_ ?_) | (with_reducible refine below_via (later_below _) ?_ ?_) | (with_reducible exact Nat.le_refl _) | omega | (simp; omega) | (simp; done))))); rintro e w1 ⟨rfl, hb⟩; (refine mem hb ?_; intro N hN hz hc hf; (try simp at hN); subst hN)) | (go_at_call 23; (with_reducible refine (HP.out _).mono ?_); rintro e w2 ⟨rfl, rfl⟩) | (go_at_call 21; (with_reducible refine (fpadS _ ([45] ++ D') W mi ?_ _ ?_ ?_ ?_).mono ?_); (focus (first | rfl | (simp only [show (⟨#[45]⟩ : ByteArray) = mkS [45] from rfl, show (⟨#[43]⟩ : ByteArray) = mkS [43] from rfl, show (⟨#[]⟩ : ByteArray) = mkS [] from rfl, cat_mk]; done) | (simp [cat_mk]; done))); (focus ((try simp); omega)); (focus omega); (focus omega); rintro e w4 ⟨rfl, hb⟩; (refine mem hb ?_; intro N hN hz hc hf; (try simp at hN); subst hN)))
          go_region
          go_wp2_with (first | (go_at_call 50; (with_reducible refine (HD.out _ (HT.out.later ?_)).mono ?_); (focus ((repeat' (first | (with_reducible exact Below.refl _ _) | (with_reducible assumption) | (with_reducible refine Below.alloc ?_ ?_ _) | (with_reducible refine below_drewN ?_ _) | (with_reducible refine Below.drew ?_) | (with_reducible refine Below.setCell ?_ ?_ _) | (with_reducible refine below_via (by assumption) ?_ ?_) | (with_reducible refine below_via (later_below _) ?_ ?_) | (with_reducible exact Nat.le_refl _) | omega | (simp; omega) | (simp; done))))); rintro e w1 ⟨rfl, hb⟩; (refine mem hb ?_; intro N hN hz hc hf; (try simp at hN); subst hN)) | (go_at_call 23; (with_reducible refine (HP.out _).mono ?_); rintro e w2 ⟨rfl, rfl⟩) | (go_at_call 21; (with_reducible refine (fpadS _ ([45] ++ D') W mi ?_ _ ?_ ?_ ?_).mono ?_); (focus (first | rfl | (simp only [show (⟨#[45]⟩ : ByteArray) = mkS [45] from rfl, show (⟨#[43]⟩ : ByteArray) = mkS [43] from rfl, show (⟨#[]⟩ : ByteArray) = mkS [] from rfl, cat_mk]; done) | (simp [cat_mk]; done))); (focus ((try simp); omega)); (focus omega); (focus omega); rintro e w4 ⟨rfl, hb⟩; (refine mem hb ?_; intro N hN hz hc hf; (try simp at hN); subst hN)))
          go_returns
          refine ⟨ret_sb (by rw [HL.out]; first | done | rfl) rfl, ?_⟩
          (repeat' (first | (with_reducible exact Below.refl _ _) | (with_reducible assumption) | (with_reducible refine Below.alloc ?_ ?_ _) | (with_reducible refine below_drewN ?_ _) | (with_reducible refine Below.drew ?_) | (with_reducible refine Below.setCell ?_ ?_ _) | (with_reducible refine below_via (by assumption) ?_ ?_) | (with_reducible refine below_via (later_below _) ?_ ?_) | (with_reducible exact Nat.le_refl _) | omega | (simp; omega) | (simp; done)))
        · skip
          have HL : Hid (signA ⟨[], 100, mi, ze, true, W, N⟩ (45 :: D') ++ zeroA ⟨[], 100, mi, ze, true, W, N⟩ (signA ⟨[], 100, mi, ze, true, W, N⟩ (45 :: D')) (bodyA (45 :: D')) = [45] ++ (List.replicate (W - 1 - D'.length) 48 ++ D')) := by
            show _ = _
            rw [HS.out, HZ.out, HBD.out]
            simp
          clear HS HZ HBD
          have hrs : (mkS (List.replicate (W - 1 - D'.length) (48 : UInt8))).size ≤ 99 := by rw [mkS_size, List.length_replicate]; omega
          go_wp2_with (first | (go_at_call 50; (with_reducible refine (HD.out _ (HT.out.later ?_)).mono ?_); (focus ((repeat' (first | (with_reducible exact Below.refl _ _) | (with_reducible assumption) | (with_reducible refine Below.alloc ?_ ?_ _) | (with_reducible refine below_drewN ?_ _) | (with_reducible refine Below.drew ?_) | (with_reducible refine Below.setCell ?_ ?_ _) | (with_reducible refine below_via (by assumption) ?_ ?_) | (with_reducible refine below_via (later_below _) ?_ ?_) | (with_reducible exact Nat.le_refl _) | omega | (simp; omega) | (simp; done))))); rintro e w1 ⟨rfl, hb⟩; (refine mem hb ?_; intro N hN hz hc hf; (try simp at hN); subst hN)) | (go_at_call 23; (with_reducible refine (HP.out _).mono ?_); rintro e w2 ⟨rfl, rfl⟩) | (go_at_call 20; (with_reducible refine (zrep_any (W - 1 - D'.length) (by omega) _ ?_ _).mono ?_); (focus (first | omega | ((try simp [ByteArray.size]); omega))); rintro e w3 ⟨rfl, hb⟩; (refine mem hb ?_; intro N hN hz hc hf; (try simp at hN); subst hN)) | (go_at_call 21; (with_reducible refine (fpadS _ ([45] ++ (List.replicate (W - 1 - D'.length) 48 ++ D')) W mi ?_ _ ?_ ?_ ?_).mono ?_); (focus (first | rfl | (simp only [show (⟨#[45]⟩ : ByteArray) = mkS [45] from rfl, show (⟨#[43]⟩ : ByteArray) = mkS [43] from rfl, show (⟨#[]⟩ : ByteArray) = mkS [] from rfl, cat_mk]; done) | (simp [cat_mk]; done))); (focus ((try simp); omega)); (focus omega); (focus omega); rintro e w4 ⟨rfl, hb⟩; (refine mem hb ?_; intro N hN hz hc hf; (try simp at hN); subst hN)))
          go_region
          go_wp2_with (first | (go_at_call 50; (with_reducible refine (HD.out _ (HT.out.later ?_)).mono ?_); (focus ((repeat' (first | (with_reducible exact Below.refl _ _) | (with_reducible assumption) | (with_reducible refine Below.alloc ?_ ?_ _) | (with_reducible refine below_drewN ?_ _) | (with_reducible refine Below.drew ?_) | (with_reducible refine Below.setCell ?_ ?_ _) | (with_reducible refine below_via (by assumption) ?_ ?_) | (with_reducible refine below_via (later_below _) ?_ ?_) | (with_reducible exact Nat.le_refl _) | omega | (simp; omega) | (simp; done))))); rintro e w1 ⟨rfl, hb⟩; (refine mem hb ?_; intro N hN hz hc hf; (try simp at hN); subst hN)) | (go_at_call 23; (with_reducible refine (HP.out _).mono ?_); rintro e w2 ⟨rfl, rfl⟩) | (go_at_call 20; (with_reducible refine (zrep_any (W - 1 - D'.length) (by omega) _ ?_ _).mono ?_); (focus (first | omega | ((try simp [ByteArray.size]); omega))); rintro e w3 ⟨rfl, hb⟩; (refine mem hb ?_; intro N hN hz hc hf; (try simp at hN); subst hN)) | (go_at_call 21; (with_reducible refine (fpadS _ ([45] ++ (List.replicate (W - 1 - D'.length) 48 ++ D')) W mi ?_ _ ?_ ?_ ?_).mono ?_); (focus (first | rfl | (simp only [show (⟨#[45]⟩ : ByteArray) = mkS [45] from rfl, show (⟨#[43]⟩ : ByteArray) = mkS [43] from rfl, show (⟨#[]⟩ : ByteArray) = mkS [] from rfl, cat_mk]; done) | (simp [cat_mk]; done))); (focus ((try simp); omega)); (focus omega); (focus omega); rintro e w4 ⟨rfl, hb⟩; (refine mem hb ?_; intro N hN hz hc hf; (try simp at hN); subst hN)))
          go_returns
          refine ⟨ret_sb (by rw [HL.out]; first | done | rfl) rfl, ?_⟩
          (repeat' (first | (with_reducible exact Below.refl _ _) | (with_reducible assumption) | (with_reducible refine Below.alloc ?_ ?_ _) | (with_reducible refine below_drewN ?_ _) | (with_reducible refine Below.drew ?_) | (with_reducible refine Below.setCell ?_ ?_ _) | (with_reducible refine below_via (by assumption) ?_ ?_) | (with_reducible refine below_via (later_below _) ?_ ?_) | (with_reducible exact Nat.le_refl _) | omega | (simp; omega) | (simp; done)))
    · have HP := Lib.hid (fun w' => hasp_any (mkS D) false (by rw [mkS_list]; exact decide_eq_false hh) w')
      have hsz := mkS_size D
      have HBD : Hid (bodyA D = D) := if_neg hh
      have HH := Lib.hid hh
      clear hh
      cases pl
      · skip
        cases Z
        · skip
          have HL : Hid (signA ⟨[], 100, mi, ze, false, W, N⟩ D ++ zeroA ⟨[], 100, mi, ze, false, W, N⟩ (signA ⟨[], 100, mi, ze, false, W, N⟩ D) (bodyA D) = [] ++ D) := by
            show _ = _
            rw [HS.out, HZ.out, HBD.out]
            simp [HH.out]
          clear HS HZ HBD HH
          go_wp2_with (first | (go_at_call 50; (with_reducible refine (HD.out _ (HT.out.later ?_)).mono ?_); (focus ((repeat' (first | (with_reducible exact Below.refl _ _) | (with_reducible assumption) | (with_reducible refine Below.alloc ?_ ?_ _) | (with_reducible refine below_drewN ?_ _) | (with_reducible refine Below.drew ?_) | (with_reducible refine Below.setCell ?_ ?_ _) | (with_reducible refine below_via (by assumption) ?_ ?_) | (with_reducible refine below_via (later_below _) ?_ ?_) | (with_reducible exact Nat.le_refl _) | omega | (simp; omega) | (simp; done))))); rintro e w1 ⟨rfl, hb⟩; (refine mem hb ?_; intro N hN hz hc hf; (try simp at hN); subst hN)) | (go_at_call 23; (with_reducible refine (HP.out _).mono ?_); rintro e w2 ⟨rfl, rfl⟩) | (go_at_call 21; (with_reducible refine (fpadS _ ([] ++ D) W mi ?_ _ ?_ ?_ ?_).mono ?_); (focus (first | rfl | (simp only [show (⟨#[45]⟩ : ByteArray) = mkS [45] from rfl, show (⟨#[43]⟩ : ByteArray) = mkS [43] from rfl, show (⟨#[]⟩ : ByteArray) = mkS [] from rfl, cat_mk]; done) | (simp [cat_mk]; done))); (focus ((try simp); omega)); (focus omega); (focus omega); rintro e w4 ⟨rfl, hb⟩; (refine mem hb ?_; intro N hN hz hc hf; (try simp at hN); subst hN)))
          go_returns
          refine ⟨ret_sb (by rw [HL.out]; first | done | rfl) rfl, ?_⟩
          (repeat' (first | (with_reducible exact Below.refl _ _) | (with_reducible assumption) | (with_reducible refine Below.alloc ?_ ?_ _) | (with_reducible refine below_drewN ?_ _) | (with_reducible refine Below.drew ?_) | (with_reducible refine Below.setCell ?_ ?_ _) | (with_reducible refine below_via (by assumption) ?_ ?_) | (with_reducible refine below_via (later_below _) ?_ ?_) | (with_reducible exact Nat.le_refl _) | omega | (simp; omega) | (simp; done)))
        · skip
          have HL : Hid (signA ⟨[], 100, mi, ze, false, W, N⟩ D ++ zeroA ⟨[], 100, mi, ze, false, W, N⟩ (signA ⟨[], 100, mi, ze, false, W, N⟩ D) (bodyA D) = [] ++ (List.replicate (W - D.length) 48 ++ D)) := by
            show _ = _
            rw [HS.out, HZ.out, HBD.out]
            simp [HH.out]
          clear HS HZ HBD HH
          have hrs : (mkS (List.replicate (W - D.length) (48 : UInt8))).size ≤ 99 := by rw [mkS_size, List.length_replicate]; omega
          go_wp2_with (first | (go_at_call 50; (with_reducible refine (HD.out _ (HT.out.later ?_)).mono ?_); (focus ((repeat' (first | (with_reducible exact Below.refl _ _) | (with_reducible assumption) | (with_reducible refine Below.alloc ?_ ?_ _) | (with_reducible refine below_drewN ?_ _) | (with_reducible refine Below.drew ?_) | (with_reducible refine Below.setCell ?_ ?_ _) | (with_reducible refine below_via (by assumption) ?_ ?_) | (with_reducible refine below_via (later_below _) ?_ ?_) | (with_reducible exact Nat.le_refl _) | omega | (simp; omega) | (simp; done))))); rintro e w1 ⟨rfl, hb⟩; (refine mem hb ?_; intro N hN hz hc hf; (try simp at hN); subst hN)) | (go_at_call 23; (with_reducible refine (HP.out _).mono ?_); rintro e w2 ⟨rfl, rfl⟩) | (go_at_call 20; (with_reducible refine (zrep_any (W - D.length) (by omega) _ ?_ _).mono ?_); (focus (first | omega | ((try simp [ByteArray.size]); omega))); rintro e w3 ⟨rfl, hb⟩; (refine mem hb ?_; intro N hN hz hc hf; (try simp at hN); subst hN)) | (go_at_call 21; (with_reducible refine (fpadS _ ([] ++ (List.replicate (W - D.length) 48 ++ D)) W mi ?_ _ ?_ ?_ ?_).mono ?_); (focus (first | rfl | (simp only [show (⟨#[45]⟩ : ByteArray) = mkS [45] from rfl, show (⟨#[43]⟩ : ByteArray) = mkS [43] from rfl, show (⟨#[]⟩ : ByteArray) = mkS [] from rfl, cat_mk]; done) | (simp [cat_mk]; done))); (focus ((try simp); omega)); (focus omega); (focus omega); rintro e w4 ⟨rfl, hb⟩; (refine mem hb ?_; intro N hN hz hc hf; (try simp at hN); subst hN)))
          go_returns
          refine ⟨ret_sb (by rw [HL.out]; first | done | rfl) rfl, ?_⟩
          (repeat' (first | (with_reducible exact Below.refl _ _) | (with_reducible assumption) | (with_reducible refine Below.alloc ?_ ?_ _) | (with_reducible refine below_drewN ?_ _) | (with_reducible refine Below.drew ?_) | (with_reducible refine Below.setCell ?_ ?_ _) | (with_reducible refine below_via (by assumption) ?_ ?_) | (with_reducible refine below_via (later_below _) ?_ ?_) | (with_reducible exact Nat.le_refl _) | omega | (simp; omega) | (simp; done)))
      · skip
        cases Z
        · skip
          have HL : Hid (signA ⟨[], 100, mi, ze, true, W, N⟩ D ++ zeroA ⟨[], 100, mi, ze, true, W, N⟩ (signA ⟨[], 100, mi, ze, true, W, N⟩ D) (bodyA D) = [43] ++ D) := by
            show _ = _
            rw [HS.out, HZ.out, HBD.out]
            simp [HH.out]
          clear HS HZ HBD HH
          go_wp2_with (first | (go_at_call 50; (with_reducible refine (HD.out _ (HT.out.later ?_)).mono ?_); (focus ((repeat' (first | (with_reducible exact Below.refl _ _) | (with_reducible assumption) | (with_reducible refine Below.alloc ?_ ?_ _) | (with_reducible refine below_drewN ?_ _) | (with_reducible refine Below.drew ?_) | (with_reducible refine Below.setCell ?_ ?_ _) | (with_reducible refine below_via (by assumption) ?_ ?_) | (with_reducible refine below_via (later_below _) ?_ ?_) | (with_reducible exact Nat.le_refl _) | omega | (simp; omega) | (simp; done))))); rintro e w1 ⟨rfl, hb⟩; (refine mem hb ?_; intro N hN hz hc hf; (try simp at hN); subst hN)) | (go_at_call 23; (with_reducible refine (HP.out _).mono ?_); rintro e w2 ⟨rfl, rfl⟩) | (go_at_call 21; (with_reducible refine (fpadS _ ([43] ++ D) W mi ?_ _ ?_ ?_ ?_).mono ?_); (focus (first | rfl | (simp only [show (⟨#[45]⟩ : ByteArray) = mkS [45] from rfl, show (⟨#[43]⟩ : ByteArray) = mkS [43] from rfl, show (⟨#[]⟩ : ByteArray) = mkS [] from rfl, cat_mk]; done) | (simp [cat_mk]; done))); (focus ((try simp); omega)); (focus omega); (focus omega); rintro e w4 ⟨rfl, hb⟩; (refine mem hb ?_; intro N hN hz hc hf; (try simp at hN); subst hN)))
          go_returns
          refine ⟨ret_sb (by rw [HL.out]; first | done | rfl) rfl, ?_⟩
          (repeat' (first | (with_reducible exact Below.refl _ _) | (with_reducible assumption) | (with_reducible refine Below.alloc ?_ ?_ _) | (with_reducible refine below_drewN ?_ _) | (with_reducible refine Below.drew ?_) | (with_reducible refine Below.setCell ?_ ?_ _) | (with_reducible refine below_via (by assumption) ?_ ?_) | (with_reducible refine below_via (later_below _) ?_ ?_) | (with_reducible exact Nat.le_refl _) | omega | (simp; omega) | (simp; done)))
        · skip
          have HL : Hid (signA ⟨[], 100, mi, ze, true, W, N⟩ D ++ zeroA ⟨[], 100, mi, ze, true, W, N⟩ (signA ⟨[], 100, mi, ze, true, W, N⟩ D) (bodyA D) = [43] ++ (List.replicate (W - 1 - D.length) 48 ++ D)) := by
            show _ = _
            rw [HS.out, HZ.out, HBD.out]
            simp [HH.out]
          clear HS HZ HBD HH
          have hrs : (mkS (List.replicate (W - 1 - D.length) (48 : UInt8))).size ≤ 99 := by rw [mkS_size, List.length_replicate]; omega
          go_wp2_with (first | (go_at_call 50; (with_reducible refine (HD.out _ (HT.out.later ?_)).mono ?_); (focus ((repeat' (first | (with_reducible exact Below.refl _ _) | (with_reducible assumption) | (with_reducible refine Below.alloc ?_ ?_ _) | (with_reducible refine below_drewN ?_ _) | (with_reducible refine Below.drew ?_) | (with_reducible refine Below.setCell ?_ ?_ _) | (with_reducible refine below_via (by assumption) ?_ ?_) | (with_reducible refine below_via (later_below _) ?_ ?_) | (with_reducible exact Nat.le_refl _) | omega | (simp; omega) | (simp; done))))); rintro e w1 ⟨rfl, hb⟩; (refine mem hb ?_; intro N hN hz hc hf; (try simp at hN); subst hN)) | (go_at_call 23; (with_reducible refine (HP.out _).mono ?_); rintro e w2 ⟨rfl, rfl⟩) | (go_at_call 20; (with_reducible refine (zrep_any (W - 1 - D.length) (by omega) _ ?_ _).mono ?_); (focus (first | omega | ((try simp [ByteArray.size]); omega))); rintro e w3 ⟨rfl, hb⟩; (refine mem hb ?_; intro N hN hz hc hf; (try simp at hN); subst hN)) | (go_at_call 21; (with_reducible refine (fpadS _ ([43] ++ (List.replicate (W - 1 - D.length) 48 ++ D)) W mi ?_ _ ?_ ?_ ?_).mono ?_); (focus (first | rfl | (simp only [show (⟨#[45]⟩ : ByteArray) = mkS [45] from rfl, show (⟨#[43]⟩ : ByteArray) = mkS [43] from rfl, show (⟨#[]⟩ : ByteArray) = mkS [] from rfl, cat_mk]; done) | (simp [cat_mk]; done))); (focus ((try simp); omega)); (focus omega); (focus omega); rintro e w4 ⟨rfl, hb⟩; (refine mem hb ?_; intro N hN hz hc hf; (try simp at hN); subst hN)))
          go_returns
          refine ⟨ret_sb (by rw [HL.out]; first | done | rfl) rfl, ?_⟩
          (repeat' (first | (with_reducible exact Below.refl _ _) | (with_reducible assumption) | (with_reducible refine Below.alloc ?_ ?_ _) | (with_reducible refine below_drewN ?_ _) | (with_reducible refine Below.drew ?_) | (with_reducible refine Below.setCell ?_ ?_ _) | (with_reducible refine below_via (by assumption) ?_ ?_) | (with_reducible refine below_via (later_below _) ?_ ?_) | (with_reducible exact Nat.le_refl _) | omega | (simp; omega) | (simp; done)))
set_option maxHeartbeats 4000000 in
set_option maxRecDepth 100000 in
theorem fform_f (v : VV) (t : ByteArray) (mi ze pl : Bool) (W : Nat) (N : Int) (D : List UInt8) (B : Bool) (hW : W ≤ 99) (hD : D.length ≤ 100) (w : World) (hT : Tabs w)
    (h : ∀ w, Tabs w → Calls Tryz.prog 50 #[pV t 102 mi ze pl W N, vV v.k v.p v.q v.s v.r] w fun e w' => e = .returned (.tuple #[.string (mkS D), .bool B]) ∧ Below w.heap.size w w') :
    Calls Tryz.prog 31 #[pV t 102 mi ze pl W N, vV v.k v.p v.q v.s v.r] w fun e w' => e = .returned (.tuple #[.string (mkS (padL (signA ⟨[], 102, mi, ze, pl, W, N⟩ D ++ zeroA ⟨[], 102, mi, ze, pl, W, N⟩ (signA ⟨[], 102, mi, ze, pl, W, N⟩ D) (bodyA D)) W mi)), .bool B]) ∧ Below w.heap.size w w' := by
  have HD := Lib.hid h
  have HT := Lib.hid hT
  clear h hT
  obtain ⟨k, p, q, s, r⟩ := v
  dsimp only at *
  have HZ : Hid (∀ sg s, zeroA ⟨[], 102, mi, ze, pl, W, N⟩ sg s = if (ze && !mi) = true ∧ True then List.replicate (W - sg.length - s.length) 48 ++ s else s) := by
    intro sg s
    unfold zeroA
    cases ze <;> cases mi <;> simp
  have HS : Hid (signA ⟨[], 102, mi, ze, pl, W, N⟩ D = if D.head? = some 45 then [45] else if pl = true then [43] else []) := by
    show _ = _
    unfold signA
    cases pl <;> simp
  go_enter Tryz.func31, Tryz.ntmps31
  go_upto_region 1 with fail
  go_cut [6] (fun z wx => z = .bool (ze && !mi) ∧ wx = (w.alloc (.cells #[.string t, .int .u8 102, .bool mi, .bool ze, .bool pl, .int .i64 W, .int .i64 N] 31)).alloc (.cells #[.int .i64 k, .int .i64 p, .int .i64 q, .string s, .int .i64 r] 42))
  case first =>
    cases ze <;> cases mi
    all_goals
      go_wp2_with fail
      go_meet
      exact ⟨rfl, rfl⟩
  case rest =>
    obtain ⟨rfl, rfl⟩ := hcut
    obtain ⟨Z, hZ⟩ : ∃ Z, (ze && !mi) = Z := ⟨_, rfl⟩
    rw [hZ] at HZ ⊢
    clear hZ
    by_cases hh : D.head? = some 45
    · obtain ⟨D', rfl⟩ : ∃ D', D = 45 :: D' := by
        cases D with
        | nil => cases hh
        | cons c D' => simp at hh; exact ⟨D', by rw [hh]⟩
      have HP := Lib.hid (fun w' => hasp_any (mkS (45 :: D')) true (by rw [mkS_list]; rfl) w')
      have hex := tail_extract 45 D'
      have hex2 := hex
      rw [mkS_size, List.length_cons] at hex2
      have hsz := mkS_size (45 :: D')
      have hsz2 := mkS_size D'
      have HBD : Hid (bodyA (45 :: D') = D') := rfl
      rw [List.length_cons] at hD hsz
      clear hh
      cases pl
      · skip
        cases Z
        · skip
          have HL : Hid (signA ⟨[], 102, mi, ze, false, W, N⟩ (45 :: D') ++ zeroA ⟨[], 102, mi, ze, false, W, N⟩ (signA ⟨[], 102, mi, ze, false, W, N⟩ (45 :: D')) (bodyA (45 :: D')) = [45] ++ D') := by
            show _ = _
            rw [HS.out, HZ.out, HBD.out]
            simp
          clear HS HZ HBD
          go_wp2_with (first | (go_at_call 50; (with_reducible refine (HD.out _ (HT.out.later ?_)).mono ?_); (focus ((repeat' (first | (with_reducible exact Below.refl _ _) | (with_reducible assumption) | (with_reducible refine Below.alloc ?_ ?_ _) | (with_reducible refine below_drewN ?_ _) | (with_reducible refine Below.drew ?_) | (with_reducible refine Below.setCell ?_ ?_ _) | (with_reducible refine below_via (by assumption) ?_ ?_) | (with_reducible refine below_via (later_below _) ?_ ?_) | (with_reducible exact Nat.le_refl _) | omega | (simp; omega) | (simp; done))))); rintro e w1 ⟨rfl, hb⟩; (refine mem hb ?_; intro N hN hz hc hf; (try simp at hN); subst hN)) | (go_at_call 23; (with_reducible refine (HP.out _).mono ?_); rintro e w2 ⟨rfl, rfl⟩) | (go_at_call 21; (with_reducible refine (fpadS _ ([45] ++ D') W mi ?_ _ ?_ ?_ ?_).mono ?_); (focus (first | rfl | (simp only [show (⟨#[45]⟩ : ByteArray) = mkS [45] from rfl, show (⟨#[43]⟩ : ByteArray) = mkS [43] from rfl, show (⟨#[]⟩ : ByteArray) = mkS [] from rfl, cat_mk]; done) | (simp [cat_mk]; done))); (focus ((try simp); omega)); (focus omega); (focus omega); rintro e w4 ⟨rfl, hb⟩; (refine mem hb ?_; intro N hN hz hc hf; (try simp at hN); subst hN)))
          go_region
          go_wp2_with (first | (go_at_call 50; (with_reducible refine (HD.out _ (HT.out.later ?_)).mono ?_); (focus ((repeat' (first | (with_reducible exact Below.refl _ _) | (with_reducible assumption) | (with_reducible refine Below.alloc ?_ ?_ _) | (with_reducible refine below_drewN ?_ _) | (with_reducible refine Below.drew ?_) | (with_reducible refine Below.setCell ?_ ?_ _) | (with_reducible refine below_via (by assumption) ?_ ?_) | (with_reducible refine below_via (later_below _) ?_ ?_) | (with_reducible exact Nat.le_refl _) | omega | (simp; omega) | (simp; done))))); rintro e w1 ⟨rfl, hb⟩; (refine mem hb ?_; intro N hN hz hc hf; (try simp at hN); subst hN)) | (go_at_call 23; (with_reducible refine (HP.out _).mono ?_); rintro e w2 ⟨rfl, rfl⟩) | (go_at_call 21; (with_reducible refine (fpadS _ ([45] ++ D') W mi ?_ _ ?_ ?_ ?_).mono ?_); (focus (first | rfl | (simp only [show (⟨#[45]⟩ : ByteArray) = mkS [45] from rfl, show (⟨#[43]⟩ : ByteArray) = mkS [43] from rfl, show (⟨#[]⟩ : ByteArray) = mkS [] from rfl, cat_mk]; done) | (simp [cat_mk]; done))); (focus ((try simp); omega)); (focus omega); (focus omega); rintro e w4 ⟨rfl, hb⟩; (refine mem hb ?_; intro N hN hz hc hf; (try simp at hN); subst hN)))
          go_returns
          refine ⟨ret_sb (by rw [HL.out]; first | done | rfl) rfl, ?_⟩
          (repeat' (first | (with_reducible exact Below.refl _ _) | (with_reducible assumption) | (with_reducible refine Below.alloc ?_ ?_ _) | (with_reducible refine below_drewN ?_ _) | (with_reducible refine Below.drew ?_) | (with_reducible refine Below.setCell ?_ ?_ _) | (with_reducible refine below_via (by assumption) ?_ ?_) | (with_reducible refine below_via (later_below _) ?_ ?_) | (with_reducible exact Nat.le_refl _) | omega | (simp; omega) | (simp; done)))
        · skip
          have HL : Hid (signA ⟨[], 102, mi, ze, false, W, N⟩ (45 :: D') ++ zeroA ⟨[], 102, mi, ze, false, W, N⟩ (signA ⟨[], 102, mi, ze, false, W, N⟩ (45 :: D')) (bodyA (45 :: D')) = [45] ++ (List.replicate (W - 1 - D'.length) 48 ++ D')) := by
            show _ = _
            rw [HS.out, HZ.out, HBD.out]
            simp
          clear HS HZ HBD
          have hrs : (mkS (List.replicate (W - 1 - D'.length) (48 : UInt8))).size ≤ 99 := by rw [mkS_size, List.length_replicate]; omega
          go_wp2_with (first | (go_at_call 50; (with_reducible refine (HD.out _ (HT.out.later ?_)).mono ?_); (focus ((repeat' (first | (with_reducible exact Below.refl _ _) | (with_reducible assumption) | (with_reducible refine Below.alloc ?_ ?_ _) | (with_reducible refine below_drewN ?_ _) | (with_reducible refine Below.drew ?_) | (with_reducible refine Below.setCell ?_ ?_ _) | (with_reducible refine below_via (by assumption) ?_ ?_) | (with_reducible refine below_via (later_below _) ?_ ?_) | (with_reducible exact Nat.le_refl _) | omega | (simp; omega) | (simp; done))))); rintro e w1 ⟨rfl, hb⟩; (refine mem hb ?_; intro N hN hz hc hf; (try simp at hN); subst hN)) | (go_at_call 23; (with_reducible refine (HP.out _).mono ?_); rintro e w2 ⟨rfl, rfl⟩) | (go_at_call 20; (with_reducible refine (zrep_any (W - 1 - D'.length) (by omega) _ ?_ _).mono ?_); (focus (first | omega | ((try simp [ByteArray.size]); omega))); rintro e w3 ⟨rfl, hb⟩; (refine mem hb ?_; intro N hN hz hc hf; (try simp at hN); subst hN)) | (go_at_call 21; (with_reducible refine (fpadS _ ([45] ++ (List.replicate (W - 1 - D'.length) 48 ++ D')) W mi ?_ _ ?_ ?_ ?_).mono ?_); (focus (first | rfl | (simp only [show (⟨#[45]⟩ : ByteArray) = mkS [45] from rfl, show (⟨#[43]⟩ : ByteArray) = mkS [43] from rfl, show (⟨#[]⟩ : ByteArray) = mkS [] from rfl, cat_mk]; done) | (simp [cat_mk]; done))); (focus ((try simp); omega)); (focus omega); (focus omega); rintro e w4 ⟨rfl, hb⟩; (refine mem hb ?_; intro N hN hz hc hf; (try simp at hN); subst hN)))
          go_region
          go_wp2_with (first | (go_at_call 50; (with_reducible refine (HD.out _ (HT.out.later ?_)).mono ?_); (focus ((repeat' (first | (with_reducible exact Below.refl _ _) | (with_reducible assumption) | (with_reducible refine Below.alloc ?_ ?_ _) | (with_reducible refine below_drewN ?_ _) | (with_reducible refine Below.drew ?_) | (with_reducible refine Below.setCell ?_ ?_ _) | (with_reducible refine below_via (by assumption) ?_ ?_) | (with_reducible refine below_via (later_below _) ?_ ?_) | (with_reducible exact Nat.le_refl _) | omega | (simp; omega) | (simp; done))))); rintro e w1 ⟨rfl, hb⟩; (refine mem hb ?_; intro N hN hz hc hf; (try simp at hN); subst hN)) | (go_at_call 23; (with_reducible refine (HP.out _).mono ?_); rintro e w2 ⟨rfl, rfl⟩) | (go_at_call 20; (with_reducible refine (zrep_any (W - 1 - D'.length) (by omega) _ ?_ _).mono ?_); (focus (first | omega | ((try simp [ByteArray.size]); omega))); rintro e w3 ⟨rfl, hb⟩; (refine mem hb ?_; intro N hN hz hc hf; (try simp at hN); subst hN)) | (go_at_call 21; (with_reducible refine (fpadS _ ([45] ++ (List.replicate (W - 1 - D'.length) 48 ++ D')) W mi ?_ _ ?_ ?_ ?_).mono ?_); (focus (first | rfl | (simp only [show (⟨#[45]⟩ : ByteArray) = mkS [45] from rfl, show (⟨#[43]⟩ : ByteArray) = mkS [43] from rfl, show (⟨#[]⟩ : ByteArray) = mkS [] from rfl, cat_mk]; done) | (simp [cat_mk]; done))); (focus ((try simp); omega)); (focus omega); (focus omega); rintro e w4 ⟨rfl, hb⟩; (refine mem hb ?_; intro N hN hz hc hf; (try simp at hN); subst hN)))
          go_returns
          refine ⟨ret_sb (by rw [HL.out]; first | done | rfl) rfl, ?_⟩
          (repeat' (first | (with_reducible exact Below.refl _ _) | (with_reducible assumption) | (with_reducible refine Below.alloc ?_ ?_ _) | (with_reducible refine below_drewN ?_ _) | (with_reducible refine Below.drew ?_) | (with_reducible refine Below.setCell ?_ ?_ _) | (with_reducible refine below_via (by assumption) ?_ ?_) | (with_reducible refine below_via (later_below _) ?_ ?_) | (with_reducible exact Nat.le_refl _) | omega | (simp; omega) | (simp; done)))
      · skip
        cases Z
        · skip
          have HL : Hid (signA ⟨[], 102, mi, ze, true, W, N⟩ (45 :: D') ++ zeroA ⟨[], 102, mi, ze, true, W, N⟩ (signA ⟨[], 102, mi, ze, true, W, N⟩ (45 :: D')) (bodyA (45 :: D')) = [45] ++ D') := by
            show _ = _
            rw [HS.out, HZ.out, HBD.out]
            simp
          clear HS HZ HBD
          go_wp2_with (first | (go_at_call 50; (with_reducible refine (HD.out _ (HT.out.later ?_)).mono ?_); (focus ((repeat' (first | (with_reducible exact Below.refl _ _) | (with_reducible assumption) | (with_reducible refine Below.alloc ?_ ?_ _) | (with_reducible refine below_drewN ?_ _) | (with_reducible refine Below.drew ?_) | (with_reducible refine Below.setCell ?_ ?_ _) | (with_reducible refine below_via (by assumption) ?_ ?_) | (with_reducible refine below_via (later_below _) ?_ ?_) | (with_reducible exact Nat.le_refl _) | omega | (simp; omega) | (simp; done))))); rintro e w1 ⟨rfl, hb⟩; (refine mem hb ?_; intro N hN hz hc hf; (try simp at hN); subst hN)) | (go_at_call 23; (with_reducible refine (HP.out _).mono ?_); rintro e w2 ⟨rfl, rfl⟩) | (go_at_call 21; (with_reducible refine (fpadS _ ([45] ++ D') W mi ?_ _ ?_ ?_ ?_).mono ?_); (focus (first | rfl | (simp only [show (⟨#[45]⟩ : ByteArray) = mkS [45] from rfl, show (⟨#[43]⟩ : ByteArray) = mkS [43] from rfl, show (⟨#[]⟩ : ByteArray) = mkS [] from rfl, cat_mk]; done) | (simp [cat_mk]; done))); (focus ((try simp); omega)); (focus omega); (focus omega); rintro e w4 ⟨rfl, hb⟩; (refine mem hb ?_; intro N hN hz hc hf; (try simp at hN); subst hN)))
          go_region
          go_wp2_with (first | (go_at_call 50; (with_reducible refine (HD.out _ (HT.out.later ?_)).mono ?_); (focus ((repeat' (first | (with_reducible exact Below.refl _ _) | (with_reducible assumption) | (with_reducible refine Below.alloc ?_ ?_ _) | (with_reducible refine below_drewN ?_ _) | (with_reducible refine Below.drew ?_) | (with_reducible refine Below.setCell ?_ ?_ _) | (with_reducible refine below_via (by assumption) ?_ ?_) | (with_reducible refine below_via (later_below _) ?_ ?_) | (with_reducible exact Nat.le_refl _) | omega | (simp; omega) | (simp; done))))); rintro e w1 ⟨rfl, hb⟩; (refine mem hb ?_; intro N hN hz hc hf; (try simp at hN); subst hN)) | (go_at_call 23; (with_reducible refine (HP.out _).mono ?_); rintro e w2 ⟨rfl, rfl⟩) | (go_at_call 21; (with_reducible refine (fpadS _ ([45] ++ D') W mi ?_ _ ?_ ?_ ?_).mono ?_); (focus (first | rfl | (simp only [show (⟨#[45]⟩ : ByteArray) = mkS [45] from rfl, show (⟨#[43]⟩ : ByteArray) = mkS [43] from rfl, show (⟨#[]⟩ : ByteArray) = mkS [] from rfl, cat_mk]; done) | (simp [cat_mk]; done))); (focus ((try simp); omega)); (focus omega); (focus omega); rintro e w4 ⟨rfl, hb⟩; (refine mem hb ?_; intro N hN hz hc hf; (try simp at hN); subst hN)))
          go_returns
          refine ⟨ret_sb (by rw [HL.out]; first | done | rfl) rfl, ?_⟩
          (repeat' (first | (with_reducible exact Below.refl _ _) | (with_reducible assumption) | (with_reducible refine Below.alloc ?_ ?_ _) | (with_reducible refine below_drewN ?_ _) | (with_reducible refine Below.drew ?_) | (with_reducible refine Below.setCell ?_ ?_ _) | (with_reducible refine below_via (by assumption) ?_ ?_) | (with_reducible refine below_via (later_below _) ?_ ?_) | (with_reducible exact Nat.le_refl _) | omega | (simp; omega) | (simp; done)))
        · skip
          have HL : Hid (signA ⟨[], 102, mi, ze, true, W, N⟩ (45 :: D') ++ zeroA ⟨[], 102, mi, ze, true, W, N⟩ (signA ⟨[], 102, mi, ze, true, W, N⟩ (45 :: D')) (bodyA (45 :: D')) = [45] ++ (List.replicate (W - 1 - D'.length) 48 ++ D')) := by
            show _ = _
            rw [HS.out, HZ.out, HBD.out]
            simp
          clear HS HZ HBD
          have hrs : (mkS (List.replicate (W - 1 - D'.length) (48 : UInt8))).size ≤ 99 := by rw [mkS_size, List.length_replicate]; omega
          go_wp2_with (first | (go_at_call 50; (with_reducible refine (HD.out _ (HT.out.later ?_)).mono ?_); (focus ((repeat' (first | (with_reducible exact Below.refl _ _) | (with_reducible assumption) | (with_reducible refine Below.alloc ?_ ?_ _) | (with_reducible refine below_drewN ?_ _) | (with_reducible refine Below.drew ?_) | (with_reducible refine Below.setCell ?_ ?_ _) | (with_reducible refine below_via (by assumption) ?_ ?_) | (with_reducible refine below_via (later_below _) ?_ ?_) | (with_reducible exact Nat.le_refl _) | omega | (simp; omega) | (simp; done))))); rintro e w1 ⟨rfl, hb⟩; (refine mem hb ?_; intro N hN hz hc hf; (try simp at hN); subst hN)) | (go_at_call 23; (with_reducible refine (HP.out _).mono ?_); rintro e w2 ⟨rfl, rfl⟩) | (go_at_call 20; (with_reducible refine (zrep_any (W - 1 - D'.length) (by omega) _ ?_ _).mono ?_); (focus (first | omega | ((try simp [ByteArray.size]); omega))); rintro e w3 ⟨rfl, hb⟩; (refine mem hb ?_; intro N hN hz hc hf; (try simp at hN); subst hN)) | (go_at_call 21; (with_reducible refine (fpadS _ ([45] ++ (List.replicate (W - 1 - D'.length) 48 ++ D')) W mi ?_ _ ?_ ?_ ?_).mono ?_); (focus (first | rfl | (simp only [show (⟨#[45]⟩ : ByteArray) = mkS [45] from rfl, show (⟨#[43]⟩ : ByteArray) = mkS [43] from rfl, show (⟨#[]⟩ : ByteArray) = mkS [] from rfl, cat_mk]; done) | (simp [cat_mk]; done))); (focus ((try simp); omega)); (focus omega); (focus omega); rintro e w4 ⟨rfl, hb⟩; (refine mem hb ?_; intro N hN hz hc hf; (try simp at hN); subst hN)))
          go_region
          go_wp2_with (first | (go_at_call 50; (with_reducible refine (HD.out _ (HT.out.later ?_)).mono ?_); (focus ((repeat' (first | (with_reducible exact Below.refl _ _) | (with_reducible assumption) | (with_reducible refine Below.alloc ?_ ?_ _) | (with_reducible refine below_drewN ?_ _) | (with_reducible refine Below.drew ?_) | (with_reducible refine Below.setCell ?_ ?_ _) | (with_reducible refine below_via (by assumption) ?_ ?_) | (with_reducible refine below_via (later_below _) ?_ ?_) | (with_reducible exact Nat.le_refl _) | omega | (simp; omega) | (simp; done))))); rintro e w1 ⟨rfl, hb⟩; (refine mem hb ?_; intro N hN hz hc hf; (try simp at hN); subst hN)) | (go_at_call 23; (with_reducible refine (HP.out _).mono ?_); rintro e w2 ⟨rfl, rfl⟩) | (go_at_call 20; (with_reducible refine (zrep_any (W - 1 - D'.length) (by omega) _ ?_ _).mono ?_); (focus (first | omega | ((try simp [ByteArray.size]); omega))); rintro e w3 ⟨rfl, hb⟩; (refine mem hb ?_; intro N hN hz hc hf; (try simp at hN); subst hN)) | (go_at_call 21; (with_reducible refine (fpadS _ ([45] ++ (List.replicate (W - 1 - D'.length) 48 ++ D')) W mi ?_ _ ?_ ?_ ?_).mono ?_); (focus (first | rfl | (simp only [show (⟨#[45]⟩ : ByteArray) = mkS [45] from rfl, show (⟨#[43]⟩ : ByteArray) = mkS [43] from rfl, show (⟨#[]⟩ : ByteArray) = mkS [] from rfl, cat_mk]; done) | (simp [cat_mk]; done))); (focus ((try simp); omega)); (focus omega); (focus omega); rintro e w4 ⟨rfl, hb⟩; (refine mem hb ?_; intro N hN hz hc hf; (try simp at hN); subst hN)))
          go_returns
          refine ⟨ret_sb (by rw [HL.out]; first | done | rfl) rfl, ?_⟩
          (repeat' (first | (with_reducible exact Below.refl _ _) | (with_reducible assumption) | (with_reducible refine Below.alloc ?_ ?_ _) | (with_reducible refine below_drewN ?_ _) | (with_reducible refine Below.drew ?_) | (with_reducible refine Below.setCell ?_ ?_ _) | (with_reducible refine below_via (by assumption) ?_ ?_) | (with_reducible refine below_via (later_below _) ?_ ?_) | (with_reducible exact Nat.le_refl _) | omega | (simp; omega) | (simp; done)))
    · have HP := Lib.hid (fun w' => hasp_any (mkS D) false (by rw [mkS_list]; exact decide_eq_false hh) w')
      have hsz := mkS_size D
      have HBD : Hid (bodyA D = D) := if_neg hh
      have HH := Lib.hid hh
      clear hh
      cases pl
      · skip
        cases Z
        · skip
          have HL : Hid (signA ⟨[], 102, mi, ze, false, W, N⟩ D ++ zeroA ⟨[], 102, mi, ze, false, W, N⟩ (signA ⟨[], 102, mi, ze, false, W, N⟩ D) (bodyA D) = [] ++ D) := by
            show _ = _
            rw [HS.out, HZ.out, HBD.out]
            simp [HH.out]
          clear HS HZ HBD HH
          go_wp2_with (first | (go_at_call 50; (with_reducible refine (HD.out _ (HT.out.later ?_)).mono ?_); (focus ((repeat' (first | (with_reducible exact Below.refl _ _) | (with_reducible assumption) | (with_reducible refine Below.alloc ?_ ?_ _) | (with_reducible refine below_drewN ?_ _) | (with_reducible refine Below.drew ?_) | (with_reducible refine Below.setCell ?_ ?_ _) | (with_reducible refine below_via (by assumption) ?_ ?_) | (with_reducible refine below_via (later_below _) ?_ ?_) | (with_reducible exact Nat.le_refl _) | omega | (simp; omega) | (simp; done))))); rintro e w1 ⟨rfl, hb⟩; (refine mem hb ?_; intro N hN hz hc hf; (try simp at hN); subst hN)) | (go_at_call 23; (with_reducible refine (HP.out _).mono ?_); rintro e w2 ⟨rfl, rfl⟩) | (go_at_call 21; (with_reducible refine (fpadS _ ([] ++ D) W mi ?_ _ ?_ ?_ ?_).mono ?_); (focus (first | rfl | (simp only [show (⟨#[45]⟩ : ByteArray) = mkS [45] from rfl, show (⟨#[43]⟩ : ByteArray) = mkS [43] from rfl, show (⟨#[]⟩ : ByteArray) = mkS [] from rfl, cat_mk]; done) | (simp [cat_mk]; done))); (focus ((try simp); omega)); (focus omega); (focus omega); rintro e w4 ⟨rfl, hb⟩; (refine mem hb ?_; intro N hN hz hc hf; (try simp at hN); subst hN)))
          go_returns
          refine ⟨ret_sb (by rw [HL.out]; first | done | rfl) rfl, ?_⟩
          (repeat' (first | (with_reducible exact Below.refl _ _) | (with_reducible assumption) | (with_reducible refine Below.alloc ?_ ?_ _) | (with_reducible refine below_drewN ?_ _) | (with_reducible refine Below.drew ?_) | (with_reducible refine Below.setCell ?_ ?_ _) | (with_reducible refine below_via (by assumption) ?_ ?_) | (with_reducible refine below_via (later_below _) ?_ ?_) | (with_reducible exact Nat.le_refl _) | omega | (simp; omega) | (simp; done)))
        · skip
          have HL : Hid (signA ⟨[], 102, mi, ze, false, W, N⟩ D ++ zeroA ⟨[], 102, mi, ze, false, W, N⟩ (signA ⟨[], 102, mi, ze, false, W, N⟩ D) (bodyA D) = [] ++ (List.replicate (W - D.length) 48 ++ D)) := by
            show _ = _
            rw [HS.out, HZ.out, HBD.out]
            simp [HH.out]
          clear HS HZ HBD HH
          have hrs : (mkS (List.replicate (W - D.length) (48 : UInt8))).size ≤ 99 := by rw [mkS_size, List.length_replicate]; omega
          go_wp2_with (first | (go_at_call 50; (with_reducible refine (HD.out _ (HT.out.later ?_)).mono ?_); (focus ((repeat' (first | (with_reducible exact Below.refl _ _) | (with_reducible assumption) | (with_reducible refine Below.alloc ?_ ?_ _) | (with_reducible refine below_drewN ?_ _) | (with_reducible refine Below.drew ?_) | (with_reducible refine Below.setCell ?_ ?_ _) | (with_reducible refine below_via (by assumption) ?_ ?_) | (with_reducible refine below_via (later_below _) ?_ ?_) | (with_reducible exact Nat.le_refl _) | omega | (simp; omega) | (simp; done))))); rintro e w1 ⟨rfl, hb⟩; (refine mem hb ?_; intro N hN hz hc hf; (try simp at hN); subst hN)) | (go_at_call 23; (with_reducible refine (HP.out _).mono ?_); rintro e w2 ⟨rfl, rfl⟩) | (go_at_call 20; (with_reducible refine (zrep_any (W - D.length) (by omega) _ ?_ _).mono ?_); (focus (first | omega | ((try simp [ByteArray.size]); omega))); rintro e w3 ⟨rfl, hb⟩; (refine mem hb ?_; intro N hN hz hc hf; (try simp at hN); subst hN)) | (go_at_call 21; (with_reducible refine (fpadS _ ([] ++ (List.replicate (W - D.length) 48 ++ D)) W mi ?_ _ ?_ ?_ ?_).mono ?_); (focus (first | rfl | (simp only [show (⟨#[45]⟩ : ByteArray) = mkS [45] from rfl, show (⟨#[43]⟩ : ByteArray) = mkS [43] from rfl, show (⟨#[]⟩ : ByteArray) = mkS [] from rfl, cat_mk]; done) | (simp [cat_mk]; done))); (focus ((try simp); omega)); (focus omega); (focus omega); rintro e w4 ⟨rfl, hb⟩; (refine mem hb ?_; intro N hN hz hc hf; (try simp at hN); subst hN)))
          go_returns
          refine ⟨ret_sb (by rw [HL.out]; first | done | rfl) rfl, ?_⟩
          (repeat' (first | (with_reducible exact Below.refl _ _) | (with_reducible assumption) | (with_reducible refine Below.alloc ?_ ?_ _) | (with_reducible refine below_drewN ?_ _) | (with_reducible refine Below.drew ?_) | (with_reducible refine Below.setCell ?_ ?_ _) | (with_reducible refine below_via (by assumption) ?_ ?_) | (with_reducible refine below_via (later_below _) ?_ ?_) | (with_reducible exact Nat.le_refl _) | omega | (simp; omega) | (simp; done)))
      · skip
        cases Z
        · skip
          have HL : Hid (signA ⟨[], 102, mi, ze, true, W, N⟩ D ++ zeroA ⟨[], 102, mi, ze, true, W, N⟩ (signA ⟨[], 102, mi, ze, true, W, N⟩ D) (bodyA D) = [43] ++ D) := by
            show _ = _
            rw [HS.out, HZ.out, HBD.out]
            simp [HH.out]
          clear HS HZ HBD HH
          go_wp2_with (first | (go_at_call 50; (with_reducible refine (HD.out _ (HT.out.later ?_)).mono ?_); (focus ((repeat' (first | (with_reducible exact Below.refl _ _) | (with_reducible assumption) | (with_reducible refine Below.alloc ?_ ?_ _) | (with_reducible refine below_drewN ?_ _) | (with_reducible refine Below.drew ?_) | (with_reducible refine Below.setCell ?_ ?_ _) | (with_reducible refine below_via (by assumption) ?_ ?_) | (with_reducible refine below_via (later_below _) ?_ ?_) | (with_reducible exact Nat.le_refl _) | omega | (simp; omega) | (simp; done))))); rintro e w1 ⟨rfl, hb⟩; (refine mem hb ?_; intro N hN hz hc hf; (try simp at hN); subst hN)) | (go_at_call 23; (with_reducible refine (HP.out _).mono ?_); rintro e w2 ⟨rfl, rfl⟩) | (go_at_call 21; (with_reducible refine (fpadS _ ([43] ++ D) W mi ?_ _ ?_ ?_ ?_).mono ?_); (focus (first | rfl | (simp only [show (⟨#[45]⟩ : ByteArray) = mkS [45] from rfl, show (⟨#[43]⟩ : ByteArray) = mkS [43] from rfl, show (⟨#[]⟩ : ByteArray) = mkS [] from rfl, cat_mk]; done) | (simp [cat_mk]; done))); (focus ((try simp); omega)); (focus omega); (focus omega); rintro e w4 ⟨rfl, hb⟩; (refine mem hb ?_; intro N hN hz hc hf; (try simp at hN); subst hN)))
          go_returns
          refine ⟨ret_sb (by rw [HL.out]; first | done | rfl) rfl, ?_⟩
          (repeat' (first | (with_reducible exact Below.refl _ _) | (with_reducible assumption) | (with_reducible refine Below.alloc ?_ ?_ _) | (with_reducible refine below_drewN ?_ _) | (with_reducible refine Below.drew ?_) | (with_reducible refine Below.setCell ?_ ?_ _) | (with_reducible refine below_via (by assumption) ?_ ?_) | (with_reducible refine below_via (later_below _) ?_ ?_) | (with_reducible exact Nat.le_refl _) | omega | (simp; omega) | (simp; done)))
        · skip
          have HL : Hid (signA ⟨[], 102, mi, ze, true, W, N⟩ D ++ zeroA ⟨[], 102, mi, ze, true, W, N⟩ (signA ⟨[], 102, mi, ze, true, W, N⟩ D) (bodyA D) = [43] ++ (List.replicate (W - 1 - D.length) 48 ++ D)) := by
            show _ = _
            rw [HS.out, HZ.out, HBD.out]
            simp [HH.out]
          clear HS HZ HBD HH
          have hrs : (mkS (List.replicate (W - 1 - D.length) (48 : UInt8))).size ≤ 99 := by rw [mkS_size, List.length_replicate]; omega
          go_wp2_with (first | (go_at_call 50; (with_reducible refine (HD.out _ (HT.out.later ?_)).mono ?_); (focus ((repeat' (first | (with_reducible exact Below.refl _ _) | (with_reducible assumption) | (with_reducible refine Below.alloc ?_ ?_ _) | (with_reducible refine below_drewN ?_ _) | (with_reducible refine Below.drew ?_) | (with_reducible refine Below.setCell ?_ ?_ _) | (with_reducible refine below_via (by assumption) ?_ ?_) | (with_reducible refine below_via (later_below _) ?_ ?_) | (with_reducible exact Nat.le_refl _) | omega | (simp; omega) | (simp; done))))); rintro e w1 ⟨rfl, hb⟩; (refine mem hb ?_; intro N hN hz hc hf; (try simp at hN); subst hN)) | (go_at_call 23; (with_reducible refine (HP.out _).mono ?_); rintro e w2 ⟨rfl, rfl⟩) | (go_at_call 20; (with_reducible refine (zrep_any (W - 1 - D.length) (by omega) _ ?_ _).mono ?_); (focus (first | omega | ((try simp [ByteArray.size]); omega))); rintro e w3 ⟨rfl, hb⟩; (refine mem hb ?_; intro N hN hz hc hf; (try simp at hN); subst hN)) | (go_at_call 21; (with_reducible refine (fpadS _ ([43] ++ (List.replicate (W - 1 - D.length) 48 ++ D)) W mi ?_ _ ?_ ?_ ?_).mono ?_); (focus (first | rfl | (simp only [show (⟨#[45]⟩ : ByteArray) = mkS [45] from rfl, show (⟨#[43]⟩ : ByteArray) = mkS [43] from rfl, show (⟨#[]⟩ : ByteArray) = mkS [] from rfl, cat_mk]; done) | (simp [cat_mk]; done))); (focus ((try simp); omega)); (focus omega); (focus omega); rintro e w4 ⟨rfl, hb⟩; (refine mem hb ?_; intro N hN hz hc hf; (try simp at hN); subst hN)))
          go_returns
          refine ⟨ret_sb (by rw [HL.out]; first | done | rfl) rfl, ?_⟩
          (repeat' (first | (with_reducible exact Below.refl _ _) | (with_reducible assumption) | (with_reducible refine Below.alloc ?_ ?_ _) | (with_reducible refine below_drewN ?_ _) | (with_reducible refine Below.drew ?_) | (with_reducible refine Below.setCell ?_ ?_ _) | (with_reducible refine below_via (by assumption) ?_ ?_) | (with_reducible refine below_via (later_below _) ?_ ?_) | (with_reducible exact Nat.le_refl _) | omega | (simp; omega) | (simp; done)))
set_option maxHeartbeats 4000000 in
set_option maxRecDepth 100000 in
theorem fform_g (v : VV) (t : ByteArray) (mi ze pl : Bool) (W : Nat) (N : Int) (D : List UInt8) (B : Bool) (hW : W ≤ 99) (hD : D.length ≤ 100) (w : World) (hT : Tabs w)
    (h : ∀ w, Tabs w → Calls Tryz.prog 50 #[pV t 103 mi ze pl W N, vV v.k v.p v.q v.s v.r] w fun e w' => e = .returned (.tuple #[.string (mkS D), .bool B]) ∧ Below w.heap.size w w') :
    Calls Tryz.prog 31 #[pV t 103 mi ze pl W N, vV v.k v.p v.q v.s v.r] w fun e w' => e = .returned (.tuple #[.string (mkS (padL (signA ⟨[], 103, mi, ze, pl, W, N⟩ D ++ zeroA ⟨[], 103, mi, ze, pl, W, N⟩ (signA ⟨[], 103, mi, ze, pl, W, N⟩ D) (bodyA D)) W mi)), .bool B]) ∧ Below w.heap.size w w' := by
  have HD := Lib.hid h
  have HT := Lib.hid hT
  clear h hT
  obtain ⟨k, p, q, s, r⟩ := v
  dsimp only at *
  have HZ : Hid (∀ sg s, zeroA ⟨[], 103, mi, ze, pl, W, N⟩ sg s = if (ze && !mi) = true ∧ False then List.replicate (W - sg.length - s.length) 48 ++ s else s) := by
    intro sg s
    unfold zeroA
    cases ze <;> cases mi <;> simp
  have HS : Hid (signA ⟨[], 103, mi, ze, pl, W, N⟩ D = if D.head? = some 45 then [45] else if pl = true then [43] else []) := by
    show _ = _
    unfold signA
    cases pl <;> simp
  go_enter Tryz.func31, Tryz.ntmps31
  go_upto_region 1 with fail
  go_cut [6] (fun z wx => z = .bool (ze && !mi) ∧ wx = (w.alloc (.cells #[.string t, .int .u8 103, .bool mi, .bool ze, .bool pl, .int .i64 W, .int .i64 N] 31)).alloc (.cells #[.int .i64 k, .int .i64 p, .int .i64 q, .string s, .int .i64 r] 42))
  case first =>
    cases ze <;> cases mi
    all_goals
      go_wp2_with fail
      go_meet
      exact ⟨rfl, rfl⟩
  case rest =>
    obtain ⟨rfl, rfl⟩ := hcut
    obtain ⟨Z, hZ⟩ : ∃ Z, (ze && !mi) = Z := ⟨_, rfl⟩
    rw [hZ] at HZ ⊢
    clear hZ
    by_cases hh : D.head? = some 45
    · obtain ⟨D', rfl⟩ : ∃ D', D = 45 :: D' := by
        cases D with
        | nil => cases hh
        | cons c D' => simp at hh; exact ⟨D', by rw [hh]⟩
      have HP := Lib.hid (fun w' => hasp_any (mkS (45 :: D')) true (by rw [mkS_list]; rfl) w')
      have hex := tail_extract 45 D'
      have hex2 := hex
      rw [mkS_size, List.length_cons] at hex2
      have hsz := mkS_size (45 :: D')
      have hsz2 := mkS_size D'
      have HBD : Hid (bodyA (45 :: D') = D') := rfl
      rw [List.length_cons] at hD hsz
      clear hh
      cases pl
      · skip
        have HL : Hid (signA ⟨[], 103, mi, ze, false, W, N⟩ (45 :: D') ++ zeroA ⟨[], 103, mi, ze, false, W, N⟩ (signA ⟨[], 103, mi, ze, false, W, N⟩ (45 :: D')) (bodyA (45 :: D')) = [45] ++ D') := by
          show _ = _
          rw [HS.out, HZ.out, HBD.out]
          simp
        clear HS HZ HBD
        go_wp2_with (first | (go_at_call 50; (with_reducible refine (HD.out _ (HT.out.later ?_)).mono ?_); (focus ((repeat' (first | (with_reducible exact Below.refl _ _) | (with_reducible assumption) | (with_reducible refine Below.alloc ?_ ?_ _) | (with_reducible refine below_drewN ?_ _) | (with_reducible refine Below.drew ?_) | (with_reducible refine Below.setCell ?_ ?_ _) | (with_reducible refine below_via (by assumption) ?_ ?_) | (with_reducible refine below_via (later_below _) ?_ ?_) | (with_reducible exact Nat.le_refl _) | omega | (simp; omega) | (simp; done))))); rintro e w1 ⟨rfl, hb⟩; (refine mem hb ?_; intro N hN hz hc hf; (try simp at hN); subst hN)) | (go_at_call 23; (with_reducible refine (HP.out _).mono ?_); rintro e w2 ⟨rfl, rfl⟩) | (go_at_call 21; (with_reducible refine (fpadS _ ([45] ++ D') W mi ?_ _ ?_ ?_ ?_).mono ?_); (focus (first | rfl | (simp only [show (⟨#[45]⟩ : ByteArray) = mkS [45] from rfl, show (⟨#[43]⟩ : ByteArray) = mkS [43] from rfl, show (⟨#[]⟩ : ByteArray) = mkS [] from rfl, cat_mk]; done) | (simp [cat_mk]; done))); (focus ((try simp); omega)); (focus omega); (focus omega); rintro e w4 ⟨rfl, hb⟩; (refine mem hb ?_; intro N hN hz hc hf; (try simp at hN); subst hN)))
        go_region
        go_wp2_with (first | (go_at_call 50; (with_reducible refine (HD.out _ (HT.out.later ?_)).mono ?_); (focus ((repeat' (first | (with_reducible exact Below.refl _ _) | (with_reducible assumption) | (with_reducible refine Below.alloc ?_ ?_ _) | (with_reducible refine below_drewN ?_ _) | (with_reducible refine Below.drew ?_) | (with_reducible refine Below.setCell ?_ ?_ _) | (with_reducible refine below_via (by assumption) ?_ ?_) | (with_reducible refine below_via (later_below _) ?_ ?_) | (with_reducible exact Nat.le_refl _) | omega | (simp; omega) | (simp; done))))); rintro e w1 ⟨rfl, hb⟩; (refine mem hb ?_; intro N hN hz hc hf; (try simp at hN); subst hN)) | (go_at_call 23; (with_reducible refine (HP.out _).mono ?_); rintro e w2 ⟨rfl, rfl⟩) | (go_at_call 21; (with_reducible refine (fpadS _ ([45] ++ D') W mi ?_ _ ?_ ?_ ?_).mono ?_); (focus (first | rfl | (simp only [show (⟨#[45]⟩ : ByteArray) = mkS [45] from rfl, show (⟨#[43]⟩ : ByteArray) = mkS [43] from rfl, show (⟨#[]⟩ : ByteArray) = mkS [] from rfl, cat_mk]; done) | (simp [cat_mk]; done))); (focus ((try simp); omega)); (focus omega); (focus omega); rintro e w4 ⟨rfl, hb⟩; (refine mem hb ?_; intro N hN hz hc hf; (try simp at hN); subst hN)))
        go_returns
        refine ⟨ret_sb (by rw [HL.out]; first | done | rfl) rfl, ?_⟩
        (repeat' (first | (with_reducible exact Below.refl _ _) | (with_reducible assumption) | (with_reducible refine Below.alloc ?_ ?_ _) | (with_reducible refine below_drewN ?_ _) | (with_reducible refine Below.drew ?_) | (with_reducible refine Below.setCell ?_ ?_ _) | (with_reducible refine below_via (by assumption) ?_ ?_) | (with_reducible refine below_via (later_below _) ?_ ?_) | (with_reducible exact Nat.le_refl _) | omega | (simp; omega) | (simp; done)))
      · skip
        have HL : Hid (signA ⟨[], 103, mi, ze, true, W, N⟩ (45 :: D') ++ zeroA ⟨[], 103, mi, ze, true, W, N⟩ (signA ⟨[], 103, mi, ze, true, W, N⟩ (45 :: D')) (bodyA (45 :: D')) = [45] ++ D') := by
          show _ = _
          rw [HS.out, HZ.out, HBD.out]
          simp
        clear HS HZ HBD
        go_wp2_with (first | (go_at_call 50; (with_reducible refine (HD.out _ (HT.out.later ?_)).mono ?_); (focus ((repeat' (first | (with_reducible exact Below.refl _ _) | (with_reducible assumption) | (with_reducible refine Below.alloc ?_ ?_ _) | (with_reducible refine below_drewN ?_ _) | (with_reducible refine Below.drew ?_) | (with_reducible refine Below.setCell ?_ ?_ _) | (with_reducible refine below_via (by assumption) ?_ ?_) | (with_reducible refine below_via (later_below _) ?_ ?_) | (with_reducible exact Nat.le_refl _) | omega | (simp; omega) | (simp; done))))); rintro e w1 ⟨rfl, hb⟩; (refine mem hb ?_; intro N hN hz hc hf; (try simp at hN); subst hN)) | (go_at_call 23; (with_reducible refine (HP.out _).mono ?_); rintro e w2 ⟨rfl, rfl⟩) | (go_at_call 21; (with_reducible refine (fpadS _ ([45] ++ D') W mi ?_ _ ?_ ?_ ?_).mono ?_); (focus (first | rfl | (simp only [show (⟨#[45]⟩ : ByteArray) = mkS [45] from rfl, show (⟨#[43]⟩ : ByteArray) = mkS [43] from rfl, show (⟨#[]⟩ : ByteArray) = mkS [] from rfl, cat_mk]; done) | (simp [cat_mk]; done))); (focus ((try simp); omega)); (focus omega); (focus omega); rintro e w4 ⟨rfl, hb⟩; (refine mem hb ?_; intro N hN hz hc hf; (try simp at hN); subst hN)))
        go_region
        go_wp2_with (first | (go_at_call 50; (with_reducible refine (HD.out _ (HT.out.later ?_)).mono ?_); (focus ((repeat' (first | (with_reducible exact Below.refl _ _) | (with_reducible assumption) | (with_reducible refine Below.alloc ?_ ?_ _) | (with_reducible refine below_drewN ?_ _) | (with_reducible refine Below.drew ?_) | (with_reducible refine Below.setCell ?_ ?_ _) | (with_reducible refine below_via (by assumption) ?_ ?_) | (with_reducible refine below_via (later_below _) ?_ ?_) | (with_reducible exact Nat.le_refl _) | omega | (simp; omega) | (simp; done))))); rintro e w1 ⟨rfl, hb⟩; (refine mem hb ?_; intro N hN hz hc hf; (try simp at hN); subst hN)) | (go_at_call 23; (with_reducible refine (HP.out _).mono ?_); rintro e w2 ⟨rfl, rfl⟩) | (go_at_call 21; (with_reducible refine (fpadS _ ([45] ++ D') W mi ?_ _ ?_ ?_ ?_).mono ?_); (focus (first | rfl | (simp only [show (⟨#[45]⟩ : ByteArray) = mkS [45] from rfl, show (⟨#[43]⟩ : ByteArray) = mkS [43] from rfl, show (⟨#[]⟩ : ByteArray) = mkS [] from rfl, cat_mk]; done) | (simp [cat_mk]; done))); (focus ((try simp); omega)); (focus omega); (focus omega); rintro e w4 ⟨rfl, hb⟩; (refine mem hb ?_; intro N hN hz hc hf; (try simp at hN); subst hN)))
        go_returns
        refine ⟨ret_sb (by rw [HL.out]; first | done | rfl) rfl, ?_⟩
        (repeat' (first | (with_reducible exact Below.refl _ _) | (with_reducible assumption) | (with_reducible refine Below.alloc ?_ ?_ _) | (with_reducible refine below_drewN ?_ _) | (with_reducible refine Below.drew ?_) | (with_reducible refine Below.setCell ?_ ?_ _) | (with_reducible refine below_via (by assumption) ?_ ?_) | (with_reducible refine below_via (later_below _) ?_ ?_) | (with_reducible exact Nat.le_refl _) | omega | (simp; omega) | (simp; done)))
    · have HP := Lib.hid (fun w' => hasp_any (mkS D) false (by rw [mkS_list]; exact decide_eq_false hh) w')
      have hsz := mkS_size D
      have HBD : Hid (bodyA D = D) := if_neg hh
      have HH := Lib.hid hh
      clear hh
      cases pl
      · skip
        have HL : Hid (signA ⟨[], 103, mi, ze, false, W, N⟩ D ++ zeroA ⟨[], 103, mi, ze, false, W, N⟩ (signA ⟨[], 103, mi, ze, false, W, N⟩ D) (bodyA D) = [] ++ D) := by
          show _ = _
          rw [HS.out, HZ.out, HBD.out]
          simp [HH.out]
        clear HS HZ HBD HH
        go_wp2_with (first | (go_at_call 50; (with_reducible refine (HD.out _ (HT.out.later ?_)).mono ?_); (focus ((repeat' (first | (with_reducible exact Below.refl _ _) | (with_reducible assumption) | (with_reducible refine Below.alloc ?_ ?_ _) | (with_reducible refine below_drewN ?_ _) | (with_reducible refine Below.drew ?_) | (with_reducible refine Below.setCell ?_ ?_ _) | (with_reducible refine below_via (by assumption) ?_ ?_) | (with_reducible refine below_via (later_below _) ?_ ?_) | (with_reducible exact Nat.le_refl _) | omega | (simp; omega) | (simp; done))))); rintro e w1 ⟨rfl, hb⟩; (refine mem hb ?_; intro N hN hz hc hf; (try simp at hN); subst hN)) | (go_at_call 23; (with_reducible refine (HP.out _).mono ?_); rintro e w2 ⟨rfl, rfl⟩) | (go_at_call 21; (with_reducible refine (fpadS _ ([] ++ D) W mi ?_ _ ?_ ?_ ?_).mono ?_); (focus (first | rfl | (simp only [show (⟨#[45]⟩ : ByteArray) = mkS [45] from rfl, show (⟨#[43]⟩ : ByteArray) = mkS [43] from rfl, show (⟨#[]⟩ : ByteArray) = mkS [] from rfl, cat_mk]; done) | (simp [cat_mk]; done))); (focus ((try simp); omega)); (focus omega); (focus omega); rintro e w4 ⟨rfl, hb⟩; (refine mem hb ?_; intro N hN hz hc hf; (try simp at hN); subst hN)))
        go_returns
        refine ⟨ret_sb (by rw [HL.out]; first | done | rfl) rfl, ?_⟩
        (repeat' (first | (with_reducible exact Below.refl _ _) | (with_reducible assumption) | (with_reducible refine Below.alloc ?_ ?_ _) | (with_reducible refine below_drewN ?_ _) | (with_reducible refine Below.drew ?_) | (with_reducible refine Below.setCell ?_ ?_ _) | (with_reducible refine below_via (by assumption) ?_ ?_) | (with_reducible refine below_via (later_below _) ?_ ?_) | (with_reducible exact Nat.le_refl _) | omega | (simp; omega) | (simp; done)))
      · skip
        have HL : Hid (signA ⟨[], 103, mi, ze, true, W, N⟩ D ++ zeroA ⟨[], 103, mi, ze, true, W, N⟩ (signA ⟨[], 103, mi, ze, true, W, N⟩ D) (bodyA D) = [43] ++ D) := by
          show _ = _
          rw [HS.out, HZ.out, HBD.out]
          simp [HH.out]
        clear HS HZ HBD HH
        go_wp2_with (first | (go_at_call 50; (with_reducible refine (HD.out _ (HT.out.later ?_)).mono ?_); (focus ((repeat' (first | (with_reducible exact Below.refl _ _) | (with_reducible assumption) | (with_reducible refine Below.alloc ?_ ?_ _) | (with_reducible refine below_drewN ?_ _) | (with_reducible refine Below.drew ?_) | (with_reducible refine Below.setCell ?_ ?_ _) | (with_reducible refine below_via (by assumption) ?_ ?_) | (with_reducible refine below_via (later_below _) ?_ ?_) | (with_reducible exact Nat.le_refl _) | omega | (simp; omega) | (simp; done))))); rintro e w1 ⟨rfl, hb⟩; (refine mem hb ?_; intro N hN hz hc hf; (try simp at hN); subst hN)) | (go_at_call 23; (with_reducible refine (HP.out _).mono ?_); rintro e w2 ⟨rfl, rfl⟩) | (go_at_call 21; (with_reducible refine (fpadS _ ([43] ++ D) W mi ?_ _ ?_ ?_ ?_).mono ?_); (focus (first | rfl | (simp only [show (⟨#[45]⟩ : ByteArray) = mkS [45] from rfl, show (⟨#[43]⟩ : ByteArray) = mkS [43] from rfl, show (⟨#[]⟩ : ByteArray) = mkS [] from rfl, cat_mk]; done) | (simp [cat_mk]; done))); (focus ((try simp); omega)); (focus omega); (focus omega); rintro e w4 ⟨rfl, hb⟩; (refine mem hb ?_; intro N hN hz hc hf; (try simp at hN); subst hN)))
        go_returns
        refine ⟨ret_sb (by rw [HL.out]; first | done | rfl) rfl, ?_⟩
        (repeat' (first | (with_reducible exact Below.refl _ _) | (with_reducible assumption) | (with_reducible refine Below.alloc ?_ ?_ _) | (with_reducible refine below_drewN ?_ _) | (with_reducible refine Below.drew ?_) | (with_reducible refine Below.setCell ?_ ?_ _) | (with_reducible refine below_via (by assumption) ?_ ?_) | (with_reducible refine below_via (later_below _) ?_ ?_) | (with_reducible exact Nat.le_refl _) | omega | (simp; omega) | (simp; done)))
set_option maxHeartbeats 4000000 in
set_option maxRecDepth 100000 in
theorem fform_x (v : VV) (t : ByteArray) (mi ze pl : Bool) (W : Nat) (N : Int) (D : List UInt8) (B : Bool) (hW : W ≤ 99) (hD : D.length ≤ 100) (w : World) (hT : Tabs w)
    (h : ∀ w, Tabs w → Calls Tryz.prog 50 #[pV t 120 mi ze pl W N, vV v.k v.p v.q v.s v.r] w fun e w' => e = .returned (.tuple #[.string (mkS D), .bool B]) ∧ Below w.heap.size w w') :
    Calls Tryz.prog 31 #[pV t 120 mi ze pl W N, vV v.k v.p v.q v.s v.r] w fun e w' => e = .returned (.tuple #[.string (mkS (padL (signA ⟨[], 120, mi, ze, pl, W, N⟩ D ++ zeroA ⟨[], 120, mi, ze, pl, W, N⟩ (signA ⟨[], 120, mi, ze, pl, W, N⟩ D) (bodyA D)) W mi)), .bool B]) ∧ Below w.heap.size w w' := by
  have HD := Lib.hid h
  have HT := Lib.hid hT
  clear h hT
  obtain ⟨k, p, q, s, r⟩ := v
  dsimp only at *
  have HZ : Hid (∀ sg s, zeroA ⟨[], 120, mi, ze, pl, W, N⟩ sg s = if (ze && !mi) = true ∧ True then List.replicate (W - sg.length - s.length) 48 ++ s else s) := by
    intro sg s
    unfold zeroA
    cases ze <;> cases mi <;> simp
  have HS : Hid (signA ⟨[], 120, mi, ze, pl, W, N⟩ D = if D.head? = some 45 then [45] else if False then [43] else []) := by
    show _ = _
    unfold signA
    cases pl <;> simp
  go_enter Tryz.func31, Tryz.ntmps31
  go_upto_region 1 with fail
  go_cut [6] (fun z wx => z = .bool (ze && !mi) ∧ wx = (w.alloc (.cells #[.string t, .int .u8 120, .bool mi, .bool ze, .bool pl, .int .i64 W, .int .i64 N] 31)).alloc (.cells #[.int .i64 k, .int .i64 p, .int .i64 q, .string s, .int .i64 r] 42))
  case first =>
    cases ze <;> cases mi
    all_goals
      go_wp2_with fail
      go_meet
      exact ⟨rfl, rfl⟩
  case rest =>
    obtain ⟨rfl, rfl⟩ := hcut
    obtain ⟨Z, hZ⟩ : ∃ Z, (ze && !mi) = Z := ⟨_, rfl⟩
    rw [hZ] at HZ ⊢
    clear hZ
    by_cases hh : D.head? = some 45
    · obtain ⟨D', rfl⟩ : ∃ D', D = 45 :: D' := by
        cases D with
        | nil => cases hh
        | cons c D' => simp at hh; exact ⟨D', by rw [hh]⟩
      have HP := Lib.hid (fun w' => hasp_any (mkS (45 :: D')) true (by rw [mkS_list]; rfl) w')
      have hex := tail_extract 45 D'
      have hex2 := hex
      rw [mkS_size, List.length_cons] at hex2
      have hsz := mkS_size (45 :: D')
      have hsz2 := mkS_size D'
      have HBD : Hid (bodyA (45 :: D') = D') := rfl
      rw [List.length_cons] at hD hsz
      clear hh
      cases Z
      · skip
        have HL : Hid (signA ⟨[], 120, mi, ze, pl, W, N⟩ (45 :: D') ++ zeroA ⟨[], 120, mi, ze, pl, W, N⟩ (signA ⟨[], 120, mi, ze, pl, W, N⟩ (45 :: D')) (bodyA (45 :: D')) = [45] ++ D') := by
          show _ = _
          rw [HS.out, HZ.out, HBD.out]
          simp
        clear HS HZ HBD
        go_wp2_with (first | (go_at_call 50; (with_reducible refine (HD.out _ (HT.out.later ?_)).mono ?_); (focus ((repeat' (first | (with_reducible exact Below.refl _ _) | (with_reducible assumption) | (with_reducible refine Below.alloc ?_ ?_ _) | (with_reducible refine below_drewN ?_ _) | (with_reducible refine Below.drew ?_) | (with_reducible refine Below.setCell ?_ ?_ _) | (with_reducible refine below_via (by assumption) ?_ ?_) | (with_reducible refine below_via (later_below _) ?_ ?_) | (with_reducible exact Nat.le_refl _) | omega | (simp; omega) | (simp; done))))); rintro e w1 ⟨rfl, hb⟩; (refine mem hb ?_; intro N hN hz hc hf; (try simp at hN); subst hN)) | (go_at_call 23; (with_reducible refine (HP.out _).mono ?_); rintro e w2 ⟨rfl, rfl⟩) | (go_at_call 21; (with_reducible refine (fpadS _ ([45] ++ D') W mi ?_ _ ?_ ?_ ?_).mono ?_); (focus (first | rfl | (simp only [show (⟨#[45]⟩ : ByteArray) = mkS [45] from rfl, show (⟨#[43]⟩ : ByteArray) = mkS [43] from rfl, show (⟨#[]⟩ : ByteArray) = mkS [] from rfl, cat_mk]; done) | (simp [cat_mk]; done))); (focus ((try simp); omega)); (focus omega); (focus omega); rintro e w4 ⟨rfl, hb⟩; (refine mem hb ?_; intro N hN hz hc hf; (try simp at hN); subst hN)))
        go_region
        go_wp2_with (first | (go_at_call 50; (with_reducible refine (HD.out _ (HT.out.later ?_)).mono ?_); (focus ((repeat' (first | (with_reducible exact Below.refl _ _) | (with_reducible assumption) | (with_reducible refine Below.alloc ?_ ?_ _) | (with_reducible refine below_drewN ?_ _) | (with_reducible refine Below.drew ?_) | (with_reducible refine Below.setCell ?_ ?_ _) | (with_reducible refine below_via (by assumption) ?_ ?_) | (with_reducible refine below_via (later_below _) ?_ ?_) | (with_reducible exact Nat.le_refl _) | omega | (simp; omega) | (simp; done))))); rintro e w1 ⟨rfl, hb⟩; (refine mem hb ?_; intro N hN hz hc hf; (try simp at hN); subst hN)) | (go_at_call 23; (with_reducible refine (HP.out _).mono ?_); rintro e w2 ⟨rfl, rfl⟩) | (go_at_call 21; (with_reducible refine (fpadS _ ([45] ++ D') W mi ?_ _ ?_ ?_ ?_).mono ?_); (focus (first | rfl | (simp only [show (⟨#[45]⟩ : ByteArray) = mkS [45] from rfl, show (⟨#[43]⟩ : ByteArray) = mkS [43] from rfl, show (⟨#[]⟩ : ByteArray) = mkS [] from rfl, cat_mk]; done) | (simp [cat_mk]; done))); (focus ((try simp); omega)); (focus omega); (focus omega); rintro e w4 ⟨rfl, hb⟩; (refine mem hb ?_; intro N hN hz hc hf; (try simp at hN); subst hN)))
        go_returns
        refine ⟨ret_sb (by rw [HL.out]; first | done | rfl) rfl, ?_⟩
        (repeat' (first | (with_reducible exact Below.refl _ _) | (with_reducible assumption) | (with_reducible refine Below.alloc ?_ ?_ _) | (with_reducible refine below_drewN ?_ _) | (with_reducible refine Below.drew ?_) | (with_reducible refine Below.setCell ?_ ?_ _) | (with_reducible refine below_via (by assumption) ?_ ?_) | (with_reducible refine below_via (later_below _) ?_ ?_) | (with_reducible exact Nat.le_refl _) | omega | (simp; omega) | (simp; done)))
      · skip
        have HL : Hid (signA ⟨[], 120, mi, ze, pl, W, N⟩ (45 :: D') ++ zeroA ⟨[], 120, mi, ze, pl, W, N⟩ (signA ⟨[], 120, mi, ze, pl, W, N⟩ (45 :: D')) (bodyA (45 :: D')) = [45] ++ (List.replicate (W - 1 - D'.length) 48 ++ D')) := by
          show _ = _
          rw [HS.out, HZ.out, HBD.out]
          simp
        clear HS HZ HBD
        have hrs : (mkS (List.replicate (W - 1 - D'.length) (48 : UInt8))).size ≤ 99 := by rw [mkS_size, List.length_replicate]; omega
        go_wp2_with (first | (go_at_call 50; (with_reducible refine (HD.out _ (HT.out.later ?_)).mono ?_); (focus ((repeat' (first | (with_reducible exact Below.refl _ _) | (with_reducible assumption) | (with_reducible refine Below.alloc ?_ ?_ _) | (with_reducible refine below_drewN ?_ _) | (with_reducible refine Below.drew ?_) | (with_reducible refine Below.setCell ?_ ?_ _) | (with_reducible refine below_via (by assumption) ?_ ?_) | (with_reducible refine below_via (later_below _) ?_ ?_) | (with_reducible exact Nat.le_refl _) | omega | (simp; omega) | (simp; done))))); rintro e w1 ⟨rfl, hb⟩; (refine mem hb ?_; intro N hN hz hc hf; (try simp at hN); subst hN)) | (go_at_call 23; (with_reducible refine (HP.out _).mono ?_); rintro e w2 ⟨rfl, rfl⟩) | (go_at_call 20; (with_reducible refine (zrep_any (W - 1 - D'.length) (by omega) _ ?_ _).mono ?_); (focus (first | omega | ((try simp [ByteArray.size]); omega))); rintro e w3 ⟨rfl, hb⟩; (refine mem hb ?_; intro N hN hz hc hf; (try simp at hN); subst hN)) | (go_at_call 21; (with_reducible refine (fpadS _ ([45] ++ (List.replicate (W - 1 - D'.length) 48 ++ D')) W mi ?_ _ ?_ ?_ ?_).mono ?_); (focus (first | rfl | (simp only [show (⟨#[45]⟩ : ByteArray) = mkS [45] from rfl, show (⟨#[43]⟩ : ByteArray) = mkS [43] from rfl, show (⟨#[]⟩ : ByteArray) = mkS [] from rfl, cat_mk]; done) | (simp [cat_mk]; done))); (focus ((try simp); omega)); (focus omega); (focus omega); rintro e w4 ⟨rfl, hb⟩; (refine mem hb ?_; intro N hN hz hc hf; (try simp at hN); subst hN)))
        go_region
        go_wp2_with (first | (go_at_call 50; (with_reducible refine (HD.out _ (HT.out.later ?_)).mono ?_); (focus ((repeat' (first | (with_reducible exact Below.refl _ _) | (with_reducible assumption) | (with_reducible refine Below.alloc ?_ ?_ _) | (with_reducible refine below_drewN ?_ _) | (with_reducible refine Below.drew ?_) | (with_reducible refine Below.setCell ?_ ?_ _) | (with_reducible refine below_via (by assumption) ?_ ?_) | (with_reducible refine below_via (later_below _) ?_ ?_) | (with_reducible exact Nat.le_refl _) | omega | (simp; omega) | (simp; done))))); rintro e w1 ⟨rfl, hb⟩; (refine mem hb ?_; intro N hN hz hc hf; (try simp at hN); subst hN)) | (go_at_call 23; (with_reducible refine (HP.out _).mono ?_); rintro e w2 ⟨rfl, rfl⟩) | (go_at_call 20; (with_reducible refine (zrep_any (W - 1 - D'.length) (by omega) _ ?_ _).mono ?_); (focus (first | omega | ((try simp [ByteArray.size]); omega))); rintro e w3 ⟨rfl, hb⟩; (refine mem hb ?_; intro N hN hz hc hf; (try simp at hN); subst hN)) | (go_at_call 21; (with_reducible refine (fpadS _ ([45] ++ (List.replicate (W - 1 - D'.length) 48 ++ D')) W mi ?_ _ ?_ ?_ ?_).mono ?_); (focus (first | rfl | (simp only [show (⟨#[45]⟩ : ByteArray) = mkS [45] from rfl, show (⟨#[43]⟩ : ByteArray) = mkS [43] from rfl, show (⟨#[]⟩ : ByteArray) = mkS [] from rfl, cat_mk]; done) | (simp [cat_mk]; done))); (focus ((try simp); omega)); (focus omega); (focus omega); rintro e w4 ⟨rfl, hb⟩; (refine mem hb ?_; intro N hN hz hc hf; (try simp at hN); subst hN)))
        go_returns
        refine ⟨ret_sb (by rw [HL.out]; first | done | rfl) rfl, ?_⟩
        (repeat' (first | (with_reducible exact Below.refl _ _) | (with_reducible assumption) | (with_reducible refine Below.alloc ?_ ?_ _) | (with_reducible refine below_drewN ?_ _) | (with_reducible refine Below.drew ?_) | (with_reducible refine Below.setCell ?_ ?_ _) | (with_reducible refine below_via (by assumption) ?_ ?_) | (with_reducible refine below_via (later_below _) ?_ ?_) | (with_reducible exact Nat.le_refl _) | omega | (simp; omega) | (simp; done)))
    · have HP := Lib.hid (fun w' => hasp_any (mkS D) false (by rw [mkS_list]; exact decide_eq_false hh) w')
      have hsz := mkS_size D
      have HBD : Hid (bodyA D = D) := if_neg hh
      have HH := Lib.hid hh
      clear hh
      cases Z
      · skip
        have HL : Hid (signA ⟨[], 120, mi, ze, pl, W, N⟩ D ++ zeroA ⟨[], 120, mi, ze, pl, W, N⟩ (signA ⟨[], 120, mi, ze, pl, W, N⟩ D) (bodyA D) = [] ++ D) := by
          show _ = _
          rw [HS.out, HZ.out, HBD.out]
          simp [HH.out]
        clear HS HZ HBD HH
        go_wp2_with (first | (go_at_call 50; (with_reducible refine (HD.out _ (HT.out.later ?_)).mono ?_); (focus ((repeat' (first | (with_reducible exact Below.refl _ _) | (with_reducible assumption) | (with_reducible refine Below.alloc ?_ ?_ _) | (with_reducible refine below_drewN ?_ _) | (with_reducible refine Below.drew ?_) | (with_reducible refine Below.setCell ?_ ?_ _) | (with_reducible refine below_via (by assumption) ?_ ?_) | (with_reducible refine below_via (later_below _) ?_ ?_) | (with_reducible exact Nat.le_refl _) | omega | (simp; omega) | (simp; done))))); rintro e w1 ⟨rfl, hb⟩; (refine mem hb ?_; intro N hN hz hc hf; (try simp at hN); subst hN)) | (go_at_call 23; (with_reducible refine (HP.out _).mono ?_); rintro e w2 ⟨rfl, rfl⟩) | (go_at_call 21; (with_reducible refine (fpadS _ ([] ++ D) W mi ?_ _ ?_ ?_ ?_).mono ?_); (focus (first | rfl | (simp only [show (⟨#[45]⟩ : ByteArray) = mkS [45] from rfl, show (⟨#[43]⟩ : ByteArray) = mkS [43] from rfl, show (⟨#[]⟩ : ByteArray) = mkS [] from rfl, cat_mk]; done) | (simp [cat_mk]; done))); (focus ((try simp); omega)); (focus omega); (focus omega); rintro e w4 ⟨rfl, hb⟩; (refine mem hb ?_; intro N hN hz hc hf; (try simp at hN); subst hN)))
        go_returns
        refine ⟨ret_sb (by rw [HL.out]; first | done | rfl) rfl, ?_⟩
        (repeat' (first | (with_reducible exact Below.refl _ _) | (with_reducible assumption) | (with_reducible refine Below.alloc ?_ ?_ _) | (with_reducible refine below_drewN ?_ _) | (with_reducible refine Below.drew ?_) | (with_reducible refine Below.setCell ?_ ?_ _) | (with_reducible refine below_via (by assumption) ?_ ?_) | (with_reducible refine below_via (later_below _) ?_ ?_) | (with_reducible exact Nat.le_refl _) | omega | (simp; omega) | (simp; done)))
      · skip
        have HL : Hid (signA ⟨[], 120, mi, ze, pl, W, N⟩ D ++ zeroA ⟨[], 120, mi, ze, pl, W, N⟩ (signA ⟨[], 120, mi, ze, pl, W, N⟩ D) (bodyA D) = [] ++ (List.replicate (W - D.length) 48 ++ D)) := by
          show _ = _
          rw [HS.out, HZ.out, HBD.out]
          simp [HH.out]
        clear HS HZ HBD HH
        have hrs : (mkS (List.replicate (W - D.length) (48 : UInt8))).size ≤ 99 := by rw [mkS_size, List.length_replicate]; omega
        go_wp2_with (first | (go_at_call 50; (with_reducible refine (HD.out _ (HT.out.later ?_)).mono ?_); (focus ((repeat' (first | (with_reducible exact Below.refl _ _) | (with_reducible assumption) | (with_reducible refine Below.alloc ?_ ?_ _) | (with_reducible refine below_drewN ?_ _) | (with_reducible refine Below.drew ?_) | (with_reducible refine Below.setCell ?_ ?_ _) | (with_reducible refine below_via (by assumption) ?_ ?_) | (with_reducible refine below_via (later_below _) ?_ ?_) | (with_reducible exact Nat.le_refl _) | omega | (simp; omega) | (simp; done))))); rintro e w1 ⟨rfl, hb⟩; (refine mem hb ?_; intro N hN hz hc hf; (try simp at hN); subst hN)) | (go_at_call 23; (with_reducible refine (HP.out _).mono ?_); rintro e w2 ⟨rfl, rfl⟩) | (go_at_call 20; (with_reducible refine (zrep_any (W - D.length) (by omega) _ ?_ _).mono ?_); (focus (first | omega | ((try simp [ByteArray.size]); omega))); rintro e w3 ⟨rfl, hb⟩; (refine mem hb ?_; intro N hN hz hc hf; (try simp at hN); subst hN)) | (go_at_call 21; (with_reducible refine (fpadS _ ([] ++ (List.replicate (W - D.length) 48 ++ D)) W mi ?_ _ ?_ ?_ ?_).mono ?_); (focus (first | rfl | (simp only [show (⟨#[45]⟩ : ByteArray) = mkS [45] from rfl, show (⟨#[43]⟩ : ByteArray) = mkS [43] from rfl, show (⟨#[]⟩ : ByteArray) = mkS [] from rfl, cat_mk]; done) | (simp [cat_mk]; done))); (focus ((try simp); omega)); (focus omega); (focus omega); rintro e w4 ⟨rfl, hb⟩; (refine mem hb ?_; intro N hN hz hc hf; (try simp at hN); subst hN)))
        go_returns
        refine ⟨ret_sb (by rw [HL.out]; first | done | rfl) rfl, ?_⟩
        (repeat' (first | (with_reducible exact Below.refl _ _) | (with_reducible assumption) | (with_reducible refine Below.alloc ?_ ?_ _) | (with_reducible refine below_drewN ?_ _) | (with_reducible refine Below.drew ?_) | (with_reducible refine Below.setCell ?_ ?_ _) | (with_reducible refine below_via (by assumption) ?_ ?_) | (with_reducible refine below_via (later_below _) ?_ ?_) | (with_reducible exact Nat.le_refl _) | omega | (simp; omega) | (simp; done)))
set_option maxHeartbeats 4000000 in
set_option maxRecDepth 100000 in
theorem fform_X (v : VV) (t : ByteArray) (mi ze pl : Bool) (W : Nat) (N : Int) (D : List UInt8) (B : Bool) (hW : W ≤ 99) (hD : D.length ≤ 100) (w : World) (hT : Tabs w)
    (h : ∀ w, Tabs w → Calls Tryz.prog 50 #[pV t 88 mi ze pl W N, vV v.k v.p v.q v.s v.r] w fun e w' => e = .returned (.tuple #[.string (mkS D), .bool B]) ∧ Below w.heap.size w w') :
    Calls Tryz.prog 31 #[pV t 88 mi ze pl W N, vV v.k v.p v.q v.s v.r] w fun e w' => e = .returned (.tuple #[.string (mkS (padL (signA ⟨[], 88, mi, ze, pl, W, N⟩ D ++ zeroA ⟨[], 88, mi, ze, pl, W, N⟩ (signA ⟨[], 88, mi, ze, pl, W, N⟩ D) (bodyA D)) W mi)), .bool B]) ∧ Below w.heap.size w w' := by
  have HD := Lib.hid h
  have HT := Lib.hid hT
  clear h hT
  obtain ⟨k, p, q, s, r⟩ := v
  dsimp only at *
  have HZ : Hid (∀ sg s, zeroA ⟨[], 88, mi, ze, pl, W, N⟩ sg s = if (ze && !mi) = true ∧ True then List.replicate (W - sg.length - s.length) 48 ++ s else s) := by
    intro sg s
    unfold zeroA
    cases ze <;> cases mi <;> simp
  have HS : Hid (signA ⟨[], 88, mi, ze, pl, W, N⟩ D = if D.head? = some 45 then [45] else if False then [43] else []) := by
    show _ = _
    unfold signA
    cases pl <;> simp
  go_enter Tryz.func31, Tryz.ntmps31
  go_upto_region 1 with fail
  go_cut [6] (fun z wx => z = .bool (ze && !mi) ∧ wx = (w.alloc (.cells #[.string t, .int .u8 88, .bool mi, .bool ze, .bool pl, .int .i64 W, .int .i64 N] 31)).alloc (.cells #[.int .i64 k, .int .i64 p, .int .i64 q, .string s, .int .i64 r] 42))
  case first =>
    cases ze <;> cases mi
    all_goals
      go_wp2_with fail
      go_meet
      exact ⟨rfl, rfl⟩
  case rest =>
    obtain ⟨rfl, rfl⟩ := hcut
    obtain ⟨Z, hZ⟩ : ∃ Z, (ze && !mi) = Z := ⟨_, rfl⟩
    rw [hZ] at HZ ⊢
    clear hZ
    by_cases hh : D.head? = some 45
    · obtain ⟨D', rfl⟩ : ∃ D', D = 45 :: D' := by
        cases D with
        | nil => cases hh
        | cons c D' => simp at hh; exact ⟨D', by rw [hh]⟩
      have HP := Lib.hid (fun w' => hasp_any (mkS (45 :: D')) true (by rw [mkS_list]; rfl) w')
      have hex := tail_extract 45 D'
      have hex2 := hex
      rw [mkS_size, List.length_cons] at hex2
      have hsz := mkS_size (45 :: D')
      have hsz2 := mkS_size D'
      have HBD : Hid (bodyA (45 :: D') = D') := rfl
      rw [List.length_cons] at hD hsz
      clear hh
      cases Z
      · skip
        have HL : Hid (signA ⟨[], 88, mi, ze, pl, W, N⟩ (45 :: D') ++ zeroA ⟨[], 88, mi, ze, pl, W, N⟩ (signA ⟨[], 88, mi, ze, pl, W, N⟩ (45 :: D')) (bodyA (45 :: D')) = [45] ++ D') := by
          show _ = _
          rw [HS.out, HZ.out, HBD.out]
          simp
        clear HS HZ HBD
        go_wp2_with (first | (go_at_call 50; (with_reducible refine (HD.out _ (HT.out.later ?_)).mono ?_); (focus ((repeat' (first | (with_reducible exact Below.refl _ _) | (with_reducible assumption) | (with_reducible refine Below.alloc ?_ ?_ _) | (with_reducible refine below_drewN ?_ _) | (with_reducible refine Below.drew ?_) | (with_reducible refine Below.setCell ?_ ?_ _) | (with_reducible refine below_via (by assumption) ?_ ?_) | (with_reducible refine below_via (later_below _) ?_ ?_) | (with_reducible exact Nat.le_refl _) | omega | (simp; omega) | (simp; done))))); rintro e w1 ⟨rfl, hb⟩; (refine mem hb ?_; intro N hN hz hc hf; (try simp at hN); subst hN)) | (go_at_call 23; (with_reducible refine (HP.out _).mono ?_); rintro e w2 ⟨rfl, rfl⟩) | (go_at_call 21; (with_reducible refine (fpadS _ ([45] ++ D') W mi ?_ _ ?_ ?_ ?_).mono ?_); (focus (first | rfl | (simp only [show (⟨#[45]⟩ : ByteArray) = mkS [45] from rfl, show (⟨#[43]⟩ : ByteArray) = mkS [43] from rfl, show (⟨#[]⟩ : ByteArray) = mkS [] from rfl, cat_mk]; done) | (simp [cat_mk]; done))); (focus ((try simp); omega)); (focus omega); (focus omega); rintro e w4 ⟨rfl, hb⟩; (refine mem hb ?_; intro N hN hz hc hf; (try simp at hN); subst hN)))
        go_region
        go_wp2_with (first | (go_at_call 50; (with_reducible refine (HD.out _ (HT.out.later ?_)).mono ?_); (focus ((repeat' (first | (with_reducible exact Below.refl _ _) | (with_reducible assumption) | (with_reducible refine Below.alloc ?_ ?_ _) | (with_reducible refine below_drewN ?_ _) | (with_reducible refine Below.drew ?_) | (with_reducible refine Below.setCell ?_ ?_ _) | (with_reducible refine below_via (by assumption) ?_ ?_) | (with_reducible refine below_via (later_below _) ?_ ?_) | (with_reducible exact Nat.le_refl _) | omega | (simp; omega) | (simp; done))))); rintro e w1 ⟨rfl, hb⟩; (refine mem hb ?_; intro N hN hz hc hf; (try simp at hN); subst hN)) | (go_at_call 23; (with_reducible refine (HP.out _).mono ?_); rintro e w2 ⟨rfl, rfl⟩) | (go_at_call 21; (with_reducible refine (fpadS _ ([45] ++ D') W mi ?_ _ ?_ ?_ ?_).mono ?_); (focus (first | rfl | (simp only [show (⟨#[45]⟩ : ByteArray) = mkS [45] from rfl, show (⟨#[43]⟩ : ByteArray) = mkS [43] from rfl, show (⟨#[]⟩ : ByteArray) = mkS [] from rfl, cat_mk]; done) | (simp [cat_mk]; done))); (focus ((try simp); omega)); (focus omega); (focus omega); rintro e w4 ⟨rfl, hb⟩; (refine mem hb ?_; intro N hN hz hc hf; (try simp at hN); subst hN)))
        go_returns
        refine ⟨ret_sb (by rw [HL.out]; first | done | rfl) rfl, ?_⟩
        (repeat' (first | (with_reducible exact Below.refl _ _) | (with_reducible assumption) | (with_reducible refine Below.alloc ?_ ?_ _) | (with_reducible refine below_drewN ?_ _) | (with_reducible refine Below.drew ?_) | (with_reducible refine Below.setCell ?_ ?_ _) | (with_reducible refine below_via (by assumption) ?_ ?_) | (with_reducible refine below_via (later_below _) ?_ ?_) | (with_reducible exact Nat.le_refl _) | omega | (simp; omega) | (simp; done)))
      · skip
        have HL : Hid (signA ⟨[], 88, mi, ze, pl, W, N⟩ (45 :: D') ++ zeroA ⟨[], 88, mi, ze, pl, W, N⟩ (signA ⟨[], 88, mi, ze, pl, W, N⟩ (45 :: D')) (bodyA (45 :: D')) = [45] ++ (List.replicate (W - 1 - D'.length) 48 ++ D')) := by
          show _ = _
          rw [HS.out, HZ.out, HBD.out]
          simp
        clear HS HZ HBD
        have hrs : (mkS (List.replicate (W - 1 - D'.length) (48 : UInt8))).size ≤ 99 := by rw [mkS_size, List.length_replicate]; omega
        go_wp2_with (first | (go_at_call 50; (with_reducible refine (HD.out _ (HT.out.later ?_)).mono ?_); (focus ((repeat' (first | (with_reducible exact Below.refl _ _) | (with_reducible assumption) | (with_reducible refine Below.alloc ?_ ?_ _) | (with_reducible refine below_drewN ?_ _) | (with_reducible refine Below.drew ?_) | (with_reducible refine Below.setCell ?_ ?_ _) | (with_reducible refine below_via (by assumption) ?_ ?_) | (with_reducible refine below_via (later_below _) ?_ ?_) | (with_reducible exact Nat.le_refl _) | omega | (simp; omega) | (simp; done))))); rintro e w1 ⟨rfl, hb⟩; (refine mem hb ?_; intro N hN hz hc hf; (try simp at hN); subst hN)) | (go_at_call 23; (with_reducible refine (HP.out _).mono ?_); rintro e w2 ⟨rfl, rfl⟩) | (go_at_call 20; (with_reducible refine (zrep_any (W - 1 - D'.length) (by omega) _ ?_ _).mono ?_); (focus (first | omega | ((try simp [ByteArray.size]); omega))); rintro e w3 ⟨rfl, hb⟩; (refine mem hb ?_; intro N hN hz hc hf; (try simp at hN); subst hN)) | (go_at_call 21; (with_reducible refine (fpadS _ ([45] ++ (List.replicate (W - 1 - D'.length) 48 ++ D')) W mi ?_ _ ?_ ?_ ?_).mono ?_); (focus (first | rfl | (simp only [show (⟨#[45]⟩ : ByteArray) = mkS [45] from rfl, show (⟨#[43]⟩ : ByteArray) = mkS [43] from rfl, show (⟨#[]⟩ : ByteArray) = mkS [] from rfl, cat_mk]; done) | (simp [cat_mk]; done))); (focus ((try simp); omega)); (focus omega); (focus omega); rintro e w4 ⟨rfl, hb⟩; (refine mem hb ?_; intro N hN hz hc hf; (try simp at hN); subst hN)))
        go_region
        go_wp2_with (first | (go_at_call 50; (with_reducible refine (HD.out _ (HT.out.later ?_)).mono ?_); (focus ((repeat' (first | (with_reducible exact Below.refl _ _) | (with_reducible assumption) | (with_reducible refine Below.alloc ?_ ?_ _) | (with_reducible refine below_drewN ?_ _) | (with_reducible refine Below.drew ?_) | (with_reducible refine Below.setCell ?_ ?_ _) | (with_reducible refine below_via (by assumption) ?_ ?_) | (with_reducible refine below_via (later_below _) ?_ ?_) | (with_reducible exact Nat.le_refl _) | omega | (simp; omega) | (simp; done))))); rintro e w1 ⟨rfl, hb⟩; (refine mem hb ?_; intro N hN hz hc hf; (try simp at hN); subst hN)) | (go_at_call 23; (with_reducible refine (HP.out _).mono ?_); rintro e w2 ⟨rfl, rfl⟩) | (go_at_call 20; (with_reducible refine (zrep_any (W - 1 - D'.length) (by omega) _ ?_ _).mono ?_); (focus (first | omega | ((try simp [ByteArray.size]); omega))); rintro e w3 ⟨rfl, hb⟩; (refine mem hb ?_; intro N hN hz hc hf; (try simp at hN); subst hN)) | (go_at_call 21; (with_reducible refine (fpadS _ ([45] ++ (List.replicate (W - 1 - D'.length) 48 ++ D')) W mi ?_ _ ?_ ?_ ?_).mono ?_); (focus (first | rfl | (simp only [show (⟨#[45]⟩ : ByteArray) = mkS [45] from rfl, show (⟨#[43]⟩ : ByteArray) = mkS [43] from rfl, show (⟨#[]⟩ : ByteArray) = mkS [] from rfl, cat_mk]; done) | (simp [cat_mk]; done))); (focus ((try simp); omega)); (focus omega); (focus omega); rintro e w4 ⟨rfl, hb⟩; (refine mem hb ?_; intro N hN hz hc hf; (try simp at hN); subst hN)))
        go_returns
        refine ⟨ret_sb (by rw [HL.out]; first | done | rfl) rfl, ?_⟩
        (repeat' (first | (with_reducible exact Below.refl _ _) | (with_reducible assumption) | (with_reducible refine Below.alloc ?_ ?_ _) | (with_reducible refine below_drewN ?_ _) | (with_reducible refine Below.drew ?_) | (with_reducible refine Below.setCell ?_ ?_ _) | (with_reducible refine below_via (by assumption) ?_ ?_) | (with_reducible refine below_via (later_below _) ?_ ?_) | (with_reducible exact Nat.le_refl _) | omega | (simp; omega) | (simp; done)))
    · have HP := Lib.hid (fun w' => hasp_any (mkS D) false (by rw [mkS_list]; exact decide_eq_false hh) w')
      have hsz := mkS_size D
      have HBD : Hid (bodyA D = D) := if_neg hh
      have HH := Lib.hid hh
      clear hh
      cases Z
      · skip
        have HL : Hid (signA ⟨[], 88, mi, ze, pl, W, N⟩ D ++ zeroA ⟨[], 88, mi, ze, pl, W, N⟩ (signA ⟨[], 88, mi, ze, pl, W, N⟩ D) (bodyA D) = [] ++ D) := by
          show _ = _
          rw [HS.out, HZ.out, HBD.out]
          simp [HH.out]
        clear HS HZ HBD HH
        go_wp2_with (first | (go_at_call 50; (with_reducible refine (HD.out _ (HT.out.later ?_)).mono ?_); (focus ((repeat' (first | (with_reducible exact Below.refl _ _) | (with_reducible assumption) | (with_reducible refine Below.alloc ?_ ?_ _) | (with_reducible refine below_drewN ?_ _) | (with_reducible refine Below.drew ?_) | (with_reducible refine Below.setCell ?_ ?_ _) | (with_reducible refine below_via (by assumption) ?_ ?_) | (with_reducible refine below_via (later_below _) ?_ ?_) | (with_reducible exact Nat.le_refl _) | omega | (simp; omega) | (simp; done))))); rintro e w1 ⟨rfl, hb⟩; (refine mem hb ?_; intro N hN hz hc hf; (try simp at hN); subst hN)) | (go_at_call 23; (with_reducible refine (HP.out _).mono ?_); rintro e w2 ⟨rfl, rfl⟩) | (go_at_call 21; (with_reducible refine (fpadS _ ([] ++ D) W mi ?_ _ ?_ ?_ ?_).mono ?_); (focus (first | rfl | (simp only [show (⟨#[45]⟩ : ByteArray) = mkS [45] from rfl, show (⟨#[43]⟩ : ByteArray) = mkS [43] from rfl, show (⟨#[]⟩ : ByteArray) = mkS [] from rfl, cat_mk]; done) | (simp [cat_mk]; done))); (focus ((try simp); omega)); (focus omega); (focus omega); rintro e w4 ⟨rfl, hb⟩; (refine mem hb ?_; intro N hN hz hc hf; (try simp at hN); subst hN)))
        go_returns
        refine ⟨ret_sb (by rw [HL.out]; first | done | rfl) rfl, ?_⟩
        (repeat' (first | (with_reducible exact Below.refl _ _) | (with_reducible assumption) | (with_reducible refine Below.alloc ?_ ?_ _) | (with_reducible refine below_drewN ?_ _) | (with_reducible refine Below.drew ?_) | (with_reducible refine Below.setCell ?_ ?_ _) | (with_reducible refine below_via (by assumption) ?_ ?_) | (with_reducible refine below_via (later_below _) ?_ ?_) | (with_reducible exact Nat.le_refl _) | omega | (simp; omega) | (simp; done)))
      · skip
        have HL : Hid (signA ⟨[], 88, mi, ze, pl, W, N⟩ D ++ zeroA ⟨[], 88, mi, ze, pl, W, N⟩ (signA ⟨[], 88, mi, ze, pl, W, N⟩ D) (bodyA D) = [] ++ (List.replicate (W - D.length) 48 ++ D)) := by
          show _ = _
          rw [HS.out, HZ.out, HBD.out]
          simp [HH.out]
        clear HS HZ HBD HH
        have hrs : (mkS (List.replicate (W - D.length) (48 : UInt8))).size ≤ 99 := by rw [mkS_size, List.length_replicate]; omega
        go_wp2_with (first | (go_at_call 50; (with_reducible refine (HD.out _ (HT.out.later ?_)).mono ?_); (focus ((repeat' (first | (with_reducible exact Below.refl _ _) | (with_reducible assumption) | (with_reducible refine Below.alloc ?_ ?_ _) | (with_reducible refine below_drewN ?_ _) | (with_reducible refine Below.drew ?_) | (with_reducible refine Below.setCell ?_ ?_ _) | (with_reducible refine below_via (by assumption) ?_ ?_) | (with_reducible refine below_via (later_below _) ?_ ?_) | (with_reducible exact Nat.le_refl _) | omega | (simp; omega) | (simp; done))))); rintro e w1 ⟨rfl, hb⟩; (refine mem hb ?_; intro N hN hz hc hf; (try simp at hN); subst hN)) | (go_at_call 23; (with_reducible refine (HP.out _).mono ?_); rintro e w2 ⟨rfl, rfl⟩) | (go_at_call 20; (with_reducible refine (zrep_any (W - D.length) (by omega) _ ?_ _).mono ?_); (focus (first | omega | ((try simp [ByteArray.size]); omega))); rintro e w3 ⟨rfl, hb⟩; (refine mem hb ?_; intro N hN hz hc hf; (try simp at hN); subst hN)) | (go_at_call 21; (with_reducible refine (fpadS _ ([] ++ (List.replicate (W - D.length) 48 ++ D)) W mi ?_ _ ?_ ?_ ?_).mono ?_); (focus (first | rfl | (simp only [show (⟨#[45]⟩ : ByteArray) = mkS [45] from rfl, show (⟨#[43]⟩ : ByteArray) = mkS [43] from rfl, show (⟨#[]⟩ : ByteArray) = mkS [] from rfl, cat_mk]; done) | (simp [cat_mk]; done))); (focus ((try simp); omega)); (focus omega); (focus omega); rintro e w4 ⟨rfl, hb⟩; (refine mem hb ?_; intro N hN hz hc hf; (try simp at hN); subst hN)))
        go_returns
        refine ⟨ret_sb (by rw [HL.out]; first | done | rfl) rfl, ?_⟩
        (repeat' (first | (with_reducible exact Below.refl _ _) | (with_reducible assumption) | (with_reducible refine Below.alloc ?_ ?_ _) | (with_reducible refine below_drewN ?_ _) | (with_reducible refine Below.drew ?_) | (with_reducible refine Below.setCell ?_ ?_ _) | (with_reducible refine below_via (by assumption) ?_ ?_) | (with_reducible refine below_via (later_below _) ?_ ?_) | (with_reducible exact Nat.le_refl _) | omega | (simp; omega) | (simp; done)))
set_option maxHeartbeats 4000000 in
set_option maxRecDepth 100000 in
theorem fform_o (v : VV) (t : ByteArray) (mi ze pl : Bool) (W : Nat) (N : Int) (D : List UInt8) (B : Bool) (hW : W ≤ 99) (hD : D.length ≤ 100) (w : World) (hT : Tabs w)
    (h : ∀ w, Tabs w → Calls Tryz.prog 50 #[pV t 111 mi ze pl W N, vV v.k v.p v.q v.s v.r] w fun e w' => e = .returned (.tuple #[.string (mkS D), .bool B]) ∧ Below w.heap.size w w') :
    Calls Tryz.prog 31 #[pV t 111 mi ze pl W N, vV v.k v.p v.q v.s v.r] w fun e w' => e = .returned (.tuple #[.string (mkS (padL (signA ⟨[], 111, mi, ze, pl, W, N⟩ D ++ zeroA ⟨[], 111, mi, ze, pl, W, N⟩ (signA ⟨[], 111, mi, ze, pl, W, N⟩ D) (bodyA D)) W mi)), .bool B]) ∧ Below w.heap.size w w' := by
  have HD := Lib.hid h
  have HT := Lib.hid hT
  clear h hT
  obtain ⟨k, p, q, s, r⟩ := v
  dsimp only at *
  have HZ : Hid (∀ sg s, zeroA ⟨[], 111, mi, ze, pl, W, N⟩ sg s = if (ze && !mi) = true ∧ True then List.replicate (W - sg.length - s.length) 48 ++ s else s) := by
    intro sg s
    unfold zeroA
    cases ze <;> cases mi <;> simp
  have HS : Hid (signA ⟨[], 111, mi, ze, pl, W, N⟩ D = if D.head? = some 45 then [45] else if False then [43] else []) := by
    show _ = _
    unfold signA
    cases pl <;> simp
  go_enter Tryz.func31, Tryz.ntmps31
  go_upto_region 1 with fail
  go_cut [6] (fun z wx => z = .bool (ze && !mi) ∧ wx = (w.alloc (.cells #[.string t, .int .u8 111, .bool mi, .bool ze, .bool pl, .int .i64 W, .int .i64 N] 31)).alloc (.cells #[.int .i64 k, .int .i64 p, .int .i64 q, .string s, .int .i64 r] 42))
  case first =>
    cases ze <;> cases mi
    all_goals
      go_wp2_with fail
      go_meet
      exact ⟨rfl, rfl⟩
  case rest =>
    obtain ⟨rfl, rfl⟩ := hcut
    obtain ⟨Z, hZ⟩ : ∃ Z, (ze && !mi) = Z := ⟨_, rfl⟩
    rw [hZ] at HZ ⊢
    clear hZ
    by_cases hh : D.head? = some 45
    · obtain ⟨D', rfl⟩ : ∃ D', D = 45 :: D' := by
        cases D with
        | nil => cases hh
        | cons c D' => simp at hh; exact ⟨D', by rw [hh]⟩
      have HP := Lib.hid (fun w' => hasp_any (mkS (45 :: D')) true (by rw [mkS_list]; rfl) w')
      have hex := tail_extract 45 D'
      have hex2 := hex
      rw [mkS_size, List.length_cons] at hex2
      have hsz := mkS_size (45 :: D')
      have hsz2 := mkS_size D'
      have HBD : Hid (bodyA (45 :: D') = D') := rfl
      rw [List.length_cons] at hD hsz
      clear hh
      cases Z
      · skip
        have HL : Hid (signA ⟨[], 111, mi, ze, pl, W, N⟩ (45 :: D') ++ zeroA ⟨[], 111, mi, ze, pl, W, N⟩ (signA ⟨[], 111, mi, ze, pl, W, N⟩ (45 :: D')) (bodyA (45 :: D')) = [45] ++ D') := by
          show _ = _
          rw [HS.out, HZ.out, HBD.out]
          simp
        clear HS HZ HBD
        go_wp2_with (first | (go_at_call 50; (with_reducible refine (HD.out _ (HT.out.later ?_)).mono ?_); (focus ((repeat' (first | (with_reducible exact Below.refl _ _) | (with_reducible assumption) | (with_reducible refine Below.alloc ?_ ?_ _) | (with_reducible refine below_drewN ?_ _) | (with_reducible refine Below.drew ?_) | (with_reducible refine Below.setCell ?_ ?_ _) | (with_reducible refine below_via (by assumption) ?_ ?_) | (with_reducible refine below_via (later_below _) ?_ ?_) | (with_reducible exact Nat.le_refl _) | omega | (simp; omega) | (simp; done))))); rintro e w1 ⟨rfl, hb⟩; (refine mem hb ?_; intro N hN hz hc hf; (try simp at hN); subst hN)) | (go_at_call 23; (with_reducible refine (HP.out _).mono ?_); rintro e w2 ⟨rfl, rfl⟩) | (go_at_call 21; (with_reducible refine (fpadS _ ([45] ++ D') W mi ?_ _ ?_ ?_ ?_).mono ?_); (focus (first | rfl | (simp only [show (⟨#[45]⟩ : ByteArray) = mkS [45] from rfl, show (⟨#[43]⟩ : ByteArray) = mkS [43] from rfl, show (⟨#[]⟩ : ByteArray) = mkS [] from rfl, cat_mk]; done) | (simp [cat_mk]; done))); (focus ((try simp); omega)); (focus omega); (focus omega); rintro e w4 ⟨rfl, hb⟩; (refine mem hb ?_; intro N hN hz hc hf; (try simp at hN); subst hN)))
        go_region
        go_wp2_with (first | (go_at_call 50; (with_reducible refine (HD.out _ (HT.out.later ?_)).mono ?_); (focus ((repeat' (first | (with_reducible exact Below.refl _ _) | (with_reducible assumption) | (with_reducible refine Below.alloc ?_ ?_ _) | (with_reducible refine below_drewN ?_ _) | (with_reducible refine Below.drew ?_) | (with_reducible refine Below.setCell ?_ ?_ _) | (with_reducible refine below_via (by assumption) ?_ ?_) | (with_reducible refine below_via (later_below _) ?_ ?_) | (with_reducible exact Nat.le_refl _) | omega | (simp; omega) | (simp; done))))); rintro e w1 ⟨rfl, hb⟩; (refine mem hb ?_; intro N hN hz hc hf; (try simp at hN); subst hN)) | (go_at_call 23; (with_reducible refine (HP.out _).mono ?_); rintro e w2 ⟨rfl, rfl⟩) | (go_at_call 21; (with_reducible refine (fpadS _ ([45] ++ D') W mi ?_ _ ?_ ?_ ?_).mono ?_); (focus (first | rfl | (simp only [show (⟨#[45]⟩ : ByteArray) = mkS [45] from rfl, show (⟨#[43]⟩ : ByteArray) = mkS [43] from rfl, show (⟨#[]⟩ : ByteArray) = mkS [] from rfl, cat_mk]; done) | (simp [cat_mk]; done))); (focus ((try simp); omega)); (focus omega); (focus omega); rintro e w4 ⟨rfl, hb⟩; (refine mem hb ?_; intro N hN hz hc hf; (try simp at hN); subst hN)))
        go_returns
        refine ⟨ret_sb (by rw [HL.out]; first | done | rfl) rfl, ?_⟩
        (repeat' (first | (with_reducible exact Below.refl _ _) | (with_reducible assumption) | (with_reducible refine Below.alloc ?_ ?_ _) | (with_reducible refine below_drewN ?_ _) | (with_reducible refine Below.drew ?_) | (with_reducible refine Below.setCell ?_ ?_ _) | (with_reducible refine below_via (by assumption) ?_ ?_) | (with_reducible refine below_via (later_below _) ?_ ?_) | (with_reducible exact Nat.le_refl _) | omega | (simp; omega) | (simp; done)))
      · skip
        have HL : Hid (signA ⟨[], 111, mi, ze, pl, W, N⟩ (45 :: D') ++ zeroA ⟨[], 111, mi, ze, pl, W, N⟩ (signA ⟨[], 111, mi, ze, pl, W, N⟩ (45 :: D')) (bodyA (45 :: D')) = [45] ++ (List.replicate (W - 1 - D'.length) 48 ++ D')) := by
          show _ = _
          rw [HS.out, HZ.out, HBD.out]
          simp
        clear HS HZ HBD
        have hrs : (mkS (List.replicate (W - 1 - D'.length) (48 : UInt8))).size ≤ 99 := by rw [mkS_size, List.length_replicate]; omega
        go_wp2_with (first | (go_at_call 50; (with_reducible refine (HD.out _ (HT.out.later ?_)).mono ?_); (focus ((repeat' (first | (with_reducible exact Below.refl _ _) | (with_reducible assumption) | (with_reducible refine Below.alloc ?_ ?_ _) | (with_reducible refine below_drewN ?_ _) | (with_reducible refine Below.drew ?_) | (with_reducible refine Below.setCell ?_ ?_ _) | (with_reducible refine below_via (by assumption) ?_ ?_) | (with_reducible refine below_via (later_below _) ?_ ?_) | (with_reducible exact Nat.le_refl _) | omega | (simp; omega) | (simp; done))))); rintro e w1 ⟨rfl, hb⟩; (refine mem hb ?_; intro N hN hz hc hf; (try simp at hN); subst hN)) | (go_at_call 23; (with_reducible refine (HP.out _).mono ?_); rintro e w2 ⟨rfl, rfl⟩) | (go_at_call 20; (with_reducible refine (zrep_any (W - 1 - D'.length) (by omega) _ ?_ _).mono ?_); (focus (first | omega | ((try simp [ByteArray.size]); omega))); rintro e w3 ⟨rfl, hb⟩; (refine mem hb ?_; intro N hN hz hc hf; (try simp at hN); subst hN)) | (go_at_call 21; (with_reducible refine (fpadS _ ([45] ++ (List.replicate (W - 1 - D'.length) 48 ++ D')) W mi ?_ _ ?_ ?_ ?_).mono ?_); (focus (first | rfl | (simp only [show (⟨#[45]⟩ : ByteArray) = mkS [45] from rfl, show (⟨#[43]⟩ : ByteArray) = mkS [43] from rfl, show (⟨#[]⟩ : ByteArray) = mkS [] from rfl, cat_mk]; done) | (simp [cat_mk]; done))); (focus ((try simp); omega)); (focus omega); (focus omega); rintro e w4 ⟨rfl, hb⟩; (refine mem hb ?_; intro N hN hz hc hf; (try simp at hN); subst hN)))
        go_region
        go_wp2_with (first | (go_at_call 50; (with_reducible refine (HD.out _ (HT.out.later ?_)).mono ?_); (focus ((repeat' (first | (with_reducible exact Below.refl _ _) | (with_reducible assumption) | (with_reducible refine Below.alloc ?_ ?_ _) | (with_reducible refine below_drewN ?_ _) | (with_reducible refine Below.drew ?_) | (with_reducible refine Below.setCell ?_ ?_ _) | (with_reducible refine below_via (by assumption) ?_ ?_) | (with_reducible refine below_via (later_below _) ?_ ?_) | (with_reducible exact Nat.le_refl _) | omega | (simp; omega) | (simp; done))))); rintro e w1 ⟨rfl, hb⟩; (refine mem hb ?_; intro N hN hz hc hf; (try simp at hN); subst hN)) | (go_at_call 23; (with_reducible refine (HP.out _).mono ?_); rintro e w2 ⟨rfl, rfl⟩) | (go_at_call 20; (with_reducible refine (zrep_any (W - 1 - D'.length) (by omega) _ ?_ _).mono ?_); (focus (first | omega | ((try simp [ByteArray.size]); omega))); rintro e w3 ⟨rfl, hb⟩; (refine mem hb ?_; intro N hN hz hc hf; (try simp at hN); subst hN)) | (go_at_call 21; (with_reducible refine (fpadS _ ([45] ++ (List.replicate (W - 1 - D'.length) 48 ++ D')) W mi ?_ _ ?_ ?_ ?_).mono ?_); (focus (first | rfl | (simp only [show (⟨#[45]⟩ : ByteArray) = mkS [45] from rfl, show (⟨#[43]⟩ : ByteArray) = mkS [43] from rfl, show (⟨#[]⟩ : ByteArray) = mkS [] from rfl, cat_mk]; done) | (simp [cat_mk]; done))); (focus ((try simp); omega)); (focus omega); (focus omega); rintro e w4 ⟨rfl, hb⟩; (refine mem hb ?_; intro N hN hz hc hf; (try simp at hN); subst hN)))
        go_returns
        refine ⟨ret_sb (by rw [HL.out]; first | done | rfl) rfl, ?_⟩
        (repeat' (first | (with_reducible exact Below.refl _ _) | (with_reducible assumption) | (with_reducible refine Below.alloc ?_ ?_ _) | (with_reducible refine below_drewN ?_ _) | (with_reducible refine Below.drew ?_) | (with_reducible refine Below.setCell ?_ ?_ _) | (with_reducible refine below_via (by assumption) ?_ ?_) | (with_reducible refine below_via (later_below _) ?_ ?_) | (with_reducible exact Nat.le_refl _) | omega | (simp; omega) | (simp; done)))
    · have HP := Lib.hid (fun w' => hasp_any (mkS D) false (by rw [mkS_list]; exact decide_eq_false hh) w')
      have hsz := mkS_size D
      have HBD : Hid (bodyA D = D) := if_neg hh
      have HH := Lib.hid hh
      clear hh
      cases Z
      · skip
        have HL : Hid (signA ⟨[], 111, mi, ze, pl, W, N⟩ D ++ zeroA ⟨[], 111, mi, ze, pl, W, N⟩ (signA ⟨[], 111, mi, ze, pl, W, N⟩ D) (bodyA D) = [] ++ D) := by
          show _ = _
          rw [HS.out, HZ.out, HBD.out]
          simp [HH.out]
        clear HS HZ HBD HH
        go_wp2_with (first | (go_at_call 50; (with_reducible refine (HD.out _ (HT.out.later ?_)).mono ?_); (focus ((repeat' (first | (with_reducible exact Below.refl _ _) | (with_reducible assumption) | (with_reducible refine Below.alloc ?_ ?_ _) | (with_reducible refine below_drewN ?_ _) | (with_reducible refine Below.drew ?_) | (with_reducible refine Below.setCell ?_ ?_ _) | (with_reducible refine below_via (by assumption) ?_ ?_) | (with_reducible refine below_via (later_below _) ?_ ?_) | (with_reducible exact Nat.le_refl _) | omega | (simp; omega) | (simp; done))))); rintro e w1 ⟨rfl, hb⟩; (refine mem hb ?_; intro N hN hz hc hf; (try simp at hN); subst hN)) | (go_at_call 23; (with_reducible refine (HP.out _).mono ?_); rintro e w2 ⟨rfl, rfl⟩) | (go_at_call 21; (with_reducible refine (fpadS _ ([] ++ D) W mi ?_ _ ?_ ?_ ?_).mono ?_); (focus (first | rfl | (simp only [show (⟨#[45]⟩ : ByteArray) = mkS [45] from rfl, show (⟨#[43]⟩ : ByteArray) = mkS [43] from rfl, show (⟨#[]⟩ : ByteArray) = mkS [] from rfl, cat_mk]; done) | (simp [cat_mk]; done))); (focus ((try simp); omega)); (focus omega); (focus omega); rintro e w4 ⟨rfl, hb⟩; (refine mem hb ?_; intro N hN hz hc hf; (try simp at hN); subst hN)))
        go_returns
        refine ⟨ret_sb (by rw [HL.out]; first | done | rfl) rfl, ?_⟩
        (repeat' (first | (with_reducible exact Below.refl _ _) | (with_reducible assumption) | (with_reducible refine Below.alloc ?_ ?_ _) | (with_reducible refine below_drewN ?_ _) | (with_reducible refine Below.drew ?_) | (with_reducible refine Below.setCell ?_ ?_ _) | (with_reducible refine below_via (by assumption) ?_ ?_) | (with_reducible refine below_via (later_below _) ?_ ?_) | (with_reducible exact Nat.le_refl _) | omega | (simp; omega) | (simp; done)))
      · skip
        have HL : Hid (signA ⟨[], 111, mi, ze, pl, W, N⟩ D ++ zeroA ⟨[], 111, mi, ze, pl, W, N⟩ (signA ⟨[], 111, mi, ze, pl, W, N⟩ D) (bodyA D) = [] ++ (List.replicate (W - D.length) 48 ++ D)) := by
          show _ = _
          rw [HS.out, HZ.out, HBD.out]
          simp [HH.out]
        clear HS HZ HBD HH
        have hrs : (mkS (List.replicate (W - D.length) (48 : UInt8))).size ≤ 99 := by rw [mkS_size, List.length_replicate]; omega
        go_wp2_with (first | (go_at_call 50; (with_reducible refine (HD.out _ (HT.out.later ?_)).mono ?_); (focus ((repeat' (first | (with_reducible exact Below.refl _ _) | (with_reducible assumption) | (with_reducible refine Below.alloc ?_ ?_ _) | (with_reducible refine below_drewN ?_ _) | (with_reducible refine Below.drew ?_) | (with_reducible refine Below.setCell ?_ ?_ _) | (with_reducible refine below_via (by assumption) ?_ ?_) | (with_reducible refine below_via (later_below _) ?_ ?_) | (with_reducible exact Nat.le_refl _) | omega | (simp; omega) | (simp; done))))); rintro e w1 ⟨rfl, hb⟩; (refine mem hb ?_; intro N hN hz hc hf; (try simp at hN); subst hN)) | (go_at_call 23; (with_reducible refine (HP.out _).mono ?_); rintro e w2 ⟨rfl, rfl⟩) | (go_at_call 20; (with_reducible refine (zrep_any (W - D.length) (by omega) _ ?_ _).mono ?_); (focus (first | omega | ((try simp [ByteArray.size]); omega))); rintro e w3 ⟨rfl, hb⟩; (refine mem hb ?_; intro N hN hz hc hf; (try simp at hN); subst hN)) | (go_at_call 21; (with_reducible refine (fpadS _ ([] ++ (List.replicate (W - D.length) 48 ++ D)) W mi ?_ _ ?_ ?_ ?_).mono ?_); (focus (first | rfl | (simp only [show (⟨#[45]⟩ : ByteArray) = mkS [45] from rfl, show (⟨#[43]⟩ : ByteArray) = mkS [43] from rfl, show (⟨#[]⟩ : ByteArray) = mkS [] from rfl, cat_mk]; done) | (simp [cat_mk]; done))); (focus ((try simp); omega)); (focus omega); (focus omega); rintro e w4 ⟨rfl, hb⟩; (refine mem hb ?_; intro N hN hz hc hf; (try simp at hN); subst hN)))
        go_returns
        refine ⟨ret_sb (by rw [HL.out]; first | done | rfl) rfl, ?_⟩
        (repeat' (first | (with_reducible exact Below.refl _ _) | (with_reducible assumption) | (with_reducible refine Below.alloc ?_ ?_ _) | (with_reducible refine below_drewN ?_ _) | (with_reducible refine Below.drew ?_) | (with_reducible refine Below.setCell ?_ ?_ _) | (with_reducible refine below_via (by assumption) ?_ ?_) | (with_reducible refine below_via (later_below _) ?_ ?_) | (with_reducible exact Nat.le_refl _) | omega | (simp; omega) | (simp; done)))
set_option maxHeartbeats 4000000 in
set_option maxRecDepth 100000 in
theorem fform_s (v : VV) (t : ByteArray) (mi ze pl : Bool) (W : Nat) (N : Int) (D : List UInt8) (B : Bool) (hW : W ≤ 99) (hD : D.length ≤ 5000000) (w : World) (hT : Tabs w)
    (h : ∀ w, Tabs w → Calls Tryz.prog 49 #[pV t 115 mi ze pl W N, vV v.k v.p v.q v.s v.r] w fun e w' => e = .returned (.tuple #[.string (mkS D), .bool B]) ∧ Below w.heap.size w w') :
    Calls Tryz.prog 31 #[pV t 115 mi ze pl W N, vV v.k v.p v.q v.s v.r] w fun e w' => e = .returned (.tuple #[.string (mkS (padL D W mi)), .bool B]) ∧ Below w.heap.size w w' := by
  have HD := Lib.hid h
  have HT := Lib.hid hT
  clear h hT
  obtain ⟨k, p, q, s, r⟩ := v
  dsimp only at *
  have HPD := Lib.hid (fun w' => fpad_any D W mi w' (by omega) (by omega) (by omega))
  go_enter Tryz.func31, Tryz.ntmps31
  go_upto_region 1 with fail
  go_cut [6] (fun z wx => z = .bool (ze && !mi) ∧ wx = (w.alloc (.cells #[.string t, .int .u8 115, .bool mi, .bool ze, .bool pl, .int .i64 W, .int .i64 N] 31)).alloc (.cells #[.int .i64 k, .int .i64 p, .int .i64 q, .string s, .int .i64 r] 42))
  case first =>
    cases ze <;> cases mi
    all_goals
      go_wp2_with fail
      go_meet
      exact ⟨rfl, rfl⟩
  case rest =>
    obtain ⟨rfl, rfl⟩ := hcut
    go_wp2_with (first | (go_at_call 49; (with_reducible refine (HD.out _ (HT.out.later ?_)).mono ?_); (focus ((repeat' (first | (with_reducible exact Below.refl _ _) | (with_reducible assumption) | (with_reducible refine Below.alloc ?_ ?_ _) | (with_reducible refine below_drewN ?_ _) | (with_reducible refine Below.drew ?_) | (with_reducible refine Below.setCell ?_ ?_ _) | (with_reducible refine below_via (by assumption) ?_ ?_) | (with_reducible refine below_via (later_below _) ?_ ?_) | (with_reducible exact Nat.le_refl _) | omega | (simp; omega) | (simp; done))))); rintro e w1 ⟨rfl, hb⟩; (refine mem hb ?_; intro N hN hz hc hf; (try simp at hN); subst hN)) | (go_at_call 21; (with_reducible refine (HPD.out _).mono ?_); rintro e w2 ⟨rfl, hb⟩; (refine mem hb ?_; intro N hN hz hc hf; (try simp at hN); subst hN)))
    go_returns
    refine ⟨rfl, ?_⟩
    (repeat' (first | (with_reducible exact Below.refl _ _) | (with_reducible assumption) | (with_reducible refine Below.alloc ?_ ?_ _) | (with_reducible refine below_drewN ?_ _) | (with_reducible refine Below.drew ?_) | (with_reducible refine Below.setCell ?_ ?_ _) | (with_reducible refine below_via (by assumption) ?_ ?_) | (with_reducible refine below_via (later_below _) ?_ ?_) | (with_reducible exact Nat.le_refl _) | omega | (simp; omega) | (simp; done)))
set_option maxHeartbeats 4000000 in
set_option maxRecDepth 100000 in
theorem fform_c (v : VV) (t : ByteArray) (mi ze pl : Bool) (W : Nat) (N : Int) (D : List UInt8) (B : Bool) (hW : W ≤ 99) (hD : D.length ≤ 5000000) (w : World) (hT : Tabs w)
    (h : ∀ w, Tabs w → Calls Tryz.prog 49 #[pV t 99 mi ze pl W N, vV v.k v.p v.q v.s v.r] w fun e w' => e = .returned (.tuple #[.string (mkS D), .bool B]) ∧ Below w.heap.size w w') :
    Calls Tryz.prog 31 #[pV t 99 mi ze pl W N, vV v.k v.p v.q v.s v.r] w fun e w' => e = .returned (.tuple #[.string (mkS (padL D W mi)), .bool B]) ∧ Below w.heap.size w w' := by
  have HD := Lib.hid h
  have HT := Lib.hid hT
  clear h hT
  obtain ⟨k, p, q, s, r⟩ := v
  dsimp only at *
  have HPD := Lib.hid (fun w' => fpad_any D W mi w' (by omega) (by omega) (by omega))
  go_enter Tryz.func31, Tryz.ntmps31
  go_upto_region 1 with fail
  go_cut [6] (fun z wx => z = .bool (ze && !mi) ∧ wx = (w.alloc (.cells #[.string t, .int .u8 99, .bool mi, .bool ze, .bool pl, .int .i64 W, .int .i64 N] 31)).alloc (.cells #[.int .i64 k, .int .i64 p, .int .i64 q, .string s, .int .i64 r] 42))
  case first =>
    cases ze <;> cases mi
    all_goals
      go_wp2_with fail
      go_meet
      exact ⟨rfl, rfl⟩
  case rest =>
    obtain ⟨rfl, rfl⟩ := hcut
    go_wp2_with (first | (go_at_call 49; (with_reducible refine (HD.out _ (HT.out.later ?_)).mono ?_); (focus ((repeat' (first | (with_reducible exact Below.refl _ _) | (with_reducible assumption) | (with_reducible refine Below.alloc ?_ ?_ _) | (with_reducible refine below_drewN ?_ _) | (with_reducible refine Below.drew ?_) | (with_reducible refine Below.setCell ?_ ?_ _) | (with_reducible refine below_via (by assumption) ?_ ?_) | (with_reducible refine below_via (later_below _) ?_ ?_) | (with_reducible exact Nat.le_refl _) | omega | (simp; omega) | (simp; done))))); rintro e w1 ⟨rfl, hb⟩; (refine mem hb ?_; intro N hN hz hc hf; (try simp at hN); subst hN)) | (go_at_call 21; (with_reducible refine (HPD.out _).mono ?_); rintro e w2 ⟨rfl, hb⟩; (refine mem hb ?_; intro N hN hz hc hf; (try simp at hN); subst hN)))
    go_returns
    refine ⟨rfl, ?_⟩
    (repeat' (first | (with_reducible exact Below.refl _ _) | (with_reducible assumption) | (with_reducible refine Below.alloc ?_ ?_ _) | (with_reducible refine below_drewN ?_ _) | (with_reducible refine Below.drew ?_) | (with_reducible refine Below.setCell ?_ ?_ _) | (with_reducible refine below_via (by assumption) ?_ ?_) | (with_reducible refine below_via (later_below _) ?_ ?_) | (with_reducible exact Nat.le_refl _) | omega | (simp; omega) | (simp; done)))
set_option maxHeartbeats 4000000 in
set_option maxRecDepth 100000 in
theorem fform_q (v : VV) (t : ByteArray) (mi ze pl : Bool) (W : Nat) (N : Int) (D : List UInt8) (B : Bool) (hW : W ≤ 99) (hD : D.length ≤ 5000000) (w : World) (hT : Tabs w)
    (h : ∀ w, Tabs w → Calls Tryz.prog 49 #[pV t 113 mi ze pl W N, vV v.k v.p v.q v.s v.r] w fun e w' => e = .returned (.tuple #[.string (mkS D), .bool B]) ∧ Below w.heap.size w w') :
    Calls Tryz.prog 31 #[pV t 113 mi ze pl W N, vV v.k v.p v.q v.s v.r] w fun e w' => e = .returned (.tuple #[.string (mkS (padL D W mi)), .bool B]) ∧ Below w.heap.size w w' := by
  have HD := Lib.hid h
  have HT := Lib.hid hT
  clear h hT
  obtain ⟨k, p, q, s, r⟩ := v
  dsimp only at *
  have HPD := Lib.hid (fun w' => fpad_any D W mi w' (by omega) (by omega) (by omega))
  go_enter Tryz.func31, Tryz.ntmps31
  go_upto_region 1 with fail
  go_cut [6] (fun z wx => z = .bool (ze && !mi) ∧ wx = (w.alloc (.cells #[.string t, .int .u8 113, .bool mi, .bool ze, .bool pl, .int .i64 W, .int .i64 N] 31)).alloc (.cells #[.int .i64 k, .int .i64 p, .int .i64 q, .string s, .int .i64 r] 42))
  case first =>
    cases ze <;> cases mi
    all_goals
      go_wp2_with fail
      go_meet
      exact ⟨rfl, rfl⟩
  case rest =>
    obtain ⟨rfl, rfl⟩ := hcut
    go_wp2_with (first | (go_at_call 49; (with_reducible refine (HD.out _ (HT.out.later ?_)).mono ?_); (focus ((repeat' (first | (with_reducible exact Below.refl _ _) | (with_reducible assumption) | (with_reducible refine Below.alloc ?_ ?_ _) | (with_reducible refine below_drewN ?_ _) | (with_reducible refine Below.drew ?_) | (with_reducible refine Below.setCell ?_ ?_ _) | (with_reducible refine below_via (by assumption) ?_ ?_) | (with_reducible refine below_via (later_below _) ?_ ?_) | (with_reducible exact Nat.le_refl _) | omega | (simp; omega) | (simp; done))))); rintro e w1 ⟨rfl, hb⟩; (refine mem hb ?_; intro N hN hz hc hf; (try simp at hN); subst hN)) | (go_at_call 21; (with_reducible refine (HPD.out _).mono ?_); rintro e w2 ⟨rfl, hb⟩; (refine mem hb ?_; intro N hN hz hc hf; (try simp at hN); subst hN)))
    go_returns
    refine ⟨rfl, ?_⟩
    (repeat' (first | (with_reducible exact Below.refl _ _) | (with_reducible assumption) | (with_reducible refine Below.alloc ?_ ?_ _) | (with_reducible refine below_drewN ?_ _) | (with_reducible refine Below.drew ?_) | (with_reducible refine Below.setCell ?_ ?_ _) | (with_reducible refine below_via (by assumption) ?_ ?_) | (with_reducible refine below_via (later_below _) ?_ ?_) | (with_reducible exact Nat.le_refl _) | omega | (simp; omega) | (simp; done)))
theorem fmt_dir {p : Pc} (h : ¬ (p.v = 115 ∨ p.v = 99 ∨ p.v = 113)) (v : VV) : fmtF p v = (padL (signA p (digF p v).1 ++ zeroA p (signA p (digF p v).1) (bodyA (digF p v).1)) p.w p.mi, (digF p v).2) := if_neg h
theorem fmt_txt {p : Pc} (h : p.v = 115 ∨ p.v = 99 ∨ p.v = 113) (v : VV) : fmtF p v = (padL (txtF p v).1 p.w p.mi, (txtF p v).2) := if_pos h
theorem verb_cases {V : Nat} (h : ∃ c, verbB c = true ∧ V = c.toNat) : V = 100 ∨ V = 120 ∨ V = 88 ∨ V = 111 ∨ V = 102 ∨ V = 115 ∨ V = 99 ∨ V = 113 ∨ V = 103 := by
  obtain ⟨c, h1, rfl⟩ := h
  unfold verbB verbs at h1
  simp at h1
  rcases h1 with h | h | h | h | h | h | h | h | h <;> subst h <;> simp
theorem ffmt_any (p : Pc) (v : VV) (hv : v.ok) (t : ByteArray) (hp : ∃ c, verbB c = true ∧ p.v = c.toNat) (hW : p.w ≤ 99) (hN : p.n ≤ 12) (w : World) (hT : Tabs w) :
    Calls Tryz.prog 31 #[pV t p.v p.mi p.ze p.pl p.w p.n, vV v.k v.p v.q v.s v.r] w fun e w' => e = .returned (.tuple #[.string (mkS (fmtF p v).1), .bool (fmtF p v).2]) ∧ Below w.heap.size w w' := by
  have hl1 := digF_len p v
  have hl2 := txtF_len p v hv.2.2
  obtain ⟨pt, V, mi, ze, pl, W, N⟩ := p
  dsimp only at *
  rcases verb_cases hp with h | h | h | h | h | h | h | h | h
  all_goals subst h
  · rw [fmt_dir (by simp)]
    exact fform_d v t mi ze pl W N _ _ hW hl1 w hT (fun w' hT' => fdig_d v hv t mi ze pl W N w' hT')
  · rw [fmt_dir (by simp)]
    exact fform_x v t mi ze pl W N _ _ hW hl1 w hT (fun w' hT' => fdig_x v hv t mi ze pl W N w' hT')
  · rw [fmt_dir (by simp)]
    exact fform_X v t mi ze pl W N _ _ hW hl1 w hT (fun w' hT' => fdig_X v hv t mi ze pl W N w' hT')
  · rw [fmt_dir (by simp)]
    exact fform_o v t mi ze pl W N _ _ hW hl1 w hT (fun w' hT' => fdig_o v hv t mi ze pl W N w' hT')
  · rw [fmt_dir (by simp)]
    exact fform_f v t mi ze pl W N _ _ hW hl1 w hT (fun w' hT' => fdig_f v hv t mi ze pl W N w' hT')
  · rw [fmt_txt (by simp)]
    exact fform_s v t mi ze pl W N _ _ hW (by omega) w hT (fun w' hT' => ftxt_s v hv t mi ze pl W N w' hT' hN)
  · rw [fmt_txt (by simp)]
    exact fform_c v t mi ze pl W N _ _ hW (by omega) w hT (fun w' hT' => ftxt_c v hv t mi ze pl W N w')
  · rw [fmt_txt (by simp)]
    exact fform_q v t mi ze pl W N _ _ hW (by omega) w hT (fun w' hT' => ftxt_q v hv t mi ze pl W N w')
  · rw [fmt_dir (by simp)]
    exact fform_g v t mi ze pl W N _ _ hW hl1 w hT (fun w' hT' => fdig_g v hv t mi ze pl W N w' hT')
end Go.Proofs.YtemlijadhdejeaaGreatDoor
