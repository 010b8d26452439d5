/- The law LexerApart holds: for every input it returns true, and each argument reads as it did, where the library's tables read as its text lays them. No other conditions. -/
import Derived.Test.YtgjeljhodflbgaaDoorMLxE
import Derived.Test.YtgjeljhodflbgaaDoorMLaid
import Derived.Test.YtgjeljhodflbgaaDoorCards
import Derived.Test.YtgjeljhodflbgaaDoorTie
namespace Go.Proofs.YtgjeljhodflbgaaDoor.lexerApart
open Go.ChangeShapes Go.WideShapes Go.ChangeAt Go.RowKit Go.Joins
open Go.ChangeMaps (open_string shut_string)
set_option linter.unusedVariables false

/-- Tokens at their places: small numbers. -/
theorem placed {s : List UInt8} : ∀ {l : List Tk} {e : Nat}, PlaceOk s l e → ∀ t ∈ l, t.at_ < s.length ∧ t.ln ≤ s.length + 1
  | [], _, _, t, ht => by cases ht
  | u :: l, e, h, t, ht => by
    rcases List.mem_cons.1 ht with rfl | ht
    · refine ⟨h.2.1, ?_⟩
      have h3 := h.2.2.1
      have h4 : nlN (s.take t.at_) ≤ (s.take t.at_).length := List.count_le_length
      have h5 : (s.take t.at_).length ≤ s.length := by rw [List.length_take]; omega
      omega
    · exact placed h.2.2.2.2 t ht

set_option maxHeartbeats 8000000 in
set_option maxRecDepth 100000 in
theorem walk (a : ByteArray) (wa : a.size ≤ maxLen) (b : ByteArray) (wb : b.size ≤ maxLen) (w : World) (hT : Tabs w) :
    Calls Tryd.prog 9 #[.string a, .string b] w fun e w' => e = .returned (.bool true) ∧ Below w.heap.size w w' := by
  unfold maxLen at wa wb
  have HT := Lib.hid hT
  clear hT
  have HW : Hid (∀ w', Tabs w' → Calls Tryd.prog 11 #[] w' fun e w'' => e = .returned (.bool true) ∧ Below w'.heap.size w' w'') := fun w' h => lives_any w' h
  by_cases hl : 1000 < a.size ∨ 1000 < b.size
  · obtain ⟨B1, h1⟩ : ∃ B, decide (1000 < (a.size : Int)) = B := ⟨_, rfl⟩
    obtain ⟨B2, h2⟩ : ∃ B, decide (1000 < (b.size : Int)) = B := ⟨_, rfl⟩
    have hall : B1 = true ∨ (B1 = false ∧ B2 = true) := by
      rw [← h1, ← h2]
      simp only [decide_eq_true_eq, decide_eq_false_iff_not]
      omega
    clear hl
    rcases hall with rfl | ⟨rfl, rfl⟩
    all_goals
      go_enter Tryd.func9, Tryd.ntmps9
      go_wp2_with fail
      refine (HW.out _ (HT.out.later (Below.refl _ _))).mono ?_
      rintro e w9 ⟨rfl, hb9⟩
      go_wp2_with fail
      go_returns
      exact ⟨rfl, hb9⟩
  · have h1 : decide (1000 < (a.size : Int)) = false := by simp; omega
    have h2 : decide (1000 < (b.size : Int)) = false := by simp; omega
    have hXs : (a ++ ⟨#[10]⟩ ++ b).size = a.size + 1 + b.size := by rw [ByteArray.size_append, ByteArray.size_append]; rfl
    have hXl : (a ++ ⟨#[10]⟩ ++ b).data.toList = a.data.toList ++ 10 :: b.data.toList := by simp
    have hS1 : ∀ w', Tabs w' → _ := fun w' h => scan_prog a w' (by omega) h
    have hS2 : ∀ w', Tabs w' → _ := fun w' h => scan_prog b w' (by omega) h
    have hS3 : ∀ w', Tabs w' → _ := fun w' h => scan_prog (a ++ ⟨#[10]⟩ ++ b) w' (by omega) h
    have hboth := scan_both a.data.toList b.data.toList
    rw [hXl, hboth] at hS3
    have f1 := scanA_form a.data.toList 0 1
    have f2 := scanA_form b.data.toList 0 1
    have m1 := (scan_reads a.data.toList.length a.data.toList 0 1 (Nat.le_refl _)).2.2
    have m2 := (scan_reads b.data.toList.length b.data.toList 0 1 (Nat.le_refl _)).2.2
    have n1 := scanA_ln a.data.toList.length a.data.toList 0 1 (Nat.le_refl _)
    have n2 := scanA_ln b.data.toList.length b.data.toList 0 1 (Nat.le_refl _)
    have pl := scan_places b.data.toList.length [] b.data.toList (Nat.le_refl _)
    obtain ⟨⟨T1, l1, E1⟩, hR1⟩ : ∃ R, scanA a.data.toList 0 1 = R := ⟨_, rfl⟩
    obtain ⟨⟨T2, l2, E2⟩, hR2⟩ : ∃ R, scanA b.data.toList 0 1 = R := ⟨_, rfl⟩
    rw [List.nil_append, show scanA b.data.toList ([] : List UInt8).length (1 + nlN []) = _ from hR2] at pl
    rw [hR1] at hS1 hS3 f1 m1 n1
    rw [hR2] at hS2 hS3 f2 m2 n2
    dsimp only at hS1 hS2 f1 f2 m1 m2 n1 n2 pl
    simp at m1 m2 n1 n2
    have hcnt : Hid (∀ w', Calls Tryd.prog 23 #[.string a, .string ⟨#[10]⟩] w' fun e w'' => e = .returned (.int .i64 ((nlN a.data.toList : Nat) : Int)) ∧ w' = w'') := fun w' => (Tryd.strings_Count_one a 10 w').mono fun _ _ ⟨he, hw⟩ => ⟨he, hw.symm⟩
    have hc0 : nlN a.data.toList ≤ 1000 := by have : nlN a.data.toList ≤ a.data.toList.length := List.count_le_length; simp at this; omega
    have hal : a.data.toList.length = a.size := by simp
    rw [hal] at hS3
    obtain ⟨C, hC⟩ : ∃ C, nlN a.data.toList = C := ⟨_, rfl⟩
    rw [hC] at hcnt hc0 hS3
    clear hboth hR1 hR2 hC hXl hal
    by_cases hE1 : E1 = 0
    · by_cases hE2 : E2 = 0
      · subst hE1
        subst hE2
        have hR : apR (T1, l1, 0) (shR (a.size + 1) (C + 1) (T2, l2, 0)) = (T1 ++ T2.map fun t => ⟨t.k, t.x, t.ln + (C + 1), t.at_ + (a.size + 1)⟩, 0, 0) := by unfold apR shR; simp
        rw [hR] at hS3
        dsimp only at hS3
        have S1 := Lib.hid hS1
        have S2 := Lib.hid hS2
        have S3 := Lib.hid hS3
        obtain ⟨T3, hT3⟩ : ∃ T3, (T1 ++ T2.map fun t => (⟨t.k, t.x, t.ln + (C + 1), t.at_ + (a.size + 1)⟩ : Tk)) = T3 := ⟨_, rfl⟩
        have hl3 : T3.length = T1.length + T2.length := by rw [← hT3]; simp
        rw [hT3] at S3
        have H3 := Lib.hid hT3
        have PL := Lib.hid (placed pl)
        clear hS1 hS2 hS3 hR f1 f2 pl hT3
        have b5 : (((T3.length : Nat) : Int) != (T1.length : Int) + (T2.length : Int)) = false := by simp; omega
        go_enter Tryd.func9, Tryd.ntmps9
        go_wp2_with fail -- scan1
        refine (S1.out _ (HT.out.later (Below.refl w.heap.size w))).mono ?_
        rintro e w1 ⟨⟨v1, rfl, hown1⟩, hb1⟩
        obtain ⟨a1, cap1, rfl, hcap1, ht1⟩ := own_toksAt hown1
        have K1 := Lib.hid ht1
        have B1 : Hid (Below w.heap.size w w1) := ((Below.refl w.heap.size w)).trans (hb1.mono ((Below.refl w.heap.size w)).size)
        clear hown1 ht1 hb1
        go_wp2_with fail -- scan2
        refine (S2.out _ (HT.out.later B1.out)).mono ?_
        rintro e w2 ⟨⟨v2, rfl, hown2⟩, hb2⟩
        obtain ⟨a2, cap2, rfl, hcap2, ht2⟩ := own_toksAt hown2
        have K2 := Lib.hid ht2
        have K1 := Lib.hid (K1.out.later hb2)
        have B2 : Hid (Below w.heap.size w w2) := (B1.out).trans (hb2.mono (B1.out).size)
        clear hown2 ht2 hb2
        go_wp2_with fail -- scan3
        refine (S3.out _ (HT.out.later B2.out)).mono ?_
        rintro e w3 ⟨⟨v3, rfl, hown3⟩, hb3⟩
        obtain ⟨a3, cap3, rfl, hcap3, ht3⟩ := own_toksAt hown3
        have K3 := Lib.hid ht3
        have K1 := Lib.hid (K1.out.later hb3)
        have K2 := Lib.hid (K2.out.later hb3)
        have B3 : Hid (Below w.heap.size w w3) := (B2.out).trans (hb3.mono (B2.out).size)
        clear hown3 ht3 hb3
        have hSM : Hid (∀ w', Below w3.heap.size w3 w' → Calls Tryd.prog 14 #[.slice a3 T1.length cap3, .slice a1 T1.length cap1] w' fun e w'' => e = .returned (.bool true) ∧ Below w'.heap.size w' w'') := fun w' hb => same_yes T1 a3 a1 cap3 cap1 w' (by omega) (by have h0 := K3.out; rw [← H3.out] at h0; exact h0.left.later hb) (K1.out.later hb)
        have hcp : (T1.length : Int) ≤ (cap3 : Int) := by omega
        go_wp2_with (first | (go_at_call 23; (with_reducible refine (hcnt.out _).mono ?_); rintro e w4 ⟨rfl, rfl⟩) | (go_at_call 14; (with_reducible refine (hSM.out _ (Below.refl _ _)).mono ?_); rintro e w5 ⟨rfl, hb5⟩)) -- same
        have B5 : Hid (Below w3.heap.size w3 w5) := hb5
        clear hb5 hSM
        go_loopw [15] (fun i wr => ∃ k : Nat, k ≤ T2.length ∧ i = .int .i64 k ∧ Hid (Below w3.heap.size w3 wr)) (fun i _ => T2.length - (intOf i).toNat)
        case atStart => exact ⟨0, Nat.zero_le _, rfl, B5.out⟩
        case round =>
          obtain ⟨k, hk, rfl, HBk⟩ := hrel
          by_cases hlt : k < T2.length
          · obtain ⟨g2, rfl, c2⟩ := K2.out.resolve_left (by omega)
            obtain ⟨g3, rfl, c3⟩ := K3.out.resolve_left (by omega)
            have t2 := (c2 k hlt).below HBk.out
            have t3 := (c3 (T1.length + k) (by omega)).below HBk.out
            have hpl := PL.out _ (List.getElem_mem hlt)
            have ht3 : T3[T1.length + k]'(by omega) = ⟨(T2[k]).k, (T2[k]).x, (T2[k]).ln + (C + 1), (T2[k]).at_ + (a.size + 1)⟩ := by
              have h3 := H3.out
              subst h3
              rw [List.getElem_append_right (by omega)]
              simp
            rw [ht3] at t3
            obtain ⟨t, ht⟩ : ∃ t, T2[k] = t := ⟨_, rfl⟩
            rw [ht] at t2 t3 hpl
            clear ht ht3 c2 c3
            obtain ⟨K, x, L, at_⟩ := t
            obtain ⟨q0, q1, q2, q3⟩ := t2
            obtain ⟨r0, r1, r2, r3⟩ := t3
            dsimp only at q0 q1 q2 q3 r0 r1 r2 r3 hpl
            obtain ⟨p1, p2⟩ := hpl
            simp at p1 p2
            rw [show ((L + (C + 1) : Nat) : Int) = (L : Int) + (1 + (C : Int)) by omega] at r2
            rw [show ((at_ + (a.size + 1) : Nat) : Int) = (at_ : Int) + ((a.size : Int) + 1) by omega] at r3
            have e1 := eqIn_tok K ((L : Int) + (1 + (C : Int))) ((at_ : Int) + ((a.size : Int) + 1)) (mkS x)
            have e2 := neq_tok K ((L : Int) + (1 + (C : Int))) ((at_ : Int) + ((a.size : Int) + 1)) (mkS x)
            have hg2 := cell_lt q0
            have hg3 := cell_lt r0
            go_wp2_with fail -- x1
            go_quiet (fail)
            go_wp2_with fail -- x2
            refine ⟨⟨k + 1, by omega, by go_num, ?_⟩, by simp [intOf]; omega⟩
            have h0 := HBk.out
            have h1 := h0.size
            show Below _ _ _
            (repeat' (first | (with_reducible exact Below.refl _ _) | (with_reducible assumption) | (with_reducible refine Below.alloc ?_ ?_ _) | (with_reducible refine Go.below_drewN ?_ _) | (with_reducible refine Below.drew ?_) | (with_reducible refine Below.setCell ?_ ?_ _) | (with_reducible refine below_via (by assumption) ?_ ?_) | (with_reducible refine below_via (later_below _) ?_ ?_) | (with_reducible exact Nat.le_refl _) | omega | (simp; omega) | (simp; done)))
          · obtain rfl : k = T2.length := by omega
            have hB2 : Below w.heap.size w wr := B3.out.trans (HBk.out.mono B3.out.size)
            go_wp2_with fail -- last
            refine (HW.out _ (HT.out.later hB2)).mono ?_
            rintro e w9 ⟨rfl, hb9⟩
            go_wp2_with fail
            go_returns
            exact ⟨rfl, hB2.trans (hb9.mono hB2.size)⟩
      · subst hE1
        have hR : apR (T1, l1, 0) (shR (a.size + 1) (C + 1) (T2, l2, E2)) = ([], l2 + (C + 1), E2) := by unfold apR shR; simp [hE2]
        rw [hR] at hS3
        dsimp only at hS3
        have S1 := Lib.hid hS1
        have S2 := Lib.hid hS2
        have S3 := Lib.hid hS3
        have b2 : (E2 != 0) = true := by simp; exact hE2
        have b3 : (((l2 + (C + 1) : Nat) : Int) == (l2 : Int) + (1 + (C : Int))) = true := by simp; omega
        have b4 : ((l2 : Int) + ((C : Int) + 1) == (l2 : Int) + (1 + (C : Int))) = true := by simp; omega
        clear hS1 hS2 hS3 hR f1 f2 pl hE2
        go_enter Tryd.func9, Tryd.ntmps9
        go_wp2_with fail -- scan1
        refine (S1.out _ (HT.out.later (Below.refl w.heap.size w))).mono ?_
        rintro e w1 ⟨⟨v1, rfl, hown1⟩, hb1⟩
        obtain ⟨a1, cap1, rfl, hcap1, ht1⟩ := own_toksAt hown1
        have K1 := Lib.hid ht1
        have B1 : Hid (Below w.heap.size w w1) := ((Below.refl w.heap.size w)).trans (hb1.mono ((Below.refl w.heap.size w)).size)
        clear hown1 ht1 hb1
        go_wp2_with fail -- scan2
        refine (S2.out _ (HT.out.later B1.out)).mono ?_
        rintro e w2 ⟨⟨v2, rfl, hown2⟩, hb2⟩
        obtain ⟨a2, cap2, rfl, hcap2, ht2⟩ := own_toksAt hown2
        have K2 := Lib.hid ht2
        have K1 := Lib.hid (K1.out.later hb2)
        have B2 : Hid (Below w.heap.size w w2) := (B1.out).trans (hb2.mono (B1.out).size)
        clear hown2 ht2 hb2
        go_wp2_with fail -- scan3
        refine (S3.out _ (HT.out.later B2.out)).mono ?_
        rintro e w3 ⟨⟨v3, rfl, hown3⟩, hb3⟩
        obtain ⟨a3, cap3, rfl, hcap3, ht3⟩ := own_toksAt hown3
        have K3 := Lib.hid ht3
        have K1 := Lib.hid (K1.out.later hb3)
        have K2 := Lib.hid (K2.out.later hb3)
        have B3 : Hid (Below w.heap.size w w3) := (B2.out).trans (hb3.mono (B2.out).size)
        clear hown3 ht3 hb3
        go_wp2_with (first | (go_at_call 23; (with_reducible refine (hcnt.out _).mono ?_); rintro e w4 ⟨rfl, rfl⟩) | (go_at_call 11; (with_reducible refine (HW.out _ (HT.out.later B3.out)).mono ?_); rintro e w9 ⟨rfl, hb9⟩)) -- cnt
        go_returns
        exact ⟨rfl, B3.out.trans (hb9.mono B3.out.size)⟩
    · have hR : apR (T1, l1, E1) (shR (a.size + 1) (C + 1) (T2, l2, E2)) = ([], l1, E1) := by unfold apR; rw [if_neg hE1]
      rw [hR] at hS3
      dsimp only at hS3
      have S1 := Lib.hid hS1
      have S2 := Lib.hid hS2
      have S3 := Lib.hid hS3
      have b1 : (E1 != 0) = true := by simp; exact hE1
      clear hS1 hS2 hS3 hR f1 f2 pl hE1
      go_enter Tryd.func9, Tryd.ntmps9
      go_wp2_with fail -- scan1
      refine (S1.out _ (HT.out.later (Below.refl w.heap.size w))).mono ?_
      rintro e w1 ⟨⟨v1, rfl, hown1⟩, hb1⟩
      obtain ⟨a1, cap1, rfl, hcap1, ht1⟩ := own_toksAt hown1
      have K1 := Lib.hid ht1
      have B1 : Hid (Below w.heap.size w w1) := ((Below.refl w.heap.size w)).trans (hb1.mono ((Below.refl w.heap.size w)).size)
      clear hown1 ht1 hb1
      go_wp2_with fail -- scan2
      refine (S2.out _ (HT.out.later B1.out)).mono ?_
      rintro e w2 ⟨⟨v2, rfl, hown2⟩, hb2⟩
      obtain ⟨a2, cap2, rfl, hcap2, ht2⟩ := own_toksAt hown2
      have K2 := Lib.hid ht2
      have K1 := Lib.hid (K1.out.later hb2)
      have B2 : Hid (Below w.heap.size w w2) := (B1.out).trans (hb2.mono (B1.out).size)
      clear hown2 ht2 hb2
      go_wp2_with fail -- scan3
      refine (S3.out _ (HT.out.later B2.out)).mono ?_
      rintro e w3 ⟨⟨v3, rfl, hown3⟩, hb3⟩
      obtain ⟨a3, cap3, rfl, hcap3, ht3⟩ := own_toksAt hown3
      have K3 := Lib.hid ht3
      have K1 := Lib.hid (K1.out.later hb3)
      have K2 := Lib.hid (K2.out.later hb3)
      have B3 : Hid (Below w.heap.size w w3) := (B2.out).trans (hb3.mono (B2.out).size)
      clear hown3 ht3 hb3
      go_wp2_with (first | (go_at_call 23; (with_reducible refine (hcnt.out _).mono ?_); rintro e w4 ⟨rfl, rfl⟩) | (go_at_call 11; (with_reducible refine (HW.out _ (HT.out.later B3.out)).mono ?_); rintro e w9 ⟨rfl, hb9⟩)) -- cnt
      go_returns
      exact ⟨rfl, B3.out.trans (hb9.mono B3.out.size)⟩

set_option maxRecDepth 100000 in
theorem lifted (os : Os) (started : os.Started) (H : Type) (enc : TypeId × Value → H) :
    ReturnsInHanded {} Tryd.checked os 9 .any (fun w args => (Rows.lexerApartSpec.pre enc Tryd.prog Tryd.f9 Rows.lexerApartRow.domain false w args ∧ laidMetH Tryd.prog laidS w) ∧ sizedMet enc Tryd.prog Tryd.f9 (OpenSpec.ofChange Rows.lexerApartSpec) false w args) (Rows.lexerApartSpec.post enc Tryd.prog Tryd.f9 false true false false) := by
  refine returnsInHanded_of_change_and (C := Tryd.checked) (X := fun w _ => laidMetH Tryd.prog laidS w) (fun _ _ _ hh h => h.of_heap hh) own started (by kernel_rfl) Tryd.func9
    (ChangeSpec.witness_shaped (enc := enc) (C := Tryd.checked) (os := os) (X := fun w _ => laidMetH Tryd.prog laidS w) false (World.laidAll Tryd.prog os laidS) #[.string ⟨#[]⟩, .string ⟨#[]⟩] 8 (World.laidAll_os _ _ _) (start_shaped os) (by kernel_rfl) (by kernel_rfl) (by kernel_rfl) (start_met os _)) ?_
  intro W base args ds gs before hval0 hW hcnd _ hL _
  have hT := laid_tabs hL
  have hval : ∀ (j : Nat) t v, Tryd.f9.params[j]? = some t → args[j]? = some v → Value.okWide Tryd.prog W .any base t v := hval0
  have hW' := hW
  obtain ⟨p, q, hA0, hV, rfl, hfz, hnd⟩ := hW
  have hA : DataW.TrodAll enc Tryd.prog W 0 (fun _ => true) true Tryd.f9.params.toList args.toList ds p := hA0
  rw [Tryd.params9] at hA hval
  obtain ⟨v0, vs0, d0, ds0, p0, q0, hargs, rfl, rfl, h0, r0⟩ := trodAll_cons hA
  obtain ⟨v1, vs1, d1, ds1, p1, q1, rfl, rfl, rfl, h1, r1⟩ := trodAll_cons r0
  obtain ⟨rfl, rfl, rfl⟩ := trodAll_nil r1
  obtain rfl : args = #[v0, v1] := by cases args; simp_all
  obtain ⟨rfl, rfl⟩ := trodVars_none hV
  have k0 := h0
  have lt0 : ∀ x ∈ p0, x.block < W.heap.size := by obtain ⟨m, hm⟩ := k0; exact DataW.trod_lt m _ _ _ hm
  obtain ⟨a, rfl, -, -, wa⟩ := open_string Tryd.underlying9 (hval 0 9 v0 rfl rfl) h0
  have k1 := h1
  have lt1 : ∀ x ∈ p1, x.block < W.heap.size := by obtain ⟨m, hm⟩ := k1; exact DataW.trod_lt m _ _ _ hm
  obtain ⟨b, rfl, -, -, wb⟩ := open_string Tryd.underlying9 (hval 1 9 v1 rfl rfl) h1
  clear hA0 hval0
  refine (walk a wa b wb W hT).mono fun e W' ⟨he, bel⟩ => ?_
  subst he
  exact ⟨_, rfl, _, _, _, [], _, [], hW', trodAll_mk1 (shut_bool Tryd.underlying4 _), (trodAll_cons_mk (Below.trod laidOut (by kernel_rfl) (of_decide_eq_true (by kernel_rfl)) k0 bel lt0) (trodAll_cons_mk (Below.trod laidOut (by kernel_rfl) (of_decide_eq_true (by kernel_rfl)) k1 bel lt1) trodAll_mk0)), rfl, bel.frame _, fun h => by cases h⟩

theorem over : Rows.lexerApartRow.holds Tryd.pinned (OpenSpec.ofChange Rows.lexerApartSpec) :=
  OpenClaim.holds_of_wide 9 Tryd.f9 rfl rfl rfl rfl rfl rfl rfl ⟨rfl, rfl, rfl, rfl, rfl⟩ rfl rfl rfl rfl rfl (by kernel_rfl) Tryd.func9 (by kernel_rfl)
    (of_decide_eq_true (by kernel_rfl)) (by unfold Func.isWrapper; first | (rw [if_pos (by decide +kernel)]; kernel_rfl) | (rw [if_neg (by decide +kernel)]; exact ⟨rfl, rfl⟩))
    (fun os started H enc _ => lifted os started H enc)

/-- The given statement: the row, tied. -/
theorem proved : Rows.LexerApartCardSaid :=
  Claim7.holds_tied_plain_at .later [] [.listed, .data] true _ false over (fun _ h => by cases h) (by kernel_rfl) (fun _ h => by cases h) lexerApart_row_tie rfl ⟨rfl, rfl⟩ (by kernel_rfl) rfl
    (fun f fn hf hfn => by
      obtain rfl : f = 9 := Option.some.inj ((show Tryd.prog.funcNamed Rows.lexerApartRow.func = some 9 by kernel_rfl).symm.trans hf) |>.symm
      obtain rfl : fn = Tryd.f9 := (Option.some.inj (Tryd.func9.symm.trans hfn)).symm
      exact ⟨by kernel_rfl, fun j t ht => by
        rw [Tryd.params9] at ht
        have hm : t ∈ [9, 9] := by simpa using Array.mem_of_getElem? ht
        have hall : ([9, 9].all fun u => !Tryd.prog.wantsStandIn u) = true := by kernel_rfl
        exact (show Tryd.prog.wantsStandIn t = false by simpa using List.all_eq_true.1 hall t hm)⟩)
    (by kernel_rfl)
#print axioms proved
end Go.Proofs.YtgjeljhodflbgaaDoor.lexerApart
