/- The law LexerLimit holds: for every input it returns true, and each argument reads as it did, where the library's tables read as its text lays them. No other conditions. -/
import Derived.Test.YtgjeljhodflbgaaDoorMLxLim
import Derived.Test.YtgjeljhodflbgaaDoorMLaid
import Derived.Test.YtgjeljhodflbgaaDoorCards
import Derived.Test.YtgjeljhodflbgaaDoorTie
namespace Go.Proofs.YtgjeljhodflbgaaDoor.lexerLimit
open Go.ChangeShapes Go.WideShapes Go.ChangeAt Go.RowKit Go.Joins
open Go.ChangeMaps (open_string shut_string)
set_option linter.unusedVariables false
/-- One token, read alone. -/
theorem one_cells {w : World} {base : Nat} {e : TypeId} {v : Value} {t : Tk} (h : w.ownsRow base e 4 v 1 (flatTk [t])) : ∃ g cap, v = .slice (some ⟨g, 0, none⟩) 1 cap ∧ 1 ≤ cap ∧ TkAt w g 0 t := by
  obtain ⟨a, cap, h1, h2, h3⟩ := own_toks (l := [t]) h
  rcases h3 with h3 | ⟨g, rfl, -, -, h4⟩
  · cases h3
  · exact ⟨g, cap, h1, h2, h4 0 (by simp)⟩

set_option maxHeartbeats 8000000 in
set_option maxRecDepth 100000 in
theorem walk (s : ByteArray) (ws : s.size ≤ maxLen) (more : Int) (wmore : (Lit.int .u8 more).wf = true) (w : World) (hT : Tabs w) :
    Calls Tryd.prog 10 #[.string s, .int .u8 more] w fun e w' => e = .returned (.bool true) ∧ Below w.heap.size w w' := by
  unfold maxLen at ws
  have HT := Lib.hid hT
  clear hT
  have HW : Hid (∀ w', Tabs w' → Calls Tryd.prog 11 #[] w' fun e w'' => e = .returned (.bool true) ∧ Below w'.heap.size w' w'') := fun w' h => lives_any w' h
  have hm : 0 ≤ more ∧ more ≤ 255 := by
    have h : IntKind.u8.min ≤ more ∧ more ≤ IntKind.u8.max := by simpa [Lit.wf] using wmore
    exact h
  by_cases hl : 100 < s.size
  · have h1 : decide (100 < (s.size : Int)) = true := by simp; omega
    go_enter Tryd.func10, Tryd.ntmps10
    go_wp2_with fail
    refine (HW.out _ (HT.out.later (Below.refl _ _))).mono ?_
    rintro e w9 ⟨rfl, hb9⟩
    go_wp2_with fail
    go_returns
    exact ⟨rfl, hb9⟩
  · have h1 : decide (100 < (s.size : Int)) = false := by simp; omega
    obtain ⟨hm0, hm1⟩ := hm
    obtain ⟨m, rfl⟩ : ∃ m : Nat, more = m := ⟨more.toNat, by omega⟩
    have hx : ∀ n, (mkS (List.replicate n 120)).data.toList = List.replicate n 120 := fun n => rfl
    have HR1 : Hid (∀ w', Calls Tryd.prog 25 #[.string ⟨#[32]⟩, .int .i64 (65536 - (s.size : Int))] w' fun e w'' => e = .returned (.string (mkS (List.replicate (65536 - s.size) 32))) ∧ Below w'.heap.size w' w'') := fun w' => rep_any 32 (65536 - s.size) _ (by omega) (by omega) w'
    have HR2 : Hid (∀ w', Calls Tryd.prog 25 #[.string ⟨#[32]⟩, .int .i64 (1 + (m : Int))] w' fun e w'' => e = .returned (.string (mkS (List.replicate (1 + m) 32))) ∧ Below w'.heap.size w' w'') := fun w' => rep_any 32 (1 + m) _ (by omega) (by omega) w'
    have HR3 : Hid (∀ w', Calls Tryd.prog 25 #[.string ⟨#[120]⟩, .int .i64 4096] w' fun e w'' => e = .returned (.string (mkS (List.replicate 4096 120))) ∧ Below w'.heap.size w' w'') := fun w' => rep_any 120 4096 _ (by decide) (by decide) w'
    have HR4 : Hid (∀ w', Calls Tryd.prog 25 #[.string ⟨#[120]⟩, .int .i64 (4097 + (m : Int))] w' fun e w'' => e = .returned (.string (mkS (List.replicate (4097 + m) 120))) ∧ Below w'.heap.size w' w'') := fun w' => rep_any 120 (4097 + m) _ (by omega) (by omega) w'
    have HR5 : Hid (∀ w', Calls Tryd.prog 25 #[.string ⟨#[110]⟩, .int .i64 40] w' fun e w'' => e = .returned (.string (mkS (List.replicate 40 110))) ∧ Below w'.heap.size w' w'') := fun w' => rep_any 110 40 _ (by decide) (by decide) w'
    have hb1 : (mkS (List.replicate (65536 - s.size) 32)).size = 65536 - s.size := by rw [mkS_size]; simp
    have hb2 : (mkS (List.replicate (1 + m) 32)).size = 1 + m := by rw [mkS_size]; simp
    have hb3 : (mkS (List.replicate 4096 120)).size = 4096 := by rw [mkS_size]; simp
    have hb4 : (mkS (List.replicate (4097 + m) 120)).size = 4097 + m := by rw [mkS_size]; simp
    have hb5 : (mkS (List.replicate 40 110)).size = 40 := by rw [mkS_size]; simp
    have hd3 : (mkS (List.replicate 4096 120)).data.toList = List.replicate 4096 120 := rfl
    have hd4 : (mkS (List.replicate (4097 + m) 120)).data.toList = List.replicate (4097 + m) 120 := rfl
    have hd5 : (mkS (List.replicate 40 110)).data.toList = List.replicate 40 110 := rfl
    obtain ⟨R1, hR1⟩ : ∃ R, mkS (List.replicate (65536 - s.size) 32) = R := ⟨_, rfl⟩
    obtain ⟨R2, hR2⟩ : ∃ R, mkS (List.replicate (1 + m) 32) = R := ⟨_, rfl⟩
    obtain ⟨R3, hR3⟩ : ∃ R, mkS (List.replicate 4096 120) = R := ⟨_, rfl⟩
    obtain ⟨R4, hR4⟩ : ∃ R, mkS (List.replicate (4097 + m) 120) = R := ⟨_, rfl⟩
    obtain ⟨R5, hR5⟩ : ∃ R, mkS (List.replicate 40 110) = R := ⟨_, rfl⟩
    rw [hR1] at HR1 hb1
    rw [hR2] at HR2 hb2
    rw [hR3] at HR3 hb3 hd3
    rw [hR4] at HR4 hb4 hd4
    rw [hR5] at HR5 hb5 hd5
    have HS1 : Hid (∀ w', Calls Tryd.prog 12 #[.string (s ++ R1 ++ R2)] w' fun e w'' => e = .returned (.tuple #[.slice none 0 0, .int .i64 1, .int .i64 3]) ∧ Below w'.heap.size w' w'') := fun w' => scan_far _ w' (by rw [ByteArray.size_append, ByteArray.size_append]; omega) (by rw [ByteArray.size_append, ByteArray.size_append]; omega)
    have c1 : (ByteArray.mk #[34]).size = 1 := rfl
    have c2 : (ByteArray.mk #[32]).size = 1 := rfl
    have c3 : (ByteArray.mk #[110]).size = 1 := rfl
    have HS2 : Hid (∀ w', Tabs w' → Calls Tryd.prog 12 #[.string (⟨#[34]⟩ ++ R3 ++ ⟨#[34]⟩)] w' fun e w'' => (∃ v, e = .returned (.tuple #[v, .int .i64 0, .int .i64 0]) ∧ w''.ownsRow w'.heap.size 30 4 v 1 (flatTk [⟨4, List.replicate 4096 120, 1, 0⟩])) ∧ Below w'.heap.size w' w'') := fun w' h => by
      have h0 := scan_prog (⟨#[34]⟩ ++ R3 ++ ⟨#[34]⟩) w' (by rw [ByteArray.size_append, ByteArray.size_append]; omega) h
      rw [show (⟨#[34]⟩ ++ R3 ++ ⟨#[34]⟩).data.toList = _ from show _ = strX 4096 by simp [hd3, strX], strX_ok 4096 (Nat.le_refl _)] at h0
      exact h0
    have HS3 : Hid (∀ w', Tabs w' → Calls Tryd.prog 12 #[.string (⟨#[34]⟩ ++ R4 ++ ⟨#[34]⟩)] w' fun e w'' => (∃ v, e = .returned (.tuple #[v, .int .i64 1, .int .i64 3]) ∧ w''.ownsRow w'.heap.size 30 4 v ([] : List Tk).length (flatTk [])) ∧ Below w'.heap.size w' w'') := fun w' h => by
      have h0 := scan_prog (⟨#[34]⟩ ++ R4 ++ ⟨#[34]⟩) w' (by rw [ByteArray.size_append, ByteArray.size_append]; omega) h
      rw [show (⟨#[34]⟩ ++ R4 ++ ⟨#[34]⟩).data.toList = _ from show _ = strX (4097 + m) by simp [hd4, strX], strX_long (4097 + m) (by omega)] at h0
      exact h0
    have HS4 : Hid (∀ w', Tabs w' → Calls Tryd.prog 12 #[.string (R5)] w' fun e w'' => (∃ v, e = .returned (.tuple #[v, .int .i64 0, .int .i64 0]) ∧ w''.ownsRow w'.heap.size 30 4 v 1 (flatTk [⟨1, List.replicate 40 110, 1, 0⟩])) ∧ Below w'.heap.size w' w'') := fun w' h => by
      have h0 := scan_prog (R5) w' (by omega) h
      rw [show (R5).data.toList = _ from hd5, name_ok] at h0
      exact h0
    have HS5 : Hid (∀ w', Tabs w' → Calls Tryd.prog 12 #[.string (⟨#[32]⟩ ++ R5 ++ ⟨#[110]⟩)] w' fun e w'' => (∃ v, e = .returned (.tuple #[v, .int .i64 1, .int .i64 3]) ∧ w''.ownsRow w'.heap.size 30 4 v ([] : List Tk).length (flatTk [])) ∧ Below w'.heap.size w' w'') := fun w' h => by
      have h0 := scan_prog (⟨#[32]⟩ ++ R5 ++ ⟨#[110]⟩) w' (by rw [ByteArray.size_append, ByteArray.size_append]; omega) h
      rw [show (⟨#[32]⟩ ++ R5 ++ ⟨#[110]⟩).data.toList = _ from show _ = 32 :: List.replicate 41 110 by simp only [ByteArray.data_append, Array.toList_append, hd5]; rfl, name_long] at h0
      exact h0
    have B0 : Hid (Below w.heap.size w w) := Below.refl _ _
    have hx3 : (mkS (List.replicate 4096 120)).size = 4096 := by rw [mkS_size]; simp
    clear hd3 hd4 hd5 hR1 hR2 hR4 hR5 c1 c2 c3 hx
    rw [hR3] at hx3
    have HX3 := Lib.hid hR3
    clear hR3
    go_enter Tryd.func10, Tryd.ntmps10
    go_wp2_with fail
    refine (HR1.out _).mono ?_
    rintro e w1 ⟨rfl, hb⟩
    have B1 : Hid (Below w.heap.size w w1) := B0.out.trans (hb.mono B0.out.size)
    clear hb
    go_wp2_with fail
    refine (HR2.out _).mono ?_
    rintro e w2 ⟨rfl, hb⟩
    have B2 : Hid (Below w.heap.size w w2) := B1.out.trans (hb.mono B1.out.size)
    clear hb
    go_wp2_with fail
    refine (HS1.out _).mono ?_
    rintro e w3 ⟨rfl, hb⟩
    have B3 : Hid (Below w.heap.size w w3) := B2.out.trans (hb.mono B2.out.size)
    clear hb
    go_wp2_with fail
    refine (HR3.out _).mono ?_
    rintro e w4 ⟨rfl, hb⟩
    have B4 : Hid (Below w.heap.size w w4) := B3.out.trans (hb.mono B3.out.size)
    clear hb
    go_wp2_with fail
    refine (HS2.out _ (HT.out.later B4.out)).mono ?_
    rintro e w5 ⟨⟨v5, rfl, hown⟩, hb⟩
    obtain ⟨g5, cap5, rfl, hcap5, htk⟩ := one_cells hown
    rw [show TkAt w5 g5 0 ⟨4, List.replicate 4096 120, 1, 0⟩ = (w5.cell? ⟨g5, 0 * 4, none⟩ = some (.int .i64 4) ∧ w5.cell? ⟨g5, 0 * 4 + 1, none⟩ = some (.string (mkS (List.replicate 4096 120))) ∧ w5.cell? ⟨g5, 0 * 4 + 2, none⟩ = some (.int .i64 (1 : Nat)) ∧ w5.cell? ⟨g5, 0 * 4 + 3, none⟩ = some (.int .i64 (0 : Nat))) from rfl, HX3.out] at htk
    replace htk := htk.2.1
    simp only [Nat.zero_mul, Nat.zero_add] at htk
    have K5 := Lib.hid htk
    have hg5 := cell_lt htk
    clear htk
    have B5 : Hid (Below w.heap.size w w5) := B4.out.trans (hb.mono B4.out.size)
    clear hown hb
    go_wp2_with fail
    refine (HR4.out _).mono ?_
    rintro e w6 ⟨rfl, hb⟩
    have B6 : Hid (Below w.heap.size w w6) := B5.out.trans (hb.mono B5.out.size)
    have K5 := Lib.hid ((hb.cell (p := ⟨g5, 1, none⟩) hg5).trans K5.out)
    have hg5 := cell_lt K5.out
    clear hb
    go_wp2_with fail
    refine (HS3.out _ (HT.out.later B6.out)).mono ?_
    rintro e w7 ⟨⟨v7, rfl, hown⟩, hb⟩
    obtain ⟨a7, cap7, rfl, -, -⟩ := own_toks (l := []) hown
    have K5 := Lib.hid ((hb.cell (p := ⟨g5, 1, none⟩) hg5).trans K5.out)
    have hg5 := cell_lt K5.out
    have B7 : Hid (Below w.heap.size w w7) := B6.out.trans (hb.mono B6.out.size)
    clear hown hb
    go_wp2_with fail
    refine (HR5.out _).mono ?_
    rintro e w8 ⟨rfl, hb⟩
    have B8 : Hid (Below w.heap.size w w8) := B7.out.trans (hb.mono B7.out.size)
    have K5 := Lib.hid ((hb.cell (p := ⟨g5, 1, none⟩) hg5).trans K5.out)
    have hg5 := cell_lt K5.out
    clear hb
    go_wp2_with fail
    refine (HS4.out _ (HT.out.later B8.out)).mono ?_
    rintro e w9 ⟨⟨v9, rfl, hown⟩, hb⟩
    obtain ⟨g9, cap9, rfl, hcap9, -⟩ := one_cells hown
    have K5 := Lib.hid ((hb.cell (p := ⟨g5, 1, none⟩) hg5).trans K5.out)
    have hg5 := cell_lt K5.out
    have B9 : Hid (Below w.heap.size w w9) := B8.out.trans (hb.mono B8.out.size)
    clear hown hb
    go_wp2_with fail
    refine (HS5.out _ (HT.out.later B9.out)).mono ?_
    rintro e w10 ⟨⟨v10, rfl, hown⟩, hb⟩
    obtain ⟨a10, cap10, rfl, -, -⟩ := own_toks (l := []) hown
    have k5 := (hb.cell (p := ⟨g5, 1, none⟩) hg5).trans K5.out
    have B10 : Hid (Below w.heap.size w w10) := B9.out.trans (hb.mono B9.out.size)
    clear hown hb
    go_wp2_with fail -- last
    refine (HW.out _ (HT.out.later B10.out)).mono ?_
    rintro e w9 ⟨rfl, hb9⟩
    go_wp2_with fail
    go_returns
    exact ⟨rfl, (B10.out).trans (hb9.mono (B10.out).size)⟩

set_option maxRecDepth 100000 in
theorem lifted (os : Os) (started : os.Started) (H : Type) (enc : TypeId × Value → H) :
    ReturnsInHanded {} Tryd.checked os 10 .any (fun w args => (Rows.lexerLimitSpec.pre enc Tryd.prog Tryd.f10 Rows.lexerLimitRow.domain false w args ∧ laidMetH Tryd.prog laidS w) ∧ sizedMet enc Tryd.prog Tryd.f10 (OpenSpec.ofChange Rows.lexerLimitSpec) false w args) (Rows.lexerLimitSpec.post enc Tryd.prog Tryd.f10 false true false false) := by
  refine returnsInHanded_of_change_and (C := Tryd.checked) (X := fun w _ => laidMetH Tryd.prog laidS w) (fun _ _ _ hh h => h.of_heap hh) own started (by kernel_rfl) Tryd.func10
    (ChangeSpec.witness_shaped (enc := enc) (C := Tryd.checked) (os := os) (X := fun w _ => laidMetH Tryd.prog laidS w) false (World.laidAll Tryd.prog os laidS) #[.string ⟨#[]⟩, .int .u8 0] 8 (World.laidAll_os _ _ _) (start_shaped os) (by kernel_rfl) (by kernel_rfl) (by kernel_rfl) (start_met os _)) ?_
  intro W base args ds gs before hval0 hW hcnd _ hL _
  have hT := laid_tabs hL
  have hval : ∀ (j : Nat) t v, Tryd.f10.params[j]? = some t → args[j]? = some v → Value.okWide Tryd.prog W .any base t v := hval0
  have hW' := hW
  obtain ⟨p, q, hA0, hV, rfl, hfz, hnd⟩ := hW
  have hA : DataW.TrodAll enc Tryd.prog W 0 (fun _ => true) true Tryd.f10.params.toList args.toList ds p := hA0
  rw [Tryd.params10] at hA hval
  obtain ⟨v0, vs0, d0, ds0, p0, q0, hargs, rfl, rfl, h0, r0⟩ := trodAll_cons hA
  obtain ⟨v1, vs1, d1, ds1, p1, q1, rfl, rfl, rfl, h1, r1⟩ := trodAll_cons r0
  obtain ⟨rfl, rfl, rfl⟩ := trodAll_nil r1
  obtain rfl : args = #[v0, v1] := by cases args; simp_all
  obtain ⟨rfl, rfl⟩ := trodVars_none hV
  have k0 := h0
  have lt0 : ∀ x ∈ p0, x.block < W.heap.size := by obtain ⟨m, hm⟩ := k0; exact DataW.trod_lt m _ _ _ hm
  obtain ⟨s, rfl, -, -, ws⟩ := open_string Tryd.underlying9 (hval 0 9 v0 rfl rfl) h0
  have k1 := h1
  have lt1 : ∀ x ∈ p1, x.block < W.heap.size := by obtain ⟨m, hm⟩ := k1; exact DataW.trod_lt m _ _ _ hm
  obtain ⟨more, rfl, -, -, wmore⟩ := open_int Tryd.underlying5 (hval 1 5 v1 rfl rfl) h1
  clear hA0 hval0
  refine (walk s ws more wmore W hT).mono fun e W' ⟨he, bel⟩ => ?_
  subst he
  exact ⟨_, rfl, _, _, _, [], _, [], hW', trodAll_mk1 (shut_bool Tryd.underlying4 _), (trodAll_cons_mk (Below.trod laidOut (by kernel_rfl) (of_decide_eq_true (by kernel_rfl)) k0 bel lt0) (trodAll_cons_mk (Below.trod laidOut (by kernel_rfl) (of_decide_eq_true (by kernel_rfl)) k1 bel lt1) trodAll_mk0)), rfl, bel.frame _, fun h => by cases h⟩

theorem over : Rows.lexerLimitRow.holds Tryd.pinned (OpenSpec.ofChange Rows.lexerLimitSpec) :=
  OpenClaim.holds_of_wide 10 Tryd.f10 rfl rfl rfl rfl rfl rfl rfl ⟨rfl, rfl, rfl, rfl, rfl⟩ rfl rfl rfl rfl rfl (by kernel_rfl) Tryd.func10 (by kernel_rfl)
    (of_decide_eq_true (by kernel_rfl)) (by unfold Func.isWrapper; first | (rw [if_pos (by decide +kernel)]; kernel_rfl) | (rw [if_neg (by decide +kernel)]; exact ⟨rfl, rfl⟩))
    (fun os started H enc _ => lifted os started H enc)

/-- The given statement: the row, tied. -/
theorem proved : Rows.LexerLimitCardSaid :=
  Claim7.holds_tied_plain_at .later [] [.listed, .data] true _ false over (fun _ h => by cases h) (by kernel_rfl) (fun _ h => by cases h) lexerLimit_row_tie rfl ⟨rfl, rfl⟩ (by kernel_rfl) rfl
    (fun f fn hf hfn => by
      obtain rfl : f = 10 := Option.some.inj ((show Tryd.prog.funcNamed Rows.lexerLimitRow.func = some 10 by kernel_rfl).symm.trans hf) |>.symm
      obtain rfl : fn = Tryd.f10 := (Option.some.inj (Tryd.func10.symm.trans hfn)).symm
      exact ⟨by kernel_rfl, fun j t ht => by
        rw [Tryd.params10] at ht
        have hm : t ∈ [9, 5] := by simpa using Array.mem_of_getElem? ht
        have hall : ([9, 5].all fun u => !Tryd.prog.wantsStandIn u) = true := by kernel_rfl
        exact (show Tryd.prog.wantsStandIn t = false by simpa using List.all_eq_true.1 hall t hm)⟩)
    (by kernel_rfl)
#print axioms proved
end Go.Proofs.YtgjeljhodflbgaaDoor.lexerLimit
