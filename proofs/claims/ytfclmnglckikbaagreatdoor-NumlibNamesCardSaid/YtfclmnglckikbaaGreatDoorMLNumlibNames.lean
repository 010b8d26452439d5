/- The law NumlibNames holds: for every input it returns true, and each argument reads as it did, where the library's tables read as its text lays them. No other conditions. -/
import Derived.Test.YtfclmnglckikbaaGreatDoorMNlAw
import Derived.Test.YtfclmnglckikbaaGreatDoorMNlVals
import Derived.Test.YtfclmnglckikbaaGreatDoorMValLaw
import Derived.Test.YtfclmnglckikbaaGreatDoorMLaid
import Derived.Test.YtfclmnglckikbaaGreatDoorCards
import Derived.Test.YtfclmnglckikbaaGreatDoorTie
namespace Go.Proofs.YtfclmnglckikbaaGreatDoor.numlibNames
open Go.ChangeShapes Go.WideShapes Go.ChangeAt Go.RowKit Go.Joins
open Go.ChangeMaps (open_string shut_string)
set_option linter.unusedVariables false

/-- The cells of the reference's names. -/
def rnamesCells : Array Value := #[.string ⟨#[110, 117, 109, 98, 101, 114, 46, 97, 98, 115]⟩, .string ⟨#[110, 117, 109, 98, 101, 114, 46, 98, 97, 115, 101]⟩, .string ⟨#[110, 117, 109, 98, 101, 114, 46, 99, 101, 105, 108]⟩, .string ⟨#[110, 117, 109, 98, 101, 114, 46, 100, 101, 110]⟩, .string ⟨#[110, 117, 109, 98, 101, 114, 46, 102, 105, 120, 101, 100]⟩, .string ⟨#[110, 117, 109, 98, 101, 114, 46, 102, 108, 111, 111, 114]⟩, .string ⟨#[110, 117, 109, 98, 101, 114, 46, 109, 97, 120]⟩, .string ⟨#[110, 117, 109, 98, 101, 114, 46, 109, 105, 110]⟩, .string ⟨#[110, 117, 109, 98, 101, 114, 46, 110, 117, 109]⟩, .string ⟨#[110, 117, 109, 98, 101, 114, 46, 115, 105, 103, 110]⟩, .string ⟨#[110, 117, 109, 98, 101, 114, 46, 116, 121, 112, 101]⟩]
theorem rnames_cell (w : World) (t : TypeId) (j : Nat) (hj : j < 11) : (w.alloc (.cells rnamesCells t)).cell? ⟨w.heap.size, j, none⟩ = some (.string (nmN j)) := by
  refine (World.cell?_alloc_at rnamesCells t _ j rfl).trans ?_
  match j, hj with
  | 0, _ => rfl
  | 1, _ => rfl
  | 2, _ => rfl
  | 3, _ => rfl
  | 4, _ => rfl
  | 5, _ => rfl
  | 6, _ => rfl
  | 7, _ => rfl
  | 8, _ => rfl
  | 9, _ => rfl
  | 10, _ => rfl
/-- The eleven names in a block. -/
def NC (w : World) (g : Nat) : Prop := ∀ j, j < 11 → w.cell? ⟨g, j, none⟩ = some (.string (nmN j))
theorem NC.below {W w : World} (hb : Below W.heap.size W w) {g : Nat} (h : NC W g) : NC w g := fun j hj => (hb.cell (p := ⟨g, j, none⟩) (cell_lt (h j hj))).trans (h j hj)
set_option maxHeartbeats 1600000 in
set_option maxRecDepth 100000 in
theorem rnames_all (w : World) : Calls Tryz.prog 11 #[] w fun e w' => (∃ g : Nat, e = .returned (.slice (some ⟨g, 0, none⟩) 11 11) ∧ w.heap.size ≤ g ∧ NC w' g) ∧ Below w.heap.size w w' := by
  go_enter Tryz.func11, Tryz.ntmps11
  go_wp2_with fail
  go_returns
  refine ⟨⟨w.heap.size, rfl, Nat.le_refl _, fun j hj => rnames_cell w _ j hj⟩, ?_⟩
  (repeat' (first | (with_reducible exact Below.refl _ _) | (with_reducible assumption) | (with_reducible refine Below.alloc ?_ ?_ _) | (with_reducible refine below_drewN ?_ _) | (with_reducible refine Below.drew ?_) | (with_reducible refine Below.setCell ?_ ?_ _) | (with_reducible refine below_via (by assumption) ?_ ?_) | (with_reducible refine below_via (later_below _) ?_ ?_) | (with_reducible exact Nat.le_refl _) | omega | (simp; omega) | (simp; done)))
theorem names_nc (w : World) : Calls Tryz.prog 10 #[] w fun e w' => (∃ g : Nat, e = .returned (.slice (some ⟨g, 0, none⟩) 11 11) ∧ w.heap.size ≤ g ∧ NC w' g) ∧ Below w.heap.size w w' := names_all w
/-- Whether one of the first j names is this one. -/
def knownB (name : ByteArray) (j : Nat) : Bool := (List.range j).any fun i => (nmN i).toList == name.toList
theorem knownB_succ (name : ByteArray) (j : Nat) : knownB name (j + 1) = (knownB name j || ((nmN j).toList == name.toList)) := by
  unfold knownB
  rw [List.range_succ, List.any_append]
  simp
theorem names_dn : ∀ i : Fin 10, Op.bytesLess (nmN (i.val + 1)).data.toList (nmN i.val).data.toList = false ∧ ((nmN (i.val + 1)).data.toList == (nmN i.val).data.toList) = false := by decide +kernel
theorem name_dn (j : Nat) (h : j + 1 < 11) : Op.bytesLess (nmN (j + 1)).toList (nmN j).toList = false ∧ ((nmN (j + 1)).toList == (nmN j).toList) = false := by
  rw [Lib.toList_data, Lib.toList_data]
  exact names_dn ⟨j, by omega⟩
theorem nmN_size (j : Nat) (hj : j < 11) : (nmN j).size ≤ 20 := by
  have := wordN_size j hj
  unfold nmN
  rw [ByteArray.size_append]
  have h1 : (⟨#[110, 117, 109, 98, 101, 114, 46]⟩ : ByteArray).size = 7 := rfl
  omega
theorem message_none (name : ByteArray) (a : Option Addr) (n cap : Nat) (h : knownB name 11 = false) (w : World) : Calls Tryz.prog 12 #[.string name, .slice a n cap] w fun e w' => e = .returned (.string ⟨#[110, 111, 32, 115, 117, 99, 104, 32, 102, 117, 110, 99, 116, 105, 111, 110]⟩) ∧ Below w.heap.size w w' := by
  show Calls _ _ _ w fun e w' => e = .returned (.string noneS) ∧ Below w.heap.size w w'
  refine message_fail _ _ _ _ 3 0 0 noneS 0 w fun hp w' hb => begin_none hp _ _ _ _ w' ?_
  intro j hj
  unfold knownB at h
  rw [List.any_eq_false] at h
  have := h j (List.mem_range.2 hj)
  have e : (nmN j).toList ≠ name.toList := by simpa using this
  simpa using fun x => e x.symm

set_option maxHeartbeats 4000000 in
set_option maxRecDepth 100000 in
theorem walk (name : ByteArray) (wname : name.size ≤ maxLen) (aA : Option Addr) (aN aC : Nat) (aL : List VV) (waN : aN ≤ 9223372036854775807) (waE : aL.length = aN) (waO : ∀ v ∈ aL, okV v) (w : World) (hT : Tabs w) (ma : ∀ i : Nat, ArgIs w aA aN i (argV aL i).k (argV aL i).p (argV aL i).q (argV aL i).s (argV aL i).r) :
    Calls Tryz.prog 3 #[.string name, .slice aA aN aC] w fun e w' => e = .returned (.bool true) ∧ Below w.heap.size w w' := by
  have HT := Lib.hid hT
  clear hT
  have HW : Hid (∀ w', Tabs w' → Calls Tryz.prog 9 #[] w' fun e w'' => e = .returned (.bool true) ∧ Below w'.heap.size w' w'') := fun w' hT' => awake_any w' hT'
  by_cases hl : 300 < aN
  · go_enter Tryz.func3, Tryz.ntmps3
    go_wp2_with (first | (go_at_call 9; (with_reducible refine (HW.out _ (HT.out.later ?_)).mono ?_); (focus ((repeat' (first | (with_reducible exact Below.refl _ _) | (with_reducible assumption) | (with_reducible refine Below.alloc ?_ ?_ _) | (with_reducible refine below_drewN ?_ _) | (with_reducible refine Below.drew ?_) | (with_reducible refine Below.setCell ?_ ?_ _) | (with_reducible refine below_via (by assumption) ?_ ?_) | (with_reducible refine below_via (later_below _) ?_ ?_) | (with_reducible exact Nat.le_refl _) | omega | (simp; omega) | (simp; done))))); rintro e w9 ⟨rfl, hb⟩; (refine mem hb ?_; intro N hN hz hc hf; (try simp at hN); subst hN)))
    go_returns
    refine ⟨rfl, ?_⟩
    (repeat' (first | (with_reducible exact Below.refl _ _) | (with_reducible assumption) | (with_reducible refine Below.alloc ?_ ?_ _) | (with_reducible refine below_drewN ?_ _) | (with_reducible refine Below.drew ?_) | (with_reducible refine Below.setCell ?_ ?_ _) | (with_reducible refine below_via (by assumption) ?_ ?_) | (with_reducible refine below_via (later_below _) ?_ ?_) | (with_reducible exact Nat.le_refl _) | omega | (simp; omega) | (simp; done)))
  · have HA : Hid (Below w.heap.size w w) := Below.refl _ _
    have hl2 : aN ≤ 300 := by omega
    clear hl
    go_enter Tryz.func3, Tryz.ntmps3
    go_wp2_with fail -- Names
    refine (names_nc _).mono ?_
    rintro e x1 ⟨⟨g1, rfl, hg1, hn1⟩, hb⟩
    have HN1 := Lib.hid hn1
    have HA : Hid (Below w.heap.size w x1) := by
      have h0 := HA.out
      have hs := h0.size
      show Below _ _ _
      (repeat' (first | (with_reducible exact Below.refl _ _) | (with_reducible assumption) | (with_reducible refine Below.alloc ?_ ?_ _) | (with_reducible refine below_drewN ?_ _) | (with_reducible refine Below.drew ?_) | (with_reducible refine Below.setCell ?_ ?_ _) | (with_reducible refine below_via (by assumption) ?_ ?_) | (with_reducible refine below_via (later_below _) ?_ ?_) | (with_reducible exact Nat.le_refl _) | omega | (simp; omega) | (simp; done)))
    clear hb hn1
    go_wp2_with fail -- rNames
    refine (rnames_all _).mono ?_
    rintro e x2 ⟨⟨g2, rfl, hg2, hn2⟩, hb⟩
    have HN1 := Lib.hid (show NC x2 g1 from HN1.out.below hb)
    have HN2 := Lib.hid hn2
    have HA : Hid (Below w.heap.size w x2) := by
      have h0 := HA.out
      have hs := h0.size
      show Below _ _ _
      (repeat' (first | (with_reducible exact Below.refl _ _) | (with_reducible assumption) | (with_reducible refine Below.alloc ?_ ?_ _) | (with_reducible refine below_drewN ?_ _) | (with_reducible refine Below.drew ?_) | (with_reducible refine Below.setCell ?_ ?_ _) | (with_reducible refine below_via (by assumption) ?_ ?_) | (with_reducible refine below_via (later_below _) ?_ ?_) | (with_reducible exact Nat.le_refl _) | omega | (simp; omega) | (simp; done)))
    clear hb hn2 hg1 hg2
    go_wp2_with fail -- loop
    go_loopw [7, 8] (fun kn i wr => ∃ j : Nat, j ≤ 11 ∧ i = .int .i64 j ∧ kn = .bool (knownB name j) ∧ Hid (NC wr g1) ∧ Hid (NC wr g2) ∧ Hid (Below w.heap.size w wr)) (fun _ i _ => 11 - (intOf i).toNat)
    case atStart => exact ⟨0, Nat.zero_le _, rfl, rfl, HN1.out, HN2.out, HA.out⟩
    case round =>
      obtain ⟨j, hj, rfl, rfl, H1, H2, HB⟩ := hrel
      by_cases hlt : j < 11
      · have c1 := H1.out j hlt
        have c2 := H2.out j hlt
        have hsz := nmN_size j hlt
        have HS := Lib.hid (knownB_succ name j)
        obtain ⟨K, hK⟩ : ∃ K, knownB name j = K := ⟨_, rfl⟩
        obtain ⟨E, hE⟩ : ∃ E, ((nmN j).toList == name.toList) = E := ⟨_, rfl⟩
        rw [hK] at HS ⊢
        rw [hE] at HS
        clear hK
        obtain ⟨N, hN⟩ : ∃ N, nmN j = N := ⟨_, rfl⟩
        rw [hN] at c1 c2 hsz hE
        have hcs : j = 0 ∨ 0 < j := by omega
        rcases hcs with hj0 | hj0
        · have d1 : decide (0 < (j : Int)) = false := by simp; omega
          have d2 : decide (0 < j) = false := by simp; omega
          have d3 : ¬ 0 < j := by omega
          clear hN hj0
          cases K
          all_goals
            go_wp2_with fail -- zero
            go_quiet (fail)
            go_wp2_with fail -- zero2
            refine ⟨⟨j + 1, by omega, by go_num, ?_, H1.out, H2.out, ?_⟩, by simp [intOf]; omega⟩
            · rw [HS.out]; rfl
            · have hbel := HB.out
              show Below _ _ _
              (repeat' (first | (with_reducible exact Below.refl _ _) | (with_reducible assumption) | (with_reducible refine Below.alloc ?_ ?_ _) | (with_reducible refine below_drewN ?_ _) | (with_reducible refine Below.drew ?_) | (with_reducible refine Below.setCell ?_ ?_ _) | (with_reducible refine below_via (by assumption) ?_ ?_) | (with_reducible refine below_via (later_below _) ?_ ?_) | (with_reducible exact Nat.le_refl _) | omega | (simp; omega) | (simp; done)))
        · have d1 : decide (0 < (j : Int)) = true := by simp; omega
          have c3 := H1.out (j - 1) (by omega)
          obtain ⟨hup, hup2⟩ := name_dn (j - 1) (by omega)
          rw [show j - 1 + 1 = j by omega, hN] at hup hup2
          obtain ⟨M, hM⟩ : ∃ M, nmN (j - 1) = M := ⟨_, rfl⟩
          rw [hM] at c3 hup hup2
          have htn : ((j : Int) - 1).toNat = j - 1 := by omega
          have hj1 : (1 : Int) ≤ (j : Int) := by omega
          clear hN hM
          cases K
          all_goals
            go_wp2_with fail -- pos
            go_quiet (fail)
            go_wp2_with fail -- pos2
            refine ⟨⟨j + 1, by omega, by go_num, ?_, H1.out, H2.out, ?_⟩, by simp [intOf]; omega⟩
            · rw [HS.out]; rfl
            · have hbel := HB.out
              show Below _ _ _
              (repeat' (first | (with_reducible exact Below.refl _ _) | (with_reducible assumption) | (with_reducible refine Below.alloc ?_ ?_ _) | (with_reducible refine below_drewN ?_ _) | (with_reducible refine Below.drew ?_) | (with_reducible refine Below.setCell ?_ ?_ _) | (with_reducible refine below_via (by assumption) ?_ ?_) | (with_reducible refine below_via (later_below _) ?_ ?_) | (with_reducible exact Nat.le_refl _) | omega | (simp; omega) | (simp; done)))
      · obtain rfl : j = 11 := by omega
        obtain ⟨K, hK⟩ : ∃ K, knownB name 11 = K := ⟨_, rfl⟩
        rw [hK]
        cases K
        · have HM : Hid (∀ w', Calls Tryz.prog 12 #[.string name, .slice aA aN aC] w' fun e w'' => e = .returned (.string ⟨#[110, 111, 32, 115, 117, 99, 104, 32, 102, 117, 110, 99, 116, 105, 111, 110]⟩) ∧ Below w'.heap.size w' w'') := fun w' => message_none name aA aN aC hK w'
          clear hK
          go_wp2_with (first | (go_at_call 12; (with_reducible refine (HM.out _).mono ?_); rintro e w8 ⟨rfl, hb⟩; (have hs8 := hb.size)) | (go_at_call 9; (with_reducible refine (HW.out _ (HT.out.later ?_)).mono ?_); (focus (have hbel := HB.out; have hs := hbel.size; (repeat' (first | (with_reducible exact Below.refl _ _) | (with_reducible assumption) | (with_reducible refine Below.alloc ?_ ?_ _) | (with_reducible refine below_drewN ?_ _) | (with_reducible refine Below.drew ?_) | (with_reducible refine Below.setCell ?_ ?_ _) | (with_reducible refine below_via (by assumption) ?_ ?_) | (with_reducible refine below_via (later_below _) ?_ ?_) | (with_reducible exact Nat.le_refl _) | omega | (simp; omega) | (simp; done))))); rintro e w9 ⟨rfl, hb⟩)) -- no
          go_returns
          refine ⟨rfl, ?_⟩
          have hbel := HB.out
          have hs := hbel.size
          (repeat' (first | (with_reducible exact Below.refl _ _) | (with_reducible assumption) | (with_reducible refine Below.alloc ?_ ?_ _) | (with_reducible refine below_drewN ?_ _) | (with_reducible refine Below.drew ?_) | (with_reducible refine Below.setCell ?_ ?_ _) | (with_reducible refine below_via (by assumption) ?_ ?_) | (with_reducible refine below_via (later_below _) ?_ ?_) | (with_reducible exact Nat.le_refl _) | omega | (simp; omega) | (simp; done)))
        · clear hK
          go_wp2_with (first | (go_at_call 9; (with_reducible refine (HW.out _ (HT.out.later ?_)).mono ?_); (focus (have hbel := HB.out; have hs := hbel.size; (repeat' (first | (with_reducible exact Below.refl _ _) | (with_reducible assumption) | (with_reducible refine Below.alloc ?_ ?_ _) | (with_reducible refine below_drewN ?_ _) | (with_reducible refine Below.drew ?_) | (with_reducible refine Below.setCell ?_ ?_ _) | (with_reducible refine below_via (by assumption) ?_ ?_) | (with_reducible refine below_via (later_below _) ?_ ?_) | (with_reducible exact Nat.le_refl _) | omega | (simp; omega) | (simp; done))))); rintro e w9 ⟨rfl, hb⟩)) -- yes
          go_returns
          refine ⟨rfl, ?_⟩
          have hbel := HB.out
          have hs := hbel.size
          (repeat' (first | (with_reducible exact Below.refl _ _) | (with_reducible assumption) | (with_reducible refine Below.alloc ?_ ?_ _) | (with_reducible refine below_drewN ?_ _) | (with_reducible refine Below.drew ?_) | (with_reducible refine Below.setCell ?_ ?_ _) | (with_reducible refine below_via (by assumption) ?_ ?_) | (with_reducible refine below_via (later_below _) ?_ ?_) | (with_reducible exact Nat.le_refl _) | omega | (simp; omega) | (simp; done)))

set_option maxHeartbeats 8000000 in
set_option maxRecDepth 100000 in
theorem lifted (os : Os) (started : os.Started) (H : Type) (enc : TypeId × Value → H) :
    ReturnsInHanded {} Tryz.checked os 3 .any (fun w args => (Rows.numlibNamesSpec.pre enc Tryz.prog Tryz.f3 Rows.numlibNamesRow.domain false w args ∧ laidMetH Tryz.prog laidS w) ∧ sizedMet enc Tryz.prog Tryz.f3 (OpenSpec.ofChange Rows.numlibNamesSpec) false w args) (Rows.numlibNamesSpec.post enc Tryz.prog Tryz.f3 false true false false) := by
  refine returnsInHanded_of_change_and (C := Tryz.checked) (X := fun w _ => laidMetH Tryz.prog laidS w) (fun _ _ _ hh h => h.of_heap hh) own started (by kernel_rfl) Tryz.func3
    (ChangeSpec.witness_shaped (enc := enc) (C := Tryz.checked) (os := os) (X := fun w _ => laidMetH Tryz.prog laidS w) false (World.laidAll Tryz.prog os laidS) #[.string ⟨#[]⟩, .slice none 0 0] 8 (World.laidAll_os _ _ _) (start_shaped os) (by kernel_rfl) (by kernel_rfl) (by kernel_rfl) (start_met os _)) ?_
  intro W base args ds gs before hval0 hW hcnd _ hL _
  have hT := laid_tabs hL
  have hval : ∀ (j : Nat) t v, Tryz.f3.params[j]? = some t → args[j]? = some v → Value.okWide Tryz.prog W .any base t v := hval0
  have hW' := hW
  obtain ⟨p, q, hA0, hV, rfl, hfz, hnd⟩ := hW
  have hA : DataW.TrodAll enc Tryz.prog W 0 (fun _ => true) true Tryz.f3.params.toList args.toList ds p := hA0
  rw [Tryz.params3] at hA hval
  obtain ⟨v0, vs0, d0, ds0, p0, q0, hargs, rfl, rfl, h0, r0⟩ := trodAll_cons hA
  obtain ⟨v1, vs1, d1, ds1, p1, q1, rfl, rfl, rfl, h1, r1⟩ := trodAll_cons r0
  obtain ⟨rfl, rfl, rfl⟩ := trodAll_nil r1
  obtain rfl : args = #[v0, v1] := by cases args; simp_all
  obtain ⟨rfl, rfl⟩ := trodVars_none hV
  have k0 := h0
  have lt0 : ∀ x ∈ p0, x.block < W.heap.size := by obtain ⟨m, hm⟩ := k0; exact DataW.trod_lt m _ _ _ hm
  obtain ⟨name, rfl, -, -, wname⟩ := open_string Tryz.underlying9 (hval 0 9 v0 rfl rfl) h0
  have k1 := h1
  have lt1 : ∀ x ∈ p1, x.block < W.heap.size := by obtain ⟨m, hm⟩ := k1; exact DataW.trod_lt m _ _ _ hm
  obtain ⟨aA, aN, aC, aL, rfl, waN, waE, waO, ma⟩ := open_vals (hval 1 22 v1 rfl rfl) h1
  clear hA0 hval0
  refine (walk name wname aA aN aC aL waN waE waO W hT ma).mono fun e W' ⟨he, bel⟩ => ?_
  subst he
  exact ⟨_, rfl, _, _, _, [], _, [], hW', trodAll_mk1 (shut_bool Tryz.underlying4 _), (trodAll_cons_mk (Below.trod laidOut (by kernel_rfl) (of_decide_eq_true (by kernel_rfl)) k0 bel lt0) (trodAll_cons_mk (Below.trod laidOut (by kernel_rfl) (of_decide_eq_true (by kernel_rfl)) k1 bel lt1) trodAll_mk0)), rfl, bel.frame _, fun h => by cases h⟩

theorem over : Rows.numlibNamesRow.holds Tryz.pinned (OpenSpec.ofChange Rows.numlibNamesSpec) :=
  OpenClaim.holds_of_wide 3 Tryz.f3 rfl rfl rfl rfl rfl rfl rfl ⟨rfl, rfl, rfl, rfl, rfl⟩ rfl rfl rfl rfl rfl (by kernel_rfl) Tryz.func3 (by kernel_rfl)
    (of_decide_eq_true (by kernel_rfl)) (by unfold Func.isWrapper; first | (rw [if_pos (by decide +kernel)]; kernel_rfl) | (rw [if_neg (by decide +kernel)]; exact ⟨rfl, rfl⟩))
    (fun os started H enc _ => lifted os started H enc)

/-- The given statement: the row, tied. -/
theorem proved : Rows.NumlibNamesCardSaid :=
  Claim7.holds_tied_plain_at .later [] [.data, .data, .data, .data, .pinned] true _ false over (fun _ h => by cases h) (by kernel_rfl) (fun _ h => by cases h) numlibNames_row_tie rfl ⟨rfl, rfl⟩ (by kernel_rfl) rfl
    (fun f fn hf hfn => by
      obtain rfl : f = 3 := Option.some.inj ((show Tryz.prog.funcNamed Rows.numlibNamesRow.func = some 3 by kernel_rfl).symm.trans hf) |>.symm
      obtain rfl : fn = Tryz.f3 := (Option.some.inj (Tryz.func3.symm.trans hfn)).symm
      exact ⟨by kernel_rfl, fun j t ht => by
        rw [Tryz.params3] at ht
        have hm : t ∈ [9, 22] := by simpa using Array.mem_of_getElem? ht
        have hall : ([9, 22].all fun u => !Tryz.prog.wantsStandIn u) = true := by kernel_rfl
        exact (show Tryz.prog.wantsStandIn t = false by simpa using List.all_eq_true.1 hall t hm)⟩)
    (by kernel_rfl)
#print axioms proved
end Go.Proofs.YtfclmnglckikbaaGreatDoor.numlibNames
