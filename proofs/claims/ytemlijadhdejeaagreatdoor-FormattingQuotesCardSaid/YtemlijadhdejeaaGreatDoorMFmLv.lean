/- The chapter's small case of formats; arguments that are more than are tried. -/
import Derived.Test.YtemlijadhdejeaaGreatDoorMFmWB
namespace Go.Proofs.YtemlijadhdejeaaGreatDoor
open Go.RowKit Go.Instr
set_option linter.unusedVariables false

def lvF : List UInt8 := [37, 48, 53, 100, 124, 37, 46, 50, 102, 124, 37, 45, 52, 115, 124]
def lvL : List VV := [⟨2, -42, 1, ⟨#[]⟩, 0⟩, ⟨2, 1, 3, ⟨#[]⟩, 0⟩, ⟨3, 0, 0, ⟨#[97, 98]⟩, 0⟩]
theorem lv_evs : evs lvF = some [.dr ⟨[], 100, false, true, false, 5, -1⟩, .ch 124, .dr ⟨[], 102, false, false, false, 0, 2⟩, .ch 124, .dr ⟨[], 115, true, false, false, 4, -1⟩, .ch 124] := by
  have h1 : dirT [48, 53, 100, 124, 37, 46, 50, 102, 124, 37, 45, 52, 115, 124] = some (⟨[], 100, false, true, false, 5, -1⟩, 3) := by rfl
  have h2 : dirT [46, 50, 102, 124, 37, 45, 52, 115, 124] = some (⟨[], 102, false, false, false, 0, 2⟩, 3) := by rfl
  have h3 : dirT [45, 52, 115, 124] = some (⟨[], 115, true, false, false, 4, -1⟩, 3) := by rfl
  unfold lvF
  rw [evs_dir (by decide) h1]
  show (evs [124, 37, 46, 50, 102, 124, 37, 45, 52, 115, 124]).map _ = _
  rw [evs_ch (by decide), evs_dir (by decide) h2]
  show (((evs [124, 37, 45, 52, 115, 124]).map _).map _).map _ = _
  rw [evs_ch (by decide), evs_dir (by decide) h3]
  show (((((evs [124]).map _).map _).map _).map _).map _ = _
  rw [evs_ch (by decide), evs_nil]
  rfl
theorem lv_1 : fmtF ⟨[], 100, false, true, false, 5, -1⟩ ⟨2, -42, 1, ⟨#[]⟩, 0⟩ = ([45, 48, 48, 52, 50], true) := by decide +kernel
theorem lv_2 : fmtF ⟨[], 102, false, false, false, 0, 2⟩ ⟨2, 1, 3, ⟨#[]⟩, 0⟩ = ([48, 46, 51, 51], true) := by decide +kernel
theorem lv_3 : fmtF ⟨[], 115, true, false, false, 4, -1⟩ ⟨3, 0, 0, ⟨#[97, 98]⟩, 0⟩ = ([97, 98, 32, 32], true) := by decide +kernel
theorem lv_fmt : fmtR (pcsT lvF [] []) lvL = ([45, 48, 48, 52, 50, 124, 48, 46, 51, 51, 124, 97, 98, 32, 32, 124], 0, 0) := by
  have e : pcsT lvF [] [] = some [⟨[], 100, false, true, false, 5, -1⟩, txtP [124], ⟨[], 102, false, false, false, 0, 2⟩, txtP [124], ⟨[], 115, true, false, false, 4, -1⟩, txtP [124]] := by
    unfold pcsT
    rw [lv_evs]
    rfl
  rw [e]
  unfold fmtR lvL
  simp only [runP, fmtL, txtP, List.getElem?_cons_zero, List.getElem?_cons_succ, lv_1, lv_2, lv_3, if_true]
  rfl
theorem lnum_any (p q : Int) (w : World) : Calls Tryz.prog 26 #[.int .i64 p, .int .i64 q] w fun e w' => e = .returned (vV 2 p q ⟨#[]⟩ 0) ∧ Below w.heap.size w w' := by
  go_enter Tryz.func26, Tryz.ntmps26
  go_wp2_with fail
  first | go_returns | ((try simp only [Exit.inBlock, Exit.then]); refine bodyPost_ret (by first | (simp [results, Tryz.results26, go_sem, *]; done) | (simp [results, Tryz.results26, go_sem, *]; rfl) | (simp [results, Tryz.results26, go_sem, ↓IntWalk.iteOmega, *]; try rfl)) rfl ?_)
  refine ⟨rfl, ?_⟩
  (repeat' (first | (with_reducible exact Below.refl _ _) | (with_reducible assumption) | (with_reducible refine Below.alloc ?_ ?_ _) | (with_reducible refine below_drewN ?_ _) | (with_reducible refine Below.drew ?_) | (with_reducible refine Below.setCell ?_ ?_ _) | (with_reducible refine below_via (by assumption) ?_ ?_) | (with_reducible refine below_via (later_below _) ?_ ?_) | (with_reducible exact Nat.le_refl _) | omega | (simp; omega) | (simp; done)))
theorem lstr_any (s : ByteArray) (w : World) : Calls Tryz.prog 17 #[.string s] w fun e w' => e = .returned (vV 3 0 0 s 0) ∧ Below w.heap.size w w' := by
  go_enter Tryz.func17, Tryz.ntmps17
  go_wp2_with fail
  first | go_returns | ((try simp only [Exit.inBlock, Exit.then]); refine bodyPost_ret (by first | (simp [results, Tryz.results17, go_sem, *]; done) | (simp [results, Tryz.results17, go_sem, *]; rfl) | (simp [results, Tryz.results17, go_sem, ↓IntWalk.iteOmega, *]; try rfl)) rfl ?_)
  refine ⟨rfl, ?_⟩
  (repeat' (first | (with_reducible exact Below.refl _ _) | (with_reducible assumption) | (with_reducible refine Below.alloc ?_ ?_ _) | (with_reducible refine below_drewN ?_ _) | (with_reducible refine Below.drew ?_) | (with_reducible refine Below.setCell ?_ ?_ _) | (with_reducible refine below_via (by assumption) ?_ ?_) | (with_reducible refine below_via (later_below _) ?_ ?_) | (with_reducible exact Nat.le_refl _) | omega | (simp; omega) | (simp; done)))
theorem lv_vals (w w' : World) (T : TypeId) (g : Nat) (h : w.heap.size = g) (hb : Below (w.alloc (.cells #[.int .i64 2, .int .i64 (-42), .int .i64 1, .string ⟨#[]⟩, .int .i64 0, .int .i64 2, .int .i64 1, .int .i64 3, .string ⟨#[]⟩, .int .i64 0, .int .i64 3, .int .i64 0, .int .i64 0, .string ⟨#[97, 98]⟩, .int .i64 0] T)).heap.size (w.alloc (.cells #[.int .i64 2, .int .i64 (-42), .int .i64 1, .string ⟨#[]⟩, .int .i64 0, .int .i64 2, .int .i64 1, .int .i64 3, .string ⟨#[]⟩, .int .i64 0, .int .i64 3, .int .i64 0, .int .i64 0, .string ⟨#[97, 98]⟩, .int .i64 0] T)) w') : VsAt w' (some ⟨g, 0, none⟩) lvL := by
  have hc := fun i => (World.cell?_alloc_at (w := w) #[.int .i64 2, .int .i64 (-42), .int .i64 1, .string ⟨#[]⟩, .int .i64 0, .int .i64 2, .int .i64 1, .int .i64 3, .string ⟨#[]⟩, .int .i64 0, .int .i64 3, .int .i64 0, .int .i64 0, .string ⟨#[97, 98]⟩, .int .i64 0] T g i h.symm)
  refine .inr ⟨g, 0, rfl, fun i hi => VAt.below ?_ hb⟩
  have h3 : lvL.length = 3 := rfl
  rw [h3] at hi
  have : i = 0 ∨ i = 1 ∨ i = 2 := by omega
  rcases this with rfl | rfl | rfl
  · exact ⟨hc 0, hc 1, hc 2, hc 3, hc 4⟩
  · exact ⟨hc 5, hc 6, hc 7, hc 8, hc 9⟩
  · exact ⟨hc 10, hc 11, hc 12, hc 13, hc 14⟩
set_option maxHeartbeats 4000000 in
set_option maxRecDepth 100000 in
theorem lives_any (w : World) (hT : Tabs w) : Calls Tryz.prog 11 #[] w fun e w' => e = .returned (.bool true) ∧ Below w.heap.size w w' := by
  have HF : Hid (∀ (a : Option Addr) (cap : Nat) (w' : World), VsAt w' a lvL → Tabs w' → Calls Tryz.prog 15 #[.string ⟨#[37, 48, 53, 100, 124, 37, 46, 50, 102, 124, 37, 45, 52, 115, 124]⟩, .slice a 3 cap] w' fun e w'' => e = .returned (.tuple #[.string ⟨#[45, 48, 48, 52, 50, 124, 48, 46, 51, 51, 124, 97, 98, 32, 32, 124]⟩, .int .i64 0, .int .i64 0]) ∧ Below w'.heap.size w' w'') := fun a cap w' h1 h2 => by
    have h := fformat_any ⟨#[37, 48, 53, 100, 124, 37, 46, 50, 102, 124, 37, 45, 52, 115, 124]⟩ a cap lvL w' (by decide) (by decide) (by
      intro v hv
      unfold lvL at hv
      simp at hv
      rcases hv with rfl | rfl | rfl <;> exact ⟨by decide, by decide, by decide⟩) h1 h2
    rw [show pcsT (⟨#[37, 48, 53, 100, 124, 37, 46, 50, 102, 124, 37, 45, 52, 115, 124]⟩ : ByteArray).data.toList [] [] = pcsT lvF [] [] from rfl, lv_fmt] at h
    exact h
  have HT := Lib.hid hT
  clear hT
  go_enter Tryz.func11, Tryz.ntmps11
  go_wp2_with (first | (go_at_call 26; (with_reducible refine (lnum_any _ _ _).mono ?_); rintro e w1 ⟨rfl, hb⟩; (refine mem hb ?_; intro N hN hz hc hf; (try simp at hN); subst hN)) | (go_at_call 17; (with_reducible refine (lstr_any _ _).mono ?_); rintro e w2 ⟨rfl, hb⟩; (refine mem hb ?_; intro N hN hz hc hf; (try simp at hN); subst hN)))
  refine (HF.out _ _ _ (lv_vals _ _ _ _ rfl (Below.refl _ _)) (HT.out.later ?_)).mono ?_
  · (repeat' (first | (with_reducible exact Below.refl _ _) | (with_reducible assumption) | (with_reducible refine Below.alloc ?_ ?_ _) | (with_reducible refine below_drewN ?_ _) | (with_reducible refine Below.drew ?_) | (with_reducible refine Below.setCell ?_ ?_ _) | (with_reducible refine below_via (by assumption) ?_ ?_) | (with_reducible refine below_via (later_below _) ?_ ?_) | (with_reducible exact Nat.le_refl _) | omega | (simp; omega) | (simp; done)))
  rintro e w9 ⟨rfl, hb9⟩
  go_wp2_with fail
  go_returns
  refine ⟨rfl, ?_⟩
  (repeat' (first | (with_reducible exact Below.refl _ _) | (with_reducible assumption) | (with_reducible refine Below.alloc ?_ ?_ _) | (with_reducible refine below_drewN ?_ _) | (with_reducible refine Below.drew ?_) | (with_reducible refine Below.setCell ?_ ?_ _) | (with_reducible refine below_via (by assumption) ?_ ?_) | (with_reducible refine below_via (later_below _) ?_ ?_) | (with_reducible exact Nat.le_refl _) | omega | (simp; omega) | (simp; done)))
/-- Whether arguments are more than are tried. -/
def bigB (f : ByteArray) (l : List VV) : Bool := decide (500 < f.size) || (decide (30 < l.length) || l.any fun v => decide (1500 < v.s.size))
set_option maxHeartbeats 4000000 in
set_option maxRecDepth 100000 in
theorem large_any (f : ByteArray) (a : Option Addr) (cap : Nat) (l : List VV) (w : World) (hf : f.size ≤ 9223372036854775807) (hl : l.length ≤ 9223372036854775807) (hs : ∀ v ∈ l, v.s.size ≤ 9223372036854775807) (hA : VsAt w a l) :
    Calls Tryz.prog 14 #[.string f, .slice a l.length cap] w fun e w' => e = .returned (.bool (bigB f l)) ∧ w = w' := by
  have HA := Lib.hid hA
  have HS := Lib.hid hs
  clear hA hs
  by_cases h1 : 500 < f.size
  · have d1 : decide (500 < (f.size : Int)) = true := by simp; omega
    rw [show bigB f l = true by unfold bigB; rw [decide_eq_true h1]; rfl]
    clear h1
    go_enter Tryz.func14, Tryz.ntmps14
    go_wp2
    go_returns
    exact ⟨rfl, rfl⟩
  · have d1 : decide (500 < (f.size : Int)) = false := by simp; omega
    by_cases h2 : 30 < l.length
    · have d2 : decide (30 < (l.length : Int)) = true := by simp; omega
      rw [show bigB f l = true by unfold bigB; rw [decide_eq_true h2, decide_eq_false h1]; rfl]
      clear h1 h2
      go_enter Tryz.func14, Tryz.ntmps14
      go_wp2
      go_returns
      exact ⟨rfl, rfl⟩
    · have d2 : decide (30 < (l.length : Int)) = false := by simp; omega
      have HBB : Hid (bigB f l = l.any fun v => decide (1500 < v.s.size)) := by show _ = _; unfold bigB; rw [decide_eq_false h2, decide_eq_false h1]; rfl
      clear h1
      go_enter Tryz.func14, Tryz.ntmps14
      go_wp2_with fail
      go_loop [5] (fun i => ∃ k : Nat, k ≤ l.length ∧ i = .int .i64 k ∧ Hid ((l.take k).any (fun v => decide (1500 < v.s.size)) = false)) (fun i => l.length - (intOf i).toNat)
      case atStart => exact ⟨0, Nat.zero_le _, rfl, rfl⟩
      case round =>
        obtain ⟨k, hk, rfl, HK⟩ := hrel
        by_cases hlt : k < l.length
        · obtain ⟨b, o, ha, hv⟩ := HA.out.resolve_left (by omega)
          subst ha
          obtain ⟨-, -, -, q3, -⟩ := hv k hlt
          have hvl := cell_lt q3
          have hsz := HS.out _ (List.getElem_mem hlt)
          have HT : Hid (∀ B, decide (1500 < (l[k]).s.size) = B → (l.take (k + 1)).any (fun v => decide (1500 < v.s.size)) = B) := fun B hB => by
            rw [List.take_succ_eq_append_getElem hlt, List.any_append, HK.out]
            simpa using hB
          have HT2 : Hid (decide (1500 < (l[k]).s.size) = true → l.any (fun v => decide (1500 < v.s.size)) = true) := fun hB => List.any_eq_true.2 ⟨_, List.getElem_mem hlt, hB⟩
          obtain ⟨S, hS⟩ : ∃ S, (l[k]).s = S := ⟨_, rfl⟩
          rw [hS] at q3 hsz HT HT2
          clear hS hv
          by_cases h3 : 1500 < S.size
          · have d3 : decide (1500 < (S.size : Int)) = true := by simp; omega
            have HE : Hid (bigB f l = true) := by show _ = _; rw [HBB.out]; exact HT2.out (decide_eq_true h3)
            clear h3 h2
            go_wp2_with fail
            go_returns
            exact ⟨by rw [HE.out]; rfl, rfl⟩
          · have d3 : decide (1500 < (S.size : Int)) = false := by simp; omega
            have HE := Lib.hid (HT.out _ (decide_eq_false h3))
            clear h3 h2
            go_wp2_with fail
            go_round
            case rel => exact ⟨k + 1, by omega, by go_num, HE.out⟩
            case measure => simp [intOf]; omega
        · obtain rfl : k = l.length := by omega
          have HE : Hid (bigB f l = false) := by
            show _ = _
            have := HK.out
            rw [List.take_length] at this
            rw [HBB.out, this]
          clear h2 hlt
          go_wp2_with fail
          go_returns
          exact ⟨by rw [HE.out]; rfl, rfl⟩
theorem big_no {f : ByteArray} {l : List VV} (h : bigB f l = false) : f.size ≤ 500 ∧ l.length ≤ 30 ∧ ∀ v ∈ l, v.s.size ≤ 1500 := by
  unfold bigB at h
  simp at h
  exact ⟨h.1, h.2.1, h.2.2⟩
end Go.Proofs.YtemlijadhdejeaaGreatDoor
