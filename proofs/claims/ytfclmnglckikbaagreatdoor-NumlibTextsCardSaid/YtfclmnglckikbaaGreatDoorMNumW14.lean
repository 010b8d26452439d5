/- The contract of numeral.decimal. -/
import Derived.Test.YtfclmnglckikbaaGreatDoorMOwn
import Derived.Test.YtfclmnglckikbaaGreatDoorMNumW13
import Derived.Test.YtfclmnglckikbaaGreatDoorMPlainC
namespace Go.Proofs.YtfclmnglckikbaaGreatDoor
open Go.RowKit
set_option linter.unusedVariables false

def byteV (b : UInt8) : Value := .int .u8 b.toNat
theorem byteV_map (l m : List UInt8) : (l ++ m).map byteV = l.map byteV ++ m.map byteV := by simp
theorem uint8_info : (Tryz.prog.info? 5).map (fun i => (i.zero, i.size, i.bytes)) = some (some (.int .u8 0), 1, 1) := by kernel_rfl

set_option maxHeartbeats 4000000 in
set_option maxRecDepth 100000 in
theorem decimal_any (m : Bool) (whole : Int) (g cap : Nat) (ds : List Nat) (hd : ∀ d ∈ ds, d < 10) (w : World) (hg : g < w.heap.size) (hc : ∀ j, (h : j < ds.length) → w.cell? ⟨g, j, none⟩ = some (.int .i64 (ds[j]))) (hn : ds.length ≤ 12) (hw0 : 0 ≤ whole) (hw1 : whole ≤ 4294967296) (hT : Tabs w) :
    Calls Tryz.prog 50 #[.bool m, .int .i64 whole, .slice (some ⟨g, 0, none⟩) ds.length cap] w fun e w' => e = .returned (.string (mkS (decL m whole ds))) ∧ Below w.heap.size w w' := by
  obtain ⟨i0, hi, hz0, hz1, hz2⟩ := info_parts uint8_info
  have HI := Lib.hid (itoa_says hT whole (by omega) (by omega))
  have hlen := Lib.itoa_length_le whole (by omega) (by omega)
  obtain ⟨I, hI⟩ : ∃ I, Lib.itoa whole = I := ⟨_, rfl⟩
  rw [hI] at HI hlen
  have hcv := fun w s => run_bytes_of_string (P := Tryz.prog) w 9 96 5 s Tryz.underlying9 Tryz.underlying96 Tryz.underlying5
  have HC := Lib.hid hc
  have HD := Lib.hid hd
  have HIE := Lib.hid hI
  clear hc hd hI hT
  go_enter Tryz.func50, Tryz.ntmps50
  go_wp2_with (first | (go_at_call 52; refine (HI.out _ ?_).mono ?_; (focus ((repeat' (first | (with_reducible exact Below.refl _ _) | (with_reducible assumption) | (with_reducible refine Below.alloc ?_ ?_ _) | (with_reducible refine below_drewN ?_ _) | (with_reducible refine Below.drew ?_) | (with_reducible refine Below.setCell ?_ ?_ _) | (with_reducible refine below_via (by assumption) ?_ ?_) | (with_reducible refine below_via (later_below _) ?_ ?_) | (with_reducible exact Nat.le_refl _) | omega | (simp; omega) | (simp; done))))); rintro e w2 ⟨rfl, hb⟩))
  have hb0 : w.heap.size ≤ w2.heap.size := hb.size
  go_loopw [7, 8, 18] (fun out zs i wr => ∃ (k : Nat) (z : Bool), k ≤ ds.length ∧ i = .int .i64 k ∧ zs = .bool z ∧ z = zeroB whole (ds.take k) ∧ Own wr w.heap.size out ((bodyL whole (ds.take k)).map byteV) ∧ Below w.heap.size w wr) (fun _ _ i _ => ds.length - (intOf i).toNat)
  case atStart =>
    refine ⟨0, whole == 0, Nat.zero_le _, rfl, rfl, by simp [zeroB], ?_, by (repeat' (first | (with_reducible exact Below.refl _ _) | (with_reducible assumption) | (with_reducible refine Below.alloc ?_ ?_ _) | (with_reducible refine below_drewN ?_ _) | (with_reducible refine Below.drew ?_) | (with_reducible refine Below.setCell ?_ ?_ _) | (with_reducible refine below_via (by assumption) ?_ ?_) | (with_reducible refine below_via (later_below _) ?_ ?_) | (with_reducible exact Nat.le_refl _) | omega | (simp; omega) | (simp; done)))⟩
    have he : bodyL whole (ds.take 0) = I := by simp [bodyL, HIE.out]
    rw [he]
    have h := own_bytes w2 (mkS I) 5 w.heap.size hb0
    exact h
  case round =>
    obtain ⟨k, z, hk, rfl, rfl, hz, hown, hbel⟩ := hrel
    have hsz := hbel.size
    have hbl := bodyL_len whole (ds.take k)
    rw [HIE.out, List.length_take] at hbl
    have hbl2 : (bodyL whole (ds.take k)).length ≤ 40 := by omega
    by_cases hlt : k < ds.length
    · have hcell := (hbel.cell (p := ⟨g, k, none⟩) hg).trans (HC.out k hlt)
      have hd10 := HD.out (ds[k]) (List.getElem_mem hlt)
      have hdv := digC_nat (ds[k]) hd10
      have hzn := zeroB_next whole ds k hlt
      rw [← hz] at hzn
      have hfirst := bodyL_first whole ds
      have hnext := fun h0 => bodyL_next whole ds k h0 hlt
      obtain ⟨d, hdd⟩ : ∃ d, ds[k] = d := ⟨_, rfl⟩
      rw [hdd] at hcell hd10 hdv hzn
      have HZ := Lib.hid hzn
      have HO := Lib.hid hown
      have HB := Lib.hid hbel
      have HF := Lib.hid hfirst
      have HN := Lib.hid hnext
      have HDD := Lib.hid hdd
      have HDV := Lib.hid hdv
      clear hzn hown hbel hfirst hnext hdd hdv hbl hb hz
      obtain ⟨B, hBL⟩ : ∃ B, bodyL whole (ds.take k) = B := ⟨_, rfl⟩
      rw [hBL] at HO hbl2
      have HBL := Lib.hid hBL
      clear hBL
      by_cases hk0 : k = 0
      · subst hk0
        by_cases hd0 : d = 0
        all_goals try have hd1 : ((d : Int) == 0) = false := by simpa using hd0
        all_goals cases z
        all_goals
          go_wp2_with (first | (at_builtin; ((first | (refine wp_push rfl _ _ 96 rfl 5 i0 (.int .u8 0) 1 Tryz.underlying96 hi hz0 hz1 hz2 rfl w.heap.size _ _ (ho'.alloc _) rfl _ _ _ rfl (cell_new1 _ _ _) rfl ?_ ?_ ?_ ?_) | (refine wp_push rfl _ _ 96 rfl 5 i0 (.int .u8 0) 1 Tryz.underlying96 hi hz0 hz1 hz2 rfl w.heap.size _ _ (HO.out.alloc _) rfl _ _ _ rfl (cell_new1 _ _ _) rfl ?_ ?_ ?_ ?_)); (focus (simp; omega)); (focus (unfold maxLen; simp; omega)); (focus (simp; omega))); intro v' w' ho' hb'; (have hsz' := hb'.size); (simp at hsz')))
          refine ⟨⟨0 + 1, _, hlt, rfl, rfl, by rw [HZ.out]; simp [hd0], own_eq ho' ?_, ?_⟩, by simp [intOf]; omega⟩
          · rw [HF.out hlt, HBL.out, HDD.out]
            simp [byteV, HDV.out, hd0]
            try rfl
          · have hbel := HB.out
            (repeat' (first | (with_reducible exact Below.refl _ _) | (with_reducible assumption) | (with_reducible refine Below.alloc ?_ ?_ _) | (with_reducible refine below_drewN ?_ _) | (with_reducible refine Below.drew ?_) | (with_reducible refine Below.setCell ?_ ?_ _) | (with_reducible refine below_via (by assumption) ?_ ?_) | (with_reducible refine below_via (later_below _) ?_ ?_) | (with_reducible exact Nat.le_refl _) | omega | (simp; omega) | (simp; done)))
      · have hk1 : ((k : Int) == 0) = false := by simpa using hk0
        by_cases hd0 : d = 0
        all_goals try have hd1 : ((d : Int) == 0) = false := by simpa using hd0
        all_goals cases z
        all_goals
          go_wp2_with (first | (at_builtin; ((first | (refine wp_push rfl _ _ 96 rfl 5 i0 (.int .u8 0) 1 Tryz.underlying96 hi hz0 hz1 hz2 rfl w.heap.size _ _ (ho'.alloc _) rfl _ _ _ rfl (cell_new1 _ _ _) rfl ?_ ?_ ?_ ?_) | (refine wp_push rfl _ _ 96 rfl 5 i0 (.int .u8 0) 1 Tryz.underlying96 hi hz0 hz1 hz2 rfl w.heap.size _ _ (HO.out.alloc _) rfl _ _ _ rfl (cell_new1 _ _ _) rfl ?_ ?_ ?_ ?_)); (focus (simp; omega)); (focus (unfold maxLen; simp; omega)); (focus (simp; omega))); intro v' w' ho' hb'; (have hsz' := hb'.size); (simp at hsz')))
          refine ⟨⟨k + 1, _, hlt, by go_num, rfl, by rw [HZ.out]; simp [hd0], own_eq ho' ?_, ?_⟩, by simp [intOf]; omega⟩
          · rw [HN.out (by omega), HBL.out, HDD.out]
            simp [byteV, HDV.out, hd0]
            try rfl
          · have hbel := HB.out
            (repeat' (first | (with_reducible exact Below.refl _ _) | (with_reducible assumption) | (with_reducible refine Below.alloc ?_ ?_ _) | (with_reducible refine below_drewN ?_ _) | (with_reducible refine Below.drew ?_) | (with_reducible refine Below.setCell ?_ ?_ _) | (with_reducible refine below_via (by assumption) ?_ ?_) | (with_reducible refine below_via (later_below _) ?_ ?_) | (with_reducible exact Nat.le_refl _) | omega | (simp; omega) | (simp; done)))
    · obtain rfl : k = ds.length := by omega
      rw [List.take_length] at hown hbl2 hz
      obtain ⟨B, hBL⟩ : ∃ B, bodyL whole ds = B := ⟨_, rfl⟩
      have hne := bodyL_ne whole ds
      rw [hBL] at hown hbl2 hne
      have hstr : ∀ out, Own wr w.heap.size out (B.map byteV) → (convert 96 9 out).run Tryz.prog wr = .ok (.string (mkS B)) wr := fun out ho => Own.str ho hne _ _ 5 Tryz.underlying96 Tryz.underlying5 Tryz.underlying9
      have hstr := hstr _ hown
      have hms : (mkS B).size ≤ 40 := by rw [mkS_size]; exact hbl2
      have HBL := Lib.hid hBL
      have HB := Lib.hid hbel
      have HZ := Lib.hid hz
      clear hBL hbel hz hown hne hcv hbl hbl2 hb
      cases m
      all_goals cases z
      all_goals
        go_wp2
        go_returns
        refine ⟨?_, ?_⟩
        · unfold decL
          rw [← HZ.out, HBL.out]
          first | rfl | (simp only [Bool.and_self, Bool.not_false, if_true]; rw [show (⟨#[45]⟩ : ByteArray) = mkS [45] from rfl, cat_mk]; rfl)
        · have hbel := HB.out
          (repeat' (first | (with_reducible exact Below.refl _ _) | (with_reducible assumption) | (with_reducible refine Below.alloc ?_ ?_ _) | (with_reducible refine below_drewN ?_ _) | (with_reducible refine Below.drew ?_) | (with_reducible refine Below.setCell ?_ ?_ _) | (with_reducible refine below_via (by assumption) ?_ ?_) | (with_reducible refine below_via (later_below _) ?_ ?_) | (with_reducible exact Nat.le_refl _) | omega | (simp; omega) | (simp; done)))
end Go.Proofs.YtfclmnglckikbaaGreatDoor
