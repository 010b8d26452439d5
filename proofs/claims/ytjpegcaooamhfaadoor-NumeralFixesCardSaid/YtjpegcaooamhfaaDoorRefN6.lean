/- The reference's increased and zeros: what each call returns. -/
import Derived.Test.YtjpegcaooamhfaaDoorOwn2
import Derived.Test.YtjpegcaooamhfaaDoorFixPlain
import Derived.Test.YtjpegcaooamhfaaDoorNumW14
namespace Go.Proofs.YtjpegcaooamhfaaDoor
open Go.RowKit
set_option linter.unusedVariables false

/-- Decimal digits as bytes. -/
def dV (d : Nat) : Value := .int .u8 ((48 + d : Nat) : Int)

theorem inc_rest (ds : List Nat) : incL ds = ((incL (ds.take ds.length)).1 ++ List.replicate (ds.length - ds.length) 0, (incL (ds.take ds.length)).2) := by simp
theorem inc_nine {ds : List Nat} {j : Nat} (hj : j < ds.length) (h9 : ds[j] = 9) (h : incL ds = ((incL (ds.take (j + 1))).1 ++ List.replicate (ds.length - (j + 1)) 0, (incL (ds.take (j + 1))).2)) :
    incL ds = ((incL (ds.take j)).1 ++ List.replicate (ds.length - j) 0, (incL (ds.take j)).2) := by
  rw [h, List.take_succ_eq_append_getElem hj, h9, incL_snoc9]
  simp only [Prod.mk.injEq, and_true]
  rw [List.append_assoc]
  congr 1
  obtain ⟨m, hm⟩ : ∃ m, ds.length - j = m + 1 := ⟨ds.length - j - 1, by omega⟩
  rw [hm, show ds.length - (j + 1) = m by omega, List.replicate_succ]
  rfl
theorem inc_stop {ds : List Nat} {j : Nat} (hj : j < ds.length) (h9 : ds[j] ≠ 9) (h : incL ds = ((incL (ds.take (j + 1))).1 ++ List.replicate (ds.length - (j + 1)) 0, (incL (ds.take (j + 1))).2)) :
    incL ds = (ds.take j ++ [ds[j] + 1] ++ List.replicate (ds.length - (j + 1)) 0, false) := by
  rw [h, List.take_succ_eq_append_getElem hj, incL_snoc h9]

/-- The digits with zeros from an index on. -/
def zfrom (ds : List Nat) (j : Nat) : List Nat := ds.take j ++ List.replicate (ds.length - j) 0
theorem zfrom_len (ds : List Nat) (j : Nat) (h : j ≤ ds.length) : (zfrom ds j).length = ds.length := by simp [zfrom]; omega
theorem zfrom_all (ds : List Nat) : zfrom ds ds.length = ds := by simp [zfrom]
theorem zfrom_at (ds : List Nat) (j : Nat) (h : j < ds.length) : (zfrom ds (j + 1))[j]? = some ds[j] := by
  unfold zfrom
  rw [List.getElem?_append_left (by simp; omega), List.getElem?_take, if_pos (by omega), List.getElem?_eq_getElem h]
theorem zfrom_set (ds : List Nat) (j x : Nat) (h : j < ds.length) : (zfrom ds (j + 1)).set j x = ds.take j ++ [x] ++ List.replicate (ds.length - (j + 1)) 0 := by
  unfold zfrom
  rw [List.take_succ_eq_append_getElem h, List.append_assoc, List.set_append_right _ _ (by rw [List.length_take]; omega), List.append_assoc]
  congr 1
  have : j - (List.take j ds).length = 0 := by simp; omega
  rw [this]
  rfl
theorem zfrom_zero (ds : List Nat) (j : Nat) (h : j < ds.length) : (zfrom ds (j + 1)).set j 0 = zfrom ds j := by
  rw [zfrom_set ds j 0 h]
  unfold zfrom
  obtain ⟨m, hm⟩ : ∃ m, ds.length - j = m + 1 := ⟨ds.length - j - 1, by omega⟩
  rw [hm, show ds.length - (j + 1) = m by omega, List.replicate_succ, List.append_assoc]
  rfl
theorem dV_set (l : List Nat) (j x : Nat) : (l.map dV).set j (dV x) = (l.set j x).map dV := by rw [List.map_set]

set_option maxHeartbeats 4000000 in
set_option maxRecDepth 100000 in
theorem rinc_any (ds : List Nat) (hd : ∀ d ∈ ds, d < 10) (hn : ds.length ≤ 12) (base : Nat) (v : Value) (w : World) (hO : OwnF w base v (ds.map dV)) :
    Calls Tryd.prog 40 #[v] w fun e w' => e = .returned (.tuple #[v, .bool (incL ds).2]) ∧ OwnF w' base v ((incL ds).1.map dV) ∧ Below base w w' := by
  rcases List.eq_nil_or_concat ds with h0 | ⟨dd, x, h0⟩
  · subst h0
    obtain ⟨a, cap, hsh⟩ := hO.shape
    simp only [List.map_nil, List.length_nil] at hsh
    subst hsh
    have HO := Lib.hid hO
    clear hO
    go_enter Tryd.func40, Tryd.ntmps40
    go_wp2
    go_loop [4] (fun u => u = .int .i64 (-1)) (fun u => 0)
    case atStart => rfl
    case round =>
      subst hrel
      go_wp2
      go_returns
      exact ⟨rfl, HO.out, Below.refl _ _⟩
  · have hne : ds ≠ [] := by rw [h0]; simp
    clear h0
    have hpos : 0 < ds.length := List.length_pos_iff.2 hne
    obtain ⟨g, cap, hsh, hbg, hgl, hcp, -, -⟩ := hO.form (by simpa using hne)
    rw [List.length_map] at hsh hcp
    subst hsh
    have HO := Lib.hid hO
    have HD := Lib.hid hd
    clear hO hd hne
    go_enter Tryd.func40, Tryd.ntmps40
    go_wp2_with fail
    go_loopw [4] (fun at_ wr => ∃ j : Nat, j ≤ ds.length ∧ at_ = .int .i64 ((j : Int) - 1) ∧ OwnF wr base (.slice (some ⟨g, 0, none⟩) ds.length cap) ((zfrom ds j).map dV) ∧ Below base w wr ∧ Hid (incL ds = ((incL (ds.take j)).1 ++ List.replicate (ds.length - j) 0, (incL (ds.take j)).2))) (fun at_ _ => (intOf at_ + 1).toNat)
    case atStart => exact ⟨ds.length, Nat.le_refl _, by go_num, by rw [zfrom_all]; exact HO.out, Below.refl _ _, inc_rest ds⟩
    case round =>
      obtain ⟨j, hj, rfl, hown, hbel, hinc⟩ := hrel
      rcases Nat.eq_zero_or_pos j with hj0 | hj0
      · subst hj0
        have hi := hinc.out
        simp only [List.take_zero, incL, List.nil_append, Nat.sub_zero] at hi
        have hz : zfrom ds 0 = List.replicate ds.length 0 := by simp [zfrom]
        rw [hz] at hown
        have HI := Lib.hid hi
        have HO2 := Lib.hid hown
        have HB := Lib.hid hbel
        clear hown hbel hi hz hinc
        go_wp2
        go_returns
        rw [HI.out]
        exact ⟨rfl, HO2.out, HB.out⟩
      · obtain ⟨i, rfl⟩ : ∃ i, j = i + 1 := ⟨j - 1, by omega⟩
        have hlt : i < ds.length := by omega
        have hlen := zfrom_len ds (i + 1) hj
        have hown2 : OwnF wr base (.slice (some ⟨g, 0, none⟩) ((zfrom ds (i + 1)).map dV).length cap) ((zfrom ds (i + 1)).map dV) := by rw [List.length_map, hlen]; exact hown
        obtain ⟨g2, cap2, he, -, hgl2, -, hcell, hfro⟩ := hown2.form (by intro h; have := congrArg List.length h; rw [List.length_map, hlen, List.length_nil] at this; omega)
        simp only [Value.slice.injEq, Option.some.injEq, Addr.mk.injEq, and_true, true_and] at he
        obtain ⟨rfl, rfl⟩ := he
        have hc := hcell i (dV ds[i]) (by rw [List.getElem?_map, zfrom_at ds i hlt]; rfl)
        have hf := hfro i (by omega)
        have hd10 := HD.out (ds[i]) (List.getElem_mem hlt)
        have hput := fun x => hown2.put i (by rw [List.length_map, hlen]; exact hlt) (dV x)
        simp only [dV_set, List.length_map, hlen] at hput
        have HPUT := Lib.hid hput
        have HB := Lib.hid hbel
        have hn9 : ¬ ds[i] = 9 → incL ds = _ := fun h => inc_stop hlt h hinc.out
        have hi9 : ds[i] = 9 → incL ds = _ := fun h => inc_nine hlt h hinc.out
        have HN9 := Lib.hid hn9
        have HI9 := Lib.hid hi9
        clear hcell hfro hput hown hown2 hbel hinc hlen hn9 hi9
        unfold dV at hc
        obtain ⟨x, hx⟩ : ∃ x, ds[i] = x := ⟨_, rfl⟩
        rw [hx] at hc hd10
        have HX := Lib.hid hx
        clear hx
        by_cases h9 : x = 9
        · subst h9
          go_wp2
          refine ⟨⟨i, by omega, by go_num, ?_, ?_, HI9.out HX.out⟩, by simp [intOf] <;> omega⟩
          · have := HPUT.out 0
            rw [zfrom_zero ds i hlt] at this
            exact this
          · exact HB.out.setCell hbg _
        · have hres := HN9.out (by rw [HX.out]; exact h9)
          have HRES := Lib.hid hres
          clear hres
          go_wp2
          go_returns
          rw [HRES.out]
          refine ⟨rfl, ?_, ?_⟩
          · have := HPUT.out (x + 1)
            rw [zfrom_set ds i (x + 1) hlt] at this
            rw [HX.out]
            exact this
          · exact HB.out.setCell hbg _

set_option maxHeartbeats 4000000 in
set_option maxRecDepth 100000 in
theorem rzeros_any (ds : List Nat) (hd : ∀ d ∈ ds, d < 10) (hn : ds.length ≤ 12) (base : Nat) (v : Value) (w : World) (hO : OwnF w base v (ds.map dV)) :
    Calls Tryd.prog 41 #[v] w fun e w' => e = .returned (.bool (ds.all fun d => d == 0)) ∧ w = w' := by
  obtain ⟨a, cap, hsh⟩ := hO.shape
  rw [List.length_map] at hsh
  have HC : Hid (∀ i, (h : i < ds.length) → ∃ g, a = some ⟨g, 0, none⟩ ∧ w.cell? ⟨g, i, none⟩ = some (.int .u8 ((48 + ds[i] : Nat) : Int))) := by
    intro i h
    obtain ⟨g, cap2, h1, h2, h3, h4, h5, h6⟩ := hO.form (by intro e; have := congrArg List.length e; rw [List.length_map, List.length_nil] at this; omega)
    rw [hsh] at h1
    simp only [Value.slice.injEq] at h1
    exact ⟨g, h1.1, h5 i _ (by rw [List.getElem?_map, List.getElem?_eq_getElem h]; rfl)⟩
  subst hsh
  have HD := Lib.hid hd
  clear hO hd
  go_enter Tryd.func41, Tryd.ntmps41
  go_wp2
  go_loop [3] (fun u => ∃ k : Nat, k ≤ ds.length ∧ u = .int .i64 k ∧ Hid ((ds.all fun d => d == 0) = ((ds.drop k).all fun d => d == 0))) (fun u => ds.length - (intOf u).toNat)
  case atStart => exact ⟨0, Nat.zero_le _, rfl, by show _ = _; simp⟩
  case round =>
    obtain ⟨k, hk, rfl, hall⟩ := hrel
    by_cases hlt : k < ds.length
    · obtain ⟨g, rfl, hc⟩ := HC.out k hlt
      have hd10 := HD.out (ds[k]) (List.getElem_mem hlt)
      have hdrop := List.drop_eq_getElem_cons hlt
      obtain ⟨x, hx⟩ : ∃ x, ds[k] = x := ⟨_, rfl⟩
      rw [hx] at hc hd10 hdrop
      have HDR := Lib.hid hdrop
      clear hdrop hx
      by_cases h0 : x = 0
      · subst h0
        go_wp2
        refine ⟨⟨k + 1, hlt, by go_num, ?_⟩, by simp [intOf]; omega⟩
        show _ = _
        rw [hall.out, HDR.out]; simp
      · have hres : (ds.all fun d => d == 0) = false := by rw [hall.out, HDR.out]; simp [h0]
        have HR := Lib.hid hres
        clear hres
        go_wp2
        go_returns
        exact ⟨by rw [HR.out]; rfl, rfl⟩
    · obtain rfl : k = ds.length := by omega
      have hres : (ds.all fun d => d == 0) = true := by rw [hall.out]; simp
      have HR := Lib.hid hres
      clear hres
      go_wp2
      go_returns
      exact ⟨by rw [HR.out]; rfl, rfl⟩
end Go.Proofs.YtjpegcaooamhfaaDoor
