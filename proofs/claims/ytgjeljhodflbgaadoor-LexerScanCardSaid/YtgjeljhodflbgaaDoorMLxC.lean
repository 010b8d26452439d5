/- The lexer's keywords and names; the tokens that are words. -/
import Derived.Test.YtgjeljhodflbgaaDoorMLxW5
namespace Go.Proofs.YtgjeljhodflbgaaDoor
open Go.RowKit Go.Instr
set_option linter.unusedVariables false

set_option maxHeartbeats 1000000 in
theorem key_yes (s : ByteArray) (h : keyB s.data.toList = true) (w : World) : Calls Tryd.prog 16 #[.string s] w fun e w' => e = .returned (.bool true) ∧ w = w' := by
  have hs : s.toList = s.data.toList := Lib.toList_data s
  unfold keyB at h
  rw [List.contains_iff_mem] at h
  obtain ⟨l, hl⟩ : ∃ l, s.data.toList = l := ⟨_, rfl⟩
  rw [hl] at h hs
  have HS := Lib.hid hl
  clear hl
  unfold keys at h
  simp only [List.mem_cons, List.not_mem_nil, or_false] at h
  rcases h with rfl | rfl | rfl | rfl | rfl | rfl | rfl | rfl | rfl | rfl | rfl | rfl | rfl | rfl | rfl | rfl | rfl | rfl | rfl | rfl | rfl | rfl
  all_goals
    go_enter Tryd.func16, Tryd.ntmps16
    go_wp2
    go_returns
    exact ⟨rfl, rfl⟩
set_option maxHeartbeats 1000000 in
theorem key_no (s : ByteArray) (h : keyB s.data.toList = false) (w : World) : Calls Tryd.prog 16 #[.string s] w fun e w' => e = .returned (.bool false) ∧ w = w' := by
  have hs : s.toList = s.data.toList := Lib.toList_data s
  unfold keyB keys at h
  simp only [List.contains_cons, List.contains_nil, Bool.or_false, Bool.or_eq_false_iff] at h
  rw [← hs] at h
  obtain ⟨k0, k1, k2, k3, k4, k5, k6, k7, k8, k9, k10, k11, k12, k13, k14, k15, k16, k17, k18, k19, k20, k21⟩ := h
  clear hs
  go_enter Tryd.func16, Tryd.ntmps16
  go_wp2
  go_returns
  exact ⟨rfl, rfl⟩
end Go.Proofs.YtgjeljhodflbgaaDoor

/- The lexer's tokens that are words. -/
namespace Go.Proofs.YtgjeljhodflbgaaDoor
open Go.RowKit Go.Instr
set_option linter.unusedVariables false

/-- What a token that is read leaves of the scanner. -/
def TokDid (w : World) (X : Nat) (s : ByteArray) (i ln : Nat) (l : List Tk) (t : TokR) : Prop := (t.e = 0 → Sc w X s (i + t.n) ln (l ++ [⟨t.k, t.x, ln, i⟩])) ∧ (t.e ≠ 0 → Sc w X s i ln l)
theorem TokDid.ok {w : World} {X : Nat} {s : ByteArray} {i ln en : Nat} {l : List Tk} {t : TokR} {k : Int} {x : List UInt8} (h : Sc w X s en ln (l ++ [⟨k, x, ln, i⟩])) (h1 : t.k = k) (h2 : t.x = x) (h3 : i + t.n = en) (h0 : t.e = 0) : TokDid w X s i ln l t :=
  ⟨fun _ => by rw [h1, h2, h3]; exact h, fun h => absurd h0 h⟩
theorem TokDid.err {w : World} {X : Nat} {s : ByteArray} {i ln : Nat} {l : List Tk} {t : TokR} (h : Sc w X s i ln l) (h0 : t.e ≠ 0) : TokDid w X s i ln l t :=
  ⟨fun h1 => absurd h1 h0, fun _ => h⟩
theorem ext_take (s : ByteArray) (i n : Nat) (h : i + n ≤ s.size) : (s.extract i (i + n)).data.toList = (s.data.toList.drop i).take n := by
  rw [Lib.extract_data, Nat.add_sub_cancel_left]
theorem ext_size (s : ByteArray) (i n : Nat) (h : i + n ≤ s.size) : (s.extract i (i + n)).size = n := by
  rw [ByteArray.size_extract]; omega

set_option maxHeartbeats 4000000 in
set_option maxRecDepth 100000 in
theorem word_any (X : Nat) (s : ByteArray) (i ln : Nat) (l : List Tk) (w : World) (hi : i < s.size) (hs : s.size ≤ 1000000000) (hn : l.length ≤ 1000000) (h : Sc w X s i ln l) :
    Calls Tryd.prog 46 #[.pointer (some ⟨X, 0, none⟩)] w fun e w' => e = .returned (.int .i64 (wordT (s.data.toList.drop i)).e) ∧ TokDid w' X s i ln l (wordT (s.data.toList.drop i)) ∧ Below X w w' := by
  have H := Lib.hid h
  obtain ⟨c0, c1, c2, f1, f2, f3⟩ := h.cells
  have hX := h.lt
  clear h
  have hspn : spanN wordB (s.data.toList.drop i) ≤ s.size - i := by have := spanN_le wordB (s.data.toList.drop i); simpa using this
  obtain ⟨n, hnn⟩ : ∃ n, spanN wordB (s.data.toList.drop i) = n := ⟨_, rfl⟩
  rw [hnn] at hspn
  have HSP : Hid (spanI wordB s i = i + n) := by show _ = _; unfold spanI; rw [hnn]
  have HX := Lib.hid (ext_take s i n (by omega))
  have hxs : (s.extract i (i + n)).size = n := ext_size s i n (by omega)
  have HW : Hid (wordT (s.data.toList.drop i) = if 40 < n then errR 3 else ⟨0, if keyB ((s.data.toList.drop i).take n) then 2 else 1, (s.data.toList.drop i).take n, n⟩) := by show _ = _; unfold wordT; rw [hnn]
  have HA : Hid (∀ (k : Int) (w : World), Sc w X s i ln l → Calls Tryd.prog 63 #[.pointer (some ⟨X, 0, none⟩), .int .i64 k, .string (s.extract i (i + n)), .int .i64 ((i : Int) + (n : Int))] w fun e w' => e = .returned (.tuple #[]) ∧ Sc w' X s (i + n) ln (l ++ [⟨k, (s.extract i (i + n)).data.toList, ln, i⟩]) ∧ Below X w w') := fun k w h => addTk_any X s (s.extract i (i + n)) i ln (i + n) k l w hn h
  have hin0 : (0 : Int) ≤ (i : Int) + (n : Int) := by omega
  have hin1 : (i : Int) ≤ (i : Int) + (n : Int) := by omega
  have hin2 : (i : Int) + (n : Int) ≤ (s.size : Int) := by omega
  have hin3 : ((i : Int) + (n : Int)).toNat = i + n := by omega
  clear hnn
  by_cases h40 : 40 < n
  · have HW2 : Hid (wordT (s.data.toList.drop i) = errR 3) := by show _ = _; rw [HW.out, if_pos h40]
    go_enter Tryd.func46, Tryd.ntmps46
    go_wp2_with fail
    go_region_held3 (fun w' => w'.cell? ⟨X, 0, none⟩ = some (.string s) ∧ w'.cell? ⟨X, 1, none⟩ = some (.int .i64 i))
      (first | go_keep | exact ⟨(hbA.cell (p := ⟨X, 0, none⟩) (by simp; omega)).trans (by simpa using c0), (hbA.cell (p := ⟨X, 1, none⟩) (by simp; omega)).trans (by simpa using c1)⟩ | exact ⟨(hbB.cell (p := ⟨X, 0, none⟩) hXA).trans ((hbA.cell (p := ⟨X, 0, none⟩) (by simp; omega)).trans (by simpa using c0)), (hbB.cell (p := ⟨X, 1, none⟩) hXA).trans ((hbA.cell (p := ⟨X, 1, none⟩) (by simp; omega)).trans (by simpa using c1))⟩)
      (first | (go_at_call 32; (with_reducible refine (wordBytes_any _).mono ?_); rintro e wA ⟨⟨v1, rfl, hv1⟩, hbA⟩; have HV1 := Lib.hid hv1; clear hv1; have hXA : X < wA.heap.size := by (have h0 := hbA.size; simp at h0; omega)) | (go_at_call 31; (with_reducible refine (span_any s i _ wordB _ (by omega) (by omega) HV1.out).mono ?_); rintro e wB ⟨rfl, hbB⟩))
    have BB : Hid (Below w.heap.size w wB) := by
      have h0 := hbA.size
      have h1 : Below w.heap.size w wA := (Below.refl _ _).drew.trans (hbA.mono (by simp))
      exact h1.trans (hbB.mono h1.size)
    have HS := Lib.hid (H.out.later BB.out)
    obtain ⟨d0, d1, d2, g1, g2, g3⟩ := HS.out.cells
    rw [show ((spanI wordB s i : Nat) : Int) = (i : Int) + (n : Int) by rw [HSP.out]; omega]
    clear hbA hbB HV1
    go_wp2
    go_quiet (fail)
    go_wp2
    go_returns
    refine ⟨by rw [HW2.out]; rfl, TokDid.err ?_ (by rw [HW2.out]; decide), ?_⟩
    · exact HS.out.later (Go.below_drewN (Below.refl _ _) _)
    · have h0 := BB.out.mono (Nat.le_of_lt hX)
      (repeat' (first | (with_reducible exact Below.refl _ _) | (with_reducible assumption) | (with_reducible refine Below.alloc ?_ ?_ _) | (with_reducible refine Go.below_drewN ?_ _) | (with_reducible refine Below.drew ?_) | (with_reducible refine Below.setCell ?_ ?_ _) | (with_reducible refine below_via (by assumption) ?_ ?_) | (with_reducible refine below_via (later_below _) ?_ ?_) | (with_reducible exact Nat.le_refl _) | omega | (simp; omega) | (simp; done)))
  · cases hk : keyB ((s.data.toList.drop i).take n)
    · have HW2 : Hid (wordT (s.data.toList.drop i) = ⟨0, 1, (s.data.toList.drop i).take n, n⟩) := by show _ = _; rw [HW.out, if_neg h40, hk]; rfl
      have HK := Lib.hid (key_no (s.extract i (i + n)) (by rw [HX.out]; exact hk))
      clear hk
      go_enter Tryd.func46, Tryd.ntmps46
      go_wp2_with fail
      go_region_held3 (fun w' => w'.cell? ⟨X, 0, none⟩ = some (.string s) ∧ w'.cell? ⟨X, 1, none⟩ = some (.int .i64 i))
        (first | go_keep | exact ⟨(hbA.cell (p := ⟨X, 0, none⟩) (by simp; omega)).trans (by simpa using c0), (hbA.cell (p := ⟨X, 1, none⟩) (by simp; omega)).trans (by simpa using c1)⟩ | exact ⟨(hbB.cell (p := ⟨X, 0, none⟩) hXA).trans ((hbA.cell (p := ⟨X, 0, none⟩) (by simp; omega)).trans (by simpa using c0)), (hbB.cell (p := ⟨X, 1, none⟩) hXA).trans ((hbA.cell (p := ⟨X, 1, none⟩) (by simp; omega)).trans (by simpa using c1))⟩)
        (first | (go_at_call 32; (with_reducible refine (wordBytes_any _).mono ?_); rintro e wA ⟨⟨v1, rfl, hv1⟩, hbA⟩; have HV1 := Lib.hid hv1; clear hv1; have hXA : X < wA.heap.size := by (have h0 := hbA.size; simp at h0; omega)) | (go_at_call 31; (with_reducible refine (span_any s i _ wordB _ (by omega) (by omega) HV1.out).mono ?_); rintro e wB ⟨rfl, hbB⟩))
      have BB : Hid (Below w.heap.size w wB) := by
        have h0 := hbA.size
        have h1 : Below w.heap.size w wA := (Below.refl _ _).drew.trans (hbA.mono (by simp))
        exact h1.trans (hbB.mono h1.size)
      have HS := Lib.hid (H.out.later BB.out)
      obtain ⟨d0, d1, d2, g1, g2, g3⟩ := HS.out.cells
      rw [show ((spanI wordB s i : Nat) : Int) = (i : Int) + (n : Int) by rw [HSP.out]; omega]
      clear hbA hbB HV1
      go_wp2
      go_quiet (fail)
      go_wp2_with (first | (go_at_call 16; (with_reducible refine (HK.out _).mono ?_); rintro e w8 ⟨rfl, rfl⟩) | (go_at_call 63; (with_reducible refine (HA.out 1 _ (HS.out.later (Go.below_drewN (Below.refl _ _) _))).mono ?_); rintro e w9 ⟨rfl, hsc, hb9⟩))
      go_returns
      refine ⟨by rw [HW2.out]; rfl, TokDid.ok hsc (by rw [HW2.out]) (by rw [HW2.out, HX.out]) (by rw [HW2.out]) (by rw [HW2.out]), ?_⟩
      have h0 := BB.out.mono (Nat.le_of_lt hX)
      refine Below.trans ?_ hb9
      (repeat' (first | (with_reducible exact Below.refl _ _) | (with_reducible assumption) | (with_reducible refine Below.alloc ?_ ?_ _) | (with_reducible refine Go.below_drewN ?_ _) | (with_reducible refine Below.drew ?_) | (with_reducible refine Below.setCell ?_ ?_ _) | (with_reducible refine below_via (by assumption) ?_ ?_) | (with_reducible refine below_via (later_below _) ?_ ?_) | (with_reducible exact Nat.le_refl _) | omega | (simp; omega) | (simp; done)))
    · have HW2 : Hid (wordT (s.data.toList.drop i) = ⟨0, 2, (s.data.toList.drop i).take n, n⟩) := by show _ = _; rw [HW.out, if_neg h40, hk]; rfl
      have HK := Lib.hid (key_yes (s.extract i (i + n)) (by rw [HX.out]; exact hk))
      clear hk
      go_enter Tryd.func46, Tryd.ntmps46
      go_wp2_with fail
      go_region_held3 (fun w' => w'.cell? ⟨X, 0, none⟩ = some (.string s) ∧ w'.cell? ⟨X, 1, none⟩ = some (.int .i64 i))
        (first | go_keep | exact ⟨(hbA.cell (p := ⟨X, 0, none⟩) (by simp; omega)).trans (by simpa using c0), (hbA.cell (p := ⟨X, 1, none⟩) (by simp; omega)).trans (by simpa using c1)⟩ | exact ⟨(hbB.cell (p := ⟨X, 0, none⟩) hXA).trans ((hbA.cell (p := ⟨X, 0, none⟩) (by simp; omega)).trans (by simpa using c0)), (hbB.cell (p := ⟨X, 1, none⟩) hXA).trans ((hbA.cell (p := ⟨X, 1, none⟩) (by simp; omega)).trans (by simpa using c1))⟩)
        (first | (go_at_call 32; (with_reducible refine (wordBytes_any _).mono ?_); rintro e wA ⟨⟨v1, rfl, hv1⟩, hbA⟩; have HV1 := Lib.hid hv1; clear hv1; have hXA : X < wA.heap.size := by (have h0 := hbA.size; simp at h0; omega)) | (go_at_call 31; (with_reducible refine (span_any s i _ wordB _ (by omega) (by omega) HV1.out).mono ?_); rintro e wB ⟨rfl, hbB⟩))
      have BB : Hid (Below w.heap.size w wB) := by
        have h0 := hbA.size
        have h1 : Below w.heap.size w wA := (Below.refl _ _).drew.trans (hbA.mono (by simp))
        exact h1.trans (hbB.mono h1.size)
      have HS := Lib.hid (H.out.later BB.out)
      obtain ⟨d0, d1, d2, g1, g2, g3⟩ := HS.out.cells
      rw [show ((spanI wordB s i : Nat) : Int) = (i : Int) + (n : Int) by rw [HSP.out]; omega]
      clear hbA hbB HV1
      go_wp2
      go_quiet (fail)
      go_wp2_with (first | (go_at_call 16; (with_reducible refine (HK.out _).mono ?_); rintro e w8 ⟨rfl, rfl⟩) | (go_at_call 63; (with_reducible refine (HA.out 2 _ (HS.out.later (Go.below_drewN (Below.refl _ _) _))).mono ?_); rintro e w9 ⟨rfl, hsc, hb9⟩))
      go_returns
      refine ⟨by rw [HW2.out]; rfl, TokDid.ok hsc (by rw [HW2.out]) (by rw [HW2.out, HX.out]) (by rw [HW2.out]) (by rw [HW2.out]), ?_⟩
      have h0 := BB.out.mono (Nat.le_of_lt hX)
      refine Below.trans ?_ hb9
      (repeat' (first | (with_reducible exact Below.refl _ _) | (with_reducible assumption) | (with_reducible refine Below.alloc ?_ ?_ _) | (with_reducible refine Go.below_drewN ?_ _) | (with_reducible refine Below.drew ?_) | (with_reducible refine Below.setCell ?_ ?_ _) | (with_reducible refine below_via (by assumption) ?_ ?_) | (with_reducible refine below_via (later_below _) ?_ ?_) | (with_reducible exact Nat.le_refl _) | omega | (simp; omega) | (simp; done)))
end Go.Proofs.YtgjeljhodflbgaaDoor

/- The lexer's values of digits; escapes. -/
namespace Go.Proofs.YtgjeljhodflbgaaDoor
open Go.RowKit Go.Instr
set_option linter.unusedVariables false

theorem hexV_bd (c : UInt8) : hexV c ≤ 168 := by
  have := UInt8.toNat_lt c
  unfold hexV
  repeat' split
  all_goals omega
theorem step_bd {n N b d : Nat} (hn : n ≤ N) (hb : b ≤ 16) (hd : d ≤ 168) : n * b + d ≤ N * 16 + 168 := by
  have := Nat.mul_le_mul hn hb
  omega
theorem valN_snoc (b : Nat) (l : List UInt8) (c : UInt8) : valN b (l ++ [c]) = valN b l * b + hexV c := by unfold valN; rw [List.foldl_append]; rfl
theorem valN_bd {b : Nat} (hb : b ≤ 16) {l : List UInt8} (h : l.length ≤ 3) : valN b l ≤ 100000 := by
  match l, h with
  | [], _ => exact Nat.zero_le _
  | [x], _ =>
    have := hexV_bd x
    show 0 * b + hexV x ≤ _
    omega
  | [x, y], _ =>
    have h1 : 0 * b + hexV x ≤ 168 := by have := hexV_bd x; omega
    have := step_bd h1 hb (hexV_bd y)
    show (0 * b + hexV x) * b + hexV y ≤ _
    omega
  | [x, y, z], _ =>
    have h1 : 0 * b + hexV x ≤ 168 := by have := hexV_bd x; omega
    have := step_bd (step_bd h1 hb (hexV_bd y)) hb (hexV_bd z)
    show ((0 * b + hexV x) * b + hexV y) * b + hexV z ≤ _
    omega
  | x :: y :: z :: u :: l, h => simp at h
theorem take_get (s : ByteArray) (k : Nat) (h : k < s.size) : s.data.toList.take (k + 1) = s.data.toList.take k ++ [s[k]'h] := by
  rw [List.take_succ_eq_append_getElem (by simpa using h)]; rfl

set_option maxHeartbeats 2000000 in
theorem value_any (s : ByteArray) (b : Nat) (w : World) (hs : s.size ≤ 3) (hb : b ≤ 16) (hd : ∀ c ∈ s.data.toList, 48 ≤ c.toNat ∧ c.toNat ≤ 102) :
    Calls Tryd.prog 84 #[.string s, .int .i64 b] w fun e w' => e = .returned (.int .i64 (valN b s.data.toList)) ∧ w = w' := by
  have HD := Lib.hid hd
  clear hd
  go_enter Tryd.func84, Tryd.ntmps84
  go_wp2_with fail
  go_loop [5, 6, 7] (fun n i _ => ∃ k : Nat, k ≤ s.size ∧ i = .int .i64 k ∧ n = .int .i64 (valN b (s.data.toList.take k))) (fun _ i _ => s.size - (intOf i).toNat)
  case atStart => exact ⟨0, Nat.zero_le _, rfl, rfl⟩
  case round =>
    obtain ⟨k, hk, rfl, rfl⟩ := hrel
    have hv : valN b (s.data.toList.take k) ≤ 100000 := valN_bd hb (by simp; omega)
    by_cases hlt : k < s.size
    · have hsn : Hid (valN b (s.data.toList.take (k + 1)) = valN b (s.data.toList.take k) * b + hexV (s[k]'hlt)) := by show _ = _; rw [take_get s k hlt, valN_snoc]
      obtain ⟨hd1, hd2⟩ := HD.out (s[k]'hlt) (List.getElem_mem (by simpa using hlt))
      obtain ⟨V, hV⟩ : ∃ V, valN b (s.data.toList.take k) = V := ⟨_, rfl⟩
      rw [hV] at hsn hv ⊢
      clear hV
      have hmul : V * b ≤ 1600000 := by have := Nat.mul_le_mul hv hb; omega
      have hmul2 : (V : Int) * (b : Int) = ((V * b : Nat) : Int) := by push_cast; rfl
      have hm0 : 0 ≤ (V : Int) * (b : Int) := by omega
      have hm1 : (V : Int) * (b : Int) ≤ 1600000 := by omega
      have HM := Lib.hid hmul2
      clear hmul2
      by_cases h97 : 97 ≤ (s[k]'hlt).toNat
      · go_wp2
        refine ⟨⟨k + 1, by omega, by go_num, ?_⟩, by simp [intOf]; omega⟩
        rw [hsn.out]
        congr 1
        have : hexV (s[k]'hlt) = (s[k]'hlt).toNat - 97 + 10 := by unfold hexV; rw [if_neg (by omega), if_neg (by omega)]
        rw [this, HM.out]
        omega
      · by_cases h65 : 65 ≤ (s[k]'hlt).toNat
        · go_wp2
          refine ⟨⟨k + 1, by omega, by go_num, ?_⟩, by simp [intOf]; omega⟩
          rw [hsn.out]
          congr 1
          have : hexV (s[k]'hlt) = (s[k]'hlt).toNat - 65 + 10 := by unfold hexV; rw [if_neg (by omega), if_pos (by omega)]
          rw [this, HM.out]
          omega
        · go_wp2
          refine ⟨⟨k + 1, by omega, by go_num, ?_⟩, by simp [intOf]; omega⟩
          rw [hsn.out]
          congr 1
          have : hexV (s[k]'hlt) = (s[k]'hlt).toNat - 48 := by unfold hexV; rw [if_pos (by omega)]
          rw [this, HM.out]
          omega
    · obtain rfl : k = s.size := by omega
      go_wp2
      go_returns
      exact ⟨ret_int (by rw [List.take_of_length_le (by simp)]), rfl⟩
end Go.Proofs.YtgjeljhodflbgaaDoor
