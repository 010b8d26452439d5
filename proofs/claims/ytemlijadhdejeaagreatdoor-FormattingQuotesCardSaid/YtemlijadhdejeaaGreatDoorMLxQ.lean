/- Quote of the program and Quote of the reference: the literal of a string. -/
import Derived.Test.YtemlijadhdejeaaGreatDoorMOwn
import Derived.Test.YtemlijadhdejeaaGreatDoorMLxP
namespace Go.Proofs.YtemlijadhdejeaaGreatDoor
open Go.RowKit Go.Instr
set_option linter.unusedVariables false

theorem byte_info : (Tryz.prog.info? 5).map (fun i => (i.zero, i.size, i.bytes)) = some (some (.int .u8 0), 1, 1) := by kernel_rfl
theorem qc_nl {c : UInt8} (h : c.toNat = 10) : u8s (quoteC c) = [.int .u8 92, .int .u8 110] := by unfold quoteC; rw [if_pos h]; rfl
theorem qc_tab {c : UInt8} (h0 : ¬ c.toNat = 10) (h : c.toNat = 9) : u8s (quoteC c) = [.int .u8 92, .int .u8 116] := by unfold quoteC; rw [if_neg h0, if_pos h]; rfl
theorem qc_esc {c : UInt8} (h0 : ¬ c.toNat = 10) (h1 : ¬ c.toNat = 9) (h : c.toNat = 92 ∨ c.toNat = 34) : u8s (quoteC c) = [.int .u8 92, .int .u8 c.toNat] := by unfold quoteC; rw [if_neg h0, if_neg h1, if_pos h]; rfl
theorem qc_num {c : UInt8} (h0 : ¬ c.toNat = 10) (h1 : ¬ c.toNat = 9) (h2 : ¬ (c.toNat = 92 ∨ c.toNat = 34)) (h : c.toNat < 32 ∨ 126 < c.toNat) :
    u8s (quoteC c) = [.int .u8 92, .int .u8 (48 + (c.toNat : Int) / 100), .int .u8 (48 + (c.toNat : Int) / 10 % 10), .int .u8 (48 + (c.toNat : Int) % 10)] := by
  have hc := UInt8.toNat_lt c
  unfold quoteC
  rw [if_neg h0, if_neg h1, if_neg h2, if_pos h]
  have e : ∀ n : Nat, n < 256 → ((UInt8.ofNat n).toNat : Int) = (n : Int) := fun n hn => by rw [UInt8.toNat_ofNat']; omega
  simp only [u8s, List.map_cons, List.map_nil]
  rw [e _ (by omega), e _ (by omega), e _ (by omega)]
  rfl
theorem qc_any {c : UInt8} (h0 : ¬ c.toNat = 10) (h1 : ¬ c.toNat = 9) (h2 : ¬ (c.toNat = 92 ∨ c.toNat = 34)) (h : ¬ (c.toNat < 32 ∨ 126 < c.toNat)) : u8s (quoteC c) = [.int .u8 c.toNat] := by
  unfold quoteC; rw [if_neg h0, if_neg h1, if_neg h2, if_neg h]; rfl
theorem qm_step (s : ByteArray) (k : Nat) (h : k < s.size) : u8s (34 :: quoteM (s.data.toList.take (k + 1))) = u8s (34 :: quoteM (s.data.toList.take k)) ++ u8s (quoteC (s[k]'h)) := by
  have e : s.data.toList.take (k + 1) = s.data.toList.take k ++ [s[k]'h] := by rw [List.take_succ_eq_append_getElem (by simpa using h)]; rfl
  rw [e, quoteM_snoc, ← List.cons_append, u8s_app]

set_option maxHeartbeats 8000000 in
set_option maxRecDepth 100000 in
theorem rquote_any (s : ByteArray) (w : World) (hs : s.size ≤ 1000000) :
    Calls Tryz.prog 19 #[.string s] w fun e w' => e = .returned (.string (mkS (quoteL s.data.toList))) ∧ Below w.heap.size w w' := by
  obtain ⟨i0, hi1, hz0, hz1, hz2⟩ := info_parts byte_info
  go_enter Tryz.func19, Tryz.ntmps19
  go_wp2_with fail
  go_loopw [3, 4] (fun v i wr => ∃ k : Nat, k ≤ s.size ∧ i = .int .i64 k ∧ Hid (Buf w w.heap.size 5 v (u8s (34 :: quoteM (s.data.toList.take k))) wr)) (fun _ i _ => s.size - (intOf i).toNat)
  case atStart => exact ⟨0, Nat.zero_le _, rfl, Buf.lit w w w.heap.size _ [.int .u8 34] (Below.refl _ _) (Nat.le_refl _) (by decide)⟩
  case round =>
    obtain ⟨k, hk, rfl, HB⟩ := hrel
    have hln : (u8s (34 :: quoteM (s.data.toList.take k))).length ≤ 4000001 := by
      have h1 := quoteM_len (s.data.toList.take k)
      rw [u8s_len, List.length_cons]
      rw [List.length_take] at h1
      omega
    by_cases hlt : k < s.size
    · have HS := Lib.hid (qm_step s k hlt)
      obtain ⟨c, hc⟩ : ∃ c, s[k]'hlt = c := ⟨_, rfl⟩
      rw [hc] at HS
      obtain ⟨xs, hxs⟩ : ∃ xs, u8s (34 :: quoteM (s.data.toList.take k)) = xs := ⟨_, rfl⟩
      rw [hxs] at HS HB hln
      clear hxs
      have hc0 := UInt8.toNat_lt c
      by_cases h10 : c.toNat = 10
      · have HQ := Lib.hid (qc_nl h10)
        have b10 : ((c.toNat : Int) == 10) = true := by simp; omega
        clear h10
        go_wp2_with (first | (at_builtin; (first | (refine wp_bufS rfl _ _ 52 9 rfl 5 i0 Tryz.underlying52 Tryz.underlying9 hi1 hz0 hz1 hz2 w w.heap.size _ xs HB.out rfl _ rfl ?_ ?_ ?_; (focus (unfold maxLen; first | omega | (simp [ByteArray.size]; omega))); (focus (first | omega | (simp [ByteArray.size]; omega))); intro v' w' hb' _) | (refine wp_lit rfl _ _ 52 rfl 5 i0 (.int .u8 0) 1 Tryz.underlying52 hi1 hz0 hz1 hz2 rfl w w.heap.size _ xs HB.out rfl ?_ ?_ ?_ ?_ ?_; (focus exact ⟨_, _, rfl, by first | rfl | simp⟩); (focus (simp [Value.oneCell'])); (focus (unfold maxLen; (try simp); omega)); (focus ((try simp); omega)); intro v' w' hb'))))
        refine ⟨⟨k + 1, by omega, by go_num, ?_⟩, by simp [intOf]; omega⟩
        show Buf _ _ _ _ _ _
        exact hb'.eq (by rw [HS.out, HQ.out] <;> rfl)
      · have b10 : ((c.toNat : Int) == 10) = false := by simp; omega
        by_cases h9 : c.toNat = 9
        · have HQ := Lib.hid (qc_tab h10 h9)
          have b9 : ((c.toNat : Int) == 9) = true := by simp; omega
          clear h10 h9
          go_wp2_with (first | (at_builtin; (first | (refine wp_bufS rfl _ _ 52 9 rfl 5 i0 Tryz.underlying52 Tryz.underlying9 hi1 hz0 hz1 hz2 w w.heap.size _ xs HB.out rfl _ rfl ?_ ?_ ?_; (focus (unfold maxLen; first | omega | (simp [ByteArray.size]; omega))); (focus (first | omega | (simp [ByteArray.size]; omega))); intro v' w' hb' _) | (refine wp_lit rfl _ _ 52 rfl 5 i0 (.int .u8 0) 1 Tryz.underlying52 hi1 hz0 hz1 hz2 rfl w w.heap.size _ xs HB.out rfl ?_ ?_ ?_ ?_ ?_; (focus exact ⟨_, _, rfl, by first | rfl | simp⟩); (focus (simp [Value.oneCell'])); (focus (unfold maxLen; (try simp); omega)); (focus ((try simp); omega)); intro v' w' hb'))))
          refine ⟨⟨k + 1, by omega, by go_num, ?_⟩, by simp [intOf]; omega⟩
          show Buf _ _ _ _ _ _
          exact hb'.eq (by rw [HS.out, HQ.out] <;> rfl)
        · have b9 : ((c.toNat : Int) == 9) = false := by simp; omega
          by_cases h92 : c.toNat = 92
          · have HQ := Lib.hid (qc_esc h10 h9 (.inl h92))
            have b92 : ((c.toNat : Int) == 92) = true := by simp; omega
            clear h10 h9 h92
            go_wp2_with (first | (at_builtin; (first | (refine wp_bufS rfl _ _ 52 9 rfl 5 i0 Tryz.underlying52 Tryz.underlying9 hi1 hz0 hz1 hz2 w w.heap.size _ xs HB.out rfl _ rfl ?_ ?_ ?_; (focus (unfold maxLen; first | omega | (simp [ByteArray.size]; omega))); (focus (first | omega | (simp [ByteArray.size]; omega))); intro v' w' hb' _) | (refine wp_lit rfl _ _ 52 rfl 5 i0 (.int .u8 0) 1 Tryz.underlying52 hi1 hz0 hz1 hz2 rfl w w.heap.size _ xs HB.out rfl ?_ ?_ ?_ ?_ ?_; (focus exact ⟨_, _, rfl, by first | rfl | simp⟩); (focus (simp [Value.oneCell'])); (focus (unfold maxLen; (try simp); omega)); (focus ((try simp); omega)); intro v' w' hb'))))
            refine ⟨⟨k + 1, by omega, by go_num, ?_⟩, by simp [intOf]; omega⟩
            show Buf _ _ _ _ _ _
            exact hb'.eq (by rw [HS.out, HQ.out] <;> rfl)
          · have b92 : ((c.toNat : Int) == 92) = false := by simp; omega
            by_cases h34 : c.toNat = 34
            · have HQ := Lib.hid (qc_esc h10 h9 (.inr h34))
              have b34 : ((c.toNat : Int) == 34) = true := by simp; omega
              clear h10 h9 h92 h34
              go_wp2_with (first | (at_builtin; (first | (refine wp_bufS rfl _ _ 52 9 rfl 5 i0 Tryz.underlying52 Tryz.underlying9 hi1 hz0 hz1 hz2 w w.heap.size _ xs HB.out rfl _ rfl ?_ ?_ ?_; (focus (unfold maxLen; first | omega | (simp [ByteArray.size]; omega))); (focus (first | omega | (simp [ByteArray.size]; omega))); intro v' w' hb' _) | (refine wp_lit rfl _ _ 52 rfl 5 i0 (.int .u8 0) 1 Tryz.underlying52 hi1 hz0 hz1 hz2 rfl w w.heap.size _ xs HB.out rfl ?_ ?_ ?_ ?_ ?_; (focus exact ⟨_, _, rfl, by first | rfl | simp⟩); (focus (simp [Value.oneCell'])); (focus (unfold maxLen; (try simp); omega)); (focus ((try simp); omega)); intro v' w' hb'))))
              refine ⟨⟨k + 1, by omega, by go_num, ?_⟩, by simp [intOf]; omega⟩
              show Buf _ _ _ _ _ _
              exact hb'.eq (by rw [HS.out, HQ.out] <;> rfl)
            · have b34 : ((c.toNat : Int) == 34) = false := by simp; omega
              have h2 : ¬ (c.toNat = 92 ∨ c.toNat = 34) := by omega
              by_cases hlo : c.toNat < 32
              · have HQ := Lib.hid (qc_num h10 h9 h2 (.inl hlo))
                have d1 : decide ((c.toNat : Int) < 32) = true := by simp; omega
                clear h10 h9 h92 h34 h2 hlo
                go_wp2_with (first | (at_builtin; (first | (refine wp_bufS rfl _ _ 52 9 rfl 5 i0 Tryz.underlying52 Tryz.underlying9 hi1 hz0 hz1 hz2 w w.heap.size _ xs HB.out rfl _ rfl ?_ ?_ ?_; (focus (unfold maxLen; first | omega | (simp [ByteArray.size]; omega))); (focus (first | omega | (simp [ByteArray.size]; omega))); intro v' w' hb' _) | (refine wp_lit rfl _ _ 52 rfl 5 i0 (.int .u8 0) 1 Tryz.underlying52 hi1 hz0 hz1 hz2 rfl w w.heap.size _ xs HB.out rfl ?_ ?_ ?_ ?_ ?_; (focus exact ⟨_, _, rfl, by first | rfl | simp⟩); (focus (simp [Value.oneCell'])); (focus (unfold maxLen; (try simp); omega)); (focus ((try simp); omega)); intro v' w' hb'))))
                refine ⟨⟨k + 1, by omega, by go_num, ?_⟩, by simp [intOf]; omega⟩
                show Buf _ _ _ _ _ _
                exact hb'.eq (by rw [HS.out, HQ.out] <;> rfl)
              · have d1 : decide ((c.toNat : Int) < 32) = false := by simp; omega
                by_cases hhi : 126 < c.toNat
                · have HQ := Lib.hid (qc_num h10 h9 h2 (.inr hhi))
                  have d2 : decide (126 < (c.toNat : Int)) = true := by simp; omega
                  clear h10 h9 h92 h34 h2 hlo hhi
                  go_wp2_with (first | (at_builtin; (first | (refine wp_bufS rfl _ _ 52 9 rfl 5 i0 Tryz.underlying52 Tryz.underlying9 hi1 hz0 hz1 hz2 w w.heap.size _ xs HB.out rfl _ rfl ?_ ?_ ?_; (focus (unfold maxLen; first | omega | (simp [ByteArray.size]; omega))); (focus (first | omega | (simp [ByteArray.size]; omega))); intro v' w' hb' _) | (refine wp_lit rfl _ _ 52 rfl 5 i0 (.int .u8 0) 1 Tryz.underlying52 hi1 hz0 hz1 hz2 rfl w w.heap.size _ xs HB.out rfl ?_ ?_ ?_ ?_ ?_; (focus exact ⟨_, _, rfl, by first | rfl | simp⟩); (focus (simp [Value.oneCell'])); (focus (unfold maxLen; (try simp); omega)); (focus ((try simp); omega)); intro v' w' hb'))))
                  refine ⟨⟨k + 1, by omega, by go_num, ?_⟩, by simp [intOf]; omega⟩
                  show Buf _ _ _ _ _ _
                  exact hb'.eq (by rw [HS.out, HQ.out] <;> rfl)
                · have HQ := Lib.hid (qc_any h10 h9 h2 (by omega))
                  have d2 : decide (126 < (c.toNat : Int)) = false := by simp; omega
                  clear h10 h9 h92 h34 h2 hlo hhi
                  go_wp2_with (first | (at_builtin; (first | (refine wp_bufS rfl _ _ 52 9 rfl 5 i0 Tryz.underlying52 Tryz.underlying9 hi1 hz0 hz1 hz2 w w.heap.size _ xs HB.out rfl _ rfl ?_ ?_ ?_; (focus (unfold maxLen; first | omega | (simp [ByteArray.size]; omega))); (focus (first | omega | (simp [ByteArray.size]; omega))); intro v' w' hb' _) | (refine wp_lit rfl _ _ 52 rfl 5 i0 (.int .u8 0) 1 Tryz.underlying52 hi1 hz0 hz1 hz2 rfl w w.heap.size _ xs HB.out rfl ?_ ?_ ?_ ?_ ?_; (focus exact ⟨_, _, rfl, by first | rfl | simp⟩); (focus (simp [Value.oneCell'])); (focus (unfold maxLen; (try simp); omega)); (focus ((try simp); omega)); intro v' w' hb'))))
                  refine ⟨⟨k + 1, by omega, by go_num, ?_⟩, by simp [intOf]; omega⟩
                  show Buf _ _ _ _ _ _
                  exact hb'.eq (by rw [HS.out, HQ.out] <;> rfl)
    · obtain rfl : k = s.size := by omega
      have HT : Hid (u8s (34 :: quoteM (s.data.toList.take s.size)) ++ [.int .u8 34] = u8s (quoteL s.data.toList)) := by
        show _ = _
        rw [List.take_of_length_le (by simp)]
        unfold quoteL
        rw [← List.cons_append, u8s_app]
        rfl
      obtain ⟨xs, hxs⟩ : ∃ xs, u8s (34 :: quoteM (s.data.toList.take s.size)) = xs := ⟨_, rfl⟩
      rw [hxs] at HB hln HT
      clear hxs
      go_wp2_with (first | (at_builtin; (first | (refine wp_bufS rfl _ _ 52 9 rfl 5 i0 Tryz.underlying52 Tryz.underlying9 hi1 hz0 hz1 hz2 w w.heap.size _ xs HB.out rfl _ rfl ?_ ?_ ?_; (focus (unfold maxLen; first | omega | (simp [ByteArray.size]; omega))); (focus (first | omega | (simp [ByteArray.size]; omega))); intro v' w' hb' _) | (refine wp_lit rfl _ _ 52 rfl 5 i0 (.int .u8 0) 1 Tryz.underlying52 hi1 hz0 hz1 hz2 rfl w w.heap.size _ xs HB.out rfl ?_ ?_ ?_ ?_ ?_; (focus exact ⟨_, _, rfl, by first | rfl | simp⟩); (focus (simp [Value.oneCell'])); (focus (unfold maxLen; (try simp); omega)); (focus ((try simp); omega)); intro v' w' hb')); have HB2 := Lib.hid (hb'.eq HT.out); have hcv := HB2.out.str (by unfold quoteL; simp) 52 9 Tryz.underlying52 Tryz.underlying5 Tryz.underlying9; clear hb'))
      go_returns
      exact ⟨rfl, HB2.out.2.1⟩
end Go.Proofs.YtemlijadhdejeaaGreatDoor
