/- The reference's upper and Pad of a format. -/
import Derived.Test.YtemlijadhdejeaaGreatDoorMFmC
import Derived.Test.YtemlijadhdejeaaGreatDoorMFmB
import Derived.Test.YtemlijadhdejeaaGreatDoorMFmW9
namespace Go.Proofs.YtemlijadhdejeaaGreatDoor
open Go.RowKit Go.Instr
set_option linter.unusedVariables false

theorem upC_nat (c : UInt8) : (upC c).toNat = if 97 ≤ c.toNat ∧ c.toNat ≤ 122 then c.toNat - 32 else c.toNat := by
  have := (by decide +kernel : ∀ c : Fin 256, (upC (UInt8.ofNat c.val)).toNat = if 97 ≤ c.val ∧ c.val ≤ 122 then c.val - 32 else c.val) ⟨c.toNat, UInt8.toNat_lt c⟩
  simpa using this
theorem up_step (s : ByteArray) (k : Nat) (h : k < s.size) : u8s ((s.data.toList.take (k + 1)).map upC) = u8s ((s.data.toList.take k).map upC) ++ [.int .u8 (upC (s[k]'h)).toNat] := by
  have e : s.data.toList.take (k + 1) = s.data.toList.take k ++ [s[k]'h] := by rw [List.take_succ_eq_append_getElem (by simpa using h)]; rfl
  rw [e, List.map_append, u8s_app]; rfl
set_option maxHeartbeats 4000000 in
set_option maxRecDepth 100000 in
theorem rupper_any (s : ByteArray) (w : World) (hs : s.size ≤ 1000000) :
    Calls Tryz.prog 81 #[.string s] w fun e w' => e = .returned (.string (mkS (s.data.toList.map upC))) ∧ Below w.heap.size w w' := by
  obtain ⟨j0, hj0, hy0, hy1, hy2⟩ := info_parts byte_inf2
  go_enter Tryz.func81, Tryz.ntmps81
  go_wp2_with fail
  go_loopw [3, 4] (fun v i wr => ∃ k : Nat, k ≤ s.size ∧ i = .int .i64 k ∧ Hid (k = 0 → v = .slice none 0 0) ∧ Hid (Buf w w.heap.size 5 v (u8s ((s.data.toList.take k).map upC)) wr)) (fun _ i _ => s.size - (intOf i).toNat)
  case atStart => exact ⟨0, Nat.zero_le _, rfl, fun _ => rfl, Buf.nil _ _ _ _ (Below.refl _ _) (Nat.le_refl _)⟩
  case round =>
    obtain ⟨k, hk, rfl, HZ, HB⟩ := hrel
    have hln : (u8s ((s.data.toList.take k).map upC)).length ≤ 1000000 := by rw [u8s_len, List.length_map, List.length_take]; omega
    by_cases hlt : k < s.size
    · have HS := Lib.hid (up_step s k hlt)
      obtain ⟨c, hc⟩ : ∃ c, s[k]'hlt = c := ⟨_, rfl⟩
      rw [hc] at HS
      obtain ⟨xs, hxs⟩ : ∃ xs, u8s ((s.data.toList.take k).map upC) = xs := ⟨_, rfl⟩
      rw [hxs] at HS HB hln
      clear hxs
      have hc0 := UInt8.toNat_lt c
      have hU := upC_nat c
      by_cases h1 : 97 ≤ c.toNat
      · have d1 : decide ((97 : Int) ≤ (c.toNat : Int)) = true := by simp; omega
        by_cases h2 : c.toNat ≤ 122
        · have d2 : decide ((c.toNat : Int) ≤ 122) = true := by simp; omega
          rw [if_pos ⟨h1, h2⟩] at hU
          have HS2 : Hid (u8s ((s.data.toList.take (k + 1)).map upC) = xs ++ [.int .u8 ((c.toNat : Int) - 97 + 65)]) := by
            show _ = _
            rw [HS.out, hU, show ((c.toNat - 32 : Nat) : Int) = (c.toNat : Int) - 97 + 65 by omega]
          have z1 : (97 : Int) ≤ (c.toNat : Int) := by omega
          have z2 : (c.toNat : Int) ≤ 122 := by omega
          clear HS hU h1 h2
          go_wp2_with (first | (at_builtin; refine wp_lit rfl _ _ 52 rfl 5 j0 (.int .u8 0) 1 Tryz.underlying52 hj0 hy0 hy1 hy2 rfl w w.heap.size _ xs HB.out rfl ?_ ?_ ?_ ?_ ?_; (focus exact ⟨_, _, rfl, by first | rfl | simp⟩); (focus (simp [Value.oneCell'])); (focus (unfold maxLen; (try simp); omega)); (focus ((try simp); omega)); intro v' w' hb'; have HB2 := Lib.hid hb'; clear hb'))
          exact ⟨⟨k + 1, by omega, by go_num, fun h => absurd h (by omega), by show Buf _ _ _ _ _ _; exact HB2.out.eq HS2.out.symm⟩, by simp [intOf]; omega⟩
        · have d2 : decide ((c.toNat : Int) ≤ 122) = false := by simp; omega
          rw [if_neg (fun h => h2 h.2)] at hU
          have HS2 : Hid (u8s ((s.data.toList.take (k + 1)).map upC) = xs ++ [.int .u8 (c.toNat : Int)]) := by show _ = _; rw [HS.out, hU]
          clear HS hU h1 h2
          go_wp2_with (first | (at_builtin; refine wp_lit rfl _ _ 52 rfl 5 j0 (.int .u8 0) 1 Tryz.underlying52 hj0 hy0 hy1 hy2 rfl w w.heap.size _ xs HB.out rfl ?_ ?_ ?_ ?_ ?_; (focus exact ⟨_, _, rfl, by first | rfl | simp⟩); (focus (simp [Value.oneCell'])); (focus (unfold maxLen; (try simp); omega)); (focus ((try simp); omega)); intro v' w' hb'; have HB2 := Lib.hid hb'; clear hb'))
          exact ⟨⟨k + 1, by omega, by go_num, fun h => absurd h (by omega), by show Buf _ _ _ _ _ _; exact HB2.out.eq HS2.out.symm⟩, by simp [intOf]; omega⟩
      · have d1 : decide ((97 : Int) ≤ (c.toNat : Int)) = false := by simp; omega
        rw [if_neg (fun h => h1 h.1)] at hU
        have HS2 : Hid (u8s ((s.data.toList.take (k + 1)).map upC) = xs ++ [.int .u8 (c.toNat : Int)]) := by show _ = _; rw [HS.out, hU]
        clear HS hU h1
        go_wp2_with (first | (at_builtin; refine wp_lit rfl _ _ 52 rfl 5 j0 (.int .u8 0) 1 Tryz.underlying52 hj0 hy0 hy1 hy2 rfl w w.heap.size _ xs HB.out rfl ?_ ?_ ?_ ?_ ?_; (focus exact ⟨_, _, rfl, by first | rfl | simp⟩); (focus (simp [Value.oneCell'])); (focus (unfold maxLen; (try simp); omega)); (focus ((try simp); omega)); intro v' w' hb'; have HB2 := Lib.hid hb'; clear hb'))
        exact ⟨⟨k + 1, by omega, by go_num, fun h => absurd h (by omega), by show Buf _ _ _ _ _ _; exact HB2.out.eq HS2.out.symm⟩, by simp [intOf]; omega⟩
    · obtain rfl : k = s.size := by omega
      have hsl : s.data.toList.length = s.size := by simp
      have hcv := HB.out.str (P := Tryz.prog) (L := (s.data.toList.take s.size).map upC) (fun h => HZ.out (by
        have := congrArg List.length h
        rw [List.length_map, List.length_take, List.length_nil, hsl] at this
        omega)) 52 9 Tryz.underlying52 Tryz.underlying5 Tryz.underlying9
      rw [List.take_of_length_le (by simp)] at hcv
      clear hln
      go_wp2_with fail
      go_returns
      exact ⟨rfl, HB.out.2.1⟩
set_option maxHeartbeats 4000000 in
set_option maxRecDepth 100000 in
theorem rpad_any (l : List UInt8) (W : Int) (mi : Bool) (w : World) (hl : l.length ≤ 10000000) (h1 : -9223372036854775808 ≤ W) (h2 : W ≤ 9223372036854775807) :
    Calls Tryz.prog 22 #[.string (mkS l), .int .i64 W, .bool mi] w fun e w' => e = .returned (.string (mkS (padL l W mi))) ∧ Below w.heap.size w w' := by
  obtain ⟨j0, hj0, hy0, hy1, hy2⟩ := info_parts byte_inf2
  have hsz := mkS_size l
  have hpn := padN_le W l
  have HPN : Hid (∀ n : Int, n = min (max W 0) 99 - (l.length : Int) → ∀ k : Nat, ((k : Int) < n ↔ k < padN W l)) := by
    intro n hn k
    unfold padN
    omega
  obtain ⟨M, hM⟩ : ∃ M, min (max W 0) 99 - (l.length : Int) = M := ⟨_, rfl⟩
  have hM1 : M ≤ 99 := by omega
  have hM2 : -10000000 ≤ M := by omega
  have HMN := Lib.hid (HPN.out M hM.symm)
  go_enter Tryz.func22, Tryz.ntmps22
  go_wp2_with fail
  go_loopw [8, 9] (fun v i wr => ∃ k : Nat, k ≤ padN W l ∧ i = .int .i64 k ∧ Hid (k = 0 → v = .slice none 0 0) ∧ Hid (Buf w w.heap.size 5 v (u8s (List.replicate k 32)) wr)) (fun _ i _ => padN W l - (intOf i).toNat)
  case atStart => exact ⟨0, Nat.zero_le _, rfl, fun _ => rfl, Buf.nil _ _ _ _ (Below.refl _ _) (Nat.le_refl _)⟩
  case round =>
    obtain ⟨k, hk, rfl, HZ, HB⟩ := hrel
    by_cases hlt : k < padN W l
    · have hln : (u8s (List.replicate k (32 : UInt8))).length ≤ 99 := by rw [u8s_len, List.length_replicate]; omega
      have HS : Hid (u8s (List.replicate (k + 1) (32 : UInt8)) = u8s (List.replicate k 32) ++ [.int .u8 32]) := by show _ = _; rw [List.replicate_succ', u8s_app]; rfl
      obtain ⟨xs, hxs⟩ : ∃ xs, u8s (List.replicate k (32 : UInt8)) = xs := ⟨_, rfl⟩
      rw [hxs] at HS HB hln
      have d1 : decide ((k : Int) < M) = true := by rw [decide_eq_true_eq]; exact (HMN.out k).2 hlt
      clear hxs
      go_wp2_with (first | (at_builtin; refine wp_lit rfl _ _ 52 rfl 5 j0 (.int .u8 0) 1 Tryz.underlying52 hj0 hy0 hy1 hy2 rfl w w.heap.size _ xs HB.out rfl ?_ ?_ ?_ ?_ ?_; (focus exact ⟨_, _, rfl, by first | rfl | simp⟩); (focus (simp [Value.oneCell'])); (focus (unfold maxLen; (try simp); omega)); (focus ((try simp); omega)); intro v' w' hb'; have HB2 := Lib.hid hb'; clear hb'))
      exact ⟨⟨k + 1, by omega, by go_num, fun h => absurd h (by omega), by show Buf _ _ _ _ _ _; exact HB2.out.eq HS.out.symm⟩, by simp [intOf]; omega⟩
    · obtain rfl : k = padN W l := by omega
      have d1 : decide ((padN W l : Int) < M) = false := by rw [decide_eq_false_iff_not]; exact fun h => hlt ((HMN.out _).1 h)
      have hcv := HB.out.str (P := Tryz.prog) (fun h => HZ.out (by
        have := congrArg List.length h
        simpa using this)) 52 9 Tryz.underlying52 Tryz.underlying5 Tryz.underlying9
      have hbl : (mkS (List.replicate (padN W l) (32 : UInt8))).size ≤ 99 := by rw [mkS_size, List.length_replicate]; exact hpn
      have HP : Hid (padL l W mi = if mi then l ++ List.replicate (padN W l) 32 else List.replicate (padN W l) 32 ++ l) := rfl
      clear hlt hM
      cases mi
      all_goals
        go_wp2_with fail
        go_returns
        exact ⟨ret_s (by rw [HP.out]; first | exact cat_mk _ _ | (simp; exact cat_mk _ _)), HB.out.2.1⟩
end Go.Proofs.YtemlijadhdejeaaGreatDoor
