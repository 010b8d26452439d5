/- The reference's literals. -/
import Derived.Test.YtgjeljhodflbgaaDoorMLxR2
import Derived.Test.YtgjeljhodflbgaaDoorMLxW10
import Derived.Test.YtgjeljhodflbgaaDoorMLxQ
namespace Go.Proofs.YtgjeljhodflbgaaDoor
open Go.RowKit Go.Instr
set_option linter.unusedVariables false

/-- What the reference's literal hands back. -/
def litV (i : Nat) (r : TokR) : Value := if r.e = 0 then .tuple #[.string (mkS r.x), .int .i64 ((i + r.n : Nat) : Int), .int .i64 0] else .tuple #[.string ⟨#[]⟩, .int .i64 0, .int .i64 r.e]
theorem litV_err {i : Nat} {r : TokR} {e : Int} (h : r = errR e) (he : e ≠ 0) : litV i r = .tuple #[.string ⟨#[]⟩, .int .i64 0, .int .i64 e] := by
  subst h; unfold litV errR; rw [if_neg he]
theorem litV_ok {i k n : Nat} {r : TokR} {x : List UInt8} (h : r = ⟨0, 4, x, n⟩) (hk : i + n = k) : litV i r = .tuple #[.string (mkS x), .int .i64 (k : Int), .int .i64 0] := by
  subst h hk; rfl

set_option maxHeartbeats 8000000 in
set_option maxRecDepth 100000 in
theorem r3lit_any (s : ByteArray) (i : Nat) (w : World) (hi : i < s.size) (hs : s.size ≤ 1000000) (hq : (s[i]'hi).toNat ≠ 10) :
    Calls Tryd.prog 53 #[.string s, .int .i64 i] w fun e w' => e = .returned (litV i (stringT (s[i]'hi) (s.data.toList.drop (i + 1)))) ∧ Below w.heap.size w w' := by
  obtain ⟨i0, hi1, hz0, hz1, hz2⟩ := info_parts byte_info
  obtain ⟨q, hqe⟩ : ∃ q, s[i]'hi = q := ⟨_, rfl⟩
  rw [hqe] at hq ⊢
  go_enter Tryd.func53, Tryd.ntmps53
  go_wp2_with fail
  go_loopw [7, 8] (fun v u wr => ∃ (acc : List UInt8) (j : Nat), j ≤ s.size ∧ u = .int .i64 j ∧ Hid (Buf w w.heap.size 5 v (u8s acc) wr) ∧ Hid (acc = [] → v = .slice none 0 0) ∧ Hid (LitAt s i q acc j)) (fun _ u _ => s.size - (intOf u).toNat)
  case atStart =>
    refine ⟨[], i + 1, by omega, by go_num, Buf.nil _ _ _ _ (Below.refl _ _) (Nat.le_refl _), fun _ => rfl, ⟨Nat.le_refl _, by simp, ?_⟩⟩
    rw [Nat.sub_self, List.length_nil, litC_nil _ (litT_form _ _ _)]
  case round =>
    obtain ⟨acc, j, hj, rfl, HB, HN, HL⟩ := hrel
    obtain ⟨hj1, hal, hlit⟩ := HL.out
    obtain ⟨a, cap, hsh⟩ := HB.out.form
    rw [u8s_len] at hsh
    subst hsh
    have hsz := HB.out.2.2
    have HBB : Hid (Below w.heap.size w wr) := HB.out.2.1
    have hul : (u8s acc).length = acc.length := u8s_len acc
    by_cases hlt : j < s.size
    · have hdr := drop_get s j hlt
      obtain ⟨c, hc⟩ : ∃ c, s[j]'hlt = c := ⟨_, rfl⟩
      rw [hc] at hdr
      rw [hdr] at hlit
      have hlit2 := HL.out
      by_cases h10 : c.toNat = 10
      · have HE := Lib.hid (litV_err (i := i) (r := stringT q (s.data.toList.drop (i + 1))) (e := 4) (str_err (acc := acc) (d := j - (i + 1)) (by rw [hlit, litT_nl h10]) (by decide)) (by decide))
        have b10 : ((c.toNat : Int) != 10) = false := by simp; omega
        clear hlit hdr hlit2 h10
        go_wp2_with fail
        go_returns
        exact ⟨by rw [HE.out]; rfl, HBB.out⟩
      · have b10 : ((c.toNat : Int) != 10) = true := by simp; omega
        by_cases hcq : c = q
        · have HE := Lib.hid (litV_ok (i := i) (k := j + 1) (n := j - (i + 1) + 2) (r := stringT q (s.data.toList.drop (i + 1))) (x := acc) (str_ok (by rw [hlit, hcq, litT_end hq])) (by omega))
          have bq : ((c.toNat : Int) == (q.toNat : Int)) = true := by rw [hcq]; simp
          have hcv := fun n => (HB.out.later (Go.below_drewN (Below.refl wr.heap.size wr) n)).str HN.out 49 9 Tryd.underlying49 Tryd.underlying5 Tryd.underlying9
          clear hlit hdr hlit2 h10 hcq
          go_wp2_with fail
          go_quiet (fail)
          go_wp2_with fail
          go_returns
          exact ⟨by rw [HE.out]; go_num, by have h0 := HBB.out; (repeat' (first | (with_reducible exact Below.refl _ _) | (with_reducible assumption) | (with_reducible refine Below.alloc ?_ ?_ _) | (with_reducible refine Go.below_drewN ?_ _) | (with_reducible refine Below.drew ?_) | (with_reducible refine Below.setCell ?_ ?_ _) | (with_reducible refine below_via (by assumption) ?_ ?_) | (with_reducible refine below_via (later_below _) ?_ ?_) | (with_reducible exact Nat.le_refl _) | omega | (simp; omega) | (simp; done)))⟩
        · have bq : ((c.toNat : Int) == (q.toNat : Int)) = false := by
            simp only [beq_eq_false_iff_ne, ne_eq, Int.natCast_inj]
            exact fun e => hcq (UInt8.toNat_inj.1 e)
          by_cases h92 : c.toNat = 92
          · have b92 : ((c.toNat : Int) == 92) = true := by simp; omega
            have hES := fun w' => r3esc_any s j w' hlt hs
            have hbyte := escT_byte (s.data.toList.drop (j + 1))
            have hkle := escT_le (s.data.toList.drop (j + 1))
            have hlE := litT_esc (t := s.data.toList.drop (j + 1)) (n := acc.length) h92 hcq
            obtain ⟨⟨E, B, K⟩, hx⟩ : ∃ x, escT (s.data.toList.drop (j + 1)) = x := ⟨_, rfl⟩
            rw [hx] at hbyte hkle hlE
            dsimp only at hbyte hkle hlE
            simp at hkle
            by_cases hE0 : E = 0
            · subst hE0
              rw [if_pos rfl] at hlE
              have HES : Hid (∀ w', Calls Tryd.prog 68 #[.string s, .int .i64 j] w' fun e w'' => e = .returned (.tuple #[.int .u8 B, .int .i64 ((j : Int) + 1 + (K : Int)), .int .i64 0]) ∧ Below w'.heap.size w' w'') := fun w' => by
                have h0 := hES w'
                rw [escV_ok hx] at h0
                have e1 : ((j + 1 + K : Nat) : Int) = (j : Int) + 1 + (K : Int) := by omega
                rw [e1] at h0
                exact h0
              by_cases hfull : acc.length = 4096
              · rw [if_pos hfull] at hlE
                have HE := Lib.hid (litV_err (i := i) (r := stringT q (s.data.toList.drop (i + 1))) (e := 3) (str_err (acc := acc) (d := j - (i + 1)) (by rw [hlit, hlE]) (by decide)) (by decide))
                have bl : decide ((4096 : Int) ≤ (acc.length : Int)) = true := by rw [decide_eq_true_eq]; omega
                clear hlit hdr hlit2 h10 hcq h92 hES hx hlE hfull
                go_wp2_with fail
                go_quiet (fail)
                go_wp2_with (first | (go_at_call 68; (with_reducible refine (HES.out _).mono ?_); rintro e w8 ⟨rfl, hb8⟩))
                go_returns
                exact ⟨by rw [HE.out]; rfl, by have h0 := HBB.out; have h1 := h0.size; refine Below.trans ?_ (hb8.mono (by simp; omega)); (repeat' (first | (with_reducible exact Below.refl _ _) | (with_reducible assumption) | (with_reducible refine Below.alloc ?_ ?_ _) | (with_reducible refine Go.below_drewN ?_ _) | (with_reducible refine Below.drew ?_) | (with_reducible refine Below.setCell ?_ ?_ _) | (with_reducible refine below_via (by assumption) ?_ ?_) | (with_reducible refine below_via (later_below _) ?_ ?_) | (with_reducible exact Nat.le_refl _) | omega | (simp; omega) | (simp; done)))⟩
              · rw [if_neg hfull] at hlE
                have HST : Hid (LitAt s i q (acc ++ [UInt8.ofNat B]) (j + (1 + K))) := by
                  refine LitAt.step hlit2 ?_ hfull
                  rw [hdr, hlE, List.drop_drop, Nat.add_assoc]
                have bl : decide ((4096 : Int) ≤ (acc.length : Int)) = false := by rw [decide_eq_false_iff_not]; omega
                have HBY : Hid (u8s (acc ++ [UInt8.ofNat B]) = u8s acc ++ [.int .u8 B]) := by
                  show _ = _
                  rw [u8s_app]
                  congr 1
                  show [Value.int .u8 ((UInt8.ofNat B).toNat : Int)] = _
                  congr 2; simp; omega
                have hal2 : acc.length < 4096 := by omega
                obtain ⟨xs, hxs⟩ : ∃ xs, u8s acc = xs := ⟨_, rfl⟩
                rw [hxs] at HB HBY hul
                clear hlit hdr hlit2 h10 hcq h92 hES hx hlE hfull hxs
                go_wp2_with fail
                go_quiet (fail)
                go_wp2_with (first | (go_at_call 68; (with_reducible refine (HES.out _).mono ?_); rintro e w8 ⟨rfl, hb8⟩; have HB2 := Lib.hid (HB.out.later ((by have h1 := hsz; (repeat' (first | (with_reducible exact Below.refl _ _) | (with_reducible assumption) | (with_reducible refine Below.alloc ?_ ?_ _) | (with_reducible refine Go.below_drewN ?_ _) | (with_reducible refine Below.drew ?_) | (with_reducible refine Below.setCell ?_ ?_ _) | (with_reducible refine below_via (by assumption) ?_ ?_) | (with_reducible refine below_via (later_below _) ?_ ?_) | (with_reducible exact Nat.le_refl _) | omega | (simp; omega) | (simp; done))) : Below wr.heap.size wr _).trans (hb8.mono (by simp)))); clear hb8) | (at_builtin; refine wp_lit rfl _ _ 49 rfl 5 i0 (.int .u8 0) 1 Tryd.underlying49 hi1 hz0 hz1 hz2 rfl w w.heap.size _ xs HB2.out rfl ?_ ?_ ?_ ?_ ?_; (focus exact ⟨_, _, rfl, by first | rfl | simp⟩); (focus (simp [Value.oneCell'])); (focus (unfold maxLen; (try simp); omega)); (focus ((try simp); omega)); intro v' w' hb'))
                refine ⟨⟨acc ++ [UInt8.ofNat B], j + (1 + K), by omega, by first | go_num | (simp; omega), ?_, ?_, HST.out⟩, by simp [intOf]; omega⟩
                · show Buf _ _ _ _ _ _
                  exact hb'.eq HBY.out.symm
                · show _ → _
                  intro h0; simp at h0
            · rw [if_neg hE0] at hlE
              have HE := Lib.hid (litV_err (i := i) (r := stringT q (s.data.toList.drop (i + 1))) (e := E) (str_err (acc := acc) (d := j - (i + 1)) (by rw [hlit, hlE]) hE0) hE0)
              have hbk : B = 0 ∧ K = 0 := by
                have := escT_form (s.data.toList.drop (j + 1))
                rw [hx] at this
                exact this hE0
              obtain ⟨rfl, rfl⟩ := hbk
              have HES : Hid (∀ w', Calls Tryd.prog 68 #[.string s, .int .i64 j] w' fun e w'' => e = .returned (.tuple #[.int .u8 0, .int .i64 0, .int .i64 E]) ∧ Below w'.heap.size w' w'') := fun w' => by
                have h0 := hES w'
                rw [escV_err hx hE0] at h0
                exact h0
              have bE : (E != 0) = true := by simp; exact hE0
              clear hlit hdr hlit2 h10 hcq h92 hES hx hlE hE0
              go_wp2_with fail
              go_quiet (fail)
              go_wp2_with (first | (go_at_call 68; (with_reducible refine (HES.out _).mono ?_); rintro e w8 ⟨rfl, hb8⟩))
              go_returns
              exact ⟨by rw [HE.out]; rfl, by have h0 := HBB.out; have h1 := h0.size; refine Below.trans ?_ (hb8.mono (by simp; omega)); (repeat' (first | (with_reducible exact Below.refl _ _) | (with_reducible assumption) | (with_reducible refine Below.alloc ?_ ?_ _) | (with_reducible refine Go.below_drewN ?_ _) | (with_reducible refine Below.drew ?_) | (with_reducible refine Below.setCell ?_ ?_ _) | (with_reducible refine below_via (by assumption) ?_ ?_) | (with_reducible refine below_via (later_below _) ?_ ?_) | (with_reducible exact Nat.le_refl _) | omega | (simp; omega) | (simp; done)))⟩
          · have b92 : ((c.toNat : Int) == 92) = false := by simp; omega
            have hlE := litT_any (t := s.data.toList.drop (j + 1)) (n := acc.length) h10 hcq h92
            by_cases hfull : acc.length = 4096
            · rw [if_pos hfull] at hlE
              have HE := Lib.hid (litV_err (i := i) (r := stringT q (s.data.toList.drop (i + 1))) (e := 3) (str_err (acc := acc) (d := j - (i + 1)) (by rw [hlit, hlE]) (by decide)) (by decide))
              have bl : decide ((4096 : Int) ≤ (acc.length : Int)) = true := by rw [decide_eq_true_eq]; omega
              clear hlit hdr hlit2 h10 hcq h92 hlE hfull
              go_wp2_with fail
              go_quiet (fail)
              go_wp2_with fail
              go_returns
              exact ⟨by rw [HE.out]; rfl, by have h0 := HBB.out; (repeat' (first | (with_reducible exact Below.refl _ _) | (with_reducible assumption) | (with_reducible refine Below.alloc ?_ ?_ _) | (with_reducible refine Go.below_drewN ?_ _) | (with_reducible refine Below.drew ?_) | (with_reducible refine Below.setCell ?_ ?_ _) | (with_reducible refine below_via (by assumption) ?_ ?_) | (with_reducible refine below_via (later_below _) ?_ ?_) | (with_reducible exact Nat.le_refl _) | omega | (simp; omega) | (simp; done)))⟩
            · rw [if_neg hfull] at hlE
              have HST : Hid (LitAt s i q (acc ++ [c]) (j + 1)) := by
                refine LitAt.step hlit2 ?_ hfull
                rw [hdr, hlE]
              have bl : decide ((4096 : Int) ≤ (acc.length : Int)) = false := by rw [decide_eq_false_iff_not]; omega
              have HBY : Hid (u8s (acc ++ [c]) = u8s acc ++ [.int .u8 c.toNat]) := by show _ = _; rw [u8s_app]; rfl
              have hal2 : acc.length < 4096 := by omega
              obtain ⟨xs, hxs⟩ : ∃ xs, u8s acc = xs := ⟨_, rfl⟩
              rw [hxs] at HB HBY hul
              have HBd := Lib.hid (fun n => HB.out.later (Go.below_drewN (Below.refl wr.heap.size wr) n))
              clear hlit hdr hlit2 h10 hcq h92 hlE hfull hxs
              go_wp2_with fail
              go_quiet (fail)
              go_wp2_with (first | (at_builtin; refine wp_lit rfl _ _ 49 rfl 5 i0 (.int .u8 0) 1 Tryd.underlying49 hi1 hz0 hz1 hz2 rfl w w.heap.size _ xs (HBd.out _) rfl ?_ ?_ ?_ ?_ ?_; (focus exact ⟨_, _, rfl, by first | rfl | simp⟩); (focus (simp [Value.oneCell'])); (focus (unfold maxLen; (try simp); omega)); (focus ((try simp); omega)); intro v' w' hb'))
              refine ⟨⟨acc ++ [c], j + 1, by omega, by go_num, ?_, ?_, HST.out⟩, by simp [intOf]; omega⟩
              · show Buf _ _ _ _ _ _
                exact hb'.eq HBY.out.symm
              · show _ → _
                intro h0; simp at h0
    · have HE : Hid (litV i (stringT q (s.data.toList.drop (i + 1))) = .tuple #[.string ⟨#[]⟩, .int .i64 0, .int .i64 4]) := by
        refine litV_err (str_err (acc := acc) (d := j - (i + 1)) ?_ (by decide)) (by decide)
        have hnil : s.data.toList.drop j = [] := List.drop_eq_nil_of_le (by simp; omega)
        rw [hlit, hnil, litT_nil]
      clear hlit
      go_wp2_with fail
      go_returns
      exact ⟨by rw [HE.out]; rfl, HBB.out⟩
end Go.Proofs.YtgjeljhodflbgaaDoor
