/- The lexer's literals of strings. -/
import Derived.Test.YtgjeljhodflbgaaDoorMLxW9
import Derived.Laws.BytesArg
namespace Go.Proofs.YtgjeljhodflbgaaDoor
open Go.RowKit Go.Instr
set_option linter.unusedVariables false

theorem u8_info : (Tryd.prog.info? 5).map (fun i => (i.zero, i.size, i.bytes)) = some (some (.int .u8 0), 1, 1) := by kernel_rfl
theorem own_shape {w : World} {base : Nat} {v : Value} {xs : List Value} (h : Own w base v xs) : ∃ a cap, v = .slice a xs.length cap := by
  rcases h with ⟨h1, h2⟩ | ⟨g, cap, h1, -⟩
  · rw [h2]; exact ⟨none, 0, h1⟩
  · exact ⟨_, cap, h1⟩
/-- A byte's cell. -/
def byV (b : UInt8) : Value := .int .u8 b.toNat
theorem escT_byte (t : List UInt8) : (escT t).2.1 < 256 := by
  unfold escT
  split
  · decide
  · rename_i c u
    have hc := UInt8.toNat_lt c
    split
    · decide
    · split
      · decide
      · split
        · exact hc
        · split
          · split
            · rename_i h2
              have h3 : 2 ≤ u.length := Nat.le_trans h2 (spanN_le hexB u)
              have := hex_two (l := u.take 2) (by rw [List.length_take]; omega) (span_all h2)
              show valN 16 (u.take 2) < 256
              omega
            · decide
          · split
            · split
              · decide
              · rename_i h2
                show valN 10 _ < 256
                omega
            · decide
theorem escT_form (t : List UInt8) : (escT t).1 ≠ 0 → (escT t).2.1 = 0 ∧ (escT t).2.2 = 0 := by
  unfold escT
  repeat' split
  all_goals first | (intro _; exact ⟨rfl, rfl⟩) | (intro h; exact absurd rfl h)
/-- What is read of a literal, ahead of what is to come. -/
def litC (acc : List UInt8) (d : Nat) (x : Int × List UInt8 × Nat) : Int × List UInt8 × Nat := if x.1 = 0 then (0, acc ++ x.2.1, d + x.2.2) else (x.1, [], 0)
theorem litC_step (acc : List UInt8) (d : Nat) (c : UInt8) (k : Nat) (x : Int × List UInt8 × Nat) : litC acc d (litP c k x) = litC (acc ++ [c]) (d + k) x := by
  unfold litC litP
  by_cases h : x.1 = 0
  · simp [h]; omega
  · simp [h]
theorem litC_nil (x : Int × List UInt8 × Nat) (h : x.1 = 0 ∨ (x.2.1 = [] ∧ x.2.2 = 0)) : litC [] 0 x = x := by
  unfold litC
  obtain ⟨a, b, c⟩ := x
  by_cases h0 : a = 0
  · subst h0; simp
  · simp [h0] at h ⊢; exact ⟨h.1, h.2.symm⟩
theorem litT_form (q : UInt8) (l : List UInt8) (n : Nat) : (litT q l n).1 = 0 ∨ ((litT q l n).2.1 = [] ∧ (litT q l n).2.2 = 0) := by
  cases l with
  | nil => rw [litT_nil]; exact .inr ⟨rfl, rfl⟩
  | cons c t =>
    by_cases h0 : c.toNat = 10
    · rw [litT_nl h0]; exact .inr ⟨rfl, rfl⟩
    · by_cases hq : c = q
      · subst hq; rw [litT_end h0]; exact .inl rfl
      · have hP : ∀ (c : UInt8) (k : Nat) (x : Int × List UInt8 × Nat), (litP c k x).1 = 0 ∨ ((litP c k x).2.1 = [] ∧ (litP c k x).2.2 = 0) := by
          intro c k x
          unfold litP
          split
          · exact .inl rfl
          · exact .inr ⟨rfl, rfl⟩
        by_cases h92 : c.toNat = 92
        · rw [litT_esc h92 hq]
          split
          · split
            · exact .inr ⟨rfl, rfl⟩
            · exact hP _ _ _
          · exact .inr ⟨rfl, rfl⟩
        · rw [litT_any h0 hq h92]
          split
          · exact .inr ⟨rfl, rfl⟩
          · exact hP _ _ _
theorem str_err {q : UInt8} {t acc : List UInt8} {d : Nat} {e : Int} (h : litT q t 0 = litC acc d (e, [], 0)) (he : e ≠ 0) : stringT q t = errR e := by
  unfold stringT
  rw [h]
  unfold litC
  rw [if_neg he, if_neg he]
theorem str_ok {q : UInt8} {t acc : List UInt8} {d : Nat} (h : litT q t 0 = litC acc d (0, [], 1)) : stringT q t = ⟨0, 4, acc, d + 2⟩ := by
  unfold stringT
  rw [h]
  unfold litC
  simp

/-- How far a literal has been read. -/
def LitAt (s : ByteArray) (i : Nat) (q : UInt8) (acc : List UInt8) (j : Nat) : Prop := i + 1 ≤ j ∧ acc.length ≤ 4096 ∧ litT q (s.data.toList.drop (i + 1)) 0 = litC acc (j - (i + 1)) (litT q (s.data.toList.drop j) acc.length)
theorem LitAt.step {s : ByteArray} {i j : Nat} {q c : UInt8} {acc : List UInt8} {k : Nat} (h : LitAt s i q acc j) (hx : litT q (s.data.toList.drop j) acc.length = litP c k (litT q (s.data.toList.drop (j + k)) (acc.length + 1))) (hl : acc.length ≠ 4096) :
    LitAt s i q (acc ++ [c]) (j + k) := by
  obtain ⟨h1, h2, h3⟩ := h
  refine ⟨by omega, by simp; omega, ?_⟩
  rw [h3, hx, litC_step, List.length_append, List.length_singleton]
  congr 1; omega

set_option maxHeartbeats 8000000 in
set_option maxRecDepth 100000 in
theorem str_any (X : Nat) (s : ByteArray) (i ln : Nat) (l : List Tk) (w : World) (hi : i < s.size) (hs : s.size ≤ 1000000000) (hn : l.length ≤ 1000000) (hq : (s[i]'hi).toNat ≠ 10) (h : Sc w X s i ln l) :
    Calls Tryd.prog 49 #[.pointer (some ⟨X, 0, none⟩)] w fun e w' => e = .returned (.int .i64 (stringT (s[i]'hi) (s.data.toList.drop (i + 1))).e) ∧ TokDid w' X s i ln l (stringT (s[i]'hi) (s.data.toList.drop (i + 1))) ∧ Below X w w' := by
  have H := Lib.hid h
  obtain ⟨c0, c1, c2, f1, f2, f3⟩ := h.cells
  have hX := h.lt
  clear h
  obtain ⟨i0, hi1, hz0, hz1, hz2⟩ := info_parts u8_info
  obtain ⟨q, hqe⟩ : ∃ q, s[i]'hi = q := ⟨_, rfl⟩
  rw [hqe] at hq ⊢
  go_enter Tryd.func49, Tryd.ntmps49
  go_wp2
  go_quiet (fail)
  go_wp2_with fail -- loop
  go_loopw [4, 5] (fun v u wr => ∃ (acc : List UInt8) (j : Nat), j ≤ s.size ∧ u = .int .i64 j ∧ Hid (Own wr w.heap.size v (acc.map byV)) ∧ Hid (acc = [] → v = .slice none 0 0) ∧ Hid (LitAt s i q acc j) ∧ Hid (Below w.heap.size w wr)) (fun _ u _ => s.size - (intOf u).toNat)
  case atStart =>
    refine ⟨[], i + 1, by omega, by go_num, Own.nil _ _, fun _ => rfl, ⟨Nat.le_refl _, by simp, ?_⟩, ?_⟩
    · rw [Nat.sub_self, List.length_nil, litC_nil _ (litT_form _ _ _)]
    · show Below _ _ _
      (repeat' (first | (with_reducible exact Below.refl _ _) | (with_reducible assumption) | (with_reducible refine Below.alloc ?_ ?_ _) | (with_reducible refine Go.below_drewN ?_ _) | (with_reducible refine Below.drew ?_) | (with_reducible refine Below.setCell ?_ ?_ _) | (with_reducible refine below_via (by assumption) ?_ ?_) | (with_reducible refine below_via (later_below _) ?_ ?_) | (with_reducible exact Nat.le_refl _) | omega | (simp; omega) | (simp; done)))
  case round =>
    obtain ⟨acc, j, hj, rfl, HO, HN, HL, HB⟩ := hrel
    obtain ⟨hj1, hal, hlit⟩ := HL.out
    have d0 := (HB.out.cell (p := ⟨X, 0, none⟩) hX).trans c0
    obtain ⟨a, cap, hsh⟩ := own_shape HO.out
    rw [List.length_map] at hsh
    subst hsh
    have hsz := HB.out.size
    by_cases hlt : j < s.size
    · have hdr := drop_get s j hlt
      obtain ⟨c, hc⟩ : ∃ c, s[j]'hlt = c := ⟨_, rfl⟩
      rw [hc] at hdr
      rw [hdr] at hlit
      have hlit2 := HL.out
      by_cases h10 : c.toNat = 10
      · have HE : Hid (stringT q (s.data.toList.drop (i + 1)) = errR 4) := by
          show _ = _
          refine str_err (acc := acc) (d := j - (i + 1)) ?_ (by decide)
          rw [hlit, litT_nl h10]
        have b10 : ((c.toNat : Int) == 10) = true := by simp; omega
        clear hlit hdr hlit2 h10
        go_wp2
        go_returns
        refine ⟨by rw [HE.out]; rfl, TokDid.err (H.out.later HB.out) (by rw [HE.out]; decide), HB.out.mono (Nat.le_of_lt hX)⟩
      · have b10 : ((c.toNat : Int) == 10) = false := by simp; omega
        by_cases hcq : c = q
        · have HE : Hid (stringT q (s.data.toList.drop (i + 1)) = ⟨0, 4, acc, j - (i + 1) + 2⟩) := by
            show _ = _
            refine str_ok ?_
            rw [hlit, hcq, litT_end hq]
          have bq : ((c.toNat : Int) == (q.toNat : Int)) = true := by rw [hcq]; simp
          have hcv : (convert 49 9 (.slice a acc.length cap)).run Tryd.prog wr = .ok (.string (mkS acc)) wr := by
            by_cases hne : acc = []
            · rw [HN.out hne, hne]
              exact run_convert_bytes_nil (w := wr) 49 5 Tryd.underlying49 Tryd.underlying5 0 0 9 Tryd.underlying9
            · exact Own.str HO.out hne 49 9 5 Tryd.underlying49 Tryd.underlying5 Tryd.underlying9
          have HA : Hid (Calls Tryd.prog 63 #[.pointer (some ⟨X, 0, none⟩), .int .i64 4, .string (mkS acc), .int .i64 ((j : Int) + 1)] wr fun e w' => e = .returned (.tuple #[]) ∧ Sc w' X s (j + 1) ln (l ++ [⟨4, acc, ln, i⟩]) ∧ Below X wr w') := addTk_any X s (mkS acc) i ln (j + 1) 4 l wr hn (H.out.later HB.out)
          clear hlit hdr hlit2 h10 hcq
          go_wp2_with (first | (go_at_call 63; (with_reducible refine HA.out.mono ?_); rintro e w9 ⟨rfl, hsc, hb9⟩))
          go_returns
          refine ⟨by rw [HE.out]; rfl, TokDid.ok hsc (by rw [HE.out]) (by rw [HE.out]) (by rw [HE.out]; show i + (j - (i + 1) + 2) = j + 1; omega) (by rw [HE.out]), (HB.out.mono (Nat.le_of_lt hX)).trans hb9⟩
        · have bq : ((c.toNat : Int) == (q.toNat : Int)) = false := by
            simp only [beq_eq_false_iff_ne, ne_eq, Int.natCast_inj]
            exact fun e => hcq (UInt8.toNat_inj.1 e)
          by_cases h92 : c.toNat = 92
          · have b92 : ((c.toNat : Int) == 92) = true := by simp; omega
            have hES := escape_any s j
            have hbyte := escT_byte (s.data.toList.drop (j + 1))
            have hkle := escT_le (s.data.toList.drop (j + 1))
            have hlE := litT_esc (t := s.data.toList.drop (j + 1)) (n := acc.length) h92 hcq
            obtain ⟨⟨E, B, K⟩, hx⟩ : ∃ x, escT (s.data.toList.drop (j + 1)) = x := ⟨_, rfl⟩
            rw [hx] at hbyte hkle hlE
            dsimp only at hbyte hkle hlE
            simp at hkle
            by_cases hE0 : E = 0
            · subst hE0
              rw [if_pos rfl] at hlE
              have HES : Hid (∀ w', Calls Tryd.prog 65 #[.string s, .int .i64 j] w' fun e w'' => e = .returned (.tuple #[.int .u8 B, .int .i64 ((j : Int) + 1 + (K : Int)), .int .i64 0]) ∧ Below w'.heap.size w' w'') := fun w' => by
                have h0 := hES w' hlt hs
                rw [escV_ok hx] at h0
                have e1 : ((j + 1 + K : Nat) : Int) = (j : Int) + 1 + (K : Int) := by omega
                rw [e1] at h0
                exact h0
              by_cases hfull : acc.length = 4096
              · rw [if_pos hfull] at hlE
                have HE : Hid (stringT q (s.data.toList.drop (i + 1)) = errR 3) := by
                  show _ = _
                  refine str_err (acc := acc) (d := j - (i + 1)) ?_ (by decide)
                  rw [hlit, hlE]
                have bl : ((acc.length : Int) == 4096) = true := by simp; omega
                clear hlit hdr hlit2 h10 hcq h92 hES hx hlE hfull
                go_wp2_with (first | (go_at_call 65; (with_reducible refine (HES.out _).mono ?_); rintro e w8 ⟨rfl, hb8⟩))
                go_returns
                have hB8 : Below w.heap.size w w8 := HB.out.trans (hb8.mono HB.out.size)
                refine ⟨by rw [HE.out]; rfl, TokDid.err (H.out.later hB8) (by rw [HE.out]; decide), hB8.mono (Nat.le_of_lt hX)⟩
              · rw [if_neg hfull] at hlE
                have HST : Hid (LitAt s i q (acc ++ [UInt8.ofNat B]) (j + (1 + K))) := by
                  refine LitAt.step hlit2 ?_ hfull
                  rw [hdr, hlE, List.drop_drop, Nat.add_assoc]
                have bl : ((acc.length : Int) == 4096) = false := by simp; omega
                have HBY : Hid (byV (UInt8.ofNat B) = .int .u8 B) := by show _ = _; unfold byV; simp; omega
                have hal2 : acc.length < 4096 := by omega
                clear hlit hdr hlit2 h10 hcq h92 hES hx hlE hfull
                go_wp2_with (first | (go_at_call 65; (with_reducible refine (HES.out _).mono ?_); rintro e w8 ⟨rfl, hb8⟩; have HO2 := Lib.hid (HO.out.below hb8); have HB8 : Hid (Below w.heap.size w w8) := HB.out.trans (hb8.mono HB.out.size); have hs8 := HB8.out.size; clear hb8) | (at_builtin; (first | (refine wp_push rfl _ _ 49 rfl 5 i0 (.int .u8 0) 1 Tryd.underlying49 hi1 hz0 hz1 hz2 rfl w.heap.size _ _ (HO2.out.alloc _) rfl _ _ _ rfl (cell_new1 _ _ _) rfl ?_ ?_ ?_ ?_)); (focus (simp <;> omega)); (focus (unfold maxLen; simp <;> omega)); (focus (simp <;> omega)); intro v' w' ho' hb'))
                refine ⟨⟨acc ++ [UInt8.ofNat B], j + (1 + K), by omega, by first | go_num | (simp; omega), ?_, ?_, HST.out, ?_⟩, by simp [intOf]; omega⟩
                · show Own _ _ _ _
                  rw [List.map_append, List.map_singleton, HBY.out]
                  exact ho'
                · show _ → _
                  intro h0; simp at h0
                · have h0 := HB8.out
                  show Below _ _ _
                  (repeat' (first | (with_reducible exact Below.refl _ _) | (with_reducible assumption) | (with_reducible refine Below.alloc ?_ ?_ _) | (with_reducible refine Go.below_drewN ?_ _) | (with_reducible refine Below.drew ?_) | (with_reducible refine Below.setCell ?_ ?_ _) | (with_reducible refine below_via (by assumption) ?_ ?_) | (with_reducible refine below_via (later_below _) ?_ ?_) | (with_reducible exact Nat.le_refl _) | omega | (simp; omega) | (simp; done)))
            · rw [if_neg hE0] at hlE
              have HE : Hid (stringT q (s.data.toList.drop (i + 1)) = errR E) := by
                show _ = _
                refine str_err (acc := acc) (d := j - (i + 1)) ?_ hE0
                rw [hlit, hlE]
              have hbk : B = 0 ∧ K = 0 := by
                have := escT_form (s.data.toList.drop (j + 1))
                rw [hx] at this
                exact this hE0
              obtain ⟨rfl, rfl⟩ := hbk
              have HES : Hid (∀ w', Calls Tryd.prog 65 #[.string s, .int .i64 j] w' fun e w'' => e = .returned (.tuple #[.int .u8 0, .int .i64 0, .int .i64 E]) ∧ Below w'.heap.size w' w'') := fun w' => by
                have h0 := hES w' hlt hs
                rw [escV_err hx hE0] at h0
                exact h0
              have bE : (E != 0) = true := by simp; exact hE0
              have HE0 := Lib.hid hE0
              clear hlit hdr hlit2 h10 hcq h92 hES hx hlE hE0
              go_wp2_with (first | (go_at_call 65; (with_reducible refine (HES.out _).mono ?_); rintro e w8 ⟨rfl, hb8⟩))
              go_returns
              have hB8 : Below w.heap.size w w8 := HB.out.trans (hb8.mono HB.out.size)
              refine ⟨by rw [HE.out]; rfl, TokDid.err (H.out.later hB8) (by rw [HE.out]; exact HE0.out), hB8.mono (Nat.le_of_lt hX)⟩
          · have b92 : ((c.toNat : Int) == 92) = false := by simp; omega
            have hlE := litT_any (t := s.data.toList.drop (j + 1)) (n := acc.length) h10 hcq h92
            by_cases hfull : acc.length = 4096
            · rw [if_pos hfull] at hlE
              have HE : Hid (stringT q (s.data.toList.drop (i + 1)) = errR 3) := by
                show _ = _
                refine str_err (acc := acc) (d := j - (i + 1)) ?_ (by decide)
                rw [hlit, hlE]
              have bl : ((acc.length : Int) == 4096) = true := by simp; omega
              clear hlit hdr hlit2 h10 hcq h92 hlE hfull
              go_wp2
              go_returns
              refine ⟨by rw [HE.out]; rfl, TokDid.err (H.out.later HB.out) (by rw [HE.out]; decide), HB.out.mono (Nat.le_of_lt hX)⟩
            · rw [if_neg hfull] at hlE
              have HST : Hid (LitAt s i q (acc ++ [c]) (j + 1)) := by
                refine LitAt.step hlit2 ?_ hfull
                rw [hdr, hlE]
              have bl : ((acc.length : Int) == 4096) = false := by simp; omega
              have hal2 : acc.length < 4096 := by omega
              clear hlit hdr hlit2 h10 hcq h92 hlE hfull
              go_wp2_with (first | (at_builtin; (first | (refine wp_push rfl _ _ 49 rfl 5 i0 (.int .u8 0) 1 Tryd.underlying49 hi1 hz0 hz1 hz2 rfl w.heap.size _ _ (HO.out.alloc _) rfl _ _ _ rfl (cell_new1 _ _ _) rfl ?_ ?_ ?_ ?_)); (focus (simp <;> omega)); (focus (unfold maxLen; simp <;> omega)); (focus (simp <;> omega)); intro v' w' ho' hb'))
              refine ⟨⟨acc ++ [c], j + 1, by omega, by go_num, ?_, ?_, HST.out, ?_⟩, by simp [intOf]; omega⟩
              · show Own _ _ _ _
                rw [List.map_append, List.map_singleton]
                exact ho'
              · show _ → _
                intro h0; simp at h0
              · have h0 := HB.out
                show Below _ _ _
                (repeat' (first | (with_reducible exact Below.refl _ _) | (with_reducible assumption) | (with_reducible refine Below.alloc ?_ ?_ _) | (with_reducible refine Go.below_drewN ?_ _) | (with_reducible refine Below.drew ?_) | (with_reducible refine Below.setCell ?_ ?_ _) | (with_reducible refine below_via (by assumption) ?_ ?_) | (with_reducible refine below_via (later_below _) ?_ ?_) | (with_reducible exact Nat.le_refl _) | omega | (simp; omega) | (simp; done)))
    · have HE : Hid (stringT q (s.data.toList.drop (i + 1)) = errR 4) := by
        show _ = _
        refine str_err (acc := acc) (d := j - (i + 1)) ?_ (by decide)
        have hnil : s.data.toList.drop j = [] := List.drop_eq_nil_of_le (by simp; omega)
        rw [hlit, hnil, litT_nil]
      clear hlit
      go_wp2
      go_returns
      refine ⟨by rw [HE.out]; rfl, TokDid.err (H.out.later HB.out) (by rw [HE.out]; decide), HB.out.mono (Nat.le_of_lt hX)⟩
end Go.Proofs.YtgjeljhodflbgaaDoor
