/- The reference's Pieces. -/
import Derived.Test.YtemlijadhdejeaaGreatDoorMFmE
import Derived.Test.YtemlijadhdejeaaGreatDoorMFmWA
namespace Go.Proofs.YtemlijadhdejeaaGreatDoor
open Go.RowKit Go.Instr
set_option linter.unusedVariables false

theorem rpiece_info : (Tryz.prog.info? 32).map (fun i => (i.zero, i.size, i.bytes)) = some (some (.agg #[.string ⟨#[]⟩, .int .u8 0, .bool false, .bool false, .bool false, .int .i64 0, .int .i64 0]), 7, 40) := by kernel_rfl
/-- What the reference's Pieces has read: parts and text, in slices of its own. -/
def RSt (W : World) (B : Nat) (out : List Pc) (a : List UInt8) (v u : Value) (w : World) : Prop :=
  w.ownsRow B 32 7 v out.length (flatPc out) ∧ w.ownsRow B 5 1 u a.length (u8s a) ∧ apart v u ∧ Below B W w ∧ B ≤ w.heap.size
theorem RSt.later {W w w' : World} {B : Nat} {out : List Pc} {a : List UInt8} {v u : Value} (h : RSt W B out a v u w) (hb : Below w.heap.size w w') : RSt W B out a v u w' :=
  ⟨ownsRow_later h.1 hb, ownsRow_later h.2.1 hb, h.2.2.1, h.2.2.2.1.trans (hb.mono h.2.2.2.2), Nat.le_trans h.2.2.2.2 hb.size⟩
theorem RSt.alloc {W w : World} {B : Nat} {out : List Pc} {a : List UInt8} {v u : Value} (h : RSt W B out a v u w) (o : Obj) : RSt W B out a v u (w.alloc o) := h.later ((Below.refl _ _).alloc (Nat.le_refl _) o)
theorem RSt.eq {W w : World} {B : Nat} {out out' : List Pc} {a a' : List UInt8} {v u : Value} (h : RSt W B out a v u w) (h1 : out = out') (h2 : a = a') : RSt W B out' a' v u w := by subst h1 h2; exact h
theorem RSt.addT {W w0 w1 : World} {B : Nat} {out : List Pc} {a : List UInt8} {v u : Value} {c : UInt8} {g cap : Nat} (h : RSt W B out a v u w0)
    (ho : w1.ownsRow B 5 1 (.slice (some ⟨g, 0, none⟩) (a.length + 1) cap) (a.length + 1) (u8s a ++ [.int .u8 c.toNat])) (hg : w0.grownBy w1 u.ownBlock) (hl : u.ownBlock = some g ∨ g = w0.heap.size) :
    RSt W B out (a ++ [c]) v (.slice (some ⟨g, 0, none⟩) (a.length + 1) cap) w1 := by
  obtain ⟨h3, h4, h5, h6, h7⟩ := h
  refine ⟨h3.kept hg h5.kept, ?_, ?_, h6.trans ((Below.refl _ _).grown hg h7 (fun k hk => (h4.lt k hk).1)), Nat.le_trans h7 hg.size⟩
  · rw [u8s_app, List.length_append]; exact ho
  · intro k hk e
    simp [Value.ownBlock] at e
    rcases hl with hl | hl
    · exact h5 k hk (by rw [hl, e])
    · have := (h3.lt k hk).2; omega
theorem RSt.addO {W w0 w1 : World} {B : Nat} {out : List Pc} {a : List UInt8} {v u : Value} {p : Pc} {g cap : Nat} (h : RSt W B out a v u w0)
    (ho : w1.ownsRow B 32 7 (.slice (some ⟨g, 0, none⟩) (out.length + 1) cap) (out.length + 1) (flatPc out ++ pcC p)) (hg : w0.grownBy w1 v.ownBlock) (hl : v.ownBlock = some g ∨ g = w0.heap.size) :
    RSt W B (out ++ [p]) a (.slice (some ⟨g, 0, none⟩) (out.length + 1) cap) u w1 := by
  obtain ⟨h3, h4, h5, h6, h7⟩ := h
  refine ⟨?_, h4.kept hg h5.kept2, ?_, h6.trans ((Below.refl _ _).grown hg h7 (fun k hk => (h3.lt k hk).1)), Nat.le_trans h7 hg.size⟩
  · rw [flatPc_snoc, List.length_append]; exact ho
  · intro k hk e
    simp [Value.ownBlock] at hk
    rcases hl with hl | hl
    · exact h5 k (by rw [hl, hk]) e
    · have := (h4.lt k e).2; omega
theorem RSt.strike {W w : World} {B : Nat} {out : List Pc} {a : List UInt8} {v u : Value} (h : RSt W B out a v u w) : RSt W B out [] v (.slice none 0 0) w :=
  ⟨h.1, World.ownsRow_nil _ _ _ _, fun k _ e => by simp [Value.ownBlock] at e, h.2.2.2⟩

set_option maxHeartbeats 8000000 in
set_option maxRecDepth 100000 in
theorem rpcs_any (s : ByteArray) (w : World) (hs : s.size ≤ 100000) :
    Calls Tryz.prog 13 #[.string s] w fun e w' => PcsPost 32 (pcsT s.data.toList [] []) w e w' ∧ Below w.heap.size w w' := by
  obtain ⟨i0, hi0, hz0, hz1, hz2⟩ := info_parts rpiece_info
  obtain ⟨j0, hj0, hy0, hy1, hy2⟩ := info_parts byte_inf2
  have HDR := Lib.hid (fun k w' h => rdir_any s k w' h hs)
  have hs0 : s.data.toList.length = s.size := by simp
  go_enter Tryz.func13, Tryz.ntmps13
  go_wp2_with fail
  go_loopw [4, 5, 6] (fun v u i wr => ∃ (k : Nat) (out : List Pc) (a : List UInt8), k ≤ s.size ∧ i = .int .i64 k ∧ Hid (pcsT (s.data.toList.drop k) out a = pcsT s.data.toList [] []) ∧ Hid (out.length + (flushP a).length ≤ k ∧ a.length ≤ k) ∧ Hid (RSt w w.heap.size out a v u wr)) (fun _ _ i _ => s.size - (intOf i).toNat)
  case atStart => exact ⟨0, [], [], Nat.zero_le _, rfl, by show _ = _; rw [List.drop_zero], ⟨Nat.le_refl _, Nat.le_refl _⟩, ⟨World.ownsRow_nil _ _ _ _, World.ownsRow_nil _ _ _ _, fun k h => by simp [Value.ownBlock] at h, Below.refl _ _, Nat.le_refl _⟩⟩
  case round =>
    rename_i v u i
    obtain ⟨k, out, a, hk, rfl, HT, HL, HP⟩ := hrel
    obtain ⟨xu, cu, rfl⟩ := own_form HP.out.2.1
    obtain ⟨xv, cv, rfl⟩ := own_form HP.out.1
    have hB := HP.out.2.2.2.2
    have HVB : Hid (∀ j, (Value.slice xv out.length cv).ownBlock = some j → w.heap.size ≤ j ∧ j < wr.heap.size) := fun j hj => HP.out.1.lt j hj
    have hL1 : out.length ≤ 100000 := by have := HL.out.1; omega
    have hL2 : a.length ≤ 100000 := by have := HL.out.2; omega
    by_cases hlt : k < s.size
    · have hdc := drop_cons s k hlt
      have hcc : ∃ c, s[k]'hlt = c := ⟨_, rfl⟩
      obtain ⟨c, hc⟩ := hcc
      rw [hc] at hdc
      by_cases h37 : c.toNat = 37
      · obtain rfl := c37 h37
        have hck : ((s[k]'hlt).toNat : Int) = 37 := by rw [hc]; rfl
        have b37 : (((37 : UInt8).toNat : Int) == 37) = true := by rfl
        by_cases h2 : ∃ h : k + 1 < s.size, (s[k + 1]'h).toNat = 37
        · obtain ⟨hlt2, h37b⟩ := h2
          have hd1 : decide ((k : Int) + 1 < (s.size : Int)) = true := by simp; omega
          have HT2 : Hid (pcsT (s.data.toList.drop (k + 1 + 1)) out (a ++ [37]) = pcsT s.data.toList [] []) := by
            show _ = _
            rw [← HT.out, hdc, drop_cons s (k + 1) hlt2, c37 h37b, pcsT_two]
          have b37b : (((s[k + 1]'hlt2).toNat : Int) == 37) = true := by simp; omega
          clear hdc h37b
          have HP2 := Lib.hid (HP.out.alloc (.cells #[.int .u8 37] 5))
          have HLN : Hid (out.length + (flushP (a ++ [37])).length ≤ k + 1 + 1 ∧ (a ++ [37]).length ≤ k + 1 + 1) := by
            have h1 := HL.out
            have h2 := flushP_le (a ++ [37])
            have h3 : (a ++ [37]).length = a.length + 1 := by simp
            exact ⟨by omega, by omega⟩
          go_wp2_with (first | (at_builtin; refine wpList_append_lies _ rfl _ _ 52 rfl w.heap.size 5 j0 _ 1 1 Tryz.underlying52 hj0 hy0 hy1 hy2 rfl (by omega) (.slice xu a.length cu) a.length (u8s a) rfl HP2.out.2.1 ⟨wr.heap.size, 0, none⟩ 1 1 [.int .u8 37] rfl (by rfl) (World.news_of_block (cs := #[.int .u8 37]) (t := 5) (fr := (0, 0)) (heap_alloc_new wr _)) (by simp [Value.oneCell']) (by omega) (by unfold maxLen; omega) (by omega) (by simp; omega) _ rfl ?_; intro gg cap w1 ho1 hg1 hl1 hlt1; have HO1 := Lib.hid ho1; have HG1 := Lib.hid hg1; have HL1 := Lib.hid hl1; clear ho1 hg1 hl1))
          refine ⟨⟨k + 1 + 1, out, a ++ [37], by omega, by go_num, HT2.out, HLN.out, HP2.out.addT HO1.out HG1.out HL1.out⟩, by simp [intOf]; omega⟩
        · have hh : ((s.data.toList.drop (k + 1)).head?.map UInt8.toNat) ≠ some 37 := by
            intro e
            by_cases h : k + 1 < s.size
            · rw [drop_cons s (k + 1) h] at e
              simp at e
              exact h2 ⟨h, e⟩
            · rw [List.drop_eq_nil_of_le (by omega)] at e
              simp at e
          have hcase : (decide ((k : Int) + 1 < (s.size : Int)) = false) ∨ (∃ h : k + 1 < s.size, decide ((k : Int) + 1 < (s.size : Int)) = true ∧ (((s[k + 1]'h).toNat : Int) == 37) = false) := by
            by_cases h : k + 1 < s.size
            · right
              refine ⟨h, by simp; omega, ?_⟩
              rw [beq_eq_false_iff_ne]
              intro e
              exact h2 ⟨h, by omega⟩
            · left; simp; omega
          clear h2
          cases hdir : dirT (s.data.toList.drop (k + 1)) with
          | none =>
            have HT2 : Hid (pcsT s.data.toList [] [] = none) := by show _ = _; rw [← HT.out, hdc, pcsT_bad hh hdir]
            have HDC : Hid (∀ w', Calls Tryz.prog 29 #[.string s, .int .i64 k] w' fun e w'' => e = .returned (dirV (k + 1) none) ∧ Below w'.heap.size w' w'') := fun w' => by have h := HDR.out k w' hlt; rw [hdir] at h; exact h
            unfold dirV at HDC
            clear hdc hh hdir
            rcases hcase with hd | ⟨h1, hd, hd2⟩
            all_goals
              go_wp2_with (first | (go_at_call 29; (with_reducible refine (HDC.out _).mono ?_); rintro e w1 ⟨rfl, hb1⟩; have HB1 := Lib.hid hb1; clear hb1))
              go_returns
              refine ⟨?_, ?_⟩
              · rw [HT2.out]; rfl
              · have h0 := HP.out.2.2.2.1.trans (HB1.out.mono (by omega))
                have hz0 := h0.size
                (repeat' (first | (with_reducible exact Below.refl _ _) | (with_reducible assumption) | (with_reducible refine Below.alloc ?_ ?_ _) | (with_reducible refine below_drewN ?_ _) | (with_reducible refine Below.drew ?_) | (with_reducible refine Below.setCell ?_ ?_ _) | (with_reducible refine below_via (by assumption) ?_ ?_) | (with_reducible refine below_via (later_below _) ?_ ?_) | (with_reducible exact Nat.le_refl _) | omega | (simp; omega) | (simp; done)))
          | some y =>
            obtain ⟨x, n⟩ := y
            have hok := dirT_ok hdir
            dsimp only at hok
            obtain ⟨o1, o2, -, o4, -⟩ := hok
            rw [List.length_drop] at o2
            have HT2 : Hid (pcsT (s.data.toList.drop (k + 1 + n)) (out ++ flushP a ++ [x]) [] = pcsT s.data.toList [] []) := by
              show _ = _
              rw [← HT.out, hdc, pcsT_dir hh hdir, List.drop_drop]
            have HDC : Hid (∀ w', Calls Tryz.prog 29 #[.string s, .int .i64 k] w' fun e w'' => e = .returned (dirV (k + 1) (some (x, n))) ∧ Below w'.heap.size w' w'') := fun w' => by have h := HDR.out k w' hlt; rw [hdir] at h; exact h
            unfold dirV at HDC
            dsimp only at HDC
            have HLN : Hid ((out ++ flushP a ++ [x]).length + (flushP []).length ≤ k + 1 + n ∧ ([] : List UInt8).length ≤ k + 1 + n) := by
              have h1 := HL.out
              refine ⟨?_, by simp⟩
              rw [List.length_append, List.length_append, show (flushP []).length = 0 from rfl]
              simp; omega
            have hnk : k + 1 + n ≤ s.size := by omega
            obtain ⟨xt, xV, xmi, xze, xpl, xW, xN⟩ := x
            dsimp only at o4 HDC
            subst o4
            clear hdc hh hdir o2
            by_cases ha : a = []
            · have hfl : flushP a = [] := by rw [ha]; rfl
              rw [hfl, List.append_nil] at HT2 HLN
              have ha0 : decide (0 < (a.length : Int)) = false := by rw [ha]; rfl
              have ha1 : decide (0 < a.length) = false := by rw [ha]; rfl
              clear ha hfl
              rcases hcase with hd | ⟨h1, hd, hd2⟩
              all_goals
                go_wp2_with (first | (go_at_call 29; (with_reducible refine (HDC.out _).mono ?_); rintro e w1 ⟨rfl, hb1⟩; have HB1 := Lib.hid hb1; have hsz1 := hb1.size; have HPb := Lib.hid ((HP.out.later hb1).alloc (.cells #[.string ⟨#[]⟩, .int .u8 xV, .bool xmi, .bool xze, .bool xpl, .int .i64 xW, .int .i64 xN] 32)); clear hb1) | (at_builtin; refine wpList_append_lies _ rfl _ _ 27 rfl w.heap.size 32 i0 _ 7 40 Tryz.underlying27 hi0 hz0 hz1 hz2 rfl (by omega) (.slice xv out.length cv) out.length (flatPc out) rfl (HPb.out.alloc _).1 ⟨w1.heap.size + 1, 0, none⟩ 1 1 (pcC (Pc.mk [] xV xmi xze xpl xW xN)) rfl (by rfl) (cells_at _ _ (pcC (Pc.mk [] xV xmi xze xpl xW xN)) _ (by simp)) (pcC_one _) (by omega) (by unfold maxLen; omega) (by omega) (by simp; omega) _ rfl ?_; intro g3 cap3 w3 ho1 hg1 hl1 hlt3; have HP3 := Lib.hid ((HPb.out.alloc _).addO (p := (Pc.mk [] xV xmi xze xpl xW xN)) ho1 hg1 hl1); have HG3 := Lib.hid hg1; clear ho1 hg1 hl1))
                refine ⟨⟨k + 1 + n, out ++ [Pc.mk [] xV xmi xze xpl xW xN], a, by omega, by go_num, ?_, ?_, HP3.out⟩, by simp [intOf]; omega⟩
                · have hn : a = [] := by
                    cases a with
                    | nil => rfl
                    | cons c t => simp at ha1
                  rw [hn]; exact HT2.out
                · have hn : a = [] := by
                    cases a with
                    | nil => rfl
                    | cons c t => simp at ha1
                  rw [hn]; exact HLN.out
            · have hfl : flushP a = [txtP a] := if_neg ha
              rw [hfl] at HT2 HLN
              have hal : 0 < a.length := by cases a; exact absurd rfl ha; simp
              have ha0 : decide (0 < (a.length : Int)) = true := by simp; omega
              have ha1 : decide (0 < a.length) = true := by simp; omega
              have HNE := Lib.hid ha
              obtain ⟨Q, hQ⟩ : ∃ Q, out ++ [txtP a] = Q := ⟨_, rfl⟩
              have HQ := Lib.hid hQ
              rw [hQ] at HT2 HLN
              have hQl : Q.length ≤ 100001 := by rw [← hQ]; simp; omega
              clear hQ
              clear ha hfl
              rcases hcase with hd | ⟨h1, hd, hd2⟩
              all_goals
                go_wp2_with (first | (go_at_call 29; (with_reducible refine (HDC.out _).mono ?_); rintro e w1 ⟨rfl, hb1⟩; have HB1 := Lib.hid hb1; have hsz1 := hb1.size; have HPb := Lib.hid ((HP.out.later hb1).alloc (.cells #[.string ⟨#[]⟩, .int .u8 xV, .bool xmi, .bool xze, .bool xpl, .int .i64 xW, .int .i64 xN] 32)); clear hb1; have hcv : (convert 52 9 (.slice xu a.length cu)).run Tryz.prog (w1.alloc (.cells #[.string ⟨#[]⟩, .int .u8 xV, .bool xmi, .bool xze, .bool xpl, .int .i64 xW, .int .i64 xN] 32)) = .ok (.string (mkS a)) (w1.alloc (.cells #[.string ⟨#[]⟩, .int .u8 xV, .bool xmi, .bool xze, .bool xpl, .int .i64 xW, .int .i64 xN] 32)) := Own.str (P := Tryz.prog) (Own.of_row HPb.out.2.1) HNE.out 52 9 5 Tryz.underlying52 Tryz.underlying5 Tryz.underlying9) | (at_builtin; (first | (refine wpList_append_lies _ rfl _ _ 27 rfl w.heap.size 32 i0 _ 7 40 Tryz.underlying27 hi0 hz0 hz1 hz2 rfl (by omega) (.slice xv out.length cv) out.length (flatPc out) rfl (HPb.out.alloc _).1 ⟨w1.heap.size + 1, 0, none⟩ 1 1 (pcC (txtP a)) rfl (by rfl) (cells_at _ _ (pcC (txtP a)) _ (by simp)) (pcC_one _) (by omega) (by unfold maxLen; omega) (by omega) (by simp; omega) _ rfl ?_; intro g4 cap4 w4 ho1 hg1 hl1 hlt4; have HP4 := Lib.hid ((HPb.out.alloc _).addO (p := (txtP a)) ho1 hg1 hl1); have HG4 := Lib.hid hg1; clear ho1 hg1 hl1; have hsz4 := HG4.out.size; simp at hsz4; obtain ⟨q0, q1, q2, q3, q4, q5, q6⟩ := box_cells (T := 32) ((HG4.out.block w1.heap.size (by simp; omega) (fun e => by have h1 := (HVB.out _ e.symm).2; omega)).trans ((heap_alloc_old _ _ (by simp)).trans (heap_alloc_new w1 _))); have HP5 := Lib.hid (HP4.out.strike.eq HQ.out rfl); have hB5 := HP5.out.2.2.2.2) | (refine wpList_append_lies _ rfl _ _ 27 rfl w.heap.size 32 i0 _ 7 40 Tryz.underlying27 hi0 hz0 hz1 hz2 rfl (by omega) (.slice (some ⟨g4, 0, none⟩) (out.length + 1) cap4) Q.length (flatPc Q) rfl (HP5.out.alloc _).1 ⟨w4.heap.size, 0, none⟩ 1 1 (pcC (Pc.mk [] xV xmi xze xpl xW xN)) rfl (by rfl) (cells_at _ _ (pcC (Pc.mk [] xV xmi xze xpl xW xN)) _ (by simp)) (pcC_one _) (by omega) (by unfold maxLen; omega) (by omega) (by simp; omega) _ rfl ?_; intro g6 cap6 w6 ho1 hg1 hl1 hlt6; have HP6 := Lib.hid ((HP5.out.alloc _).addO (p := (Pc.mk [] xV xmi xze xpl xW xN)) ho1 hg1 hl1); have HG6 := Lib.hid hg1; clear ho1 hg1 hl1))))
                refine ⟨⟨k + 1 + n, Q ++ [Pc.mk [] xV xmi xze xpl xW xN], [], by omega, by go_num, HT2.out, HLN.out, HP6.out⟩, by simp [intOf]; omega⟩
      · have b37 : ((c.toNat : Int) == 37) = false := by simp; omega
        have b37' : ((c.toNat : Int) != 37) = true := by simp; omega
        have HT2 : Hid (pcsT (s.data.toList.drop (k + 1)) out (a ++ [c]) = pcsT s.data.toList [] []) := by show _ = _; rw [← HT.out, hdc, pcsT_ch h37]
        clear hdc h37
        have HP2 := Lib.hid (HP.out.alloc (.cells #[.int .u8 (c.toNat : Int)] 5))
        have HLN : Hid (out.length + (flushP (a ++ [c])).length ≤ k + 1 ∧ (a ++ [c]).length ≤ k + 1) := by
          have h1 := HL.out
          have h2 := flushP_le (a ++ [c])
          have h3 : (a ++ [c]).length = a.length + 1 := by simp
          exact ⟨by omega, by omega⟩
        go_wp2_with (first | (at_builtin; refine wpList_append_lies _ rfl _ _ 52 rfl w.heap.size 5 j0 _ 1 1 Tryz.underlying52 hj0 hy0 hy1 hy2 rfl (by omega) (.slice xu a.length cu) a.length (u8s a) rfl HP2.out.2.1 ⟨wr.heap.size, 0, none⟩ 1 1 [.int .u8 c.toNat] rfl (by rfl) (World.news_of_block (cs := #[.int .u8 c.toNat]) (t := 5) (fr := (0, 0)) (heap_alloc_new wr _)) (by simp [Value.oneCell']) (by omega) (by unfold maxLen; omega) (by omega) (by simp; omega) _ rfl ?_; intro gg cap w1 ho1 hg1 hl1 hlt1; have HO1 := Lib.hid ho1; have HG1 := Lib.hid hg1; have HL1 := Lib.hid hl1; clear ho1 hg1 hl1))
        refine ⟨⟨k + 1, out, a ++ [c], by omega, by go_num, HT2.out, HLN.out, HP2.out.addT HO1.out HG1.out HL1.out⟩, by simp [intOf]; omega⟩
    · obtain rfl : k = s.size := by omega
      have hd0 : decide ((s.size : Int) < (s.size : Int)) = false := by simp
      have HT2 : Hid (pcsT s.data.toList [] [] = some (out ++ flushP a)) := by show _ = _; rw [← HT.out, List.drop_eq_nil_of_le (by omega), pcsT_nil]
      clear hlt
      by_cases ha : a = []
      · have hfl : flushP a = [] := by rw [ha]; rfl
        rw [hfl, List.append_nil] at HT2
        have ha0 : decide (0 < (a.length : Int)) = false := by rw [ha]; rfl
        have ha1 : decide (0 < a.length) = false := by rw [ha]; rfl
        clear ha hfl
        go_wp2_with fail
        go_returns
        refine ⟨?_, HP.out.2.2.2.1⟩
        rw [HT2.out]
        exact ⟨_, rfl, HP.out.1⟩
      · have hfl : flushP a = [txtP a] := if_neg ha
        rw [hfl] at HT2
        have hal : 0 < a.length := by cases a; exact absurd rfl ha; simp
        have ha0 : decide (0 < (a.length : Int)) = true := by simp; omega
        have ha1 : decide (0 < a.length) = true := by simp; omega
        have hcv : (convert 52 9 (.slice xu a.length cu)).run Tryz.prog wr = .ok (.string (mkS a)) wr := Own.str (P := Tryz.prog) (Own.of_row HP.out.2.1) ha 52 9 5 Tryz.underlying52 Tryz.underlying5 Tryz.underlying9
        clear ha hfl
        go_wp2_with (first | (at_builtin; refine wpList_append_lies _ rfl _ _ 27 rfl w.heap.size 32 i0 _ 7 40 Tryz.underlying27 hi0 hz0 hz1 hz2 rfl (by omega) (.slice xv out.length cv) out.length (flatPc out) rfl (HP.out.alloc _).1 ⟨wr.heap.size, 0, none⟩ 1 1 (pcC (txtP a)) rfl (by rfl) (cells_at _ _ (pcC (txtP a)) _ (by simp)) (pcC_one _) (by omega) (by unfold maxLen; omega) (by omega) (by simp; omega) _ rfl ?_; intro g3 cap3 w3 ho1 hg1 hl1 hlt3; have HP3 := Lib.hid ((HP.out.alloc _).addO (p := (txtP a)) ho1 hg1 hl1); have HG3 := Lib.hid hg1; clear ho1 hg1 hl1))
        go_returns
        refine ⟨?_, HP3.out.2.2.2.1⟩
        rw [HT2.out]
        exact ⟨_, rfl, HP3.out.1⟩
end Go.Proofs.YtemlijadhdejeaaGreatDoor
