/- The reference's Scan. -/
import Derived.Test.YtgjeljhodflbgaaDoorMLxR5
import Derived.Test.YtgjeljhodflbgaaDoorMLxD
namespace Go.Proofs.YtgjeljhodflbgaaDoor
open Go.RowKit Go.Instr
set_option linter.unusedVariables false

/-- Tokens that the call itself collects. -/
def BufT (w0 : World) (base : Nat) (v : Value) (l : List Tk) (w : World) : Prop := w.ownsRow base 30 4 v l.length (flatTk l) ∧ Below base w0 w ∧ base ≤ w.heap.size
theorem BufT.later {w0 w w' : World} {base : Nat} {v : Value} {l : List Tk} (h : BufT w0 base v l w) (hb : Below w.heap.size w w') : BufT w0 base v l w' :=
  ⟨ownsRow_later h.1 hb, h.2.1.trans (hb.mono h.2.2), Nat.le_trans h.2.2 hb.size⟩
theorem BufT.alloc {w0 w : World} {base : Nat} {v : Value} {l : List Tk} (h : BufT w0 base v l w) (o : Obj) : BufT w0 base v l (w.alloc o) := h.later ((Below.refl _ _).alloc (Nat.le_refl _) o)
/-- 'append(out, t)'. -/
theorem wp_tok {W : World} {k : Int} {x : ByteArray} {L p : Nat} {T : TypeId} {ops : Array Oper} {rest : List Oper} {o : Oper} {a : Act} {Q : Exit → Act → World → Prop}
    (hg : o.guard = none) (s y : Operand) (hop : o.op = Op.call { callee := Callee.builtin Builtin.append, args := #[s, y], argTypes := #[23, 23] })
    (w0 : World) (base : Nat) (v : Value) (l : List Tk) (hb : BufT w0 base v l W) (hs : a.eval s = v) (hx : ∃ g c, a.eval y = .slice (some ⟨g, 0, none⟩) 1 c ∧ W.heap.size = g) (hl : l.length ≤ 1000000)
    (hK : ∀ v' w', BufT w0 base v' (l ++ [⟨k, x.data.toList, L, p⟩]) w' → wpList Tryd.prog ops Q rest (a.put o.dst v') w') : wpList Tryd.prog ops Q (o :: rest) a (W.alloc (.cells #[.int .i64 k, .string x, .int .i64 L, .int .i64 p] T)) := by
  obtain ⟨i0, hi0, hz0, hz1, hz2⟩ := info_parts token_info
  obtain ⟨g, c, hx, hgs⟩ := hx
  refine wpList_append_own _ hg s y _ hop base 30 i0 _ 4 40 Tryd.underlying23 hi0 hz0 hz1 hz2 rfl (by omega) v l.length (flatTk l) hs (hb.1.alloc _) ⟨g, 0, none⟩ 1 c [.int .i64 k, .string x, .int .i64 L, .int .i64 p] hx rfl
    (cells_at W g [.int .i64 k, .string x, .int .i64 L, .int .i64 p] T hgs) (by simp [Value.oneCell']) (by unfold maxLen; omega) (by omega) (by simp; have := hb.2.2; omega) ?_
  intro v' w' ho hgr _
  have hb2 := hb.alloc (.cells #[.int .i64 k, .string x, .int .i64 L, .int .i64 p] T)
  refine hK v' w' ⟨?_, hb2.2.1.grown hgr hb2.2.2 (fun r hr => ?_), Nat.le_trans hb2.2.2 hgr.size⟩
  · rw [List.length_append, flatTk_snoc, mkS_of]
    exact ho
  · obtain ⟨-, h2 | ⟨g2, cap, cur, hv, hg2, -⟩⟩ := hb.1
    · rw [h2.1] at hr; cases hr
    · rw [hv] at hr; cases hr; exact hg2
theorem nl_step (s : ByteArray) (j k : Nat) (hjk : j ≤ k) (h : k < s.size) : nlN ((s.data.toList.drop j).take (k + 1 - j)) = nlN ((s.data.toList.drop j).take (k - j)) + if (s[k]'h).toNat = 10 then 1 else 0 := by
  have hl : k - j < (s.data.toList.drop j).length := by rw [List.length_drop]; simp; omega
  have e : (s.data.toList.drop j)[k - j] = s[k]'h := by
    rw [List.getElem_drop]
    simp [show j + (k - j) = k by omega]
    rfl
  rw [show k + 1 - j = (k - j) + 1 by omega, List.take_succ_eq_append_getElem hl, nlN_app, e]
  congr 1
  show List.count 10 [s[k]'h] = _
  by_cases h10 : (s[k]'h).toNat = 10
  · have : s[k]'h = 10 := UInt8.toNat_inj.1 h10
    rw [if_pos h10, this]; rfl
  · have : s[k]'h ≠ 10 := fun e => h10 (by rw [e]; rfl)
    rw [if_neg h10, List.count_eq_zero_of_not_mem (by simpa using fun e => this e.symm)]

set_option maxHeartbeats 8000000 in
set_option maxRecDepth 100000 in
theorem r3scan_any (s : ByteArray) (w : World) (hs : s.size ≤ 3000) :
    Calls Tryd.prog 13 #[.string s] w fun e w' => (∃ v, e = .returned (.tuple #[v, .int .i64 (scanA s.data.toList 0 1).2.1, .int .i64 (scanA s.data.toList 0 1).2.2]) ∧ w'.ownsRow w.heap.size 30 4 v (scanA s.data.toList 0 1).1.length (flatTk (scanA s.data.toList 0 1).1)) ∧ Below w.heap.size w w' := by
  obtain ⟨R, hR⟩ : ∃ R, scanA s.data.toList 0 1 = R := ⟨_, rfl⟩
  have hform := scanA_form s.data.toList 0 1
  have HR0 : Hid (R = apA [] (scanA (s.data.toList.drop 0) 0 1)) := by
    show _ = _
    rw [List.drop_zero, hR, ← hR, apA_nil _ hform]
  rw [hR]
  clear hR hform
  have HG := Lib.hid (fun w' j h => r3gap_any s j w' h (by omega))
  have HTK := Lib.hid (fun w' p L h => r3tok_any s p L w' h hs)
  have hs0 : ¬ (65536 : Int) < (s.size : Int) := by omega
  go_enter Tryd.func13, Tryd.ntmps13
  go_wp2_with fail
  refine (HG.out _ 0 (Nat.zero_le _)).mono ?_
  rintro e w1 ⟨rfl, rfl⟩
  go_wp2_with fail
  go_loopw [5, 6, 7, 8] (fun v u6 u7 u8 wr => ∃ (j m : Nat) (l : List Tk), j ≤ s.size ∧ m ≤ 1 + j ∧ l.length ≤ j ∧ u6 = .int .i64 m ∧ u7 = .int .i64 j ∧ u8 = .int .i64 (gapI s j) ∧ Hid (BufT w w.heap.size v l wr) ∧ Hid (R = apA l (scanA (s.data.toList.drop j) j m))) (fun _ _ _ u8 _ => s.size - (intOf u8).toNat)
  case atStart => exact ⟨0, 1, [], Nat.zero_le _, by omega, Nat.le_refl _, rfl, rfl, rfl, ⟨World.ownsRow_nil _ _ _ _, Below.refl _ _, Nat.le_refl _⟩, HR0.out⟩
  case round =>
    obtain ⟨j, m, l, hj, hm, hll, rfl, rfl, rfl, HB, HE⟩ := hrel
    obtain ⟨hp1, hp2⟩ := gapI_le s j hj
    have hsz := HB.out.2.2
    by_cases hlt : gapI s j < s.size
    · have hbad := scan_bad (m := m) hlt
      have hgood := scan_good (m := m) hlt
      have hok := tokT_ok (r := s.data.toList.drop (gapI s j))
      have HK := Lib.hid (fun w' L => HTK.out w' (gapI s j) L hlt)
      have hcnt := gapN_count (s.data.toList.drop j).length (s.data.toList.drop j) (Nat.le_refl _)
      have hgl : gapL s j m = m + nlN ((s.data.toList.drop j).take (gapI s j - j)) := by
        rw [show gapI s j - j = (gapN (s.data.toList.drop j)).1 by unfold gapI; omega, hcnt]; rfl
      obtain ⟨tk, htk⟩ : ∃ tk, tokT (s.data.toList.drop (gapI s j)) = tk := ⟨_, rfl⟩
      rw [htk] at hbad hgood hok HK
      obtain ⟨p, hp⟩ : ∃ p, gapI s j = p := ⟨_, rfl⟩
      rw [hp] at hlt hp1 hgl HK hgood hok
      rw [hp]
      have HBAD := Lib.hid hbad
      have HGOOD := Lib.hid hgood
      have HOK := Lib.hid hok
      have HGL := Lib.hid hgl
      clear hbad hgood hok hcnt hgl htk hp2 hp
      go_wp2_with fail
      go_loop [6, 9] (fun u v => ∃ k M : Nat, j ≤ k ∧ k ≤ p ∧ v = .int .i64 k ∧ u = .int .i64 M ∧ M ≤ 1 + k ∧ Hid (M = m + nlN ((s.data.toList.drop j).take (k - j)))) (fun _ v => p - (intOf v).toNat)
      case atStart => exact ⟨j, m, Nat.le_refl _, hp1, rfl, rfl, hm, by show _ = _; rw [Nat.sub_self]; rfl⟩
      case round =>
        obtain ⟨k, M, hjk, hkp, rfl, rfl, hM, HM⟩ := hrel
        by_cases hk : k < p
        · have hks : k < s.size := by omega
          have hst := nl_step s j k hjk hks
          obtain ⟨c, hc⟩ : ∃ c, s[k]'hks = c := ⟨_, rfl⟩
          rw [hc, ← Nat.add_zero (nlN _)] at hst
          by_cases h10 : c.toNat = 10
          · have b10 : ((c.toNat : Int) == 10) = true := by simp; omega
            have HS : Hid (M + 1 = m + nlN ((s.data.toList.drop j).take (k + 1 - j))) := by
              show _ = _
              rw [if_pos h10] at hst
              have := HM.out
              omega
            clear hst h10
            go_wp2_with fail
            exact ⟨⟨k + 1, M + 1, by omega, by omega, by go_num, by go_num, by omega, HS.out⟩, by simp [intOf]; omega⟩
          · have b10 : ((c.toNat : Int) == 10) = false := by simp; omega
            have HS : Hid (M = m + nlN ((s.data.toList.drop j).take (k + 1 - j))) := by
              show _ = _
              rw [if_neg h10] at hst
              have := HM.out
              omega
            clear hst h10
            go_wp2_with fail
            exact ⟨⟨k + 1, M, by omega, by omega, by go_num, rfl, by omega, HS.out⟩, by simp [intOf]; omega⟩
        · obtain rfl : k = p := by omega
          have hML : gapL s j m = M := by rw [HGL.out, HM.out]
          have HC := Lib.hid (fun w' => HK.out w' M)
          by_cases he : tk.e = 0
          · obtain ⟨hn1, hn2, -⟩ := HOK.out he
            simp at hn2
            have h1 := HGOOD.out he
            rw [hML] at h1
            obtain ⟨K, x, n, htk⟩ : ∃ K x n, tk = ⟨0, K, x, n⟩ := ⟨tk.k, tk.x, tk.n, by rw [← he]⟩
            subst htk
            dsimp only at h1 hn1 hn2 he
            have HE2 : Hid (R = apA (l ++ [⟨K, (mkS x).data.toList, M, k⟩]) (scanA (s.data.toList.drop (k + n)) (k + n) M)) := by
              show _ = _
              rw [HE.out, h1, apA_scP]
              rfl
            obtain ⟨q, hq⟩ : ∃ q, k + n = q := ⟨_, rfl⟩
            rw [hq] at HE2
            have HC2 : Hid (∀ w', Calls Tryd.prog 29 #[.string s, .int .i64 k, .int .i64 M] w' fun e w'' => e = .returned (.tuple #[.agg #[.int .i64 K, .string (mkS x), .int .i64 M, .int .i64 k], .int .i64 q, .int .i64 0]) ∧ Below w'.heap.size w' w'') := fun w' => by
              have h0 := HC.out w'
              rw [r3V_ok (r := ⟨0, K, x, n⟩) (y := mkS x) rfl hq rfl] at h0
              exact h0
            have hqs : q ≤ s.size := by omega
            have HG2 := Lib.hid (fun w' => HG.out w' q hqs)
            have hgq := gapI_le s q hqs
            obtain ⟨q1, q2⟩ := hgq
            clear h1 he HBAD HGOOD HOK HGL HM hML HC HK
            go_wp2_with fail
            refine (HC2.out _).mono ?_
            rintro e w2 ⟨rfl, hb2⟩
            have HB2 := Lib.hid (HB.out.later hb2)
            clear hb2
            go_wp2_with (first | (go_at_call 28; (with_reducible refine (HG2.out _).mono ?_); rintro e w3 ⟨rfl, rfl⟩) | (at_builtin; refine wp_tok rfl _ _ rfl w w.heap.size _ l (HB2.out.alloc _) rfl ?_ ?_ ?_; (focus exact ⟨_, _, rfl, by first | rfl | simp⟩); (focus omega); intro v' w' hb'))
            refine ⟨⟨q, M, _, hqs, by omega, ?_, rfl, rfl, rfl, hb', HE2.out⟩, by simp [intOf]; omega⟩
            rw [List.length_append]; simp; omega
          · have h1 := HBAD.out he
            rw [hML] at h1
            have HRE : Hid (R = ([], M, tk.e)) := by
              show _ = _
              rw [HE.out, h1]
              unfold apA
              rw [if_neg he]
            have hr : tk = errR tk.e ∨ True := .inr trivial
            have HC2 : Hid (∀ w', Calls Tryd.prog 29 #[.string s, .int .i64 k, .int .i64 M] w' fun e w'' => e = .returned (.tuple #[.agg #[.int .i64 0, .string ⟨#[]⟩, .int .i64 0, .int .i64 0], .int .i64 0, .int .i64 tk.e]) ∧ Below w'.heap.size w' w'') := fun w' => by
              have h0 := HC.out w'
              unfold r3V at h0
              rw [if_neg he] at h0
              exact h0
            obtain ⟨E, hE⟩ : ∃ E, tk.e = E := ⟨_, rfl⟩
            rw [hE] at HC2 HRE he
            have be : (E != 0) = true := by simp; exact he
            clear h1 he HBAD HGOOD HOK HGL HM hML HC HK hr hE
            go_wp2_with fail
            refine (HC2.out _).mono ?_
            rintro e w2 ⟨rfl, hb2⟩
            have HB2 := Lib.hid (HB.out.later hb2)
            clear hb2
            go_wp2_with fail
            go_returns
            refine ⟨⟨.slice none 0 0, by rw [HRE.out]; rfl, ?_⟩, ?_⟩
            · rw [HRE.out]; exact World.ownsRow_nil _ _ _ _
            · have h0 := HB2.out.2.1
              have h1 := HB2.out.2.2
              (repeat' (first | (with_reducible exact Below.refl _ _) | (with_reducible assumption) | (with_reducible refine Below.alloc ?_ ?_ _) | (with_reducible refine Go.below_drewN ?_ _) | (with_reducible refine Below.drew ?_) | (with_reducible refine Below.setCell ?_ ?_ _) | (with_reducible refine below_via (by assumption) ?_ ?_) | (with_reducible refine below_via (later_below _) ?_ ?_) | (with_reducible exact Nat.le_refl _) | omega | (simp; omega) | (simp; done)))
    · have hdone := scan_done (m := m) (Nat.le_of_not_lt hlt)
      have HRE : Hid (R = (l, 0, 0)) := by
        show _ = _
        rw [HE.out, hdone]
        unfold apA
        simp
      clear hdone
      go_wp2_with fail
      go_returns
      exact ⟨⟨_, by rw [HRE.out]; rfl, by rw [HRE.out]; exact HB.out.1⟩, HB.out.2.1⟩
end Go.Proofs.YtgjeljhodflbgaaDoor
