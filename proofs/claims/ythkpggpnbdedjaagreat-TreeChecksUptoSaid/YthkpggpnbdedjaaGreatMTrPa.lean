/- The words of a left side: path. -/
import Derived.Test.YthkpggpnbdedjaaGreatMTrAB
import Derived.Test.YthkpggpnbdedjaaGreatMLxBuf
namespace Go.Proofs.YthkpggpnbdedjaaGreat
open Go.RowKit Go.Instr
set_option linter.unusedVariables false

theorem str_inf : (Tryz.prog.info? 9).map (fun i => (i.zero, i.size, i.bytes)) = some (some (.string ⟨#[]⟩), 1, 16) := by kernel_rfl
def strsV (l : List ByteArray) : List Value := l.map .string
theorem strsV_snoc (l : List ByteArray) (s : ByteArray) : strsV (l ++ [s]) = strsV l ++ [.string s] := by unfold strsV; simp
theorem strsV_len (l : List ByteArray) : (strsV l).length = l.length := by unfold strsV; simp
theorem pthN_len : ∀ n x, (pthN n x).1.length ≤ n
  | 0, _ => Nat.zero_le _
  | n + 1, x => by
    unfold pthN
    split
    · simp
    · split
      · rename_i a _ _ _
        split
        · have := pthN_len n a
          simp
          omega
        · simp
      · simp
theorem Buf.up {w0 w1 w : World} {base base' : Nat} {e : TypeId} {v : Value} {xs : List Value} (h : Buf w1 base' e v xs w) (hb : base ≤ base') (hw : Below base w0 w1) : Buf w0 base e v xs w := by
  obtain ⟨⟨h1, h2⟩, h3, h4⟩ := h
  refine ⟨⟨h1, ?_⟩, hw.trans (h3.mono hb), Nat.le_trans hb h4⟩
  rcases h2 with h2 | ⟨g, cap, cur, hv, hg, rest⟩
  · exact .inl h2
  · exact .inr ⟨g, cap, cur, hv, Nat.le_trans hb hg, rest⟩
/-- What path answers. -/
abbrev PaS (n : Nat) : Prop := ∀ (x : TX) (w : World), rkX x < n → InX w w.heap.size x → Calls Tryz.prog 45 #[x.v] w fun e w' => ∃ v, e = .returned (.tuple #[v, .bool (pthN n x).2]) ∧ Buf w w.heap.size 9 v (strsV (pthN n x).1) w'
set_option maxRecDepth 100000 in
set_option maxHeartbeats 8000000 in
theorem path_step (n : Nat) (hn : n ≤ 2000000) (hP : PaS n) : PaS (n + 1) := by
  obtain ⟨i0, hi1, hz0, hz1, hz2⟩ := info_parts str_inf
  intro x w hrk hin
  obtain ⟨L, hL⟩ : ∃ L, (pthN (n + 1) x).1 = L := ⟨_, rfl⟩
  obtain ⟨B, hB⟩ : ∃ B, (pthN (n + 1) x).2 = B := ⟨_, rfl⟩
  rw [hL, hB]
  by_cases h7 : x.k = 7
  · have e : pthN (n + 1) x = ([x.s], true) := by unfold pthN; rw [if_pos h7]
    rw [e] at hL hB
    subst hL hB
    have d7 : (x.k == 7) = true := by simpa using h7
    clear hin hP e h7
    go_enter Tryz.func45, Tryz.ntmps45
    go_wp2_with fail
    go_returns
    refine ⟨_, rfl, ?_⟩
    have h := (Buf.lit w (w.alloc (.cells #[.int .i64 x.k, .int .i64 x.op, .int .i64 x.ln, .int .i64 x.p, .int .i64 x.q, .string x.s, .slice x.aA x.args.length x.aC, .slice x.fA x.funcs.length x.fC] 28)) w.heap.size 9 [.string x.s] (by (repeat' (first | (with_reducible exact Below.refl _ _) | (with_reducible assumption) | (with_reducible refine Below.alloc ?_ ?_ _) | (with_reducible refine below_drewN ?_ _) | (with_reducible refine Below.drew ?_) | (with_reducible refine Below.setCell ?_ ?_ _) | (with_reducible refine below_via (by assumption) ?_ ?_) | (with_reducible refine below_via (later_below _) ?_ ?_) | (with_reducible exact Nat.le_refl _) | omega | (simp; omega) | (simp; done)))) (by simp) (by unfold maxLen; simp))
    simpa [strsV] using h
  · have d7 : (x.k == 7) = false := by simpa using h7
    by_cases h8 : x.k = 8
    · have d8 : (x.k != 8) = false := by simp [h8]
      have d8' : (x.k == 8) = true := by simpa using h8
      by_cases hl : x.args.length = 2
      · obtain ⟨a, b, hab⟩ : ∃ a b, x.args = [a, b] := by
          match hx : x.args with
          | [a, b] => exact ⟨a, b, rfl⟩
          | [] => rw [hx] at hl; cases hl
          | [_] => rw [hx] at hl; cases hl
          | _ :: _ :: _ :: _ => rw [hx] at hl; simp at hl
        have e : pthN (n + 1) x = if b.k = 5 ∧ nameB b.s.data.toList = true then ((pthN n a).1 ++ [b.s], (pthN n a).2) else ([], false) := by
          show (if x.k = 7 then _ else match x.k == 8, x.args with | true, [a, b] => _ | _, _ => _) = _
          rw [if_neg h7, d8', hab]
        rw [e] at hL hB
        rw [rkX_eq, hab] at hrk
        have hra : rkXs [a, b] = rkX a + (rkX b + 0) := rfl
        have hxs := hin.xs
        obtain ⟨b1, o1, ha1, hb1, hc0, hia⟩ := hxs.at_ (k := 0) (by omega)
        obtain ⟨b2, o2, ha2, hb2, hc1, hib⟩ := hxs.at_ (k := 1) (by omega)
        rw [ha1] at ha2
        injection ha2 with ha2
        injection ha2 with q1 q2
        subst q1 q2
        have ea : x.args[0] = a := by simp [hab]
        have eb : x.args[1] = b := by simp [hab]
        rw [ea] at hc0 hia
        rw [eb] at hc1 hib
        obtain ⟨c0, c1, c2, c3, c4, c5, c6, c7⟩ := hc0
        obtain ⟨e0, e1, e2, e3, e4, e5, e6, e7⟩ := hc1
        have hbl := cell_lt c0
        have hbs := ((inX_iff b).1 hib).1.si
        have hxl := ((inX_iff x).1 hin).1.ai
        have HIA := Lib.hid hia
        rw [Nat.zero_mul, Nat.add_zero] at c0 c1 c2 c3 c4 c5 c6 c7
        rw [Nat.one_mul] at e0 e1 e2 e3 e4 e5 e6 e7
        obtain ⟨hx1, hx2, -⟩ := hxl
        clear hxs hib ea eb hin
        have d5 : (x.args.length : Int) = 2 := by omega
        by_cases h5 : b.k = 5
        · have t5 : (b.k != 5) = false := by simp [h5]
          have HN : Hid (∀ W, Calls Tryz.prog 44 #[.string b.s] W fun e w' => e = .returned (.bool (nameB b.s.data.toList)) ∧ Below W.heap.size W w') := fun W => name_any b.s W hbs
          obtain ⟨nb, hnb⟩ : ∃ q, nameB b.s.data.toList = q := ⟨_, rfl⟩
          rw [hnb] at HN hL hB
          cases nb with
          | false =>
            rw [if_neg (by simp)] at hL hB
            subst hL hB
            clear hP h5 h7 h8 e hnb hra hrk hab d5
            go_enter Tryz.func45, Tryz.ntmps45
            go_wp2_with (go_at_call 44; (with_reducible refine (HN.out _).mono ?_); rintro e w3 ⟨rfl, hb⟩; have hbn := hb; (refine mem hb ?_; intro N hN hz hc hf; (try simp at hN); subst hN))
            go_returns
            exact ⟨_, rfl, Buf.nil _ _ _ _ (by (repeat' (first | (with_reducible exact Below.refl _ _) | (with_reducible assumption) | (with_reducible refine Below.alloc ?_ ?_ _) | (with_reducible refine below_drewN ?_ _) | (with_reducible refine Below.drew ?_) | (with_reducible refine Below.setCell ?_ ?_ _) | (with_reducible refine below_via (by assumption) ?_ ?_) | (with_reducible refine below_via (later_below _) ?_ ?_) | (with_reducible exact Nat.le_refl _) | omega | (simp; omega) | (simp; done)))) (by have := hbn.size; simp at this; omega)⟩
          | true =>
            rw [if_pos ⟨h5, rfl⟩] at hL hB
            have HPa : Hid (∀ W, Below w.heap.size w W → Calls Tryz.prog 45 #[a.v] W fun e w' => ∃ v, e = .returned (.tuple #[v, .bool (pthN n a).2]) ∧ Buf w w.heap.size 9 v (strsV (pthN n a).1) w' ∧ Below W.heap.size W w') := fun W hW =>
              (hP a W (by omega) (HIA.out.still (still_of hW (Nat.le_refl _)) hW.size)).mono fun e w' ⟨v, h1, h2⟩ => ⟨v, h1, h2.up hW.size hW, h2.2.1⟩
            have hpl := pthN_len n a
            obtain ⟨p1, hp1⟩ : ∃ p, (pthN n a).1 = p := ⟨_, rfl⟩
            obtain ⟨p2, hp2⟩ : ∃ p, (pthN n a).2 = p := ⟨_, rfl⟩
            rw [hp1] at HPa hL hpl
            rw [hp2] at HPa hB
            subst hL hB
            have hsl := strsV_len p1
            clear hP h5 h7 h8 e hnb hra hrk hab hp1 hp2 HIA d5
            go_enter Tryz.func45, Tryz.ntmps45
            go_wp2_with (first | (go_at_call 44; (with_reducible refine (HN.out _).mono ?_); rintro e w3 ⟨rfl, hb⟩; have hbn := hb; (refine mem hb ?_; intro N hN hz hc hf; (try simp at hN); subst hN)) | (go_at_call 45; (with_reducible refine (HPa.out _ ?_).mono ?_); (focus ((repeat' (first | (with_reducible exact Below.refl _ _) | (with_reducible assumption) | (with_reducible refine Below.alloc ?_ ?_ _) | (with_reducible refine below_drewN ?_ _) | (with_reducible refine Below.drew ?_) | (with_reducible refine Below.setCell ?_ ?_ _) | (with_reducible refine below_via (by assumption) ?_ ?_) | (with_reducible refine below_via (later_below _) ?_ ?_) | (with_reducible exact Nat.le_refl _) | omega | (simp; omega) | (simp; done))))); rintro e w4 ⟨v, rfl, hbf, hb⟩; have HBF := Lib.hid hbf; clear hbf; (refine mem hb ?_; intro N hN hz hc hf; (try simp at hN); subst hN)) | (at_builtin; refine wp_lit rfl _ _ 48 rfl 9 i0 (.string ⟨#[]⟩) 16 Tryz.underlying48 hi1 hz0 hz1 hz2 rfl w w.heap.size _ (strsV p1) HBF.out rfl ?_ ?_ ?_ ?_ ?_; (focus exact ⟨_, _, rfl, by first | rfl | simp⟩); (focus (simp [Value.oneCell'])); (focus (unfold maxLen; (try simp); omega)); (focus ((try simp); omega)); intro v' w' hb'))
            go_returns
            refine ⟨_, rfl, ?_⟩
            rw [strsV_snoc]
            exact hb'
        · have t5 : (b.k != 5) = true := by simpa using h5
          rw [if_neg (by simp [h5])] at hL hB
          subst hL hB
          clear hP h5 h7 h8 e hra hrk hab d5
          go_enter Tryz.func45, Tryz.ntmps45
          go_wp2_with fail
          go_returns
          exact ⟨_, rfl, Buf.nil _ _ _ _ (by (repeat' (first | (with_reducible exact Below.refl _ _) | (with_reducible assumption) | (with_reducible refine Below.alloc ?_ ?_ _) | (with_reducible refine below_drewN ?_ _) | (with_reducible refine Below.drew ?_) | (with_reducible refine Below.setCell ?_ ?_ _) | (with_reducible refine below_via (by assumption) ?_ ?_) | (with_reducible refine below_via (later_below _) ?_ ?_) | (with_reducible exact Nat.le_refl _) | omega | (simp; omega) | (simp; done)))) (by simp)⟩
      · have e : pthN (n + 1) x = ([], false) := by
          unfold pthN
          rw [if_neg h7]
          split
          · rename_i h
            exact absurd (by rw [h]; rfl) hl
          · rfl
        rw [e] at hL hB
        subst hL hB
        have dl : ((x.args.length : Int) != 2) = true := by simp; omega
        have hxl := ((inX_iff x).1 hin).1.ai
        obtain ⟨hx1, hx2, -⟩ := hxl
        have hal : (x.args.length : Int) ≤ 9223372036854775807 := by omega
        clear hin hP e h7 h8
        go_enter Tryz.func45, Tryz.ntmps45
        go_wp2_with fail
        go_returns
        exact ⟨_, rfl, Buf.nil _ _ _ _ (by (repeat' (first | (with_reducible exact Below.refl _ _) | (with_reducible assumption) | (with_reducible refine Below.alloc ?_ ?_ _) | (with_reducible refine below_drewN ?_ _) | (with_reducible refine Below.drew ?_) | (with_reducible refine Below.setCell ?_ ?_ _) | (with_reducible refine below_via (by assumption) ?_ ?_) | (with_reducible refine below_via (later_below _) ?_ ?_) | (with_reducible exact Nat.le_refl _) | omega | (simp; omega) | (simp; done)))) (by simp)⟩
    · have d8 : (x.k != 8) = true := by simpa using h8
      have e : pthN (n + 1) x = ([], false) := by
        unfold pthN
        rw [if_neg h7, show (x.k == 8) = false by simpa using h8]
      rw [e] at hL hB
      subst hL hB
      clear hin hP e h7 h8
      go_enter Tryz.func45, Tryz.ntmps45
      go_wp2_with fail
      go_returns
      exact ⟨_, rfl, Buf.nil _ _ _ _ (by (repeat' (first | (with_reducible exact Below.refl _ _) | (with_reducible assumption) | (with_reducible refine Below.alloc ?_ ?_ _) | (with_reducible refine below_drewN ?_ _) | (with_reducible refine Below.drew ?_) | (with_reducible refine Below.setCell ?_ ?_ _) | (with_reducible refine below_via (by assumption) ?_ ?_) | (with_reducible refine below_via (later_below _) ?_ ?_) | (with_reducible exact Nat.le_refl _) | omega | (simp; omega) | (simp; done)))) (by simp)⟩
theorem path_all : ∀ n, n ≤ 2000000 → PaS n
  | 0, _ => fun _ _ h => by omega
  | n + 1, h => path_step n (by omega) (path_all n (by omega))
end Go.Proofs.YthkpggpnbdedjaaGreat
