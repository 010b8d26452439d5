/- The program's Format. -/
import Derived.Test.YtemlijadhdejeaaGreatDoorMFmW8
import Derived.Test.YtemlijadhdejeaaGreatDoorMFmWA
import Derived.Test.YtemlijadhdejeaaGreatDoorMFmA
import Derived.Test.YtemlijadhdejeaaGreatDoorMMem
namespace Go.Proofs.YtemlijadhdejeaaGreatDoor
open Go.RowKit Go.Instr
set_option linter.unusedVariables false

/-- A value's five cells. -/
def VAt (w : World) (b o : Nat) (v : VV) : Prop := w.cell? ⟨b, o, none⟩ = some (.int .i64 v.k) ∧ w.cell? ⟨b, o + 1, none⟩ = some (.int .i64 v.p) ∧ w.cell? ⟨b, o + 2, none⟩ = some (.int .i64 v.q) ∧ w.cell? ⟨b, o + 3, none⟩ = some (.string v.s) ∧ w.cell? ⟨b, o + 4, none⟩ = some (.int .i64 v.r)
theorem VAt.below {W w : World} {b o : Nat} {v : VV} (h : VAt W b o v) (hb : Below W.heap.size W w) : VAt w b o v :=
  ⟨(hb.cell (p := ⟨b, _, none⟩) (cell_lt h.1)).trans h.1, (hb.cell (p := ⟨b, _, none⟩) (cell_lt h.1)).trans h.2.1, (hb.cell (p := ⟨b, _, none⟩) (cell_lt h.1)).trans h.2.2.1, (hb.cell (p := ⟨b, _, none⟩) (cell_lt h.1)).trans h.2.2.2.1, (hb.cell (p := ⟨b, _, none⟩) (cell_lt h.1)).trans h.2.2.2.2⟩
/-- Values at a slice's address. -/
def VsAt (w : World) (a : Option Addr) (l : List VV) : Prop := l.length = 0 ∨ ∃ b o, a = some ⟨b, o, none⟩ ∧ ∀ i, (h : i < l.length) → VAt w b (o + i * 5) l[i]
theorem VsAt.later {w W : World} {a : Option Addr} {l : List VV} (h : VsAt w a l) (hb : Below w.heap.size w W) : VsAt W a l := by
  rcases h with h | ⟨b, o, h1, h2⟩
  · exact .inl h
  · exact .inr ⟨b, o, h1, fun i hi => (h2 i hi).below hb⟩
theorem flatPc_get : ∀ (l : List Pc) (i : Nat) (h : i < l.length) (j : Nat), j < 7 → (flatPc l)[i * 7 + j]? = (pcC l[i])[j]?
  | [], i, h, _, _ => by cases h
  | x :: l, 0, _, j, hj => by
    show (pcC x ++ flatPc l)[0 * 7 + j]? = _
    rw [Nat.zero_mul, Nat.zero_add, List.getElem?_append_left (by simpa [pcC] using hj)]; rfl
  | x :: l, i + 1, h, j, hj => by
    show (pcC x ++ flatPc l)[(i + 1) * 7 + j]? = _
    rw [List.getElem?_append_right (by simp [pcC]; omega), show (i + 1) * 7 + j - (pcC x).length = i * 7 + j by simp [pcC]; omega]
    exact flatPc_get l i (by simpa using h) j hj
/-- The cells of the parts. -/
theorem own_pcs {w : World} {base : Nat} {e : TypeId} {v : Value} {l : List Pc} (h : w.ownsRow base e 7 v l.length (flatPc l)) (hn : 0 < l.length) :
    ∃ g cap, v = .slice (some ⟨g, 0, none⟩) l.length cap ∧ base ≤ g ∧ g < w.heap.size ∧ ∀ i, (hi : i < l.length) → (w.cell? ⟨g, i * 7, none⟩ = some (.string (mkS (l[i]).t)) ∧ w.cell? ⟨g, i * 7 + 1, none⟩ = some (.int .u8 (l[i]).v) ∧ w.cell? ⟨g, i * 7 + 2, none⟩ = some (.bool (l[i]).mi) ∧ w.cell? ⟨g, i * 7 + 3, none⟩ = some (.bool (l[i]).ze) ∧ w.cell? ⟨g, i * 7 + 4, none⟩ = some (.bool (l[i]).pl) ∧ w.cell? ⟨g, i * 7 + 5, none⟩ = some (.int .i64 (l[i]).w) ∧ w.cell? ⟨g, i * 7 + 6, none⟩ = some (.int .i64 (l[i]).n)) := by
  obtain ⟨g, cap, hv, hb, hg, hc, hcell⟩ := own_cell h hn
  refine ⟨g, cap, hv, hb, hg, fun i hi => ?_⟩
  have hl := h.1
  have c : ∀ j, j < 7 → w.cell? ⟨g, i * 7 + j, none⟩ = (pcC l[i])[j]? := fun j hj => by
    rw [hcell _ (by omega), flatPc_get l i hi j hj]
  exact ⟨c 0 (by omega), c 1 (by omega), c 2 (by omega), c 3 (by omega), c 4 (by omega), c 5 (by omega), c 6 (by omega)⟩

set_option maxHeartbeats 8000000 in
set_option maxRecDepth 100000 in
theorem fformat_any (s : ByteArray) (a : Option Addr) (cap : Nat) (l : List VV) (w : World) (hs : s.size ≤ 100000) (hl : l.length ≤ 1000) (hv : ∀ v ∈ l, v.ok) (hA : VsAt w a l) (hT : Tabs w) :
    Calls Tryz.prog 15 #[.string s, .slice a l.length cap] w fun e w' => e = .returned (.tuple #[.string (mkS (fmtR (pcsT s.data.toList [] []) l).1), .int .i64 (fmtR (pcsT s.data.toList [] []) l).2.1, .int .i64 (fmtR (pcsT s.data.toList [] []) l).2.2]) ∧ Below w.heap.size w w' := by
  have hP := fpcs_any s w hs
  have hs0 : s.data.toList.length = s.size := by simp
  have HA := Lib.hid hA
  have HT := Lib.hid hT
  have HV := Lib.hid hv
  clear hA hT hv
  cases he : evs s.data.toList with
  | none =>
    have hn : pcsT s.data.toList [] [] = none := by unfold pcsT; rw [he]; rfl
    rw [hn] at hP ⊢
    have HP := Lib.hid hP
    clear hP hn he
    go_enter Tryz.func15, Tryz.ntmps15
    go_wp2_with (first | (go_at_call 12; (with_reducible refine HP.out.mono ?_); rintro e wP ⟨he, hb⟩; obtain rfl := he))
    go_returns
    exact ⟨rfl, hb⟩
  | some E =>
    obtain ⟨hok, hPn, hPt⟩ := pcs_ok he
    have hn : pcsT s.data.toList [] [] = some (grp E []) := by unfold pcsT; rw [he]; rfl
    rw [hn] at hP ⊢
    obtain ⟨P, hPE⟩ : ∃ P, grp E [] = P := ⟨_, rfl⟩
    rw [hPE] at hP hok hPn hPt ⊢
    have HP := Lib.hid hP
    have HOK := Lib.hid hok
    have HPT := Lib.hid hPt
    have hPl : P.length ≤ 200000 := by omega
    clear hP hn he hok hPt hPE
    show Calls _ _ _ _ (fun e w' => e = .returned (.tuple #[.string (mkS (endF (runP fmtL l P 0 [])).1), .int .i64 (endF (runP fmtL l P 0 [])).2.1, .int .i64 (endF (runP fmtL l P 0 [])).2.2]) ∧ Below w.heap.size w w')
    have HFM : Hid (∀ (p : Pc) (v : VV), okPc p → p.v ≠ 0 → v.ok → ∀ w', Below w.heap.size w w' → Calls Tryz.prog 31 #[pV (mkS p.t) p.v p.mi p.ze p.pl p.w p.n, vV v.k v.p v.q v.s v.r] w' fun e w'' => e = .returned (.tuple #[.string (mkS (fmtF p v).1), .bool (fmtF p v).2]) ∧ Below w'.heap.size w' w'') := fun p v h1 h2 h3 w' hb => by
      obtain ⟨-, h4, h5, h6⟩ := okPc_zero h1 h2
      exact ffmt_any p v h3 (mkS p.t) h6 h4 h5 w' (HT.out.later hb)
    go_enter Tryz.func15, Tryz.ntmps15
    go_wp2_with (first | (go_at_call 12; (with_reducible refine HP.out.mono ?_); rintro e wP ⟨⟨vP, he, hown⟩, hb⟩; obtain rfl := he; obtain ⟨xP, cP, rfl⟩ := own_form hown; have HOWN := Lib.hid hown; have HB1 := Lib.hid hb; clear hown hb))
    have hz1 := HB1.out.size
    go_loopw [10, 25] (fun u i wr => ∃ (j k : Nat) (out : List UInt8), j ≤ P.length ∧ k ≤ l.length ∧ u = .int .i64 k ∧ i = .int .i64 j ∧ Hid (runP fmtL l (P.drop j) k out = runP fmtL l P 0 []) ∧ Hid (out.length ≤ j * 5000000) ∧ Hid (Bd wP wP.heap.size out wr)) (fun _ i _ => P.length - (intOf i).toNat)
    case atStart => exact ⟨0, 0, [], Nat.zero_le _, Nat.zero_le _, rfl, rfl, rfl, Nat.zero_le _, Bd.fresh wP wP (Below.refl _ _)⟩
    case round =>
      obtain ⟨j, k, out, hj, hk, rfl, rfl, HR, HL, HB⟩ := hrel
      have hzr := HB.out.2.2
      have hol : out.length ≤ 1000000000000 := by have := HL.out; omega
      by_cases hlt : j < P.length
      · obtain ⟨g, cap2, hgv, hg1, hg2, hcs⟩ := own_pcs HOWN.out (by omega)
        injection hgv with hx1 hx2 hx3
        subst hx1
        have hcp : ∀ o, wr.cell? ⟨g, o, none⟩ = wP.cell? ⟨g, o, none⟩ := fun o => HB.out.2.1.cell (p := ⟨g, o, none⟩) hg2
        obtain ⟨q0, q1, q2, q3, q4, q5, q6⟩ := hcs j hlt
        rw [← hcp] at q0 q1 q2 q3 q4 q5 q6
        have hokp := HOK.out P[j] (List.getElem_mem hlt)
        have HPTj := Lib.hid (HPT.out P[j] (List.getElem_mem hlt))
        have HRt := Lib.hid (runP_txt l P j k out hlt)
        have HRn := Lib.hid (runP_none l P j k out hlt)
        have HRb := Lib.hid (runP_bad l P j k out hlt)
        have HRg := Lib.hid (runP_go l P j k out hlt)
        obtain ⟨p, hp⟩ : ∃ p, P[j] = p := ⟨_, rfl⟩
        rw [hp] at q0 q1 q2 q3 q4 q5 q6 hokp HPTj HRt HRn HRb HRg
        have HOKp := Lib.hid hokp
        clear hp hcs hcp hokp hx2 hx3
        have hbj : decide ((j : Int) < (P.length : Int)) = true := by simp; omega
        by_cases h0 : p.v = 0
        · have b0 : ((p.v : Int) == 0) = true := by rw [h0]; rfl
          have HR2 := Lib.hid ((HRt.out h0).symm.trans HR.out)
          have hpl : (mkS p.t).size ≤ 100000 := by rw [mkS_size]; have := HPTj.out h0; omega
          have HL2 : Hid ((out ++ p.t).length ≤ (j + 1) * 5000000) := by
            have h1 := HL.out
            rw [mkS_size] at hpl
            show _ ≤ _
            rw [List.length_append]; omega
          clear h0
          go_wp2_with (first | (go_at_call 30; (with_reducible refine (bd_str wP wP.heap.size out (mkS p.t) _ (HB.out.alloc _) ?_).mono ?_); (focus omega); rintro e w2 ⟨rfl, hb2⟩; have HB2 := Lib.hid hb2; clear hb2))
          exact ⟨⟨j + 1, k, out ++ p.t, by omega, hk, rfl, by go_num, HR2.out, HL2.out, by have := HB2.out.bd; rw [mkS_list] at this; exact this⟩, by simp [intOf]; omega⟩
        · have b0 : ((p.v : Int) == 0) = false := by rw [beq_eq_false_iff_ne]; omega
          by_cases hkl : k < l.length
          · have bk : decide ((l.length : Int) < (k : Int) + 1) = false := by simp; omega
            obtain ⟨b, o, ha, hvs⟩ := HA.out.resolve_left (by omega)
            subst ha
            have hB0 : Below w.heap.size w wr := HB1.out.trans (HB.out.2.1.mono hz1)
            obtain ⟨v0, v1, v2, v3, v4⟩ := (hvs k hkl).below hB0
            have hvl := cell_lt (hvs k hkl).1
            have hvk := HV.out _ (List.getElem_mem hkl)
            have HRb2 := Lib.hid (fun h => HRb.out h0 hkl h)
            have HRg2 := Lib.hid (fun h => HRg.out h0 hkl h)
            have HF := Lib.hid (HFM.out p l[k] HOKp.out h0 hvk)
            have hfl := fmtF_len (p := p) (okPc_zero HOKp.out h0).2.1 l[k] hvk.2.2
            obtain ⟨v, hv⟩ : ∃ v, l[k] = v := ⟨_, rfl⟩
            rw [hv] at v0 v1 v2 v3 v4 HF HRb2 HRg2 hfl
            obtain ⟨X, B, hXB⟩ : ∃ X B, fmtF p v = (X, B) := ⟨_, _, rfl⟩
            rw [hXB] at HF HRb2 HRg2 hfl
            dsimp only at HF HRb2 HRg2 hfl
            have HB0 := Lib.hid hB0
            have hXs := mkS_size X
            clear hv hXB hvs hvk hB0 h0
            cases B
            · have HE := Lib.hid ((HRb2.out rfl).symm.trans HR.out)
              go_wp2_with fail
              have h0w := HB0.out
              have hwk : IntKind.i64.wrap (k : Int) = (k : Int) := IntWalk.i64_in _ (by omega)
              (refine wp_region_calm (by kernel_rfl) (by kernel_rfl) ?_; refine calm_mem ?_; intro N hN hne hcu; (try simp at hN); subst hN; (repeat ((refine wpQuiet_step (fun K hK => ?_)); go_simp; (repeat (simp only [↓IntWalk.iteOmega]; go_simp)); (first | (refine hK _ ?_; clear hK K) | (apply Exists.intro; refine ⟨fun _ => ?_, hK _ ?_⟩; (first | (go_at_call 31; refine calm_of (HF.out _ ?_); (repeat' (first | (with_reducible exact Below.refl _ _) | (with_reducible assumption) | (with_reducible refine Below.alloc ?_ ?_ _) | (with_reducible refine below_drewN ?_ _) | (with_reducible refine Below.drew ?_) | (with_reducible refine Below.setCell ?_ ?_ _) | (with_reducible refine below_via (by assumption) ?_ ?_) | (with_reducible refine below_via (later_below _) ?_ ?_) | (with_reducible exact Nat.le_refl _) | omega | (simp; omega) | (simp; done))))); clear hK K)))); refine wpQuiet_nil ?_; intro _ hw'; obtain ⟨⟨w1, hb⟩, hw''⟩ := hw'; subst hw''; clear hcu hne; (try dsimp only); (refine mem hb ?_; intro N hN hz hc hf; (try simp at hN); subst hN))
              go_wp2_with fail
              go_returns
              refine ⟨by rw [← HE.out]; first | rfl | (simp [endF]; done), ?_⟩
              (repeat' (first | (with_reducible exact Below.refl _ _) | (with_reducible assumption) | (with_reducible refine Below.alloc ?_ ?_ _) | (with_reducible refine below_drewN ?_ _) | (with_reducible refine Below.drew ?_) | (with_reducible refine Below.setCell ?_ ?_ _) | (with_reducible refine below_via (by assumption) ?_ ?_) | (with_reducible refine below_via (later_below _) ?_ ?_) | (with_reducible exact Nat.le_refl _) | omega | (simp; omega) | (simp; done)))
            · have HR2 := Lib.hid ((HRg2.out rfl).symm.trans HR.out)
              have HL2 : Hid ((out ++ X).length ≤ (j + 1) * 5000000) := by
                have h1 := HL.out
                show _ ≤ _
                rw [List.length_append]; omega
              go_wp2_with fail
              have h0w := HB0.out
              have hwk : IntKind.i64.wrap (k : Int) = (k : Int) := IntWalk.i64_in _ (by omega)
              (refine wp_region_calm (by kernel_rfl) (by kernel_rfl) ?_; refine calm_mem ?_; intro N hN hne hcu; (try simp at hN); subst hN; (repeat ((refine wpQuiet_step (fun K hK => ?_)); go_simp; (repeat (simp only [↓IntWalk.iteOmega]; go_simp)); (first | (refine hK _ ?_; clear hK K) | (apply Exists.intro; refine ⟨fun _ => ?_, hK _ ?_⟩; (first | (go_at_call 31; refine calm_of (HF.out _ ?_); (repeat' (first | (with_reducible exact Below.refl _ _) | (with_reducible assumption) | (with_reducible refine Below.alloc ?_ ?_ _) | (with_reducible refine below_drewN ?_ _) | (with_reducible refine Below.drew ?_) | (with_reducible refine Below.setCell ?_ ?_ _) | (with_reducible refine below_via (by assumption) ?_ ?_) | (with_reducible refine below_via (later_below _) ?_ ?_) | (with_reducible exact Nat.le_refl _) | omega | (simp; omega) | (simp; done))))); clear hK K)))); refine wpQuiet_nil ?_; intro _ hw'; obtain ⟨⟨w1, hb⟩, hw''⟩ := hw'; subst hw''; clear hcu hne; (try dsimp only); (refine mem hb ?_; intro N hN hz hc hf; (try simp at hN); subst hN))
              have HBx := Lib.hid ((HB.out.alloc _).later hb)
              clear hwk
              go_wp2_with (first | (go_at_call 30; (with_reducible refine (bd_str wP wP.heap.size out (mkS X) _ HBx.out ?_).mono ?_); (focus omega); rintro e w2 ⟨rfl, hb2⟩; have HB2 := Lib.hid hb2; clear hb2))
              exact ⟨⟨j + 1, k + 1, out ++ X, by omega, by omega, by go_num, by go_num, HR2.out, HL2.out, by have := HB2.out.bd; rw [mkS_list] at this; exact this⟩, by simp [intOf]; omega⟩
          · have bk : decide ((l.length : Int) < (k : Int) + 1) = true := by simp; omega
            have HE := Lib.hid ((HRn.out h0 (by omega)).symm.trans HR.out)
            clear h0
            go_wp2_with fail
            go_returns
            refine ⟨by rw [← HE.out]; first | rfl | (simp [endF]; done), ?_⟩
            have h0 := HB1.out.trans (HB.out.2.1.mono hz1)
            (repeat' (first | (with_reducible exact Below.refl _ _) | (with_reducible assumption) | (with_reducible refine Below.alloc ?_ ?_ _) | (with_reducible refine below_drewN ?_ _) | (with_reducible refine Below.drew ?_) | (with_reducible refine Below.setCell ?_ ?_ _) | (with_reducible refine below_via (by assumption) ?_ ?_) | (with_reducible refine below_via (later_below _) ?_ ?_) | (with_reducible exact Nat.le_refl _) | omega | (simp; omega) | (simp; done)))
      · obtain rfl : j = P.length := by omega
        have HE : Hid (runP fmtL l P 0 [] = (out, 0, 0)) := by show _ = _; rw [← HR.out, List.drop_length]; rfl
        have hd0 : decide ((P.length : Int) < (P.length : Int)) = false := by simp
        clear hlt
        by_cases hlong : 4096 < out.length
        · have hd1 : decide ((4096 : Int) < (out.length : Int)) = true := by simp; omega
          have HF2 : Hid (endF (runP fmtL l P 0 []) = ([], 0, 14)) := by show _ = _; rw [HE.out]; exact if_pos ⟨rfl, hlong⟩
          clear hlong
          go_wp2_with (first | (go_at_call 32; (with_reducible refine (bd_len _ _ _ _ HB.out).mono ?_); rintro e w2 ⟨rfl, rfl⟩))
          go_returns
          exact ⟨by rw [HF2.out]; rfl, HB1.out.trans (HB.out.2.1.mono hz1)⟩
        · have hd1 : decide ((4096 : Int) < (out.length : Int)) = false := by simp; omega
          have HF2 : Hid (endF (runP fmtL l P 0 []) = (out, 0, 0)) := by show _ = _; rw [HE.out]; exact if_neg (fun h => hlong h.2)
          clear hlong
          go_wp2_with (first | (go_at_call 32; (with_reducible refine (bd_len _ _ _ _ HB.out).mono ?_); rintro e w2 ⟨rfl, rfl⟩) | (go_at_call 33; (with_reducible refine (bd_string _ _ _ _ HB.out).mono ?_); rintro e w3 ⟨rfl, hb3⟩))
          go_returns
          exact ⟨by rw [HF2.out]; rfl, HB1.out.trans (hb3.mono hz1)⟩
end Go.Proofs.YtemlijadhdejeaaGreatDoor
