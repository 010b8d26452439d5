/- The reference's Format. -/
import Derived.Test.YtemlijadhdejeaaGreatDoorMFmR4
import Derived.Test.YtemlijadhdejeaaGreatDoorMFmR6
import Derived.Test.YtemlijadhdejeaaGreatDoorMFmR7
import Derived.Test.YtemlijadhdejeaaGreatDoorMFmWB
namespace Go.Proofs.YtemlijadhdejeaaGreatDoor
open Go.RowKit Go.Instr
set_option linter.unusedVariables false

theorem nameN_45 (d : Nat) (h : d < 36) : nameN d ≠ 45 := by
  have := (by decide +kernel : ∀ d : Fin 36, nameN d.val ≠ 45) ⟨d, h⟩
  exact this
theorem bDigits_45 {b : Nat} (hb : 2 ≤ b) (hb2 : b ≤ 36) : ∀ (m u : Nat), u ≤ m → ∀ c ∈ bDigits b u, c ≠ 45 := by
  intro m
  induction m with
  | zero =>
    intro u hu c hc
    rw [bDigits_small (by omega)] at hc
    simp at hc; subst hc
    exact nameN_45 u (by omega)
  | succ m ih =>
    intro u hu c hc
    by_cases h : u < b
    · rw [bDigits_small h] at hc
      simp at hc; subst hc
      exact nameN_45 u (by omega)
    · rw [bDigits_big hb h] at hc
      have hlt : u / b < u := Nat.div_lt_self (by omega) (by omega)
      rcases List.mem_append.1 hc with h1 | h1
      · exact ih (u / b) (by omega) c h1
      · simp at h1; subst h1
        have := Nat.mod_lt u (show b > 0 by omega)
        exact nameN_45 _ (by omega)
theorem upC_45 {c : UInt8} (h : c ≠ 45) : upC c ≠ 45 := by
  have := (by decide +kernel : ∀ c : Fin 256, UInt8.ofNat c.val ≠ 45 → upC (UInt8.ofNat c.val) ≠ 45) ⟨c.toNat, UInt8.toNat_lt c⟩
  simp at this
  exact this h
theorem dig_head {p : Pc} {v : VV} (hV : p.v = 120 ∨ p.v = 88 ∨ p.v = 111) (h : (argT p v).2 = true) : ¬ (argT p v).1.head? = some 45 := by
  unfold argT at h ⊢
  rw [if_neg (by omega)] at h ⊢
  unfold digF at h ⊢
  rw [if_neg (by omega), if_neg (by omega)] at h ⊢
  simp only [] at h ⊢
  have hB : baseP p.v = 8 ∨ baseP p.v = 16 := by
    unfold baseP
    rcases hV with h | h | h <;> simp [h]
  have hn : 0 ≤ (wholeF v).1 := by
    simp at h
    rcases h.2 with h | h
    · exact h
    · omega
  have hb : (baseL (wholeF v).1 (baseP p.v)).1 = bDigits (baseP p.v).toNat (wholeF v).1.toNat := by
    rw [baseL_is (by omega)]
    simp only []
    unfold bText
    rw [if_neg (by omega)]
  have hall : ∀ c ∈ bDigits (baseP p.v).toNat (wholeF v).1.toNat, c ≠ 45 := bDigits_45 (by omega) (by omega) _ _ (Nat.le_refl _)
  rw [hb]
  intro e
  split at e
  · cases hd : bDigits (baseP p.v).toNat (wholeF v).1.toNat with
    | nil => rw [hd] at e; simp at e
    | cons c t =>
      rw [hd] at e hall
      simp at e
      exact upC_45 (hall c List.mem_cons_self) e
  · cases hd : bDigits (baseP p.v).toNat (wholeF v).1.toNat with
    | nil => rw [hd] at e; simp at e
    | cons c t =>
      rw [hd] at e hall
      simp at e
      exact hall c List.mem_cons_self e
theorem fmtF_body (p : Pc) (v : VV) : fmtF p v = (bodyP p (argT p v).1, (argT p v).2) := by
  unfold fmtF bodyP argT
  split <;> rfl
theorem argT_len (p : Pc) (v : VV) (hs : v.s.size ≤ 1000000) : (argT p v).1.length ≤ 4000002 := by
  unfold argT
  split
  · exact txtF_len p v hs
  · have := digF_len p v; omega
theorem rpadded_any (p : Pc) (D : List UInt8) (t : ByteArray) (hp : ∃ c, verbB c = true ∧ p.v = c.toNat) (hW : p.w ≤ 99) (hD : D.length ≤ 5000000) (hH : (p.v = 120 ∨ p.v = 88 ∨ p.v = 111) → ¬ D.head? = some 45) (w : World) :
    Calls Tryz.prog 35 #[pV t p.v p.mi p.ze p.pl p.w p.n, .string (mkS D)] w fun e w' => e = .returned (.string (mkS (bodyP p D))) ∧ Below w.heap.size w w' := by
  have hb : bodyP p D = bodyP ⟨[], p.v, p.mi, p.ze, p.pl, p.w, p.n⟩ D := rfl
  rw [hb]
  obtain ⟨pt, V, mi, ze, pl, W, N⟩ := p
  dsimp only at *
  rcases verb_cases2 hp with h | h | h | h | h | h | h | h | h
  all_goals subst h
  · exact rpd_d t mi ze pl W N D hW hD w
  · exact rpd_x t mi ze pl W N D hW hD (hH (.inl rfl)) w
  · exact rpd_X t mi ze pl W N D hW hD (hH (.inr (.inl rfl))) w
  · exact rpd_o t mi ze pl W N D hW hD (hH (.inr (.inr rfl))) w
  · exact rpd_f t mi ze pl W N D hW hD w
  · exact rpd_s t mi ze pl W N D hW hD w
  · exact rpd_c t mi ze pl W N D hW hD w
  · exact rpd_q t mi ze pl W N D hW hD w
  · exact rpd_g t mi ze pl W N D hW hD w

set_option maxHeartbeats 8000000 in
set_option maxRecDepth 100000 in
theorem rformat_any (s : ByteArray) (a : Option Addr) (cap : Nat) (l : List VV) (w : World) (hs : s.size ≤ 100000) (hl : l.length ≤ 1000) (hv : ∀ v ∈ l, v.ok) (hv2 : ∀ v ∈ l, v.s.size ≤ 4000) (hA : VsAt w a l) :
    Calls Tryz.prog 16 #[.string s, .slice a l.length cap] w fun e w' => e = .returned (.tuple #[.string (mkS (fmtR (pcsT s.data.toList [] []) l).1), .int .i64 (fmtR (pcsT s.data.toList [] []) l).2.1, .int .i64 (fmtR (pcsT s.data.toList [] []) l).2.2]) ∧ Below w.heap.size w w' := by
  have hP := rpcs_any s w hs
  obtain ⟨j0, hj0, hy0, hy1, hy2⟩ := info_parts byte_inf2
  have hs0 : s.data.toList.length = s.size := by simp
  have HA := Lib.hid hA
  have HV := Lib.hid hv
  have HV2 := Lib.hid hv2
  clear hA hv hv2
  cases he : evs s.data.toList with
  | none =>
    have hn : pcsT s.data.toList [] [] = none := by unfold pcsT; rw [he]; rfl
    rw [hn] at hP ⊢
    have HP := Lib.hid hP
    clear hP hn he
    go_enter Tryz.func16, Tryz.ntmps16
    go_wp2_with (first | (go_at_call 13; (with_reducible refine HP.out.mono ?_); rintro e w1 ⟨he, hb⟩; obtain rfl := he))
    go_returns
    exact ⟨rfl, hb⟩
  | some E =>
    obtain ⟨hok, hPn, hPt⟩ := pcs_ok he
    have hn : pcsT s.data.toList [] [] = some (grp E []) := by unfold pcsT; rw [he]; rfl
    rw [hn] at hP ⊢
    obtain ⟨P, hPE⟩ : ∃ P, grp E [] = P := ⟨_, rfl⟩
    rw [hPE] at hP hok hPn hPt ⊢
    have HP := Lib.hid hP
    have HOK := Lib.hid hok
    have HPT := Lib.hid hPt
    have hPl : P.length ≤ 200000 := by omega
    clear hP hn he hok hPt hPE
    show Calls _ _ _ _ (fun e w' => e = .returned (.tuple #[.string (mkS (endF (runP fmtL l P 0 [])).1), .int .i64 (endF (runP fmtL l P 0 [])).2.1, .int .i64 (endF (runP fmtL l P 0 [])).2.2]) ∧ Below w.heap.size w w')
    go_enter Tryz.func16, Tryz.ntmps16
    go_wp2_with (first | (go_at_call 13; (with_reducible refine HP.out.mono ?_); rintro e wP ⟨⟨vP, he, hown⟩, hb⟩; obtain rfl := he; obtain ⟨xP, cP, rfl⟩ := own_form hown; have HOWN := Lib.hid hown; have HB1 := Lib.hid hb; clear hown hb))
    have hz1 := HB1.out.size
    go_loopw [9, 10, 11] (fun v u i wr => ∃ (j k : Nat) (out : List UInt8), j ≤ P.length ∧ k ≤ l.length ∧ u = .int .i64 k ∧ i = .int .i64 j ∧ Hid (runP fmtL l (P.drop j) k out = runP fmtL l P 0 []) ∧ Hid (out.length ≤ j * 5000000) ∧ Hid (out = [] → v = .slice none 0 0) ∧ Hid (Buf wP wP.heap.size 5 v (u8s out) wr)) (fun _ _ i _ => P.length - (intOf i).toNat)
    case atStart => exact ⟨0, 0, [], Nat.zero_le _, Nat.zero_le _, rfl, rfl, rfl, Nat.zero_le _, fun _ => rfl, Buf.nil _ _ _ _ (Below.refl _ _) (Nat.le_refl _)⟩
    case round =>
      rename_i v9 u10 i11
      obtain ⟨j, k, out, hj, hk, rfl, rfl, HR, HL, HN9, HB⟩ := hrel
      have hzr := HB.out.2.2
      have hol : out.length ≤ 1000000000000 := by have := HL.out; omega
      have hul := u8s_len out
      obtain ⟨xs, hxs⟩ : ∃ xs, u8s out = xs := ⟨_, rfl⟩
      rw [hxs] at HB hul
      have HXS := Lib.hid hxs
      have hxl : xs.length ≤ 1000000000000 := by omega
      clear hxs hul
      by_cases hlt : j < P.length
      · obtain ⟨g, cap2, hgv, hg1, hg2, hcs⟩ := own_pcs HOWN.out (by omega)
        injection hgv with hx1 hx2 hx3
        subst hx1
        have hcp : ∀ o, wr.cell? ⟨g, o, none⟩ = wP.cell? ⟨g, o, none⟩ := fun o => HB.out.2.1.cell (p := ⟨g, o, none⟩) hg2
        obtain ⟨q0, q1, q2, q3, q4, q5, q6⟩ := hcs j hlt
        rw [← hcp] at q0 q1 q2 q3 q4 q5 q6
        have hokp := HOK.out P[j] (List.getElem_mem hlt)
        have HPTj := Lib.hid (HPT.out P[j] (List.getElem_mem hlt))
        have HRt := Lib.hid (runP_txt l P j k out hlt)
        have HRn := Lib.hid (runP_none l P j k out hlt)
        have HRb := Lib.hid (runP_bad l P j k out hlt)
        have HRg := Lib.hid (runP_go l P j k out hlt)
        obtain ⟨p, hp⟩ : ∃ p, P[j] = p := ⟨_, rfl⟩
        rw [hp] at q0 q1 q2 q3 q4 q5 q6 hokp HPTj HRt HRn HRb HRg
        have HOKp := Lib.hid hokp
        clear hp hcs hcp hokp hx2 hx3
        have hbj : decide ((j : Int) < (P.length : Int)) = true := by simp; omega
        by_cases h0 : p.v = 0
        · have b0 : ((p.v : Int) == 0) = true := by rw [h0]; rfl
          have HR2 := Lib.hid ((HRt.out h0).symm.trans HR.out)
          have hpl : (mkS p.t).size ≤ 100000 := by rw [mkS_size]; have := HPTj.out h0; omega
          have HL2 : Hid ((out ++ p.t).length ≤ (j + 1) * 5000000) := by
            have h1 := HL.out
            rw [mkS_size] at hpl
            show _ ≤ _
            rw [List.length_append]; omega
          clear h0
          go_wp2_with (first | (at_builtin; refine wp_bufS rfl _ _ 52 9 rfl 5 j0 Tryz.underlying52 Tryz.underlying9 hj0 hy0 hy1 hy2 wP wP.heap.size _ xs HB.out rfl (mkS p.t) rfl ?_ ?_ ?_; (focus (unfold maxLen; omega)); (focus omega); intro v' w' hb' hn'; have HB2 := Lib.hid hb'; have HN2 := Lib.hid hn'; clear hb' hn'))
          refine ⟨⟨j + 1, k, out ++ p.t, by omega, hk, rfl, by go_num, HR2.out, HL2.out, ?_, ?_⟩, by simp [intOf]; omega⟩
          · intro hn
            have h1 := List.append_eq_nil_iff.1 hn
            exact HN2.out.2 ⟨HN9.out h1.1, by rw [mkS_size, h1.2]; rfl⟩
          · show Buf _ _ _ _ _ _
            exact HB2.out.eq (by rw [u8s_app, HXS.out, mkS_list])
        · have b0 : ((p.v : Int) == 0) = false := by rw [beq_eq_false_iff_ne]; omega
          by_cases hkl : k < l.length
          · have bk : decide ((l.length : Int) < (k : Int) + 1) = false := by simp; omega
            obtain ⟨b, o, ha, hvs⟩ := HA.out.resolve_left (by omega)
            subst ha
            have hB0 : Below w.heap.size w wr := HB1.out.trans (HB.out.2.1.mono hz1)
            obtain ⟨v0, v1, v2, v3, v4⟩ := (hvs k hkl).below hB0
            have hvl := cell_lt (hvs k hkl).1
            have hvk := HV.out _ (List.getElem_mem hkl)
            have hvk2 := HV2.out _ (List.getElem_mem hkl)
            have HRb2 := Lib.hid (fun h => HRb.out h0 hkl h)
            have HRg2 := Lib.hid (fun h => HRg.out h0 hkl h)
            obtain ⟨-, hpw, hpn, hpv⟩ := okPc_zero HOKp.out h0
            have HF := Lib.hid (fun w' => rdig9_any p l[k] hvk hvk2 (mkS p.t) hpv hpn w')
            have hal := argT_len p l[k] hvk.2.2
            have HX := Lib.hid (@rdX_is p l[k])
            have HH := Lib.hid (fun hV => @dig_head p l[k] hV)
            have hFB := fmtF_body p l[k]
            have hfl := fmtF_len hpw l[k] hvk.2.2
            rw [hFB] at hfl
            have HRb3 : Hid ((argT p l[k]).2 = false → runP fmtL l (P.drop j) k out = ([], k + 1, 8)) := fun h => HRb2.out (by rw [hFB]; exact h)
            have HRg3 : Hid ((argT p l[k]).2 = true → runP fmtL l (P.drop j) k out = runP fmtL l (P.drop (j + 1)) (k + 1) (out ++ bodyP p (argT p l[k]).1)) := fun h => by have := HRg2.out (by rw [hFB]; exact h); rw [hFB] at this; exact this
            obtain ⟨v, hv⟩ : ∃ v, l[k] = v := ⟨_, rfl⟩
            rw [hv] at v0 v1 v2 v3 v4 HF HX HH HRb3 HRg3 hfl hal
            obtain ⟨Y, hY⟩ : ∃ Y, rdX p v = Y := ⟨_, rfl⟩
            obtain ⟨X, B, hXB⟩ : ∃ X B, argT p v = (X, B) := ⟨_, _, rfl⟩
            rw [hXB] at HF HX HH HRb3 HRg3 hfl hal
            rw [hY] at HF HX
            dsimp only at HF HX HH HRb3 HRg3 hfl hal
            have HB0 := Lib.hid hB0
            have HPV := Lib.hid hpv
            clear hv hXB hvs hvk hvk2 hB0 hY hFB h0 HRb2 HRg2 HRb HRg hpv hpn
            cases B
            · have HE := Lib.hid ((HRb3.out rfl).symm.trans HR.out)
              go_wp2_with fail
              have h0w := HB0.out
              have hwk : IntKind.i64.wrap (k : Int) = (k : Int) := IntWalk.i64_in _ (by omega)
              (refine wp_region_calm (by kernel_rfl) (by kernel_rfl) ?_; refine calm_mem ?_; intro N hN hne hcu; (try simp at hN); subst hN; (repeat ((refine wpQuiet_step (fun K hK => ?_)); go_simp; (repeat (simp only [↓IntWalk.iteOmega]; go_simp)); (first | (refine hK _ ?_; clear hK K) | (apply Exists.intro; refine ⟨fun _ => ?_, hK _ ?_⟩; (first | (go_at_call 34; exact calm_of (HF.out _))); clear hK K)))); refine wpQuiet_nil ?_; intro _ hw'; obtain ⟨⟨w1, hb⟩, hw''⟩ := hw'; subst hw''; clear hcu hne; (try dsimp only); (refine mem hb ?_; intro N hN hz hc hf; (try simp at hN); subst hN))
              go_wp2_with fail
              go_returns
              refine ⟨by rw [← HE.out]; first | rfl | (simp [endF]; done), ?_⟩
              (repeat' (first | (with_reducible exact Below.refl _ _) | (with_reducible assumption) | (with_reducible refine Below.alloc ?_ ?_ _) | (with_reducible refine below_drewN ?_ _) | (with_reducible refine Below.drew ?_) | (with_reducible refine Below.setCell ?_ ?_ _) | (with_reducible refine below_via (by assumption) ?_ ?_) | (with_reducible refine below_via (later_below _) ?_ ?_) | (with_reducible exact Nat.le_refl _) | omega | (simp; omega) | (simp; done)))
            · obtain rfl := HX.out rfl
              have HR2 := Lib.hid ((HRg3.out rfl).symm.trans HR.out)
              have HPD := Lib.hid (fun w' => rpadded_any p Y (mkS p.t) HPV.out hpw (by omega) (fun hV => HH.out hV rfl) w')
              obtain ⟨Z, hZ⟩ : ∃ Z, bodyP p Y = Z := ⟨_, rfl⟩
              rw [hZ] at HPD HR2 hfl
              have hZs := mkS_size Z
              have HL2 : Hid ((out ++ Z).length ≤ (j + 1) * 5000000) := by
                have h1 := HL.out
                show _ ≤ _
                rw [List.length_append]; omega
              clear hZ HRg3 HRb3 HX HH
              go_wp2_with fail
              have h0w := HB0.out
              have hwk : IntKind.i64.wrap (k : Int) = (k : Int) := IntWalk.i64_in _ (by omega)
              (refine wp_region_calm (by kernel_rfl) (by kernel_rfl) ?_; refine calm_mem ?_; intro N hN hne hcu; (try simp at hN); subst hN; (repeat ((refine wpQuiet_step (fun K hK => ?_)); go_simp; (repeat (simp only [↓IntWalk.iteOmega]; go_simp)); (first | (refine hK _ ?_; clear hK K) | (apply Exists.intro; refine ⟨fun _ => ?_, hK _ ?_⟩; (first | (go_at_call 34; exact calm_of (HF.out _))); clear hK K)))); refine wpQuiet_nil ?_; intro _ hw'; obtain ⟨⟨w1, hb⟩, hw''⟩ := hw'; subst hw''; clear hcu hne; (try dsimp only); (refine mem hb ?_; intro N hN hz hc hf; (try simp at hN); subst hN))
              have HBx := Lib.hid (HB.out.later hb)
              have hsx := HBx.out.2.2
              clear hwk
              go_wp2_with (first | (go_at_call 35; (with_reducible refine (HPD.out _).mono ?_); rintro e w2 ⟨rfl, hb2⟩; have HBy := Lib.hid (HBx.out.later hb2); clear hb2) | (at_builtin; refine wp_bufS rfl _ _ 52 9 rfl 5 j0 Tryz.underlying52 Tryz.underlying9 hj0 hy0 hy1 hy2 wP wP.heap.size _ xs HBy.out rfl (mkS Z) rfl ?_ ?_ ?_; (focus (unfold maxLen; omega)); (focus omega); intro v' w' hb' hn'; have HB2 := Lib.hid hb'; have HN2 := Lib.hid hn'; clear hb' hn'))
              refine ⟨⟨j + 1, k + 1, out ++ Z, by omega, by omega, by go_num, by go_num, HR2.out, HL2.out, ?_, ?_⟩, by simp [intOf]; omega⟩
              · intro hn
                have h1 := List.append_eq_nil_iff.1 hn
                exact HN2.out.2 ⟨HN9.out h1.1, by rw [mkS_size, h1.2]; rfl⟩
              · show Buf _ _ _ _ _ _
                exact HB2.out.eq (by rw [u8s_app, HXS.out, mkS_list])
          · have bk : decide ((l.length : Int) < (k : Int) + 1) = true := by simp; omega
            have HE := Lib.hid ((HRn.out h0 (by omega)).symm.trans HR.out)
            clear h0
            go_wp2_with fail
            go_returns
            refine ⟨by rw [← HE.out]; first | rfl | (simp [endF]; done), ?_⟩
            exact HB1.out.trans (HB.out.2.1.mono hz1)
      · obtain rfl : j = P.length := by omega
        have HE : Hid (runP fmtL l P 0 [] = (out, 0, 0)) := by show _ = _; rw [← HR.out, List.drop_length]; rfl
        have hd0 : decide ((P.length : Int) < (P.length : Int)) = false := by simp
        have hlx : xs.length = out.length := by rw [← HXS.out, u8s_len]
        obtain ⟨xa, xc, rfl⟩ := HB.out.form
        have hcv := (HB.out.eq HXS.out.symm).str (P := Tryz.prog) HN9.out 52 9 Tryz.underlying52 Tryz.underlying5 Tryz.underlying9
        clear hlt
        by_cases hlong : 4096 < xs.length
        · have hd1 : decide ((4096 : Int) < (xs.length : Int)) = true := by simp; omega
          have HF2 : Hid (endF (runP fmtL l P 0 []) = ([], 0, 14)) := by show _ = _; rw [HE.out]; exact if_pos ⟨rfl, (show 4096 < out.length by omega)⟩
          clear hlong hcv hlx
          go_wp2_with fail
          go_returns
          exact ⟨by rw [HF2.out]; rfl, HB1.out.trans (HB.out.2.1.mono hz1)⟩
        · have hd1 : decide ((4096 : Int) < (xs.length : Int)) = false := by simp; omega
          have HF2 : Hid (endF (runP fmtL l P 0 []) = (out, 0, 0)) := by show _ = _; rw [HE.out]; exact if_neg (fun h => by have h2 : 4096 < out.length := h.2; omega)
          clear hlong hlx
          go_wp2_with fail
          go_returns
          exact ⟨by rw [HF2.out]; rfl, HB1.out.trans (HB.out.2.1.mono hz1)⟩
end Go.Proofs.YtemlijadhdejeaaGreatDoor
