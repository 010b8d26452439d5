/- The program's checkExpr: the error of a single expression, as a panic. -/
import Derived.Test.YtplphejillkdeaaGreatDoorMTrC8
import Derived.Laws.EntriesVeiled
namespace Go.Proofs.YtplphejillkdeaaGreatDoor
open Go.RowKit Go.Instr
set_option linter.unusedVariables false

def longP (p : ByteArray) : Bool := decide (40 < p.size)
def longF (f : TF) : Bool := decide (4096 < f.name.size) || f.params.any longP
def badP (p : ByteArray) : Bool := !nameB p.data.toList
def badF (f : TF) : Bool := f.params.any badP
def badL (t : TT) (f : TF) : Bool := !(decide (0 ≤ f.ln) && fitsB t f)
def mostI (x : TX) : Int := if x.k = 5 then 4096 else 40
/-- The error of an expression alone, an element of one of the kind par, where a function may have the names t. -/
def ceE (x : TX) (par : Int) (t : TT) : Int :=
  if mostI x < (x.s.size : Int) then 3
  else if x.funcs.any longF = true then 3
  else if (decide (0 ≤ x.ln) && feB x par) = false then 4
  else if x.funcs.any (badL t) = true then 4
  else if ((x.k == 7 || x.k == 10) && !nameB x.s.data.toList) = true then 9
  else if x.funcs.any badF = true then 9 else 0

/-- A title's cells at a block. -/
def T2n (n : Nat) (t : TT) (W : World) : Prop := W.cell? ⟨n, 0, none⟩ = some (.slice t.a t.names.length t.c) ∧ W.cell? ⟨n, 1, none⟩ = some (.string t.m)
theorem T2n.below {n : Nat} {t : TT} {W W' : World} (h : T2n n t W) (k : Below W.heap.size W W') : T2n n t W' :=
  ⟨(k.cell (p := ⟨_, _, none⟩) (cell_lt h.1)).trans h.1, (k.cell (p := ⟨_, _, none⟩) (cell_lt h.2)).trans h.2⟩
set_option maxHeartbeats 6400000 in
set_option maxRecDepth 100000 in
theorem checkExpr_any (x : TX) (par : Int) (t : TT) (N : Nat) (w : World) (hin : InX w w.heap.size x) (ht : TtOk w N t) (hN : N ≤ w.heap.size) :
    Calls Tryz.prog 80 #[x.v, .int .i64 par, t.v] w (PE (.tuple #[]) (ceE x par t) w) := by
  have HIN := Lib.hid hin
  have HT := Lib.hid ht
  obtain ⟨i3, i4, -⟩ := hin.fs.1
  have hnF : (x.funcs.length : Int) ≤ 9223372036854775807 := by omega
  have hsz := ((inX_iff x).1 hin).1.si
  obtain ⟨E, hE⟩ : ∃ e, ceE x par t = e := ⟨_, rfl⟩
  rw [hE]
  unfold ceE at hE
  clear hin ht
  by_cases h1 : mostI x < (x.s.size : Int)
  · rw [if_pos h1] at hE
    subst hE
    unfold mostI at h1
    by_cases h5 : x.k = 5
    · rw [if_pos h5] at h1
      have d0 : (x.k == 5) = true := by simpa using h5
      have d1 : decide ((x.s.size : Int) ≤ 4096) = false := by simp; omega
      clear h5 h1
      go_enter Tryz.func80, Tryz.ntmps80
      go_wp2_with (first | (go_at_call 76; (with_reducible refine (need_no _ _).mono ?_); rintro e w1 ⟨rfl, rfl⟩))
      refine ⟨rfl, .inr ⟨by decide, rfl⟩, ?_⟩
      show Below _ _ _
      (repeat' (first | (with_reducible exact Below.refl _ _) | (with_reducible assumption) | (with_reducible refine Below.alloc ?_ ?_ _) | (with_reducible refine below_drewN ?_ _) | (with_reducible refine Below.drew ?_) | (with_reducible refine Below.setCell ?_ ?_ _) | (with_reducible refine below_via (by assumption) ?_ ?_) | (with_reducible refine below_via (later_below _) ?_ ?_) | (with_reducible exact Nat.le_refl _) | omega | (simp; omega) | (simp; done)))
    · rw [if_neg h5] at h1
      have d0 : (x.k == 5) = false := by simpa using h5
      have d1 : decide ((x.s.size : Int) ≤ 40) = false := by simp; omega
      clear h5 h1
      go_enter Tryz.func80, Tryz.ntmps80
      go_wp2_with (first | (go_at_call 76; (with_reducible refine (need_no _ _).mono ?_); rintro e w1 ⟨rfl, rfl⟩))
      refine ⟨rfl, .inr ⟨by decide, rfl⟩, ?_⟩
      show Below _ _ _
      (repeat' (first | (with_reducible exact Below.refl _ _) | (with_reducible assumption) | (with_reducible refine Below.alloc ?_ ?_ _) | (with_reducible refine below_drewN ?_ _) | (with_reducible refine Below.drew ?_) | (with_reducible refine Below.setCell ?_ ?_ _) | (with_reducible refine below_via (by assumption) ?_ ?_) | (with_reducible refine below_via (later_below _) ?_ ?_) | (with_reducible exact Nat.le_refl _) | omega | (simp; omega) | (simp; done)))
  · rw [if_neg h1] at hE
    have HH := Lib.hid hE
    have HV0 := Lib.hid (X8n.new x w 30)
    obtain ⟨uF, huF⟩ : ∃ v, x.fA = v := ⟨_, rfl⟩
    obtain ⟨uT, huT⟩ : ∃ v, t.a = v := ⟨_, rfl⟩
    clear hE
    unfold mostI at h1
    have d1 : (if x.k = 5 then decide ((x.s.size : Int) ≤ 4096) else decide ((x.s.size : Int) ≤ 40)) = true := by
      split <;> rename_i h <;> simp [h] at h1 <;> simp <;> omega
    cases d0 : (x.k == 5)
    all_goals
      have d00 := d0
      simp only [beq_iff_eq, beq_eq_false_iff_ne] at d00
      simp only [d00, if_true, if_false] at d1
      clear h1 d00
      go_enter Tryz.func80, Tryz.ntmps80
      go_wp2_with (first | (go_at_call 76; (with_reducible refine (need_yes _ _).mono ?_); rintro e w1 ⟨rfl, rfl⟩))
      go_loopw [29] (fun i wr => ∃ j : Nat, j ≤ x.funcs.length ∧ i = .int .i64 j ∧ Hid (Below w.heap.size w wr) ∧ Hid (X8n w.heap.size x wr) ∧ Hid (T2n (w.heap.size + 1) t wr) ∧ Hid (∀ i (hi : i < x.funcs.length), i < j → longF x.funcs[i] = false)) (fun i _ => x.funcs.length - (intOf i).toNat)
      case atStart =>
        refine ⟨0, Nat.zero_le _, rfl, ?_, ?_, ?_, fun i _ h => by omega⟩
        · show Below _ _ _; (repeat' (first | (with_reducible exact Below.refl _ _) | (with_reducible assumption) | (with_reducible refine Below.alloc ?_ ?_ _) | (with_reducible refine below_drewN ?_ _) | (with_reducible refine Below.drew ?_) | (with_reducible refine Below.setCell ?_ ?_ _) | (with_reducible refine below_via (by assumption) ?_ ?_) | (with_reducible refine below_via (later_below _) ?_ ?_) | (with_reducible exact Nat.le_refl _) | omega | (simp; omega) | (simp; done)))
        · show X8n _ _ _
          rw [← huF]
          refine X8n.kept (a := 0) (b := 0) HV0.out ?_ (Nat.zero_le _)
          exact kept_of ((Below.refl _ _).alloc (Nat.le_refl _) _) (Nat.zero_le _)
        · exact ⟨by rw [huT]; simp [cell_alloc_if], by simp [cell_alloc_if]⟩
      case round =>
        obtain ⟨j, hj, rfl, HE, HV, HTn, HP⟩ := hrel
        obtain ⟨e0, e1, e2, e3, e4, e5, e6, e7⟩ := HV.out
        obtain ⟨t0, t1⟩ := HTn.out
        have hzr := cell_lt t1
        by_cases hlt : j < x.funcs.length
        · obtain ⟨b1, o, haF, hb, hc, hfi⟩ := (HIN.out.fs.still (still_of HE.out (Nat.le_refl _)) (Nat.le_refl _)).at_ hlt
          rw [huF] at haF
          subst haF
          rw [huF] at e7
          obtain ⟨f, hf⟩ : ∃ f, x.funcs[j] = f := ⟨_, rfl⟩
          have HX := Lib.hid hf
          have hfw := (inFs_iff _).1 HIN.out.fs.2.2 _ (List.getElem_mem hlt)
          rw [hf] at hc hfw
          have HFI := Lib.hid hfw
          obtain ⟨c0, c1, c2, c3, c4⟩ := hc
          have hbl := cell_lt c0
          clear hf hfi hfw
          by_cases h41 : 4096 < f.name.size
          · have d2 : decide ((f.name.size : Int) ≤ 4096) = false := by simp; omega
            have hEE := HH.out
            rw [if_pos (List.any_eq_true.2 ⟨_, List.getElem_mem hlt, by rw [HX.out]; unfold longF; rw [decide_eq_true h41]; rfl⟩)] at hEE
            subst hEE
            clear HH
            go_wp2_with (first | (go_at_call 76; (with_reducible refine (need_no _ _).mono ?_); rintro e w1 ⟨rfl, rfl⟩))
            refine ⟨rfl, .inr ⟨by decide, rfl⟩, ?_⟩
            show Below _ _ _
            have h0 := HE.out
            have hs0 := h0.size
            (repeat' (first | (with_reducible exact Below.refl _ _) | (with_reducible assumption) | (with_reducible refine Below.alloc ?_ ?_ _) | (with_reducible refine below_drewN ?_ _) | (with_reducible refine Below.drew ?_) | (with_reducible refine Below.setCell ?_ ?_ _) | (with_reducible refine below_via (by assumption) ?_ ?_) | (with_reducible refine below_via (later_below _) ?_ ?_) | (with_reducible exact Nat.le_refl _) | omega | (simp; omega) | (simp; done)))
          · have d2 : decide ((f.name.size : Int) ≤ 4096) = true := by simp; omega
            have hfp := ((inF_iff f).1 HFI.out).1
            have p1 := hfp.pi.1
            have p2 := hfp.pi.2.1
            have hnP : (f.params.length : Int) ≤ 9223372036854775807 := by omega
            obtain ⟨uP, huP⟩ : ∃ v, f.pA = v := ⟨_, rfl⟩
            rw [huP] at c1
            clear hfp
            go_wp2_with (first | (go_at_call 76; (with_reducible refine (need_yes _ _).mono ?_); rintro e w1 ⟨rfl, rfl⟩))
            go_loopw [41] (fun i wr2 => ∃ m : Nat, m ≤ f.params.length ∧ i = .int .i64 m ∧ Hid (Below w.heap.size w wr2) ∧ Hid (X8n w.heap.size x wr2) ∧ Hid (T2n (w.heap.size + 1) t wr2) ∧ Hid (∀ i (hi : i < f.params.length), i < m → longP f.params[i] = false)) (fun i _ => f.params.length - (intOf i).toNat)
            case atStart =>
              refine ⟨0, Nat.zero_le _, rfl, ?_, ?_, ?_, fun i _ h => by omega⟩
              · show Below _ _ _; have h0 := HE.out; have hs0 := h0.size; (repeat' (first | (with_reducible exact Below.refl _ _) | (with_reducible assumption) | (with_reducible refine Below.alloc ?_ ?_ _) | (with_reducible refine below_drewN ?_ _) | (with_reducible refine Below.drew ?_) | (with_reducible refine Below.setCell ?_ ?_ _) | (with_reducible refine below_via (by assumption) ?_ ?_) | (with_reducible refine below_via (later_below _) ?_ ?_) | (with_reducible exact Nat.le_refl _) | omega | (simp; omega) | (simp; done)))
              · exact HV.out.kept (kept_of (a := 0) (b := 0) ((Below.refl _ _).alloc (Nat.le_refl _) _) (Nat.zero_le _)) (Nat.zero_le _)
              · exact HTn.out.below ((Below.refl _ _).alloc (Nat.le_refl _) _)
            case round =>
              clear e0 e1 e2 e3 e4 e5 e6 e7 t0 t1 hzr c0 c1 c2 c3 c4 hbl
              obtain ⟨m, hm, rfl, HE2, HV2, HT2, HP2⟩ := hrel
              by_cases hlm : m < f.params.length
              · rcases ((inF_iff f).1 HFI.out).1.pAt with h0 | ⟨b, o, hpA, hb, hc⟩
                · omega
                rw [huP] at hpA
                subst hpA
                have hck := p1_still (still_of HE2.out (Nat.le_refl _)) _ _ _ hb (hc m hlm)
                have hxs := ((inF_iff f).1 HFI.out).1.ps _ (List.getElem_mem hlm)
                obtain ⟨q, hq⟩ : ∃ q, f.params[m] = q := ⟨_, rfl⟩
                have HQ := Lib.hid hq
                rw [hq, Nat.mul_one] at hck
                rw [hq] at hxs
                have c0 : World.cell? _ ⟨b, o + m, none⟩ = some (Value.string q) := hck
                have hbl := cell_lt c0
                clear hq hck hc hb
                by_cases h42 : 40 < q.size
                · have d3 : decide ((q.size : Int) ≤ 40) = false := by simp; omega
                  have hEE := HH.out
                  rw [if_pos (List.any_eq_true.2 ⟨_, List.getElem_mem hlt, by rw [HX.out]; unfold longF; rw [Bool.or_eq_true]; exact .inr (List.any_eq_true.2 ⟨_, List.getElem_mem hlm, by rw [HQ.out]; exact decide_eq_true h42⟩)⟩)] at hEE
                  subst hEE
                  clear HH
                  go_wp2_with (first | (go_at_call 76; (with_reducible refine (need_no _ _).mono ?_); rintro e w1 ⟨rfl, rfl⟩))
                  refine ⟨rfl, .inr ⟨by decide, rfl⟩, ?_⟩
                  show Below _ _ _
                  have h0 := HE2.out
                  have hs0 := h0.size
                  (repeat' (first | (with_reducible exact Below.refl _ _) | (with_reducible assumption) | (with_reducible refine Below.alloc ?_ ?_ _) | (with_reducible refine below_drewN ?_ _) | (with_reducible refine Below.drew ?_) | (with_reducible refine Below.setCell ?_ ?_ _) | (with_reducible refine below_via (by assumption) ?_ ?_) | (with_reducible refine below_via (later_below _) ?_ ?_) | (with_reducible exact Nat.le_refl _) | omega | (simp; omega) | (simp; done)))
                · have d3 : decide ((q.size : Int) ≤ 40) = true := by simp; omega
                  go_wp2_with (first | (go_at_call 76; (with_reducible refine (need_yes _ _).mono ?_); rintro e w1 ⟨rfl, rfl⟩))
                  refine ⟨⟨m + 1, by omega, by go_num, HE2, HV2, HT2, ?_⟩, by simp [intOf]; omega⟩
                  intro i hi him
                  by_cases h : i = m
                  · subst h; rw [HQ.out]; exact decide_eq_false h42
                  · exact HP2.out i hi (by omega)
              · obtain rfl : m = f.params.length := by omega
                have hany : f.params.any longP = false := any_no fun i hi => HP2.out i hi hi
                have hfin := decide_eq_false h41
                go_wp2_with fail
                refine ⟨⟨j + 1, by omega, by go_num, HE2, HV2, HT2, ?_⟩, by simp [intOf]; omega⟩
                intro i hi hij
                by_cases h : i = j
                · subst h; rw [HX.out]; unfold longF; rw [hany, hfin]; rfl
                · exact HP.out i hi (by omega)
        · obtain rfl : j = x.funcs.length := by omega
          have hany : x.funcs.any longF = false := any_no fun i hi => HP.out i hi hi
          have hEE := HH.out
          rw [if_neg (by rw [hany]; simp)] at hEE
          clear HH HP hany
          obtain ⟨F, hF⟩ : ∃ b, feB x par = b := ⟨_, rfl⟩
          have HF : Hid (∀ W, Below w.heap.size w W → Calls Tryz.prog 99 #[x.v, .int .i64 par] W fun e W' => e = .returned (.bool F) ∧ Below W.heap.size W W') := fun W hW => hF ▸ formExpr_any x par W (HIN.out.still (still_of hW (Nat.le_refl _)) hW.size)
          simp only [TX.v, huF] at HF
          rw [huF] at e7
          rw [hF] at hEE
          clear hF
          by_cases h5 : 0 ≤ x.ln
          · have d5 : decide (0 ≤ x.ln) = true := decide_eq_true h5
            rw [d5, Bool.true_and] at hEE
            cases F with
            | false =>
              rw [if_pos rfl] at hEE
              subst hEE
              go_wp2_with (first | (go_at_call 99; (with_reducible refine (HF.out _ ?_).mono ?_); (focus (have h0 := HE.out; have hs0 := h0.size; (repeat' (first | (with_reducible exact Below.refl _ _) | (with_reducible assumption) | (with_reducible refine Below.alloc ?_ ?_ _) | (with_reducible refine below_drewN ?_ _) | (with_reducible refine Below.drew ?_) | (with_reducible refine Below.setCell ?_ ?_ _) | (with_reducible refine below_via (by assumption) ?_ ?_) | (with_reducible refine below_via (later_below _) ?_ ?_) | (with_reducible exact Nat.le_refl _) | omega | (simp; omega) | (simp; done))))); rintro e w2 ⟨rfl, hb⟩; (refine mem hb ?_; intro N hN hz hc hf; (try simp at hN); subst hN)) | (go_at_call 76; (with_reducible refine (need_no _ _).mono ?_); rintro e w1 ⟨rfl, rfl⟩))
              refine ⟨rfl, .inr ⟨by decide, rfl⟩, ?_⟩
              show Below _ _ _
              have h0 := HE.out
              have hs0 := h0.size
              (repeat' (first | (with_reducible exact Below.refl _ _) | (with_reducible assumption) | (with_reducible refine Below.alloc ?_ ?_ _) | (with_reducible refine below_drewN ?_ _) | (with_reducible refine Below.drew ?_) | (with_reducible refine Below.setCell ?_ ?_ _) | (with_reducible refine below_via (by assumption) ?_ ?_) | (with_reducible refine below_via (later_below _) ?_ ?_) | (with_reducible exact Nat.le_refl _) | omega | (simp; omega) | (simp; done)))
            | true =>
              rw [if_neg (by simp)] at hEE
              have HH := Lib.hid hEE
              clear hEE
              go_wp2_with (first | (go_at_call 99; (with_reducible refine (HF.out _ ?_).mono ?_); (focus (have h0 := HE.out; have hs0 := h0.size; (repeat' (first | (with_reducible exact Below.refl _ _) | (with_reducible assumption) | (with_reducible refine Below.alloc ?_ ?_ _) | (with_reducible refine below_drewN ?_ _) | (with_reducible refine Below.drew ?_) | (with_reducible refine Below.setCell ?_ ?_ _) | (with_reducible refine below_via (by assumption) ?_ ?_) | (with_reducible refine below_via (later_below _) ?_ ?_) | (with_reducible exact Nat.le_refl _) | omega | (simp; omega) | (simp; done))))); rintro e w2 ⟨rfl, hb⟩; (refine mem hb ?_; intro N hN hz hc hf; (try simp at hN); subst hN)) | (go_at_call 76; (with_reducible refine (need_yes _ _).mono ?_); rintro e w1 ⟨rfl, rfl⟩))
              go_loopw [63] (fun i wr => ∃ j : Nat, j ≤ x.funcs.length ∧ i = .int .i64 j ∧ Hid (Below w.heap.size w wr) ∧ Hid (X8n w.heap.size x wr) ∧ Hid (T2n (w.heap.size + 1) t wr) ∧ Hid (∀ i (hi : i < x.funcs.length), i < j → badL t x.funcs[i] = false)) (fun i _ => x.funcs.length - (intOf i).toNat)
              case atStart =>
                refine ⟨0, Nat.zero_le _, rfl, ?_, ?_, ?_, fun i _ h => by omega⟩
                · show Below _ _ _; have h0 := HE.out; have hs0 := h0.size; (repeat' (first | (with_reducible exact Below.refl _ _) | (with_reducible assumption) | (with_reducible refine Below.alloc ?_ ?_ _) | (with_reducible refine below_drewN ?_ _) | (with_reducible refine Below.drew ?_) | (with_reducible refine Below.setCell ?_ ?_ _) | (with_reducible refine below_via (by assumption) ?_ ?_) | (with_reducible refine below_via (later_below _) ?_ ?_) | (with_reducible exact Nat.le_refl _) | omega | (simp; omega) | (simp; done)))
                · exact HV.out.kept (kept_of (a := 0) (b := 0) (by (repeat' (first | (with_reducible exact Below.refl _ _) | (with_reducible assumption) | (with_reducible refine Below.alloc ?_ ?_ _) | (with_reducible refine below_drewN ?_ _) | (with_reducible refine Below.drew ?_) | (with_reducible refine Below.setCell ?_ ?_ _) | (with_reducible refine below_via (by assumption) ?_ ?_) | (with_reducible refine below_via (later_below _) ?_ ?_) | (with_reducible exact Nat.le_refl _) | omega | (simp; omega) | (simp; done)))) (Nat.zero_le _)) (Nat.zero_le _)
                · exact HTn.out.below (by (repeat' (first | (with_reducible exact Below.refl _ _) | (with_reducible assumption) | (with_reducible refine Below.alloc ?_ ?_ _) | (with_reducible refine below_drewN ?_ _) | (with_reducible refine Below.drew ?_) | (with_reducible refine Below.setCell ?_ ?_ _) | (with_reducible refine below_via (by assumption) ?_ ?_) | (with_reducible refine below_via (later_below _) ?_ ?_) | (with_reducible exact Nat.le_refl _) | omega | (simp; omega) | (simp; done))))
              case round =>
                clear e0 e1 e2 e3 e4 e5 e6 e7 t0 t1 hzr
                obtain ⟨j, hj, rfl, HE, HV, HTn, HP⟩ := hrel
                obtain ⟨e0, e1, e2, e3, e4, e5, e6, e7⟩ := HV.out
                obtain ⟨t0, t1⟩ := HTn.out
                have hzr := cell_lt t1
                by_cases hlt : j < x.funcs.length
                · obtain ⟨b1, o, haF, hb, hc, hfi⟩ := (HIN.out.fs.still (still_of HE.out (Nat.le_refl _)) (Nat.le_refl _)).at_ hlt
                  rw [huF] at haF
                  subst haF
                  rw [huF] at e7
                  obtain ⟨f, hf⟩ : ∃ f, x.funcs[j] = f := ⟨_, rfl⟩
                  have HX := Lib.hid hf
                  have hfw := (inFs_iff _).1 HIN.out.fs.2.2 _ (List.getElem_mem hlt)
                  rw [hf] at hc hfw
                  have HFI := Lib.hid hfw
                  obtain ⟨c0, c1, c2, c3, c4⟩ := hc
                  have hbl := cell_lt c0
                  clear hf hfi hfw
                  obtain ⟨G, hG⟩ : ∃ b, fitsB t f = b := ⟨_, rfl⟩
                  have HG : Hid (∀ W, Below w.heap.size w W → Calls Tryz.prog 100 #[t.v, f.v] W fun e W' => e = .returned (.bool G) ∧ Below W.heap.size W W') := fun W hW => hG ▸ fits_any t f N W ⟨HT.out.1, HT.out.2.still (p1_still (still_of hW hN)) (Nat.le_refl _)⟩ (HFI.out.still (still_of hW (Nat.le_refl _)) hW.size) (Nat.le_trans hN hW.size)
                  have HGG := Lib.hid hG
                  clear hG
                  simp only [TT.v, huT] at HG
                  by_cases h6 : 0 ≤ f.ln
                  · have d6 : decide (0 ≤ f.ln) = true := decide_eq_true h6
                    cases G with
                    | false =>
                      have hEE := HH.out
                      rw [if_pos (List.any_eq_true.2 ⟨_, List.getElem_mem hlt, by rw [HX.out]; unfold badL; rw [d6, HGG.out]; rfl⟩)] at hEE
                      subst hEE
                      clear HH
                      go_wp2_with (first | (go_at_call 100; (with_reducible refine (HG.out _ ?_).mono ?_); (focus (have h0 := HE.out; have hs0 := h0.size; (repeat' (first | (with_reducible exact Below.refl _ _) | (with_reducible assumption) | (with_reducible refine Below.alloc ?_ ?_ _) | (with_reducible refine below_drewN ?_ _) | (with_reducible refine Below.drew ?_) | (with_reducible refine Below.setCell ?_ ?_ _) | (with_reducible refine below_via (by assumption) ?_ ?_) | (with_reducible refine below_via (later_below _) ?_ ?_) | (with_reducible exact Nat.le_refl _) | omega | (simp; omega) | (simp; done))))); rintro e w2 ⟨rfl, hb⟩; (refine mem hb ?_; intro N hN hz hc hf; (try simp at hN); subst hN)) | (go_at_call 76; (with_reducible refine (need_no _ _).mono ?_); rintro e w1 ⟨rfl, rfl⟩))
                      refine ⟨rfl, .inr ⟨by decide, rfl⟩, ?_⟩
                      show Below _ _ _
                      have h0 := HE.out
                      have hs0 := h0.size
                      (repeat' (first | (with_reducible exact Below.refl _ _) | (with_reducible assumption) | (with_reducible refine Below.alloc ?_ ?_ _) | (with_reducible refine below_drewN ?_ _) | (with_reducible refine Below.drew ?_) | (with_reducible refine Below.setCell ?_ ?_ _) | (with_reducible refine below_via (by assumption) ?_ ?_) | (with_reducible refine below_via (later_below _) ?_ ?_) | (with_reducible exact Nat.le_refl _) | omega | (simp; omega) | (simp; done)))
                    | true =>
                      go_wp2_with (first | (go_at_call 100; (with_reducible refine (HG.out _ ?_).mono ?_); (focus (have h0 := HE.out; have hs0 := h0.size; (repeat' (first | (with_reducible exact Below.refl _ _) | (with_reducible assumption) | (with_reducible refine Below.alloc ?_ ?_ _) | (with_reducible refine below_drewN ?_ _) | (with_reducible refine Below.drew ?_) | (with_reducible refine Below.setCell ?_ ?_ _) | (with_reducible refine below_via (by assumption) ?_ ?_) | (with_reducible refine below_via (later_below _) ?_ ?_) | (with_reducible exact Nat.le_refl _) | omega | (simp; omega) | (simp; done))))); rintro e w2 ⟨rfl, hb⟩; (refine mem hb ?_; intro N hN hz hc hf; (try simp at hN); subst hN)) | (go_at_call 76; (with_reducible refine (need_yes _ _).mono ?_); rintro e w1 ⟨rfl, rfl⟩))
                      refine ⟨⟨j + 1, by omega, by go_num, ?_, ?_, ?_, ?_⟩, by simp [intOf]; omega⟩
                      · show Below _ _ _; have h0 := HE.out; have hs0 := h0.size; (repeat' (first | (with_reducible exact Below.refl _ _) | (with_reducible assumption) | (with_reducible refine Below.alloc ?_ ?_ _) | (with_reducible refine below_drewN ?_ _) | (with_reducible refine Below.drew ?_) | (with_reducible refine Below.setCell ?_ ?_ _) | (with_reducible refine below_via (by assumption) ?_ ?_) | (with_reducible refine below_via (later_below _) ?_ ?_) | (with_reducible exact Nat.le_refl _) | omega | (simp; omega) | (simp; done)))
                      · exact HV.out.kept (kept_of (a := 0) (b := 0) (by (repeat' (first | (with_reducible exact Below.refl _ _) | (with_reducible assumption) | (with_reducible refine Below.alloc ?_ ?_ _) | (with_reducible refine below_drewN ?_ _) | (with_reducible refine Below.drew ?_) | (with_reducible refine Below.setCell ?_ ?_ _) | (with_reducible refine below_via (by assumption) ?_ ?_) | (with_reducible refine below_via (later_below _) ?_ ?_) | (with_reducible exact Nat.le_refl _) | omega | (simp; omega) | (simp; done)))) (Nat.zero_le _)) (Nat.zero_le _)
                      · exact HTn.out.below (by (repeat' (first | (with_reducible exact Below.refl _ _) | (with_reducible assumption) | (with_reducible refine Below.alloc ?_ ?_ _) | (with_reducible refine below_drewN ?_ _) | (with_reducible refine Below.drew ?_) | (with_reducible refine Below.setCell ?_ ?_ _) | (with_reducible refine below_via (by assumption) ?_ ?_) | (with_reducible refine below_via (later_below _) ?_ ?_) | (with_reducible exact Nat.le_refl _) | omega | (simp; omega) | (simp; done))))
                      · intro i hi hij
                        by_cases h : i = j
                        · subst h; rw [HX.out]; unfold badL; rw [d6, HGG.out]; rfl
                        · exact HP.out i hi (by omega)
                  · have d6 : decide (0 ≤ f.ln) = false := decide_eq_false h6
                    have hEE := HH.out
                    rw [if_pos (List.any_eq_true.2 ⟨_, List.getElem_mem hlt, by rw [HX.out]; unfold badL; rw [d6]; rfl⟩)] at hEE
                    subst hEE
                    clear HH
                    go_wp2_with (first | (go_at_call 76; (with_reducible refine (need_no _ _).mono ?_); rintro e w1 ⟨rfl, rfl⟩))
                    refine ⟨rfl, .inr ⟨by decide, rfl⟩, ?_⟩
                    show Below _ _ _
                    have h0 := HE.out
                    have hs0 := h0.size
                    (repeat' (first | (with_reducible exact Below.refl _ _) | (with_reducible assumption) | (with_reducible refine Below.alloc ?_ ?_ _) | (with_reducible refine below_drewN ?_ _) | (with_reducible refine Below.drew ?_) | (with_reducible refine Below.setCell ?_ ?_ _) | (with_reducible refine below_via (by assumption) ?_ ?_) | (with_reducible refine below_via (later_below _) ?_ ?_) | (with_reducible exact Nat.le_refl _) | omega | (simp; omega) | (simp; done)))
                · obtain rfl : j = x.funcs.length := by omega
                  have hany : x.funcs.any (badL t) = false := any_no fun i hi => HP.out i hi hi
                  have hEE := HH.out
                  rw [if_neg (by rw [hany]; simp)] at hEE
                  clear HH HP hany
                  rw [huF] at e7
                  cases h7 : (x.k == 7) with
                  | true =>
                    rw [h7] at hEE
                    rw [Bool.true_or, Bool.true_and] at hEE
                    obtain ⟨nq, hnq⟩ : ∃ q, nameB x.s.data.toList = q := ⟨_, rfl⟩
                    have HM : Hid (∀ W, Calls Tryz.prog 6 #[.string x.s] W fun e W' => e = .returned (.bool nq) ∧ Below W.heap.size W W') := fun W => hnq ▸ name_any x.s W hsz
                    rw [hnq] at hEE
                    clear hnq
                    cases nq with
                    | false =>
                      rw [Bool.not_false, if_pos rfl] at hEE
                      subst hEE
                      go_wp2_with (first | (go_at_call 6; (with_reducible refine (HM.out _).mono ?_); rintro e w3 ⟨rfl, hb⟩; (refine mem hb ?_; intro N hN hz hc hf; (try simp at hN); subst hN)) | (go_at_call 76; (with_reducible refine (need_no _ _).mono ?_); rintro e w1 ⟨rfl, rfl⟩))
                      refine ⟨rfl, .inr ⟨by decide, rfl⟩, ?_⟩
                      show Below _ _ _
                      have h0 := HE.out
                      have hs0 := h0.size
                      (repeat' (first | (with_reducible exact Below.refl _ _) | (with_reducible assumption) | (with_reducible refine Below.alloc ?_ ?_ _) | (with_reducible refine below_drewN ?_ _) | (with_reducible refine Below.drew ?_) | (with_reducible refine Below.setCell ?_ ?_ _) | (with_reducible refine below_via (by assumption) ?_ ?_) | (with_reducible refine below_via (later_below _) ?_ ?_) | (with_reducible exact Nat.le_refl _) | omega | (simp; omega) | (simp; done)))
                    | true =>
                      rw [Bool.not_true, if_neg (by simp)] at hEE
                      have HH := Lib.hid hEE
                      clear hEE
                      go_wp2_with (first | (go_at_call 6; (with_reducible refine (HM.out _).mono ?_); rintro e w3 ⟨rfl, hb⟩; (refine mem hb ?_; intro N hN hz hc hf; (try simp at hN); subst hN)) | (go_at_call 76; (with_reducible refine (need_yes _ _).mono ?_); rintro e w1 ⟨rfl, rfl⟩))
                      go_loopw [92] (fun i wr => ∃ j : Nat, j ≤ x.funcs.length ∧ i = .int .i64 j ∧ Hid (Below w.heap.size w wr) ∧ Hid (X8n w.heap.size x wr) ∧ Hid (T2n (w.heap.size + 1) t wr) ∧ Hid (∀ i (hi : i < x.funcs.length), i < j → badF x.funcs[i] = false)) (fun i _ => x.funcs.length - (intOf i).toNat)
                      case atStart =>
                        refine ⟨0, Nat.zero_le _, rfl, ?_, ?_, ?_, fun i _ h => by omega⟩
                        · show Below _ _ _; have h0 := HE.out; have hs0 := h0.size; (repeat' (first | (with_reducible exact Below.refl _ _) | (with_reducible assumption) | (with_reducible refine Below.alloc ?_ ?_ _) | (with_reducible refine below_drewN ?_ _) | (with_reducible refine Below.drew ?_) | (with_reducible refine Below.setCell ?_ ?_ _) | (with_reducible refine below_via (by assumption) ?_ ?_) | (with_reducible refine below_via (later_below _) ?_ ?_) | (with_reducible exact Nat.le_refl _) | omega | (simp; omega) | (simp; done)))
                        · exact HV.out.kept (kept_of (a := 0) (b := 0) (by (repeat' (first | (with_reducible exact Below.refl _ _) | (with_reducible assumption) | (with_reducible refine Below.alloc ?_ ?_ _) | (with_reducible refine below_drewN ?_ _) | (with_reducible refine Below.drew ?_) | (with_reducible refine Below.setCell ?_ ?_ _) | (with_reducible refine below_via (by assumption) ?_ ?_) | (with_reducible refine below_via (later_below _) ?_ ?_) | (with_reducible exact Nat.le_refl _) | omega | (simp; omega) | (simp; done)))) (Nat.zero_le _)) (Nat.zero_le _)
                        · exact HTn.out.below (by (repeat' (first | (with_reducible exact Below.refl _ _) | (with_reducible assumption) | (with_reducible refine Below.alloc ?_ ?_ _) | (with_reducible refine below_drewN ?_ _) | (with_reducible refine Below.drew ?_) | (with_reducible refine Below.setCell ?_ ?_ _) | (with_reducible refine below_via (by assumption) ?_ ?_) | (with_reducible refine below_via (later_below _) ?_ ?_) | (with_reducible exact Nat.le_refl _) | omega | (simp; omega) | (simp; done))))
                      case round =>
                        clear e0 e1 e2 e3 e4 e5 e6 e7 t0 t1 hzr
                        obtain ⟨j, hj, rfl, HE, HV, HTn, HP⟩ := hrel
                        obtain ⟨e0, e1, e2, e3, e4, e5, e6, e7⟩ := HV.out
                        obtain ⟨t0, t1⟩ := HTn.out
                        have hzr := cell_lt t1
                        by_cases hlt : j < x.funcs.length
                        · obtain ⟨b1, o, haF, hb, hc, hfi⟩ := (HIN.out.fs.still (still_of HE.out (Nat.le_refl _)) (Nat.le_refl _)).at_ hlt
                          rw [huF] at haF
                          subst haF
                          rw [huF] at e7
                          obtain ⟨f, hf⟩ : ∃ f, x.funcs[j] = f := ⟨_, rfl⟩
                          have HX := Lib.hid hf
                          have hfw := (inFs_iff _).1 HIN.out.fs.2.2 _ (List.getElem_mem hlt)
                          rw [hf] at hc hfw
                          have HFI := Lib.hid hfw
                          obtain ⟨c0, c1, c2, c3, c4⟩ := hc
                          have hbl := cell_lt c0
                          clear hf hfi hfw
                          have hfp := ((inF_iff f).1 HFI.out).1
                          have p1 := hfp.pi.1
                          have p2 := hfp.pi.2.1
                          have hnP : (f.params.length : Int) ≤ 9223372036854775807 := by omega
                          obtain ⟨uP, huP⟩ : ∃ v, f.pA = v := ⟨_, rfl⟩
                          rw [huP] at c1
                          clear hfp
                          go_wp2_with fail
                          go_loopw [99] (fun i wr2 => ∃ m : Nat, m ≤ f.params.length ∧ i = .int .i64 m ∧ Hid (Below w.heap.size w wr2) ∧ Hid (X8n w.heap.size x wr2) ∧ Hid (T2n (w.heap.size + 1) t wr2) ∧ Hid (∀ i (hi : i < f.params.length), i < m → badP f.params[i] = false)) (fun i _ => f.params.length - (intOf i).toNat)
                          case atStart =>
                            refine ⟨0, Nat.zero_le _, rfl, ?_, ?_, ?_, fun i _ h => by omega⟩
                            · show Below _ _ _; have h0 := HE.out; have hs0 := h0.size; (repeat' (first | (with_reducible exact Below.refl _ _) | (with_reducible assumption) | (with_reducible refine Below.alloc ?_ ?_ _) | (with_reducible refine below_drewN ?_ _) | (with_reducible refine Below.drew ?_) | (with_reducible refine Below.setCell ?_ ?_ _) | (with_reducible refine below_via (by assumption) ?_ ?_) | (with_reducible refine below_via (later_below _) ?_ ?_) | (with_reducible exact Nat.le_refl _) | omega | (simp; omega) | (simp; done)))
                            · exact HV.out.kept (kept_of (a := 0) (b := 0) ((Below.refl _ _).alloc (Nat.le_refl _) _) (Nat.zero_le _)) (Nat.zero_le _)
                            · exact HTn.out.below ((Below.refl _ _).alloc (Nat.le_refl _) _)
                          case round =>
                            clear e0 e1 e2 e3 e4 e5 e6 e7 t0 t1 hzr c0 c1 c2 c3 c4 hbl
                            obtain ⟨m, hm, rfl, HE2, HV2, HT2, HP2⟩ := hrel
                            by_cases hlm : m < f.params.length
                            · rcases ((inF_iff f).1 HFI.out).1.pAt with h0 | ⟨b, o, hpA, hb, hc⟩
                              · omega
                              rw [huP] at hpA
                              subst hpA
                              have hck := p1_still (still_of HE2.out (Nat.le_refl _)) _ _ _ hb (hc m hlm)
                              have hxs := ((inF_iff f).1 HFI.out).1.ps _ (List.getElem_mem hlm)
                              obtain ⟨q, hq⟩ : ∃ q, f.params[m] = q := ⟨_, rfl⟩
                              have HQ := Lib.hid hq
                              rw [hq, Nat.mul_one] at hck
                              rw [hq] at hxs
                              have c0 : World.cell? _ ⟨b, o + m, none⟩ = some (Value.string q) := hck
                              have hbl := cell_lt c0
                              clear hq hck hc hb
                              obtain ⟨nq, hnq⟩ : ∃ b, nameB q.data.toList = b := ⟨_, rfl⟩
                              have HM2 : Hid (∀ W, Calls Tryz.prog 6 #[.string q] W fun e W' => e = .returned (.bool nq) ∧ Below W.heap.size W W') := fun W => hnq ▸ name_any q W hxs
                              have HNQ := Lib.hid hnq
                              clear hnq
                              cases nq with
                              | false =>
                                have hEE := HH.out
                                rw [if_pos (List.any_eq_true.2 ⟨_, List.getElem_mem hlt, by rw [HX.out]; unfold badF; exact List.any_eq_true.2 ⟨_, List.getElem_mem hlm, by rw [HQ.out]; unfold badP; rw [HNQ.out]; rfl⟩⟩)] at hEE
                                subst hEE
                                clear HH
                                go_wp2_with (first | (go_at_call 6; (with_reducible refine (HM2.out _).mono ?_); rintro e w3 ⟨rfl, hb⟩; (refine mem hb ?_; intro N hN hz hc hf; (try simp at hN); subst hN)) | (go_at_call 76; (with_reducible refine (need_no _ _).mono ?_); rintro e w1 ⟨rfl, rfl⟩))
                                refine ⟨rfl, .inr ⟨by decide, rfl⟩, ?_⟩
                                show Below _ _ _
                                have h0 := HE2.out
                                have hs0 := h0.size
                                (repeat' (first | (with_reducible exact Below.refl _ _) | (with_reducible assumption) | (with_reducible refine Below.alloc ?_ ?_ _) | (with_reducible refine below_drewN ?_ _) | (with_reducible refine Below.drew ?_) | (with_reducible refine Below.setCell ?_ ?_ _) | (with_reducible refine below_via (by assumption) ?_ ?_) | (with_reducible refine below_via (later_below _) ?_ ?_) | (with_reducible exact Nat.le_refl _) | omega | (simp; omega) | (simp; done)))
                              | true =>
                                go_wp2_with (first | (go_at_call 6; (with_reducible refine (HM2.out _).mono ?_); rintro e w3 ⟨rfl, hb⟩; (refine mem hb ?_; intro N hN hz hc hf; (try simp at hN); subst hN)) | (go_at_call 76; (with_reducible refine (need_yes _ _).mono ?_); rintro e w1 ⟨rfl, rfl⟩))
                                refine ⟨⟨m + 1, by omega, by go_num, ?_, ?_, ?_, ?_⟩, by simp [intOf]; omega⟩
                                · show Below _ _ _; have h0 := HE2.out; have hs0 := h0.size; (repeat' (first | (with_reducible exact Below.refl _ _) | (with_reducible assumption) | (with_reducible refine Below.alloc ?_ ?_ _) | (with_reducible refine below_drewN ?_ _) | (with_reducible refine Below.drew ?_) | (with_reducible refine Below.setCell ?_ ?_ _) | (with_reducible refine below_via (by assumption) ?_ ?_) | (with_reducible refine below_via (later_below _) ?_ ?_) | (with_reducible exact Nat.le_refl _) | omega | (simp; omega) | (simp; done)))
                                · exact HV2.out.kept (kept_of (a := 0) (b := 0) (by (repeat' (first | (with_reducible exact Below.refl _ _) | (with_reducible assumption) | (with_reducible refine Below.alloc ?_ ?_ _) | (with_reducible refine below_drewN ?_ _) | (with_reducible refine Below.drew ?_) | (with_reducible refine Below.setCell ?_ ?_ _) | (with_reducible refine below_via (by assumption) ?_ ?_) | (with_reducible refine below_via (later_below _) ?_ ?_) | (with_reducible exact Nat.le_refl _) | omega | (simp; omega) | (simp; done)))) (Nat.zero_le _)) (Nat.zero_le _)
                                · exact HT2.out.below (by (repeat' (first | (with_reducible exact Below.refl _ _) | (with_reducible assumption) | (with_reducible refine Below.alloc ?_ ?_ _) | (with_reducible refine below_drewN ?_ _) | (with_reducible refine Below.drew ?_) | (with_reducible refine Below.setCell ?_ ?_ _) | (with_reducible refine below_via (by assumption) ?_ ?_) | (with_reducible refine below_via (later_below _) ?_ ?_) | (with_reducible exact Nat.le_refl _) | omega | (simp; omega) | (simp; done))))
                                · intro i hi him
                                  by_cases h : i = m
                                  · subst h; rw [HQ.out]; unfold badP; rw [HNQ.out]; rfl
                                  · exact HP2.out i hi (by omega)
                            · obtain rfl : m = f.params.length := by omega
                              have hany : f.params.any badP = false := any_no fun i hi => HP2.out i hi hi
                              go_wp2_with fail
                              refine ⟨⟨j + 1, by omega, by go_num, HE2, HV2, HT2, ?_⟩, by simp [intOf]; omega⟩
                              intro i hi hij
                              by_cases h : i = j
                              · subst h; rw [HX.out]; unfold badF; exact hany
                              · exact HP.out i hi (by omega)
                        · obtain rfl : j = x.funcs.length := by omega
                          have hany : x.funcs.any badF = false := any_no fun i hi => HP.out i hi hi
                          have hEE := HH.out
                          rw [if_neg (by rw [hany]; simp)] at hEE
                          subst hEE
                          clear HH
                          go_wp2_with fail
                          go_end0
                          exact ⟨.inl ⟨rfl, rfl⟩, HE.out⟩
                  | false =>
                    cases h10 : (x.k == 10) with
                    | true =>
                      rw [h7, h10] at hEE
                      rw [Bool.false_or, Bool.true_and] at hEE
                      obtain ⟨nq, hnq⟩ : ∃ q, nameB x.s.data.toList = q := ⟨_, rfl⟩
                      have HM : Hid (∀ W, Calls Tryz.prog 6 #[.string x.s] W fun e W' => e = .returned (.bool nq) ∧ Below W.heap.size W W') := fun W => hnq ▸ name_any x.s W hsz
                      rw [hnq] at hEE
                      clear hnq
                      cases nq with
                      | false =>
                        rw [Bool.not_false, if_pos rfl] at hEE
                        subst hEE
                        go_wp2_with (first | (go_at_call 6; (with_reducible refine (HM.out _).mono ?_); rintro e w3 ⟨rfl, hb⟩; (refine mem hb ?_; intro N hN hz hc hf; (try simp at hN); subst hN)) | (go_at_call 76; (with_reducible refine (need_no _ _).mono ?_); rintro e w1 ⟨rfl, rfl⟩))
                        refine ⟨rfl, .inr ⟨by decide, rfl⟩, ?_⟩
                        show Below _ _ _
                        have h0 := HE.out
                        have hs0 := h0.size
                        (repeat' (first | (with_reducible exact Below.refl _ _) | (with_reducible assumption) | (with_reducible refine Below.alloc ?_ ?_ _) | (with_reducible refine below_drewN ?_ _) | (with_reducible refine Below.drew ?_) | (with_reducible refine Below.setCell ?_ ?_ _) | (with_reducible refine below_via (by assumption) ?_ ?_) | (with_reducible refine below_via (later_below _) ?_ ?_) | (with_reducible exact Nat.le_refl _) | omega | (simp; omega) | (simp; done)))
                      | true =>
                        rw [Bool.not_true, if_neg (by simp)] at hEE
                        have HH := Lib.hid hEE
                        clear hEE
                        go_wp2_with (first | (go_at_call 6; (with_reducible refine (HM.out _).mono ?_); rintro e w3 ⟨rfl, hb⟩; (refine mem hb ?_; intro N hN hz hc hf; (try simp at hN); subst hN)) | (go_at_call 76; (with_reducible refine (need_yes _ _).mono ?_); rintro e w1 ⟨rfl, rfl⟩))
                        go_loopw [92] (fun i wr => ∃ j : Nat, j ≤ x.funcs.length ∧ i = .int .i64 j ∧ Hid (Below w.heap.size w wr) ∧ Hid (X8n w.heap.size x wr) ∧ Hid (T2n (w.heap.size + 1) t wr) ∧ Hid (∀ i (hi : i < x.funcs.length), i < j → badF x.funcs[i] = false)) (fun i _ => x.funcs.length - (intOf i).toNat)
                        case atStart =>
                          refine ⟨0, Nat.zero_le _, rfl, ?_, ?_, ?_, fun i _ h => by omega⟩
                          · show Below _ _ _; have h0 := HE.out; have hs0 := h0.size; (repeat' (first | (with_reducible exact Below.refl _ _) | (with_reducible assumption) | (with_reducible refine Below.alloc ?_ ?_ _) | (with_reducible refine below_drewN ?_ _) | (with_reducible refine Below.drew ?_) | (with_reducible refine Below.setCell ?_ ?_ _) | (with_reducible refine below_via (by assumption) ?_ ?_) | (with_reducible refine below_via (later_below _) ?_ ?_) | (with_reducible exact Nat.le_refl _) | omega | (simp; omega) | (simp; done)))
                          · exact HV.out.kept (kept_of (a := 0) (b := 0) (by (repeat' (first | (with_reducible exact Below.refl _ _) | (with_reducible assumption) | (with_reducible refine Below.alloc ?_ ?_ _) | (with_reducible refine below_drewN ?_ _) | (with_reducible refine Below.drew ?_) | (with_reducible refine Below.setCell ?_ ?_ _) | (with_reducible refine below_via (by assumption) ?_ ?_) | (with_reducible refine below_via (later_below _) ?_ ?_) | (with_reducible exact Nat.le_refl _) | omega | (simp; omega) | (simp; done)))) (Nat.zero_le _)) (Nat.zero_le _)
                          · exact HTn.out.below (by (repeat' (first | (with_reducible exact Below.refl _ _) | (with_reducible assumption) | (with_reducible refine Below.alloc ?_ ?_ _) | (with_reducible refine below_drewN ?_ _) | (with_reducible refine Below.drew ?_) | (with_reducible refine Below.setCell ?_ ?_ _) | (with_reducible refine below_via (by assumption) ?_ ?_) | (with_reducible refine below_via (later_below _) ?_ ?_) | (with_reducible exact Nat.le_refl _) | omega | (simp; omega) | (simp; done))))
                        case round =>
                          clear e0 e1 e2 e3 e4 e5 e6 e7 t0 t1 hzr
                          obtain ⟨j, hj, rfl, HE, HV, HTn, HP⟩ := hrel
                          obtain ⟨e0, e1, e2, e3, e4, e5, e6, e7⟩ := HV.out
                          obtain ⟨t0, t1⟩ := HTn.out
                          have hzr := cell_lt t1
                          by_cases hlt : j < x.funcs.length
                          · obtain ⟨b1, o, haF, hb, hc, hfi⟩ := (HIN.out.fs.still (still_of HE.out (Nat.le_refl _)) (Nat.le_refl _)).at_ hlt
                            rw [huF] at haF
                            subst haF
                            rw [huF] at e7
                            obtain ⟨f, hf⟩ : ∃ f, x.funcs[j] = f := ⟨_, rfl⟩
                            have HX := Lib.hid hf
                            have hfw := (inFs_iff _).1 HIN.out.fs.2.2 _ (List.getElem_mem hlt)
                            rw [hf] at hc hfw
                            have HFI := Lib.hid hfw
                            obtain ⟨c0, c1, c2, c3, c4⟩ := hc
                            have hbl := cell_lt c0
                            clear hf hfi hfw
                            have hfp := ((inF_iff f).1 HFI.out).1
                            have p1 := hfp.pi.1
                            have p2 := hfp.pi.2.1
                            have hnP : (f.params.length : Int) ≤ 9223372036854775807 := by omega
                            obtain ⟨uP, huP⟩ : ∃ v, f.pA = v := ⟨_, rfl⟩
                            rw [huP] at c1
                            clear hfp
                            go_wp2_with fail
                            go_loopw [99] (fun i wr2 => ∃ m : Nat, m ≤ f.params.length ∧ i = .int .i64 m ∧ Hid (Below w.heap.size w wr2) ∧ Hid (X8n w.heap.size x wr2) ∧ Hid (T2n (w.heap.size + 1) t wr2) ∧ Hid (∀ i (hi : i < f.params.length), i < m → badP f.params[i] = false)) (fun i _ => f.params.length - (intOf i).toNat)
                            case atStart =>
                              refine ⟨0, Nat.zero_le _, rfl, ?_, ?_, ?_, fun i _ h => by omega⟩
                              · show Below _ _ _; have h0 := HE.out; have hs0 := h0.size; (repeat' (first | (with_reducible exact Below.refl _ _) | (with_reducible assumption) | (with_reducible refine Below.alloc ?_ ?_ _) | (with_reducible refine below_drewN ?_ _) | (with_reducible refine Below.drew ?_) | (with_reducible refine Below.setCell ?_ ?_ _) | (with_reducible refine below_via (by assumption) ?_ ?_) | (with_reducible refine below_via (later_below _) ?_ ?_) | (with_reducible exact Nat.le_refl _) | omega | (simp; omega) | (simp; done)))
                              · exact HV.out.kept (kept_of (a := 0) (b := 0) ((Below.refl _ _).alloc (Nat.le_refl _) _) (Nat.zero_le _)) (Nat.zero_le _)
                              · exact HTn.out.below ((Below.refl _ _).alloc (Nat.le_refl _) _)
                            case round =>
                              clear e0 e1 e2 e3 e4 e5 e6 e7 t0 t1 hzr c0 c1 c2 c3 c4 hbl
                              obtain ⟨m, hm, rfl, HE2, HV2, HT2, HP2⟩ := hrel
                              by_cases hlm : m < f.params.length
                              · rcases ((inF_iff f).1 HFI.out).1.pAt with h0 | ⟨b, o, hpA, hb, hc⟩
                                · omega
                                rw [huP] at hpA
                                subst hpA
                                have hck := p1_still (still_of HE2.out (Nat.le_refl _)) _ _ _ hb (hc m hlm)
                                have hxs := ((inF_iff f).1 HFI.out).1.ps _ (List.getElem_mem hlm)
                                obtain ⟨q, hq⟩ : ∃ q, f.params[m] = q := ⟨_, rfl⟩
                                have HQ := Lib.hid hq
                                rw [hq, Nat.mul_one] at hck
                                rw [hq] at hxs
                                have c0 : World.cell? _ ⟨b, o + m, none⟩ = some (Value.string q) := hck
                                have hbl := cell_lt c0
                                clear hq hck hc hb
                                obtain ⟨nq, hnq⟩ : ∃ b, nameB q.data.toList = b := ⟨_, rfl⟩
                                have HM2 : Hid (∀ W, Calls Tryz.prog 6 #[.string q] W fun e W' => e = .returned (.bool nq) ∧ Below W.heap.size W W') := fun W => hnq ▸ name_any q W hxs
                                have HNQ := Lib.hid hnq
                                clear hnq
                                cases nq with
                                | false =>
                                  have hEE := HH.out
                                  rw [if_pos (List.any_eq_true.2 ⟨_, List.getElem_mem hlt, by rw [HX.out]; unfold badF; exact List.any_eq_true.2 ⟨_, List.getElem_mem hlm, by rw [HQ.out]; unfold badP; rw [HNQ.out]; rfl⟩⟩)] at hEE
                                  subst hEE
                                  clear HH
                                  go_wp2_with (first | (go_at_call 6; (with_reducible refine (HM2.out _).mono ?_); rintro e w3 ⟨rfl, hb⟩; (refine mem hb ?_; intro N hN hz hc hf; (try simp at hN); subst hN)) | (go_at_call 76; (with_reducible refine (need_no _ _).mono ?_); rintro e w1 ⟨rfl, rfl⟩))
                                  refine ⟨rfl, .inr ⟨by decide, rfl⟩, ?_⟩
                                  show Below _ _ _
                                  have h0 := HE2.out
                                  have hs0 := h0.size
                                  (repeat' (first | (with_reducible exact Below.refl _ _) | (with_reducible assumption) | (with_reducible refine Below.alloc ?_ ?_ _) | (with_reducible refine below_drewN ?_ _) | (with_reducible refine Below.drew ?_) | (with_reducible refine Below.setCell ?_ ?_ _) | (with_reducible refine below_via (by assumption) ?_ ?_) | (with_reducible refine below_via (later_below _) ?_ ?_) | (with_reducible exact Nat.le_refl _) | omega | (simp; omega) | (simp; done)))
                                | true =>
                                  go_wp2_with (first | (go_at_call 6; (with_reducible refine (HM2.out _).mono ?_); rintro e w3 ⟨rfl, hb⟩; (refine mem hb ?_; intro N hN hz hc hf; (try simp at hN); subst hN)) | (go_at_call 76; (with_reducible refine (need_yes _ _).mono ?_); rintro e w1 ⟨rfl, rfl⟩))
                                  refine ⟨⟨m + 1, by omega, by go_num, ?_, ?_, ?_, ?_⟩, by simp [intOf]; omega⟩
                                  · show Below _ _ _; have h0 := HE2.out; have hs0 := h0.size; (repeat' (first | (with_reducible exact Below.refl _ _) | (with_reducible assumption) | (with_reducible refine Below.alloc ?_ ?_ _) | (with_reducible refine below_drewN ?_ _) | (with_reducible refine Below.drew ?_) | (with_reducible refine Below.setCell ?_ ?_ _) | (with_reducible refine below_via (by assumption) ?_ ?_) | (with_reducible refine below_via (later_below _) ?_ ?_) | (with_reducible exact Nat.le_refl _) | omega | (simp; omega) | (simp; done)))
                                  · exact HV2.out.kept (kept_of (a := 0) (b := 0) (by (repeat' (first | (with_reducible exact Below.refl _ _) | (with_reducible assumption) | (with_reducible refine Below.alloc ?_ ?_ _) | (with_reducible refine below_drewN ?_ _) | (with_reducible refine Below.drew ?_) | (with_reducible refine Below.setCell ?_ ?_ _) | (with_reducible refine below_via (by assumption) ?_ ?_) | (with_reducible refine below_via (later_below _) ?_ ?_) | (with_reducible exact Nat.le_refl _) | omega | (simp; omega) | (simp; done)))) (Nat.zero_le _)) (Nat.zero_le _)
                                  · exact HT2.out.below (by (repeat' (first | (with_reducible exact Below.refl _ _) | (with_reducible assumption) | (with_reducible refine Below.alloc ?_ ?_ _) | (with_reducible refine below_drewN ?_ _) | (with_reducible refine Below.drew ?_) | (with_reducible refine Below.setCell ?_ ?_ _) | (with_reducible refine below_via (by assumption) ?_ ?_) | (with_reducible refine below_via (later_below _) ?_ ?_) | (with_reducible exact Nat.le_refl _) | omega | (simp; omega) | (simp; done))))
                                  · intro i hi him
                                    by_cases h : i = m
                                    · subst h; rw [HQ.out]; unfold badP; rw [HNQ.out]; rfl
                                    · exact HP2.out i hi (by omega)
                              · obtain rfl : m = f.params.length := by omega
                                have hany : f.params.any badP = false := any_no fun i hi => HP2.out i hi hi
                                go_wp2_with fail
                                refine ⟨⟨j + 1, by omega, by go_num, HE2, HV2, HT2, ?_⟩, by simp [intOf]; omega⟩
                                intro i hi hij
                                by_cases h : i = j
                                · subst h; rw [HX.out]; unfold badF; exact hany
                                · exact HP.out i hi (by omega)
                          · obtain rfl : j = x.funcs.length := by omega
                            have hany : x.funcs.any badF = false := any_no fun i hi => HP.out i hi hi
                            have hEE := HH.out
                            rw [if_neg (by rw [hany]; simp)] at hEE
                            subst hEE
                            clear HH
                            go_wp2_with fail
                            go_end0
                            exact ⟨.inl ⟨rfl, rfl⟩, HE.out⟩
                    | false =>
                      rw [h7, h10, Bool.false_or, Bool.false_and, if_neg (by simp)] at hEE
                      have HH := Lib.hid hEE
                      clear hEE
                      go_wp2_with fail
                      go_loopw [92] (fun i wr => ∃ j : Nat, j ≤ x.funcs.length ∧ i = .int .i64 j ∧ Hid (Below w.heap.size w wr) ∧ Hid (X8n w.heap.size x wr) ∧ Hid (T2n (w.heap.size + 1) t wr) ∧ Hid (∀ i (hi : i < x.funcs.length), i < j → badF x.funcs[i] = false)) (fun i _ => x.funcs.length - (intOf i).toNat)
                      case atStart =>
                        refine ⟨0, Nat.zero_le _, rfl, ?_, ?_, ?_, fun i _ h => by omega⟩
                        · show Below _ _ _; have h0 := HE.out; have hs0 := h0.size; (repeat' (first | (with_reducible exact Below.refl _ _) | (with_reducible assumption) | (with_reducible refine Below.alloc ?_ ?_ _) | (with_reducible refine below_drewN ?_ _) | (with_reducible refine Below.drew ?_) | (with_reducible refine Below.setCell ?_ ?_ _) | (with_reducible refine below_via (by assumption) ?_ ?_) | (with_reducible refine below_via (later_below _) ?_ ?_) | (with_reducible exact Nat.le_refl _) | omega | (simp; omega) | (simp; done)))
                        · exact HV.out.kept (kept_of (a := 0) (b := 0) (by (repeat' (first | (with_reducible exact Below.refl _ _) | (with_reducible assumption) | (with_reducible refine Below.alloc ?_ ?_ _) | (with_reducible refine below_drewN ?_ _) | (with_reducible refine Below.drew ?_) | (with_reducible refine Below.setCell ?_ ?_ _) | (with_reducible refine below_via (by assumption) ?_ ?_) | (with_reducible refine below_via (later_below _) ?_ ?_) | (with_reducible exact Nat.le_refl _) | omega | (simp; omega) | (simp; done)))) (Nat.zero_le _)) (Nat.zero_le _)
                        · exact HTn.out.below (by (repeat' (first | (with_reducible exact Below.refl _ _) | (with_reducible assumption) | (with_reducible refine Below.alloc ?_ ?_ _) | (with_reducible refine below_drewN ?_ _) | (with_reducible refine Below.drew ?_) | (with_reducible refine Below.setCell ?_ ?_ _) | (with_reducible refine below_via (by assumption) ?_ ?_) | (with_reducible refine below_via (later_below _) ?_ ?_) | (with_reducible exact Nat.le_refl _) | omega | (simp; omega) | (simp; done))))
                      case round =>
                        clear e0 e1 e2 e3 e4 e5 e6 e7 t0 t1 hzr
                        obtain ⟨j, hj, rfl, HE, HV, HTn, HP⟩ := hrel
                        obtain ⟨e0, e1, e2, e3, e4, e5, e6, e7⟩ := HV.out
                        obtain ⟨t0, t1⟩ := HTn.out
                        have hzr := cell_lt t1
                        by_cases hlt : j < x.funcs.length
                        · obtain ⟨b1, o, haF, hb, hc, hfi⟩ := (HIN.out.fs.still (still_of HE.out (Nat.le_refl _)) (Nat.le_refl _)).at_ hlt
                          rw [huF] at haF
                          subst haF
                          rw [huF] at e7
                          obtain ⟨f, hf⟩ : ∃ f, x.funcs[j] = f := ⟨_, rfl⟩
                          have HX := Lib.hid hf
                          have hfw := (inFs_iff _).1 HIN.out.fs.2.2 _ (List.getElem_mem hlt)
                          rw [hf] at hc hfw
                          have HFI := Lib.hid hfw
                          obtain ⟨c0, c1, c2, c3, c4⟩ := hc
                          have hbl := cell_lt c0
                          clear hf hfi hfw
                          have hfp := ((inF_iff f).1 HFI.out).1
                          have p1 := hfp.pi.1
                          have p2 := hfp.pi.2.1
                          have hnP : (f.params.length : Int) ≤ 9223372036854775807 := by omega
                          obtain ⟨uP, huP⟩ : ∃ v, f.pA = v := ⟨_, rfl⟩
                          rw [huP] at c1
                          clear hfp
                          go_wp2_with fail
                          go_loopw [99] (fun i wr2 => ∃ m : Nat, m ≤ f.params.length ∧ i = .int .i64 m ∧ Hid (Below w.heap.size w wr2) ∧ Hid (X8n w.heap.size x wr2) ∧ Hid (T2n (w.heap.size + 1) t wr2) ∧ Hid (∀ i (hi : i < f.params.length), i < m → badP f.params[i] = false)) (fun i _ => f.params.length - (intOf i).toNat)
                          case atStart =>
                            refine ⟨0, Nat.zero_le _, rfl, ?_, ?_, ?_, fun i _ h => by omega⟩
                            · show Below _ _ _; have h0 := HE.out; have hs0 := h0.size; (repeat' (first | (with_reducible exact Below.refl _ _) | (with_reducible assumption) | (with_reducible refine Below.alloc ?_ ?_ _) | (with_reducible refine below_drewN ?_ _) | (with_reducible refine Below.drew ?_) | (with_reducible refine Below.setCell ?_ ?_ _) | (with_reducible refine below_via (by assumption) ?_ ?_) | (with_reducible refine below_via (later_below _) ?_ ?_) | (with_reducible exact Nat.le_refl _) | omega | (simp; omega) | (simp; done)))
                            · exact HV.out.kept (kept_of (a := 0) (b := 0) ((Below.refl _ _).alloc (Nat.le_refl _) _) (Nat.zero_le _)) (Nat.zero_le _)
                            · exact HTn.out.below ((Below.refl _ _).alloc (Nat.le_refl _) _)
                          case round =>
                            clear e0 e1 e2 e3 e4 e5 e6 e7 t0 t1 hzr c0 c1 c2 c3 c4 hbl
                            obtain ⟨m, hm, rfl, HE2, HV2, HT2, HP2⟩ := hrel
                            by_cases hlm : m < f.params.length
                            · rcases ((inF_iff f).1 HFI.out).1.pAt with h0 | ⟨b, o, hpA, hb, hc⟩
                              · omega
                              rw [huP] at hpA
                              subst hpA
                              have hck := p1_still (still_of HE2.out (Nat.le_refl _)) _ _ _ hb (hc m hlm)
                              have hxs := ((inF_iff f).1 HFI.out).1.ps _ (List.getElem_mem hlm)
                              obtain ⟨q, hq⟩ : ∃ q, f.params[m] = q := ⟨_, rfl⟩
                              have HQ := Lib.hid hq
                              rw [hq, Nat.mul_one] at hck
                              rw [hq] at hxs
                              have c0 : World.cell? _ ⟨b, o + m, none⟩ = some (Value.string q) := hck
                              have hbl := cell_lt c0
                              clear hq hck hc hb
                              obtain ⟨nq, hnq⟩ : ∃ b, nameB q.data.toList = b := ⟨_, rfl⟩
                              have HM2 : Hid (∀ W, Calls Tryz.prog 6 #[.string q] W fun e W' => e = .returned (.bool nq) ∧ Below W.heap.size W W') := fun W => hnq ▸ name_any q W hxs
                              have HNQ := Lib.hid hnq
                              clear hnq
                              cases nq with
                              | false =>
                                have hEE := HH.out
                                rw [if_pos (List.any_eq_true.2 ⟨_, List.getElem_mem hlt, by rw [HX.out]; unfold badF; exact List.any_eq_true.2 ⟨_, List.getElem_mem hlm, by rw [HQ.out]; unfold badP; rw [HNQ.out]; rfl⟩⟩)] at hEE
                                subst hEE
                                clear HH
                                go_wp2_with (first | (go_at_call 6; (with_reducible refine (HM2.out _).mono ?_); rintro e w3 ⟨rfl, hb⟩; (refine mem hb ?_; intro N hN hz hc hf; (try simp at hN); subst hN)) | (go_at_call 76; (with_reducible refine (need_no _ _).mono ?_); rintro e w1 ⟨rfl, rfl⟩))
                                refine ⟨rfl, .inr ⟨by decide, rfl⟩, ?_⟩
                                show Below _ _ _
                                have h0 := HE2.out
                                have hs0 := h0.size
                                (repeat' (first | (with_reducible exact Below.refl _ _) | (with_reducible assumption) | (with_reducible refine Below.alloc ?_ ?_ _) | (with_reducible refine below_drewN ?_ _) | (with_reducible refine Below.drew ?_) | (with_reducible refine Below.setCell ?_ ?_ _) | (with_reducible refine below_via (by assumption) ?_ ?_) | (with_reducible refine below_via (later_below _) ?_ ?_) | (with_reducible exact Nat.le_refl _) | omega | (simp; omega) | (simp; done)))
                              | true =>
                                go_wp2_with (first | (go_at_call 6; (with_reducible refine (HM2.out _).mono ?_); rintro e w3 ⟨rfl, hb⟩; (refine mem hb ?_; intro N hN hz hc hf; (try simp at hN); subst hN)) | (go_at_call 76; (with_reducible refine (need_yes _ _).mono ?_); rintro e w1 ⟨rfl, rfl⟩))
                                refine ⟨⟨m + 1, by omega, by go_num, ?_, ?_, ?_, ?_⟩, by simp [intOf]; omega⟩
                                · show Below _ _ _; have h0 := HE2.out; have hs0 := h0.size; (repeat' (first | (with_reducible exact Below.refl _ _) | (with_reducible assumption) | (with_reducible refine Below.alloc ?_ ?_ _) | (with_reducible refine below_drewN ?_ _) | (with_reducible refine Below.drew ?_) | (with_reducible refine Below.setCell ?_ ?_ _) | (with_reducible refine below_via (by assumption) ?_ ?_) | (with_reducible refine below_via (later_below _) ?_ ?_) | (with_reducible exact Nat.le_refl _) | omega | (simp; omega) | (simp; done)))
                                · exact HV2.out.kept (kept_of (a := 0) (b := 0) (by (repeat' (first | (with_reducible exact Below.refl _ _) | (with_reducible assumption) | (with_reducible refine Below.alloc ?_ ?_ _) | (with_reducible refine below_drewN ?_ _) | (with_reducible refine Below.drew ?_) | (with_reducible refine Below.setCell ?_ ?_ _) | (with_reducible refine below_via (by assumption) ?_ ?_) | (with_reducible refine below_via (later_below _) ?_ ?_) | (with_reducible exact Nat.le_refl _) | omega | (simp; omega) | (simp; done)))) (Nat.zero_le _)) (Nat.zero_le _)
                                · exact HT2.out.below (by (repeat' (first | (with_reducible exact Below.refl _ _) | (with_reducible assumption) | (with_reducible refine Below.alloc ?_ ?_ _) | (with_reducible refine below_drewN ?_ _) | (with_reducible refine Below.drew ?_) | (with_reducible refine Below.setCell ?_ ?_ _) | (with_reducible refine below_via (by assumption) ?_ ?_) | (with_reducible refine below_via (later_below _) ?_ ?_) | (with_reducible exact Nat.le_refl _) | omega | (simp; omega) | (simp; done))))
                                · intro i hi him
                                  by_cases h : i = m
                                  · subst h; rw [HQ.out]; unfold badP; rw [HNQ.out]; rfl
                                  · exact HP2.out i hi (by omega)
                            · obtain rfl : m = f.params.length := by omega
                              have hany : f.params.any badP = false := any_no fun i hi => HP2.out i hi hi
                              go_wp2_with fail
                              refine ⟨⟨j + 1, by omega, by go_num, HE2, HV2, HT2, ?_⟩, by simp [intOf]; omega⟩
                              intro i hi hij
                              by_cases h : i = j
                              · subst h; rw [HX.out]; unfold badF; exact hany
                              · exact HP.out i hi (by omega)
                        · obtain rfl : j = x.funcs.length := by omega
                          have hany : x.funcs.any badF = false := any_no fun i hi => HP.out i hi hi
                          have hEE := HH.out
                          rw [if_neg (by rw [hany]; simp)] at hEE
                          subst hEE
                          clear HH
                          go_wp2_with fail
                          go_end0
                          exact ⟨.inl ⟨rfl, rfl⟩, HE.out⟩
          · have d5 : decide (0 ≤ x.ln) = false := decide_eq_false h5
            rw [d5, Bool.false_and, if_pos rfl] at hEE
            subst hEE
            go_wp2_with (first | (go_at_call 76; (with_reducible refine (need_no _ _).mono ?_); rintro e w1 ⟨rfl, rfl⟩))
            refine ⟨rfl, .inr ⟨by decide, rfl⟩, ?_⟩
            show Below _ _ _
            have h0 := HE.out
            have hs0 := h0.size
            (repeat' (first | (with_reducible exact Below.refl _ _) | (with_reducible assumption) | (with_reducible refine Below.alloc ?_ ?_ _) | (with_reducible refine below_drewN ?_ _) | (with_reducible refine Below.drew ?_) | (with_reducible refine Below.setCell ?_ ?_ _) | (with_reducible refine below_via (by assumption) ?_ ?_) | (with_reducible refine below_via (later_below _) ?_ ?_) | (with_reducible exact Nat.le_refl _) | omega | (simp; omega) | (simp; done)))
end Go.Proofs.YtplphejillkdeaaGreatDoor

/- The program's checkTree and checkBlock: the first error of a tree, as a panic. -/
namespace Go.Proofs.YtplphejillkdeaaGreatDoor
open Go.RowKit Go.Instr
set_option linter.unusedVariables false

/-- The first error of a row. -/
def fe : List Int → Int
  | [] => 0
  | a :: l => if a = 0 then fe l else a
theorem fe_all : ∀ {l : List Int}, (∀ i (h : i < l.length), l[i] = 0) → fe l = 0
  | [], _ => rfl
  | a :: l, h => by
    have h0 : a = 0 := h 0 (by simp)
    show (if a = 0 then fe l else a) = 0
    rw [if_pos h0]
    exact fe_all fun i hi => h (i + 1) (by simpa using hi)
theorem fe_at : ∀ {l : List Int} {k : Nat} (hk : k < l.length), (∀ i (h : i < l.length), i < k → l[i] = 0) → l[k] ≠ 0 → fe l = l[k]
  | a :: l, 0, hk, h, hn => by
    show (if a = 0 then fe l else a) = a
    exact if_neg hn
  | a :: l, k + 1, hk, h, hn => by
    have h0 : a = 0 := h 0 (by simp) (by omega)
    show (if a = 0 then fe l else a) = l[k]'_
    rw [if_pos h0]
    exact fe_at (by simpa using hk) (fun i hi hik => h (i + 1) (by simpa using hi) (by omega)) hn
theorem fe_app (l r : List Int) : fe (l ++ r) = if fe l = 0 then fe r else fe l := by
  induction l with
  | nil => rfl
  | cons a l ih =>
    show (if a = 0 then fe (l ++ r) else a) = if (if a = 0 then fe l else a) = 0 then fe r else if a = 0 then fe l else a
    by_cases h : a = 0
    · simp only [if_pos h]; exact ih
    · simp only [if_neg h]

theorem ceE_congr {t t' : TT} (h1 : t.names = t'.names) (h2 : t.m = t'.m) (x : TX) (par : Int) : ceE x par t = ceE x par t' := by
  have h : badL t = badL t' := by funext f; unfold badL fitsB; rw [h1, h2]
  unfold ceE
  rw [h]

/-- No name but the empty one. -/
def T0 : TT := ⟨none, 1, [⟨#[]⟩], ⟨#[]⟩⟩
/-- The names that a statement gives to a function, over the statement's own text: pth gives the words of a left side, and whether there are such. -/
def pthN : Nat → TX → List ByteArray × Bool
  | 0, _ => ([], false)
  | n + 1, x => if x.k = 7 then ([x.s], true)
    else match x.k == 8, x.args with
      | true, [a, b] => if b.k = 5 ∧ nameB b.s.data.toList = true then ((pthN n a).1 ++ [b.s], (pthN n a).2) else ([], false)
      | _, _ => ([], false)
def joinB (c : UInt8) : List ByteArray → ByteArray
  | [] => ⟨#[]⟩
  | [a] => a
  | a :: l => a ++ ⟨#[c]⟩ ++ joinB c l
def tiP (s : TS) : TT :=
  if s.k = 2 ∧ s.names.length = 1 then ⟨none, 1, s.names.map fun x => x.1, ⟨#[]⟩⟩
  else match s.k == 3, s.left, s.right.length with
    | true, [x], 1 => if (pthN (rkX x + 1) x).2 = true then
        ⟨none, 2, [⟨#[]⟩, joinB 46 (pthN (rkX x + 1) x).1], if 1 < (pthN (rkX x + 1) x).1.length then joinB 46 (pthN (rkX x + 1) x).1.dropLast ++ ⟨#[58]⟩ ++ ((pthN (rkX x + 1) x).1.getLast?.getD ⟨#[]⟩) else ⟨#[]⟩⟩ else T0
    | _, _, _ => T0
/-- What titles answers for a statement. -/
def TIc (s : TS) : Prop := ∀ w, InS w w.heap.size s → Calls Tryz.prog 53 #[s.v] w fun e W' => ∃ t : TT, e = .returned t.v ∧ t.names = (tiP s).names ∧ t.m = (tiP s).m ∧ TtOk W' W'.heap.size t ∧ Below w.heap.size w W'

/-- The error of a part of a tree. -/
def ckE : Nat → TX ⊕ TB → Int → TT → Int
  | 0, _, _, _ => 0
  | n + 1, .inl x, par, t => fe (ceE x par t :: (x.args.map (fun y => ckE n (.inl y) x.k T0) ++ x.funcs.map (fun f => ckE n (.inr ⟨f.bA, f.bC, f.body⟩) 0 T0)))
  | n + 1, .inr y, _, _ => fe (y.l.mapIdx fun i s => fe (csE s ((i : Int) == (y.l.length : Int) - 1) :: (partsS s).map fun p => ckE n p 0 (tiP s)))
theorem ckE_congr {t t' : TT} (h1 : t.names = t'.names) (h2 : t.m = t'.m) (n : Nat) (p : TX ⊕ TB) (par : Int) : ckE n p par t = ckE n p par t' := by
  cases n with
  | zero => rfl
  | succ n =>
    cases p with
    | inl x => show fe _ = fe _; rw [ceE_congr h1 h2]
    | inr y => rfl
theorem ckE_inr (n : Nat) (y : TB) (par : Int) (t : TT) : ckE n (.inr y) par t = ckE n (.inr y) 0 T0 := by cases n <;> rfl
/-- Titles are answered in the whole tree. -/
def okN : Nat → TX ⊕ TB → Prop
  | 0, _ => True
  | n + 1, .inl x => (∀ y ∈ x.args, okN n (.inl y)) ∧ ∀ f ∈ x.funcs, okN n (.inr ⟨f.bA, f.bC, f.body⟩)
  | n + 1, .inr y => ∀ s ∈ y.l, TIc s ∧ ∀ p ∈ partsS s, okN n p

abbrev CkX (n : Nat) : Prop := ∀ (x : TX) (par : Int) (t : TT) (N : Nat) (w : World), rkX x < n → okN n (.inl x) → InX w w.heap.size x → TtOk w N t → N ≤ w.heap.size → Calls Tryz.prog 55 #[x.v, .int .i64 par, t.v] w (PE (.tuple #[]) (ckE n (.inl x) par t) w)
abbrev CkB (n : Nat) : Prop := ∀ (y : TB) (w : World), rkB y < n → okN n (.inr y) → InB w w.heap.size y → Calls Tryz.prog 31 #[y.v] w (PE (.bool true) (ckE n (.inr y) 0 T0) w)

set_option maxHeartbeats 6400000 in
set_option maxRecDepth 100000 in
theorem ckX_step (n : Nat) (hX : CkX n) (hB : CkB n) : CkX (n + 1) := by
  intro x par t N w hrk hok hin ht hN
  rw [rkX_eq] at hrk
  have HIN := Lib.hid hin
  obtain ⟨U, hU⟩ : ∃ U, x.args.map (fun y => ckE n (.inl y) x.k T0) = U := ⟨_, rfl⟩
  obtain ⟨V, hV⟩ : ∃ V, x.funcs.map (fun f => ckE n (.inr ⟨f.bA, f.bC, f.body⟩) 0 T0) = V := ⟨_, rfl⟩
  have hUl : U.length = x.args.length := by rw [← hU, List.length_map]
  have hVl : V.length = x.funcs.length := by rw [← hV, List.length_map]
  have HA : Hid (∀ k (h : k < x.args.length) W B, Below w.heap.size w W → W.cell? ⟨B, 0, none⟩ = some (.string ⟨#[]⟩) → Calls Tryz.prog 55 #[(x.args[k]).v, .int .i64 x.k, .agg #[.slice (some ⟨B, 0, none⟩) 1 1, .string ⟨#[]⟩]] W (PE (.tuple #[]) (U[k]'(by omega)) W)) := fun k h W B hW hc => by
    have e : U[k]'(by omega) = ckE n (.inl x.args[k]) x.k ⟨some ⟨B, 0, none⟩, 1, [⟨#[]⟩], ⟨#[]⟩⟩ := by
      subst hU
      rw [List.getElem_map]
      exact ckE_congr (t := T0) (t' := ⟨some ⟨B, 0, none⟩, 1, [⟨#[]⟩], ⟨#[]⟩⟩) rfl rfl _ _ _
    rw [e]
    exact hX _ _ ⟨some ⟨B, 0, none⟩, 1, [⟨#[]⟩], ⟨#[]⟩⟩ W.heap.size W (by have := rkXs_mem (List.getElem_mem h); omega) (hok.1 _ (List.getElem_mem h)) (((inXs_iff _).1 hin.xs.2.2 _ (List.getElem_mem h)).still (still_of hW (Nat.le_refl _)) hW.size)
      ⟨⟨Nat.le_refl _, (by decide : (1 : Nat) ≤ 9223372036854775807), fun h => by cases h⟩, .inr ⟨B, 0, rfl, cell_lt hc, fun i hi => by
        obtain rfl : i = 0 := by simp at hi; omega
        exact hc⟩⟩ (Nat.le_refl _)
  have HF : Hid (∀ k (h : k < x.funcs.length) W, Below w.heap.size w W → Calls Tryz.prog 31 #[.slice (x.funcs[k]).bA (x.funcs[k]).body.length (x.funcs[k]).bC] W (PE (.bool true) (V[k]'(by omega)) W)) := fun k h W hW => by
    have hf := ((inFs_iff _).1 hin.fs.2.2 _ (List.getElem_mem h)).still (still_of hW (Nat.le_refl _)) hW.size
    have e : V[k]'(by omega) = ckE n (.inr ⟨(x.funcs[k]).bA, (x.funcs[k]).bC, (x.funcs[k]).body⟩) 0 T0 := by
      subst hV
      rw [List.getElem_map]
    rw [e]
    exact hB ⟨(x.funcs[k]).bA, (x.funcs[k]).bC, (x.funcs[k]).body⟩ W (by have := rkFs_mem (List.getElem_mem h); rw [rkF_eq] at this; rw [rkB_eq]; dsimp only; omega) (hok.2 _ (List.getElem_mem h)) ((inB_iff _).2 ⟨⟨hf.ss.1, hf.ss.2.1⟩, hf.ss.2.2⟩)
  obtain ⟨C, hC⟩ : ∃ c, ceE x par t = c := ⟨_, rfl⟩
  have HC : Hid (∀ W, Below w.heap.size w W → Calls Tryz.prog 80 #[x.v, .int .i64 par, t.v] W (PE (.tuple #[]) C W)) := fun W hW => hC ▸ checkExpr_any x par t N W (hin.still (still_of hW (Nat.le_refl _)) hW.size) ⟨ht.1, ht.2.still (p1_still (still_of hW hN)) (Nat.le_refl _)⟩ (Nat.le_trans hN hW.size)
  obtain ⟨i1, i2, -⟩ := hin.xs.1
  obtain ⟨i3, i4, -⟩ := hin.fs.1
  have hnA : (x.args.length : Int) ≤ 9223372036854775807 := by omega
  have hnF : (x.funcs.length : Int) ≤ 9223372036854775807 := by omega
  have HD : Hid (ckE (n + 1) (.inl x) par t = if C = 0 then (if fe U = 0 then fe V else fe U) else C) := by
    show fe (ceE x par t :: _) = _
    rw [hU, hV, hC]
    show (if C = 0 then fe (U ++ V) else C) = _
    rw [fe_app]
  obtain ⟨D, hD⟩ : ∃ D, ckE (n + 1) (.inl x) par t = D := ⟨_, rfl⟩
  rw [hD] at HD ⊢
  clear hin hX hB hrk hD hok hU hV hC ht
  obtain ⟨uA, huA⟩ : ∃ v, x.aA = v := ⟨_, rfl⟩
  obtain ⟨uF, huF⟩ : ∃ v, x.fA = v := ⟨_, rfl⟩
  obtain ⟨uT, huT⟩ : ∃ v, t.a = v := ⟨_, rfl⟩
  have HV0 := Lib.hid (X8n.new x w 30)
  simp only [TX.v, TT.v, huA, huF, huT] at HC
  go_enter Tryz.func55, Tryz.ntmps55
  go_wp2_with (go_at_call 80; (with_reducible refine (HC.out _ ?_).mono ?_); (focus ((repeat' (first | (with_reducible exact Below.refl _ _) | (with_reducible assumption) | (with_reducible refine Below.alloc ?_ ?_ _) | (with_reducible refine below_drewN ?_ _) | (with_reducible refine Below.drew ?_) | (with_reducible refine Below.setCell ?_ ?_ _) | (with_reducible refine below_via (by assumption) ?_ ?_) | (with_reducible refine below_via (later_below _) ?_ ?_) | (with_reducible exact Nat.le_refl _) | omega | (simp; omega) | (simp; done))))); rintro e w1 ⟨⟨he0, rfl⟩ | ⟨he0, rfl⟩, hb⟩; all_goals have hbC := hb; focus (refine mem hb ?_; intro N hN hz hc hf; (try simp at hN); subst hN))
  · subst he0
    have HD1 : Hid (D = if fe U = 0 then fe V else fe U) := by show _ = _; rw [HD.out, if_pos rfl]
    clear HC HD
    go_loopw [17] (fun i wr => ∃ k : Nat, k ≤ x.args.length ∧ i = .int .i64 k ∧ Hid (Below w.heap.size w wr) ∧ Hid (X8n w.heap.size x wr) ∧ Hid (∀ i (hi : i < U.length), i < k → U[i] = 0)) (fun i _ => x.args.length - (intOf i).toNat)
    case atStart =>
      refine ⟨0, Nat.zero_le _, rfl, ?_, ?_, fun i _ h => by omega⟩
      · show Below _ _ _; (repeat' (first | (with_reducible exact Below.refl _ _) | (with_reducible assumption) | (with_reducible refine Below.alloc ?_ ?_ _) | (with_reducible refine below_drewN ?_ _) | (with_reducible refine Below.drew ?_) | (with_reducible refine Below.setCell ?_ ?_ _) | (with_reducible refine below_via (by assumption) ?_ ?_) | (with_reducible refine below_via (later_below _) ?_ ?_) | (with_reducible exact Nat.le_refl _) | omega | (simp; omega) | (simp; done)))
      · show X8n _ _ _
        rw [← huA, ← huF] at hbC
        refine X8n.kept (a := 0) (b := 0) HV0.out ?_ (Nat.zero_le _)
        exact (kept_of ((Below.refl _ _).alloc (Nat.le_refl _) _) (Nat.zero_le _)).trans (kept_of hbC (Nat.zero_le _))
    case round =>
      clear hc hf hb hbC hz
      obtain ⟨k, hk, rfl, HE, HV, HZ⟩ := hrel
      obtain ⟨e0, e1, e2, e3, e4, e5, e6, e7⟩ := HV.out
      have hzr := cell_lt e7
      by_cases hlt : k < x.args.length
      · obtain ⟨b1, o, haA, hb, hc, -⟩ := (HIN.out.xs.still (still_of HE.out (Nat.le_refl _)) (Nat.le_refl _)).at_ hlt
        rw [huA] at haA
        subst haA
        rw [huA] at e6
        have hU : k < U.length := by omega
        obtain ⟨y, hy⟩ : ∃ y, x.args[k] = y := ⟨_, rfl⟩
        obtain ⟨d, hd⟩ : ∃ d, U[k]'hU = d := ⟨_, rfl⟩
        have HAk : Hid (∀ W B, Below w.heap.size w W → W.cell? ⟨B, 0, none⟩ = some (.string ⟨#[]⟩) → Calls Tryz.prog 55 #[y.v, .int .i64 x.k, .agg #[.slice (some ⟨B, 0, none⟩) 1 1, .string ⟨#[]⟩]] W (PE (.tuple #[]) d W)) := fun W B => hy ▸ hd ▸ HA.out k hlt W B
        have HDk := Lib.hid hd
        rw [hy] at hc
        obtain ⟨c0, c1, c2, c3, c4, c5, c6, c7⟩ := hc
        have hbl := cell_lt c0
        clear hy hd
        go_wp2_with (go_at_call 55; (with_reducible refine (HAk.out _ _ ?_ ?_).mono ?_); (focus (have h0 := HE.out; (repeat' (first | (with_reducible exact Below.refl _ _) | (with_reducible assumption) | (with_reducible refine Below.alloc ?_ ?_ _) | (with_reducible refine below_drewN ?_ _) | (with_reducible refine Below.drew ?_) | (with_reducible refine Below.setCell ?_ ?_ _) | (with_reducible refine below_via (by assumption) ?_ ?_) | (with_reducible refine below_via (later_below _) ?_ ?_) | (with_reducible exact Nat.le_refl _) | omega | (simp; omega) | (simp; done))))); (focus (simp [cell_alloc_if])); rintro e w2 ⟨⟨he0, rfl⟩ | ⟨he0, rfl⟩, hb2⟩)
        · subst he0
          refine ⟨⟨k + 1, by omega, by go_num, ?_, ?_, ?_⟩, by simp [intOf]; omega⟩
          · show Below _ _ _; have h0 := HE.out; (repeat' (first | (with_reducible exact Below.refl _ _) | (with_reducible assumption) | (with_reducible refine Below.alloc ?_ ?_ _) | (with_reducible refine below_drewN ?_ _) | (with_reducible refine Below.drew ?_) | (with_reducible refine Below.setCell ?_ ?_ _) | (with_reducible refine below_via (by assumption) ?_ ?_) | (with_reducible refine below_via (later_below _) ?_ ?_) | (with_reducible exact Nat.le_refl _) | omega | (simp; omega) | (simp; done)))
          · exact HV.out.kept ((kept_of (a := 0) (b := 0) (by (repeat' (first | (with_reducible exact Below.refl _ _) | (with_reducible assumption) | (with_reducible refine Below.alloc ?_ ?_ _) | (with_reducible refine below_drewN ?_ _) | (with_reducible refine Below.drew ?_) | (with_reducible refine Below.setCell ?_ ?_ _) | (with_reducible refine below_via (by assumption) ?_ ?_) | (with_reducible refine below_via (later_below _) ?_ ?_) | (with_reducible exact Nat.le_refl _) | omega | (simp; omega) | (simp; done)))) (Nat.zero_le _)).trans (kept_of hb2 (Nat.zero_le _))) (Nat.zero_le _)
          · intro i hi hik
            by_cases h : i = k
            · subst h; exact HDk.out
            · exact HZ.out i hi (by omega)
        · have hfe : fe U = d := by
            have h1 := fe_at hU (fun i hi hik => HZ.out i hi hik) (by rw [HDk.out]; exact he0)
            rw [h1, HDk.out]
          have e : D = d := by rw [HD1.out, hfe, if_neg he0]
          rw [e]
          refine ⟨rfl, .inr ⟨he0, rfl⟩, ?_⟩
          show Below _ _ _
          have h0 := HE.out
          (repeat' (first | (with_reducible exact Below.refl _ _) | (with_reducible assumption) | (with_reducible refine Below.alloc ?_ ?_ _) | (with_reducible refine below_drewN ?_ _) | (with_reducible refine Below.drew ?_) | (with_reducible refine Below.setCell ?_ ?_ _) | (with_reducible refine below_via (by assumption) ?_ ?_) | (with_reducible refine below_via (later_below _) ?_ ?_) | (with_reducible exact Nat.le_refl _) | omega | (simp; omega) | (simp; done)))
      · obtain rfl : k = x.args.length := by omega
        have hfe : fe U = 0 := fe_all fun i hi => HZ.out i hi (by omega)
        have HD2 : Hid (D = fe V) := by show _ = _; rw [HD1.out, if_pos hfe]
        clear HD1 HZ hfe HA
        go_wp2_with fail
        go_loopw [31] (fun i wr => ∃ k : Nat, k ≤ x.funcs.length ∧ i = .int .i64 k ∧ Hid (Below w.heap.size w wr) ∧ Hid (X8n w.heap.size x wr) ∧ Hid (∀ i (hi : i < V.length), i < k → V[i] = 0)) (fun i _ => x.funcs.length - (intOf i).toNat)
        case atStart => exact ⟨0, Nat.zero_le _, rfl, HE, HV, fun i _ h => by omega⟩
        case round =>
          clear e0 e1 e2 e3 e4 e5 e6 e7 hzr
          obtain ⟨k, hk, rfl, HE, HV, HZ⟩ := hrel
          obtain ⟨e0, e1, e2, e3, e4, e5, e6, e7⟩ := HV.out
          have hzr := cell_lt e7
          by_cases hlt : k < x.funcs.length
          · obtain ⟨b1, o, haF, hb, hc, -⟩ := (HIN.out.fs.still (still_of HE.out (Nat.le_refl _)) (Nat.le_refl _)).at_ hlt
            rw [huF] at haF
            subst haF
            rw [huF] at e7
            have hV : k < V.length := by omega
            obtain ⟨y, hy⟩ : ∃ y, x.funcs[k] = y := ⟨_, rfl⟩
            obtain ⟨d, hd⟩ : ∃ d, V[k]'hV = d := ⟨_, rfl⟩
            have HFk : Hid (∀ W, Below w.heap.size w W → Calls Tryz.prog 31 #[.slice y.bA y.body.length y.bC] W (PE (.bool true) d W)) := fun W => hy ▸ hd ▸ HF.out k hlt W
            have HDk := Lib.hid hd
            rw [hy] at hc
            obtain ⟨c0, c1, c2, c3, c4⟩ := hc
            have hbl := cell_lt c0
            clear hy hd
            go_wp2_with (go_at_call 31; (with_reducible refine (HFk.out _ ?_).mono ?_); (focus (have h0 := HE.out; (repeat' (first | (with_reducible exact Below.refl _ _) | (with_reducible assumption) | (with_reducible refine Below.alloc ?_ ?_ _) | (with_reducible refine below_drewN ?_ _) | (with_reducible refine Below.drew ?_) | (with_reducible refine Below.setCell ?_ ?_ _) | (with_reducible refine below_via (by assumption) ?_ ?_) | (with_reducible refine below_via (later_below _) ?_ ?_) | (with_reducible exact Nat.le_refl _) | omega | (simp; omega) | (simp; done))))); rintro e w2 ⟨⟨he0, rfl⟩ | ⟨he0, rfl⟩, hb2⟩)
            · subst he0
              refine ⟨⟨k + 1, by omega, by go_num, ?_, ?_, ?_⟩, by simp [intOf]; omega⟩
              · show Below _ _ _; have h0 := HE.out; (repeat' (first | (with_reducible exact Below.refl _ _) | (with_reducible assumption) | (with_reducible refine Below.alloc ?_ ?_ _) | (with_reducible refine below_drewN ?_ _) | (with_reducible refine Below.drew ?_) | (with_reducible refine Below.setCell ?_ ?_ _) | (with_reducible refine below_via (by assumption) ?_ ?_) | (with_reducible refine below_via (later_below _) ?_ ?_) | (with_reducible exact Nat.le_refl _) | omega | (simp; omega) | (simp; done)))
              · exact HV.out.kept ((kept_of (a := 0) (b := 0) (by (repeat' (first | (with_reducible exact Below.refl _ _) | (with_reducible assumption) | (with_reducible refine Below.alloc ?_ ?_ _) | (with_reducible refine below_drewN ?_ _) | (with_reducible refine Below.drew ?_) | (with_reducible refine Below.setCell ?_ ?_ _) | (with_reducible refine below_via (by assumption) ?_ ?_) | (with_reducible refine below_via (later_below _) ?_ ?_) | (with_reducible exact Nat.le_refl _) | omega | (simp; omega) | (simp; done)))) (Nat.zero_le _)).trans (kept_of hb2 (Nat.zero_le _))) (Nat.zero_le _)
              · intro i hi hik
                by_cases h : i = k
                · subst h; exact HDk.out
                · exact HZ.out i hi (by omega)
            · have hfe : fe V = d := by
                have h1 := fe_at hV (fun i hi hik => HZ.out i hi hik) (by rw [HDk.out]; exact he0)
                rw [h1, HDk.out]
              have e : D = d := by rw [HD2.out, hfe]
              rw [e]
              refine ⟨rfl, .inr ⟨he0, rfl⟩, ?_⟩
              show Below _ _ _
              have h0 := HE.out
              (repeat' (first | (with_reducible exact Below.refl _ _) | (with_reducible assumption) | (with_reducible refine Below.alloc ?_ ?_ _) | (with_reducible refine below_drewN ?_ _) | (with_reducible refine Below.drew ?_) | (with_reducible refine Below.setCell ?_ ?_ _) | (with_reducible refine below_via (by assumption) ?_ ?_) | (with_reducible refine below_via (later_below _) ?_ ?_) | (with_reducible exact Nat.le_refl _) | omega | (simp; omega) | (simp; done)))
          · obtain rfl : k = x.funcs.length := by omega
            have hfe : fe V = 0 := fe_all fun i hi => HZ.out i hi (by omega)
            have e : D = 0 := by rw [HD2.out, hfe]
            rw [e]
            go_wp2_with fail
            go_end0
            exact ⟨.inl ⟨rfl, rfl⟩, HE.out⟩
  · have e : D = C := by rw [HD.out, if_neg he0]
    rw [e]
    refine ⟨rfl, .inr ⟨he0, rfl⟩, ?_⟩
    show Below _ _ _
    (repeat' (first | (with_reducible exact Below.refl _ _) | (with_reducible assumption) | (with_reducible refine Below.alloc ?_ ?_ _) | (with_reducible refine below_drewN ?_ _) | (with_reducible refine Below.drew ?_) | (with_reducible refine Below.setCell ?_ ?_ _) | (with_reducible refine below_via (by assumption) ?_ ?_) | (with_reducible refine below_via (later_below _) ?_ ?_) | (with_reducible exact Nat.le_refl _) | omega | (simp; omega) | (simp; done)))

/-- The closure of checkBlock: an expression of a statement is checked. -/
theorem chk1_any (n : Nat) (hX : CkX n) (x : TX) (t t' : TT) (B N : Nat) (w : World) (h1 : t.names = t'.names) (h2 : t.m = t'.m) (hrk : rkX x < n) (hok : okN n (.inl x)) (hin : InX w w.heap.size x) (ht : TtOk w N t) (hN : N ≤ w.heap.size) (hB : T2n B t w) :
    Calls Tryz.prog 54 #[x.v, .pointer (some ⟨B, 0, none⟩)] w (PE (.bool true) (ckE n (.inl x) 0 t') w) := by
  obtain ⟨D, hD⟩ : ∃ D, ckE n (.inl x) 0 t' = D := ⟨_, rfl⟩
  have HC : Hid (∀ W, Below w.heap.size w W → Calls Tryz.prog 55 #[x.v, .int .i64 0, t.v] W (PE (.tuple #[]) D W)) := fun W hW => by
    rw [← hD, ← ckE_congr h1 h2]
    exact hX x 0 t N W hrk hok (hin.still (still_of hW (Nat.le_refl _)) hW.size) ⟨ht.1, ht.2.still (p1_still (still_of hW hN)) (Nat.le_refl _)⟩ (Nat.le_trans hN hW.size)
  rw [hD]
  obtain ⟨t0, t1⟩ := hB
  have hB := cell_lt t0
  clear hX hin ht hD hok h1 h2 hrk
  go_enter Tryz.func54, Tryz.ntmps54
  go_wp2_with (go_at_call 55; (with_reducible refine (HC.out _ ?_).mono ?_); (focus ((repeat' (first | (with_reducible exact Below.refl _ _) | (with_reducible assumption) | (with_reducible refine Below.alloc ?_ ?_ _) | (with_reducible refine below_drewN ?_ _) | (with_reducible refine Below.drew ?_) | (with_reducible refine Below.setCell ?_ ?_ _) | (with_reducible refine below_via (by assumption) ?_ ?_) | (with_reducible refine below_via (later_below _) ?_ ?_) | (with_reducible exact Nat.le_refl _) | omega | (simp; omega) | (simp; done))))); rintro e w1 ⟨⟨he0, rfl⟩ | ⟨he0, rfl⟩, hb⟩)
  · go_returns
    refine ⟨.inl ⟨he0, rfl⟩, ?_⟩
    (repeat' (first | (with_reducible exact Below.refl _ _) | (with_reducible assumption) | (with_reducible refine Below.alloc ?_ ?_ _) | (with_reducible refine below_drewN ?_ _) | (with_reducible refine Below.drew ?_) | (with_reducible refine Below.setCell ?_ ?_ _) | (with_reducible refine below_via (by assumption) ?_ ?_) | (with_reducible refine below_via (later_below _) ?_ ?_) | (with_reducible exact Nat.le_refl _) | omega | (simp; omega) | (simp; done)))
  · refine ⟨rfl, .inr ⟨he0, rfl⟩, ?_⟩
    show Below _ _ _
    (repeat' (first | (with_reducible exact Below.refl _ _) | (with_reducible assumption) | (with_reducible refine Below.alloc ?_ ?_ _) | (with_reducible refine below_drewN ?_ _) | (with_reducible refine Below.drew ?_) | (with_reducible refine Below.setCell ?_ ?_ _) | (with_reducible refine below_via (by assumption) ?_ ?_) | (with_reducible refine below_via (later_below _) ?_ ?_) | (with_reducible exact Nat.le_refl _) | omega | (simp; omega) | (simp; done)))

set_option maxHeartbeats 6400000 in
set_option maxRecDepth 100000 in
theorem ckB_step (n : Nat) (hX : CkX n) (hB : CkB n) : CkB (n + 1) := by
  intro y w hrk hok hin
  rw [rkB_eq] at hrk
  have HIN := Lib.hid hin
  obtain ⟨L, hL⟩ : ∃ L, (y.l.mapIdx fun i s => fe (csE s ((i : Int) == (y.l.length : Int) - 1) :: (partsS s).map fun p => ckE n p 0 (tiP s))) = L := ⟨_, rfl⟩
  have hLl : L.length = y.l.length := by rw [← hL, List.length_mapIdx]
  -- a statement alone, its titles, its parts
  have HC : Hid (∀ k (h : k < y.l.length) W, Below w.heap.size w W → Calls Tryz.prog 52 #[y.v, .int .i64 k] W (PE (.tuple #[]) (csE y.l[k] ((k : Int) == (y.l.length : Int) - 1)) W)) := fun k h W hW => checkStat_any y k h W (hin.still (still_of hW (Nat.le_refl _)) hW.size)
  have HT : Hid (∀ k (h : k < y.l.length) W, Below w.heap.size w W → Calls Tryz.prog 53 #[(y.l[k]).v] W fun e W' => ∃ t : TT, e = .returned t.v ∧ t.names = (tiP y.l[k]).names ∧ t.m = (tiP y.l[k]).m ∧ TtOk W' W'.heap.size t ∧ Below W.heap.size W W') := fun k h W hW => (hok _ (List.getElem_mem h)).1 W (((inSs_iff _).1 hin.ss.2.2 _ (List.getElem_mem h)).still (still_of hW (Nat.le_refl _)) hW.size)
  have HS : Hid (∀ k (h : k < y.l.length) (t : TT) W B, t.names = (tiP y.l[k]).names → t.m = (tiP y.l[k]).m → TtOk W W.heap.size t → T2n B t W → Below w.heap.size w W → Calls Tryz.prog 34 #[(y.l[k]).v, .func (.func 54) #[] #[.pointer (some ⟨B, 0, none⟩)], .func (.func 31) #[] #[]] W (PE (.bool true) (fe ((partsS y.l[k]).map fun p => ckE n p 0 (tiP y.l[k]))) W)) := by
    intro k h t W B h1 h2 ht hB2 hbW
    have hs := (inSs_iff _).1 hin.ss.2.2 _ (List.getElem_mem h)
    have hr : rkS y.l[k] ≤ n := by have := rkSs_mem (List.getElem_mem h); omega
    have hokp := (hok _ (List.getElem_mem h)).2
    obtain ⟨s, hse⟩ : ∃ s, y.l[k] = s := ⟨_, rfl⟩
    rw [hse] at hs hr hokp h1 h2 ⊢
    obtain ⟨M, hM⟩ : ∃ M, ((partsS s).map fun p => ckE n p 0 (tiP s)) = M := ⟨_, rfl⟩
    have hMl : M.length = (partsS s).length := by rw [← hM, List.length_map]
    rw [hM]
    have key := stats_any W.heap.size W.heap.size 0 (fun j W' => (∀ i (hi : i < M.length), i < j → M[i] = 0) ∧ Below W.heap.size W W') (fun e W' => fe M ≠ 0 ∧ e = .panicked (faultP (fe M)) ∧ Below W.heap.size W W') (.func (.func 54) #[] #[.pointer (some ⟨B, 0, none⟩)]) (.func (.func 31) #[] #[]) s W (hs.still (still_of hbW (Nat.le_refl _)) hbW.size) (Nat.le_refl _) (Nat.le_refl _)
      ⟨_, _, _, rfl, enters_of Tryz.func54 (by kernel_rfl) rfl⟩ ⟨_, _, _, rfl, enters_of Tryz.func31 (by kernel_rfl) rfl⟩
      (fun j W1 W2 h hb => ⟨h.1, h.2.trans (hb.mono h.2.size)⟩) ?_ ⟨fun i _ h => by omega, Below.refl _ _⟩
    · refine key.mono fun e w' h => ?_
      rcases h with ⟨rfl, ⟨hZ, -⟩, hk⟩ | ⟨-, hn, rfl, hb⟩
      · refine ⟨.inl ⟨fe_all fun i hi => hZ i hi (by omega), rfl⟩, hk.below⟩
      · exact ⟨.inr ⟨hn, rfl⟩, hb⟩
    · intro j x hx W1 hJ1
      rw [Nat.zero_add] at hJ1 ⊢
      obtain ⟨hZ1, hb1⟩ := hJ1
      have hlt : j < (partsS s).length := (List.getElem?_eq_some_iff.1 hx).1
      have hxe : (partsS s)[j] = x := (List.getElem?_eq_some_iff.1 hx).2
      have hjM : j < M.length := by omega
      have hMj : M[j] = ckE n x 0 (tiP s) := by subst hM; rw [List.getElem_map, hxe]
      have hp := part_ok hs hr j x hx
      have hokx := hokp x (by rw [← hxe]; exact List.getElem_mem hlt)
      have fin : ∀ e W2, PE (.bool true) (ckE n x 0 (tiP s)) W1 e W2 → RJ W.heap.size W.heap.size (fun W' => (∀ i (hi : i < M.length), i < j + 1 → M[i] = 0) ∧ Below W.heap.size W W') (fun e W' => fe M ≠ 0 ∧ e = .panicked (faultP (fe M)) ∧ Below W.heap.size W W') W1 e W2 := fun e W2 ⟨h1, h2⟩ => by
        rcases h1 with ⟨h0, rfl⟩ | ⟨h0, rfl⟩
        · refine .inl ⟨rfl, ⟨fun i hi hij => ?_, hb1.trans (h2.mono hb1.size)⟩, kept_of h2 hb1.size⟩
          by_cases h : i = j
          · subst h; rw [hMj]; exact h0
          · exact hZ1 i hi (by omega)
        · have hfe := fe_at hjM (fun i hi hij => hZ1 i hi hij) (by rw [hMj]; exact h0)
          rw [hMj] at hfe
          refine .inr ⟨.inr ⟨_, rfl⟩, by rw [hfe]; exact h0, by rw [hfe], hb1.trans (h2.mono hb1.size)⟩
      have hbw1 := hbW.trans (hb1.mono hbW.size)
      cases x with
      | inl x => exact ⟨_, _, _, rfl, enters_of Tryz.func54 (by kernel_rfl) rfl, (chk1_any n hX x t (tiP s) B W.heap.size W1 h1 h2 hp.2 hokx (hp.1.still (still_of hbw1 (Nat.le_refl _)) hbw1.size) ⟨ht.1, ht.2.still (p1_still (still_of hb1 (Nat.le_refl _))) (Nat.le_refl _)⟩ hb1.size (hB2.below hb1)).mono fin⟩
      | inr x => exact ⟨_, _, _, rfl, enters_of Tryz.func31 (by kernel_rfl) rfl, (by
          have h3 := hB x W1 hp.2 hokx (hp.1.still (still_of hbw1 (Nat.le_refl _)) hbw1.size)
          rw [ckE_inr n x 0 (tiP s)] at fin
          exact h3.mono fin)⟩
  obtain ⟨i1, i2, -⟩ := hin.ss.1
  have hnB : (y.l.length : Int) ≤ 9223372036854775807 := by omega
  have HD : Hid (ckE (n + 1) (.inr y) 0 T0 = fe L) := by show fe _ = _; rw [hL]
  have HL : Hid (∀ k (h : k < y.l.length), L[k]'(by omega) = if csE y.l[k] ((k : Int) == (y.l.length : Int) - 1) = 0 then fe ((partsS y.l[k]).map fun p => ckE n p 0 (tiP y.l[k])) else csE y.l[k] ((k : Int) == (y.l.length : Int) - 1)) := fun k h => by
    subst hL
    rw [List.getElem_mapIdx]
    rfl
  obtain ⟨D, hD⟩ : ∃ D, ckE (n + 1) (.inr y) 0 T0 = D := ⟨_, rfl⟩
  rw [hD] at HD ⊢
  clear hin hX hB hrk hD hok hL
  obtain ⟨uA, huA⟩ : ∃ v, y.a = v := ⟨_, rfl⟩
  simp only [TB.v, huA] at HC
  show Calls Tryz.prog _ #[.slice y.a y.l.length y.c] w _
  rw [huA]
  go_enter Tryz.func31, Tryz.ntmps31
  go_wp2_with fail
  go_loopw [8] (fun i wr => ∃ k : Nat, k ≤ y.l.length ∧ i = .int .i64 k ∧ Hid (Below w.heap.size w wr) ∧ Hid (∀ i (hi : i < L.length), i < k → L[i] = 0)) (fun i _ => y.l.length - (intOf i).toNat)
  case atStart => exact ⟨0, Nat.zero_le _, rfl, by show Below _ _ _; (repeat' (first | (with_reducible exact Below.refl _ _) | (with_reducible assumption) | (with_reducible refine Below.alloc ?_ ?_ _) | (with_reducible refine below_drewN ?_ _) | (with_reducible refine Below.drew ?_) | (with_reducible refine Below.setCell ?_ ?_ _) | (with_reducible refine below_via (by assumption) ?_ ?_) | (with_reducible refine below_via (later_below _) ?_ ?_) | (with_reducible exact Nat.le_refl _) | omega | (simp; omega) | (simp; done))), fun i _ h => by omega⟩
  case round =>
    obtain ⟨k, hk, rfl, HE, HZ⟩ := hrel
    by_cases hlt : k < y.l.length
    · obtain ⟨b1, o, haA, hb, hc, -⟩ := (HIN.out.ss.still (still_of HE.out (Nat.le_refl _)) (Nat.le_refl _)).at_ hlt
      rw [huA] at haA
      subst haA
      have hkL : k < L.length := by omega
      have hLk := HL.out k hlt
      have hCk := HC.out k hlt
      have hTk := HT.out k hlt
      have hSk := HS.out k hlt
      obtain ⟨s, hs⟩ : ∃ s, y.l[k] = s := ⟨_, rfl⟩
      rw [hs] at hc hLk hCk hTk hSk
      obtain ⟨c, hcs⟩ : ∃ c, csE s ((k : Int) == (y.l.length : Int) - 1) = c := ⟨_, rfl⟩
      obtain ⟨q, hq⟩ : ∃ q, fe ((partsS s).map fun p => ckE n p 0 (tiP s)) = q := ⟨_, rfl⟩
      rw [hcs] at hLk hCk
      rw [hq] at hLk hSk
      have HLk := Lib.hid hLk
      have HCk := Lib.hid hCk
      have HTk := Lib.hid hTk
      have HSk := Lib.hid hSk
      obtain ⟨c0, c1, c2, c3, c4, c5, c6⟩ := hc
      have hbl := cell_lt c0
      clear hs hcs hq hLk hCk hTk hSk HC HT HS HL
      have hsz := HE.out.size
      go_wp2_with (first | (go_at_call 52; (with_reducible refine (HCk.out _ ?_).mono ?_); (focus (have h0 := HE.out; (repeat' (first | (with_reducible exact Below.refl _ _) | (with_reducible assumption) | (with_reducible refine Below.alloc ?_ ?_ _) | (with_reducible refine below_drewN ?_ _) | (with_reducible refine Below.drew ?_) | (with_reducible refine Below.setCell ?_ ?_ _) | (with_reducible refine below_via (by assumption) ?_ ?_) | (with_reducible refine below_via (later_below _) ?_ ?_) | (with_reducible exact Nat.le_refl _) | omega | (simp; omega) | (simp; done))))); rintro e w2 ⟨⟨he0, rfl⟩ | ⟨he0, rfl⟩, hb⟩; all_goals have hbC := hb; focus (refine mem hb ?_; intro N hN hz hc hf; (try simp at hN); subst hN)) | (go_at_call 53; (with_reducible refine (HTk.out _ ?_).mono ?_); (focus (have h0 := HE.out; (repeat' (first | (with_reducible exact Below.refl _ _) | (with_reducible assumption) | (with_reducible refine Below.alloc ?_ ?_ _) | (with_reducible refine below_drewN ?_ _) | (with_reducible refine Below.drew ?_) | (with_reducible refine Below.setCell ?_ ?_ _) | (with_reducible refine below_via (by assumption) ?_ ?_) | (with_reducible refine below_via (later_below _) ?_ ?_) | (with_reducible exact Nat.le_refl _) | omega | (simp; omega) | (simp; done))))); rintro e w3 ⟨tt, rfl, hn1, hn2, hto, hb⟩; have hbT := hb; (refine mem hb ?_; intro N hN hz hc hf; (try simp at hN); subst hN)) | (go_at_call 34; (with_reducible refine (HSk.out tt _ _ hn1 hn2 ?_ ?_ ?_).mono ?_); (focus (exact ⟨hto.1, hto.2.still (p1_still (still_of ((Below.refl _ _).alloc (Nat.le_refl _) _) (Nat.le_refl _))) (by simp)⟩)); (focus (exact ⟨by rw [hn1]; simp [cell_alloc_if], by rw [hn2]; simp [cell_alloc_if]⟩)); (focus (have h0 := HE.out; (repeat' (first | (with_reducible exact Below.refl _ _) | (with_reducible assumption) | (with_reducible refine Below.alloc ?_ ?_ _) | (with_reducible refine below_drewN ?_ _) | (with_reducible refine Below.drew ?_) | (with_reducible refine Below.setCell ?_ ?_ _) | (with_reducible refine below_via (by assumption) ?_ ?_) | (with_reducible refine below_via (later_below _) ?_ ?_) | (with_reducible exact Nat.le_refl _) | omega | (simp; omega) | (simp; done))))); rintro e w4 ⟨⟨he1, rfl⟩ | ⟨he1, rfl⟩, hb4⟩))
      · refine ⟨⟨k + 1, by omega, by go_num, ?_, ?_⟩, by simp [intOf]; omega⟩
        · show Below _ _ _; have h0 := HE.out; (repeat' (first | (with_reducible exact Below.refl _ _) | (with_reducible assumption) | (with_reducible refine Below.alloc ?_ ?_ _) | (with_reducible refine below_drewN ?_ _) | (with_reducible refine Below.drew ?_) | (with_reducible refine Below.setCell ?_ ?_ _) | (with_reducible refine below_via (by assumption) ?_ ?_) | (with_reducible refine below_via (later_below _) ?_ ?_) | (with_reducible exact Nat.le_refl _) | omega | (simp; omega) | (simp; done)))
        · intro i hi hik
          by_cases h : i = k
          · subst h; rw [HLk.out, if_pos he0, he1]
          · exact HZ.out i hi (by omega)
      · have hlk : L[k] = q := by rw [HLk.out, if_pos he0]
        have hfe : fe L = q := by rw [fe_at hkL (fun i hi hik => HZ.out i hi hik) (by rw [hlk]; exact he1), hlk]
        obtain rfl : D = q := by rw [HD.out, hfe]
        refine ⟨rfl, .inr ⟨he1, rfl⟩, ?_⟩
        show Below _ _ _
        have h0 := HE.out
        (repeat' (first | (with_reducible exact Below.refl _ _) | (with_reducible assumption) | (with_reducible refine Below.alloc ?_ ?_ _) | (with_reducible refine below_drewN ?_ _) | (with_reducible refine Below.drew ?_) | (with_reducible refine Below.setCell ?_ ?_ _) | (with_reducible refine below_via (by assumption) ?_ ?_) | (with_reducible refine below_via (later_below _) ?_ ?_) | (with_reducible exact Nat.le_refl _) | omega | (simp; omega) | (simp; done)))
      · have hlk : L[k] = c := by rw [HLk.out, if_neg he0]
        have hfe : fe L = c := by rw [fe_at hkL (fun i hi hik => HZ.out i hi hik) (by rw [hlk]; exact he0), hlk]
        obtain rfl : D = c := by rw [HD.out, hfe]
        refine ⟨rfl, .inr ⟨he0, rfl⟩, ?_⟩
        show Below _ _ _
        have h0 := HE.out
        (repeat' (first | (with_reducible exact Below.refl _ _) | (with_reducible assumption) | (with_reducible refine Below.alloc ?_ ?_ _) | (with_reducible refine below_drewN ?_ _) | (with_reducible refine Below.drew ?_) | (with_reducible refine Below.setCell ?_ ?_ _) | (with_reducible refine below_via (by assumption) ?_ ?_) | (with_reducible refine below_via (later_below _) ?_ ?_) | (with_reducible exact Nat.le_refl _) | omega | (simp; omega) | (simp; done)))
    · obtain rfl : k = y.l.length := by omega
      have hfe : fe L = 0 := fe_all fun i hi => HZ.out i hi (by omega)
      obtain rfl : D = 0 := by rw [HD.out, hfe]
      go_wp2_with fail
      go_returns
      exact ⟨.inl ⟨rfl, rfl⟩, HE.out⟩
theorem ck_all : ∀ n, CkX n ∧ CkB n
  | 0 => ⟨fun _ _ _ _ _ h => by omega, fun _ _ h => by omega⟩
  | n + 1 => have ih := ck_all n; ⟨ckX_step n ih.1 ih.2, ckB_step n ih.1 ih.2⟩
/-- The first error of a block's parts. -/
def cbE (y : TB) : Int := ckE (rkB y + 1) (.inr y) 0 T0
theorem checkBlock_any (y : TB) (w : World) (hok : okN (rkB y + 1) (.inr y)) (hin : InB w w.heap.size y) : Calls Tryz.prog 31 #[y.v] w (PE (.bool true) (cbE y) w) := (ck_all (rkB y + 1)).2 y w (by omega) hok hin
end Go.Proofs.YtplphejillkdeaaGreatDoor
