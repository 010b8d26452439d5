/- The reference's Same and SameExpr. -/
import Derived.Test.YthkpggpnbdedjaaMTrSm
import Derived.Test.YthkpggpnbdedjaaMTrDp
namespace Go.Proofs.Ythkpggpnbdedjaa
open Go.RowKit Go.Instr
set_option linter.unusedVariables false

set_option maxHeartbeats 6400000 in
set_option maxRecDepth 100000 in
theorem rlist_X (F : TX → TX → Bool) (l m : List TX) (a b : Option Addr) (c d N : Nat) (w : World) (hl : Slc a l.length c) (hla : XsAt w N a l) (hm : Slc b m.length d) (hma : XsAt w N b m) (hN : N ≤ w.heap.size)
    (H : ∀ k (h1 : k < l.length) (h2 : k < m.length) W, Below w.heap.size w W → Calls Try.prog 16 #[(l[k]).v, (m[k]).v] W fun e W' => e = .returned (.bool (F l[k] m[k])) ∧ Below W.heap.size W W') :
    Calls Try.prog 40 #[.slice a l.length c, .slice b m.length d] w fun e W' => e = .returned (.bool (eqL F l m)) ∧ Below w.heap.size w W' := by
  have hn : (l.length : Int) ≤ 9223372036854775807 := by have := hl.1; have := hl.2.1; omega
  have hn2 : (m.length : Int) ≤ 9223372036854775807 := by have := hm.1; have := hm.2.1; omega
  have HL := Lib.hid hla
  have HM := Lib.hid hma
  have HH := Lib.hid H
  clear hla hma H hl hm
  by_cases hlen : m.length = l.length
  · obtain ⟨R, hR⟩ : ∃ R, eqL F l m = R := ⟨_, rfl⟩
    rw [hR]
    have HR := Lib.hid hR
    clear hR hn2
    rw [hlen]
    have HLEN := Lib.hid hlen
    clear hlen
    go_enter Try.func40, Try.ntmps40
    go_wp2_with fail
    go_loopw [5] (fun i wr => ∃ k : Nat, k ≤ l.length ∧ i = .int .i64 k ∧ Hid (Below w.heap.size w wr) ∧ Hid (∀ i (h1 : i < l.length) (h2 : i < m.length), i < k → F l[i] m[i] = true)) (fun i _ => l.length - (intOf i).toNat)
    case atStart => exact ⟨0, Nat.zero_le _, rfl, Below.refl _ _, fun i _ _ h => by omega⟩
    case round =>
      obtain ⟨k, hk, rfl, HE, HP⟩ := hrel
      have hs0 := HE.out.size
      by_cases hlt : k < l.length
      · have hltm : k < m.length := by have := HLEN.out; omega
        rcases HL.out with h0 | ⟨b1, o1, ha1, hb1, hc1⟩
        · omega
        rcases HM.out with h0 | ⟨b2, o2, ha2, hb2, hc2⟩
        · omega
        subst ha1 ha2
        have hx1 := x8_still (still_of HE.out hN) _ _ _ hb1 (hc1 k hlt)
        have hx2 := x8_still (still_of HE.out hN) _ _ _ hb2 (hc2 k hltm)
        have HC := Lib.hid (HH.out k hlt hltm)
        obtain ⟨x, hx⟩ : ∃ x, l[k] = x := ⟨_, rfl⟩
        obtain ⟨y, hy⟩ : ∃ y, m[k] = y := ⟨_, rfl⟩
        obtain ⟨q, hq⟩ : ∃ q, F l[k] m[k] = q := ⟨_, rfl⟩
        have HQ := Lib.hid hq
        rw [hq, hx, hy] at HC
        rw [hx] at hx1
        rw [hy] at hx2
        clear hx hy hq hc1 hc2
        obtain ⟨c0, c1, c2, c3, c4, c5, c6, c7⟩ := hx1
        obtain ⟨d0, d1, d2, d3, d4, d5, d6, d7⟩ := hx2
        have hbl1 := cell_lt c0
        have hbl2 := cell_lt d0
        cases q with
        | true =>
          go_wp2_with fail
          (refine wp_region_calm (by kernel_rfl) (by kernel_rfl) ?_; refine calm_mem ?_; intro N hN hne hcu; (try simp at hN); subst hN; (repeat ((refine wpQuiet_step (fun K hK => ?_)); go_simp; (repeat (simp only [↓IntWalk.iteOmega]; go_simp)); (first | (refine hK _ ?_; clear hK K) | (apply Exists.intro; refine ⟨fun _ => ?_, hK _ ?_⟩; ((go_at_call 16; exact calm_of (HC.out _ (HE.out.trans (Below.mono (Subtype.property _) hs0))))); clear hK K)))); refine wpQuiet_nil ?_; intro _ hw'; obtain ⟨⟨w1, hb⟩, hw''⟩ := hw'; subst hw''; clear hcu hne; (try dsimp only); (refine mem hb ?_; intro N hN hz hc hf; (try simp at hN); subst hN))
          go_wp2_with fail
          refine ⟨⟨k + 1, by omega, by go_num, ?_, ?_⟩, by simp [intOf]; omega⟩
          · show Below _ _ _; have h0 := HE.out; (repeat' (first | (with_reducible exact Below.refl _ _) | (with_reducible assumption) | (with_reducible refine Below.alloc ?_ ?_ _) | (with_reducible refine below_drewN ?_ _) | (with_reducible refine Below.drew ?_) | (with_reducible refine Below.setCell ?_ ?_ _) | (with_reducible refine below_via (by assumption) ?_ ?_) | (with_reducible refine below_via (later_below _) ?_ ?_) | (with_reducible exact Nat.le_refl _) | omega | (simp; omega) | (simp; done)))
          · intro i h1 h2 hik
            by_cases h : i = k
            · subst h; exact HQ.out
            · exact HP.out i h1 h2 (by omega)
        | false =>
          go_wp2_with fail
          (refine wp_region_calm (by kernel_rfl) (by kernel_rfl) ?_; refine calm_mem ?_; intro N hN hne hcu; (try simp at hN); subst hN; (repeat ((refine wpQuiet_step (fun K hK => ?_)); go_simp; (repeat (simp only [↓IntWalk.iteOmega]; go_simp)); (first | (refine hK _ ?_; clear hK K) | (apply Exists.intro; refine ⟨fun _ => ?_, hK _ ?_⟩; ((go_at_call 16; exact calm_of (HC.out _ (HE.out.trans (Below.mono (Subtype.property _) hs0))))); clear hK K)))); refine wpQuiet_nil ?_; intro _ hw'; obtain ⟨⟨w1, hb⟩, hw''⟩ := hw'; subst hw''; clear hcu hne; (try dsimp only); (refine mem hb ?_; intro N hN hz hc hf; (try simp at hN); subst hN))
          go_wp2_with fail
          go_returns
          have e : R = false := by rw [← HR.out]; exact eqL_at hlt hltm HQ.out
          rw [e]
          refine ⟨rfl, ?_⟩
          have h0 := HE.out
          (repeat' (first | (with_reducible exact Below.refl _ _) | (with_reducible assumption) | (with_reducible refine Below.alloc ?_ ?_ _) | (with_reducible refine below_drewN ?_ _) | (with_reducible refine Below.drew ?_) | (with_reducible refine Below.setCell ?_ ?_ _) | (with_reducible refine below_via (by assumption) ?_ ?_) | (with_reducible refine below_via (later_below _) ?_ ?_) | (with_reducible exact Nat.le_refl _) | omega | (simp; omega) | (simp; done)))
      · obtain rfl : k = l.length := by omega
        go_wp2_with fail
        go_returns
        have e : R = true := by rw [← HR.out]; exact eqL_all HLEN.out (fun i h => HP.out i h (by have := HLEN.out; omega) h)
        rw [e]
        exact ⟨rfl, HE.out⟩
  · rw [eqL_len (fun h => hlen h.symm)]
    have hlen2 : ¬ l.length = m.length := fun h => hlen h.symm
    go_enter Try.func40, Try.ntmps40
    go_wp2_with fail
    go_returns
    exact ⟨rfl, Below.refl _ _⟩
set_option maxHeartbeats 6400000 in
set_option maxRecDepth 100000 in
theorem rlist_S (F : TS → TS → Bool) (l m : List TS) (a b : Option Addr) (c d N : Nat) (w : World) (hl : Slc a l.length c) (hla : SsAt w N a l) (hm : Slc b m.length d) (hma : SsAt w N b m) (hN : N ≤ w.heap.size)
    (H : ∀ k (h1 : k < l.length) (h2 : k < m.length) W, Below w.heap.size w W → Calls Try.prog 46 #[(l[k]).v, (m[k]).v] W fun e W' => e = .returned (.bool (F l[k] m[k])) ∧ Below W.heap.size W W') :
    Calls Try.prog 25 #[.slice a l.length c, .slice b m.length d] w fun e W' => e = .returned (.bool (eqL F l m)) ∧ Below w.heap.size w W' := by
  have hn : (l.length : Int) ≤ 9223372036854775807 := by have := hl.1; have := hl.2.1; omega
  have hn2 : (m.length : Int) ≤ 9223372036854775807 := by have := hm.1; have := hm.2.1; omega
  have HL := Lib.hid hla
  have HM := Lib.hid hma
  have HH := Lib.hid H
  clear hla hma H hl hm
  by_cases hlen : m.length = l.length
  · obtain ⟨R, hR⟩ : ∃ R, eqL F l m = R := ⟨_, rfl⟩
    rw [hR]
    have HR := Lib.hid hR
    clear hR hn2
    rw [hlen]
    have HLEN := Lib.hid hlen
    clear hlen
    go_enter Try.func25, Try.ntmps25
    go_wp2_with fail
    go_loopw [5] (fun i wr => ∃ k : Nat, k ≤ l.length ∧ i = .int .i64 k ∧ Hid (Below w.heap.size w wr) ∧ Hid (∀ i (h1 : i < l.length) (h2 : i < m.length), i < k → F l[i] m[i] = true)) (fun i _ => l.length - (intOf i).toNat)
    case atStart => exact ⟨0, Nat.zero_le _, rfl, Below.refl _ _, fun i _ _ h => by omega⟩
    case round =>
      obtain ⟨k, hk, rfl, HE, HP⟩ := hrel
      have hs0 := HE.out.size
      by_cases hlt : k < l.length
      · have hltm : k < m.length := by have := HLEN.out; omega
        rcases HL.out with h0 | ⟨b1, o1, ha1, hb1, hc1⟩
        · omega
        rcases HM.out with h0 | ⟨b2, o2, ha2, hb2, hc2⟩
        · omega
        subst ha1 ha2
        have hx1 := s7_still (still_of HE.out hN) _ _ _ hb1 (hc1 k hlt)
        have hx2 := s7_still (still_of HE.out hN) _ _ _ hb2 (hc2 k hltm)
        have HC := Lib.hid (HH.out k hlt hltm)
        obtain ⟨x, hx⟩ : ∃ x, l[k] = x := ⟨_, rfl⟩
        obtain ⟨y, hy⟩ : ∃ y, m[k] = y := ⟨_, rfl⟩
        obtain ⟨q, hq⟩ : ∃ q, F l[k] m[k] = q := ⟨_, rfl⟩
        have HQ := Lib.hid hq
        rw [hq, hx, hy] at HC
        rw [hx] at hx1
        rw [hy] at hx2
        clear hx hy hq hc1 hc2
        obtain ⟨c0, c1, c2, c3, c4, c5, c6⟩ := hx1
        obtain ⟨d0, d1, d2, d3, d4, d5, d6⟩ := hx2
        have hbl1 := cell_lt c0
        have hbl2 := cell_lt d0
        cases q with
        | true =>
          go_wp2_with fail
          (refine wp_region_calm (by kernel_rfl) (by kernel_rfl) ?_; refine calm_mem ?_; intro N hN hne hcu; (try simp at hN); subst hN; (repeat ((refine wpQuiet_step (fun K hK => ?_)); go_simp; (repeat (simp only [↓IntWalk.iteOmega]; go_simp)); (first | (refine hK _ ?_; clear hK K) | (apply Exists.intro; refine ⟨fun _ => ?_, hK _ ?_⟩; ((go_at_call 46; exact calm_of (HC.out _ (HE.out.trans (Below.mono (Subtype.property _) hs0))))); clear hK K)))); refine wpQuiet_nil ?_; intro _ hw'; obtain ⟨⟨w1, hb⟩, hw''⟩ := hw'; subst hw''; clear hcu hne; (try dsimp only); (refine mem hb ?_; intro N hN hz hc hf; (try simp at hN); subst hN))
          go_wp2_with fail
          refine ⟨⟨k + 1, by omega, by go_num, ?_, ?_⟩, by simp [intOf]; omega⟩
          · show Below _ _ _; have h0 := HE.out; (repeat' (first | (with_reducible exact Below.refl _ _) | (with_reducible assumption) | (with_reducible refine Below.alloc ?_ ?_ _) | (with_reducible refine below_drewN ?_ _) | (with_reducible refine Below.drew ?_) | (with_reducible refine Below.setCell ?_ ?_ _) | (with_reducible refine below_via (by assumption) ?_ ?_) | (with_reducible refine below_via (later_below _) ?_ ?_) | (with_reducible exact Nat.le_refl _) | omega | (simp; omega) | (simp; done)))
          · intro i h1 h2 hik
            by_cases h : i = k
            · subst h; exact HQ.out
            · exact HP.out i h1 h2 (by omega)
        | false =>
          go_wp2_with fail
          (refine wp_region_calm (by kernel_rfl) (by kernel_rfl) ?_; refine calm_mem ?_; intro N hN hne hcu; (try simp at hN); subst hN; (repeat ((refine wpQuiet_step (fun K hK => ?_)); go_simp; (repeat (simp only [↓IntWalk.iteOmega]; go_simp)); (first | (refine hK _ ?_; clear hK K) | (apply Exists.intro; refine ⟨fun _ => ?_, hK _ ?_⟩; ((go_at_call 46; exact calm_of (HC.out _ (HE.out.trans (Below.mono (Subtype.property _) hs0))))); clear hK K)))); refine wpQuiet_nil ?_; intro _ hw'; obtain ⟨⟨w1, hb⟩, hw''⟩ := hw'; subst hw''; clear hcu hne; (try dsimp only); (refine mem hb ?_; intro N hN hz hc hf; (try simp at hN); subst hN))
          go_wp2_with fail
          go_returns
          have e : R = false := by rw [← HR.out]; exact eqL_at hlt hltm HQ.out
          rw [e]
          refine ⟨rfl, ?_⟩
          have h0 := HE.out
          (repeat' (first | (with_reducible exact Below.refl _ _) | (with_reducible assumption) | (with_reducible refine Below.alloc ?_ ?_ _) | (with_reducible refine below_drewN ?_ _) | (with_reducible refine Below.drew ?_) | (with_reducible refine Below.setCell ?_ ?_ _) | (with_reducible refine below_via (by assumption) ?_ ?_) | (with_reducible refine below_via (later_below _) ?_ ?_) | (with_reducible exact Nat.le_refl _) | omega | (simp; omega) | (simp; done)))
      · obtain rfl : k = l.length := by omega
        go_wp2_with fail
        go_returns
        have e : R = true := by rw [← HR.out]; exact eqL_all HLEN.out (fun i h => HP.out i h (by have := HLEN.out; omega) h)
        rw [e]
        exact ⟨rfl, HE.out⟩
  · rw [eqL_len (fun h => hlen h.symm)]
    have hlen2 : ¬ l.length = m.length := fun h => hlen h.symm
    go_enter Try.func25, Try.ntmps25
    go_wp2_with fail
    go_returns
    exact ⟨rfl, Below.refl _ _⟩
abbrev RxP (n : Nat) : Prop := ∀ (x y : TX) (w : World), rkX x < n → InX w w.heap.size x → InX w w.heap.size y → Calls Try.prog 16 #[x.v, y.v] w fun e W' => e = .returned (.bool (seN n (.inl (x, y)))) ∧ Below w.heap.size w W'
abbrev RlP (n : Nat) : Prop := ∀ (l m : List TS) (a b : Option Addr) (c d : Nat) (w : World), rkSs l < n → SsOk w w.heap.size a c l → SsOk w w.heap.size b d m → Calls Try.prog 25 #[.slice a l.length c, .slice b m.length d] w fun e W' => e = .returned (.bool (seN n (.inr (l, m)))) ∧ Below w.heap.size w W'
theorem rexprs_p {n : Nat} (hX : RxP n) {l m : List TX} {a b : Option Addr} {c d : Nat} {w : World} (hr : ∀ x ∈ l, rkX x < n) (hl : XsOk w w.heap.size a c l) (hm : XsOk w w.heap.size b d m) (W : World) (hW : Below w.heap.size w W) :
    Calls Try.prog 40 #[.slice a l.length c, .slice b m.length d] W fun e W' => e = .returned (.bool (eqL (fun a b => seN n (.inl (a, b))) l m)) ∧ Below W.heap.size W W' :=
  have hl := hl.still (still_of hW (Nat.le_refl _)) hW.size
  have hm := hm.still (still_of hW (Nat.le_refl _)) hW.size
  rlist_X _ l m a b c d W.heap.size W hl.1 hl.2.1 hm.1 hm.2.1 (Nat.le_refl _) fun k h1 h2 W1 h => hX _ _ W1 (hr _ (List.getElem_mem h1)) (((inXs_iff _).1 hl.2.2 _ (List.getElem_mem h1)).st h) (((inXs_iff _).1 hm.2.2 _ (List.getElem_mem h2)).st h)
set_option maxHeartbeats 6400000 in
set_option maxRecDepth 100000 in
theorem rsameFunc_p {n : Nat} (hL : RlP n) (f g : TF) (w : World) (hr : rkSs f.body < n) (hf : InF w w.heap.size f) (hg : InF w w.heap.size g) :
    Calls Try.prog 41 #[f.v, g.v] w fun e W' => e = .returned (.bool (sfB n f g)) ∧ Below w.heap.size w W' := by
  obtain ⟨R, hR⟩ : ∃ R, sfB n f g = R := ⟨_, rfl⟩
  rw [hR]
  obtain ⟨q1, hq1⟩ : ∃ q, (f.name.toList == g.name.toList) = q := ⟨_, rfl⟩
  obtain ⟨q2, hq2⟩ : ∃ q, eqL eqSt f.params g.params = q := ⟨_, rfl⟩
  obtain ⟨q3, hq3⟩ : ∃ q, (f.va == g.va) = q := ⟨_, rfl⟩
  obtain ⟨q4, hq4⟩ : ∃ q, (f.ln == g.ln) = q := ⟨_, rfl⟩
  obtain ⟨q5, hq5⟩ : ∃ q, seN n (.inr (f.body, g.body)) = q := ⟨_, rfl⟩
  have HR : Hid ((q1 && (q2 && (q3 && (q4 && q5)))) = R) := by show _ = _; rw [← hR]; unfold sfB; rw [hq1, hq2, hq3, hq4, hq5]; cases q1 <;> cases q2 <;> cases q3 <;> cases q4 <;> cases q5 <;> rfl
  have HP : Hid (∀ W, Below w.heap.size w W → Calls Try.prog 56 #[.slice f.pA f.params.length f.pC, .slice g.pA g.params.length g.pC] W fun e W' => e = .returned (.bool q2) ∧ Below W.heap.size W W') := fun W hW => by
    rw [← hq2]
    exact rstrs_any _ _ _ _ _ _ W.heap.size W ((inF_iff f).1 (hf.st hW)).1.pi ((inF_iff f).1 (hf.st hW)).1.pAt ((inF_iff g).1 (hg.st hW)).1.pi ((inF_iff g).1 (hg.st hW)).1.pAt (Nat.le_refl _)
  have HB : Hid (∀ W, Below w.heap.size w W → Calls Try.prog 25 #[.slice f.bA f.body.length f.bC, .slice g.bA g.body.length g.bC] W fun e W' => e = .returned (.bool q5) ∧ Below W.heap.size W W') := fun W hW => by
    rw [← hq5]
    exact hL _ _ _ _ _ _ W hr (hf.st hW).ss (hg.st hW).ss
  clear hR hq2 hq5 hL hf hg hr
  cases q1 with
  | false =>
    obtain rfl : R = false := by rw [← HR.out]; simp
    clear HR
    go_enter Try.func41, Try.ntmps41
    go_wp2_with (first | (go_at_call 56; (with_reducible refine (HP.out _ ?_).mono ?_); (focus ((repeat' (first | (with_reducible exact Below.refl _ _) | (with_reducible assumption) | (with_reducible refine Below.alloc ?_ ?_ _) | (with_reducible refine below_drewN ?_ _) | (with_reducible refine Below.drew ?_) | (with_reducible refine Below.setCell ?_ ?_ _) | (with_reducible refine below_via (by assumption) ?_ ?_) | (with_reducible refine below_via (later_below _) ?_ ?_) | (with_reducible exact Nat.le_refl _) | omega | (simp; omega) | (simp; done))))); rintro e w1 ⟨rfl, hb⟩; clear HP; (refine mem hb ?_; intro N hN hz hc hf; (try simp at hN); subst hN)) | (go_at_call 25; (with_reducible refine (HB.out _ ?_).mono ?_); (focus ((repeat' (first | (with_reducible exact Below.refl _ _) | (with_reducible assumption) | (with_reducible refine Below.alloc ?_ ?_ _) | (with_reducible refine below_drewN ?_ _) | (with_reducible refine Below.drew ?_) | (with_reducible refine Below.setCell ?_ ?_ _) | (with_reducible refine below_via (by assumption) ?_ ?_) | (with_reducible refine below_via (later_below _) ?_ ?_) | (with_reducible exact Nat.le_refl _) | omega | (simp; omega) | (simp; done))))); rintro e w1 ⟨rfl, hb⟩; clear HB; (refine mem hb ?_; intro N hN hz hc hf; (try simp at hN); subst hN)))
    go_returns
    refine ⟨rfl, ?_⟩
    (repeat' (first | (with_reducible exact Below.refl _ _) | (with_reducible assumption) | (with_reducible refine Below.alloc ?_ ?_ _) | (with_reducible refine below_drewN ?_ _) | (with_reducible refine Below.drew ?_) | (with_reducible refine Below.setCell ?_ ?_ _) | (with_reducible refine below_via (by assumption) ?_ ?_) | (with_reducible refine below_via (later_below _) ?_ ?_) | (with_reducible exact Nat.le_refl _) | omega | (simp; omega) | (simp; done)))
  | true =>
    cases q2 with
    | false =>
      obtain rfl : R = false := by rw [← HR.out]; simp
      clear HR
      go_enter Try.func41, Try.ntmps41
      go_wp2_with (first | (go_at_call 56; (with_reducible refine (HP.out _ ?_).mono ?_); (focus ((repeat' (first | (with_reducible exact Below.refl _ _) | (with_reducible assumption) | (with_reducible refine Below.alloc ?_ ?_ _) | (with_reducible refine below_drewN ?_ _) | (with_reducible refine Below.drew ?_) | (with_reducible refine Below.setCell ?_ ?_ _) | (with_reducible refine below_via (by assumption) ?_ ?_) | (with_reducible refine below_via (later_below _) ?_ ?_) | (with_reducible exact Nat.le_refl _) | omega | (simp; omega) | (simp; done))))); rintro e w1 ⟨rfl, hb⟩; clear HP; (refine mem hb ?_; intro N hN hz hc hf; (try simp at hN); subst hN)) | (go_at_call 25; (with_reducible refine (HB.out _ ?_).mono ?_); (focus ((repeat' (first | (with_reducible exact Below.refl _ _) | (with_reducible assumption) | (with_reducible refine Below.alloc ?_ ?_ _) | (with_reducible refine below_drewN ?_ _) | (with_reducible refine Below.drew ?_) | (with_reducible refine Below.setCell ?_ ?_ _) | (with_reducible refine below_via (by assumption) ?_ ?_) | (with_reducible refine below_via (later_below _) ?_ ?_) | (with_reducible exact Nat.le_refl _) | omega | (simp; omega) | (simp; done))))); rintro e w1 ⟨rfl, hb⟩; clear HB; (refine mem hb ?_; intro N hN hz hc hf; (try simp at hN); subst hN)))
      go_returns
      refine ⟨rfl, ?_⟩
      (repeat' (first | (with_reducible exact Below.refl _ _) | (with_reducible assumption) | (with_reducible refine Below.alloc ?_ ?_ _) | (with_reducible refine below_drewN ?_ _) | (with_reducible refine Below.drew ?_) | (with_reducible refine Below.setCell ?_ ?_ _) | (with_reducible refine below_via (by assumption) ?_ ?_) | (with_reducible refine below_via (later_below _) ?_ ?_) | (with_reducible exact Nat.le_refl _) | omega | (simp; omega) | (simp; done)))
    | true =>
      cases q3 with
      | false =>
        obtain rfl : R = false := by rw [← HR.out]; simp
        clear HR
        go_enter Try.func41, Try.ntmps41
        go_wp2_with (first | (go_at_call 56; (with_reducible refine (HP.out _ ?_).mono ?_); (focus ((repeat' (first | (with_reducible exact Below.refl _ _) | (with_reducible assumption) | (with_reducible refine Below.alloc ?_ ?_ _) | (with_reducible refine below_drewN ?_ _) | (with_reducible refine Below.drew ?_) | (with_reducible refine Below.setCell ?_ ?_ _) | (with_reducible refine below_via (by assumption) ?_ ?_) | (with_reducible refine below_via (later_below _) ?_ ?_) | (with_reducible exact Nat.le_refl _) | omega | (simp; omega) | (simp; done))))); rintro e w1 ⟨rfl, hb⟩; clear HP; (refine mem hb ?_; intro N hN hz hc hf; (try simp at hN); subst hN)) | (go_at_call 25; (with_reducible refine (HB.out _ ?_).mono ?_); (focus ((repeat' (first | (with_reducible exact Below.refl _ _) | (with_reducible assumption) | (with_reducible refine Below.alloc ?_ ?_ _) | (with_reducible refine below_drewN ?_ _) | (with_reducible refine Below.drew ?_) | (with_reducible refine Below.setCell ?_ ?_ _) | (with_reducible refine below_via (by assumption) ?_ ?_) | (with_reducible refine below_via (later_below _) ?_ ?_) | (with_reducible exact Nat.le_refl _) | omega | (simp; omega) | (simp; done))))); rintro e w1 ⟨rfl, hb⟩; clear HB; (refine mem hb ?_; intro N hN hz hc hf; (try simp at hN); subst hN)))
        go_returns
        refine ⟨rfl, ?_⟩
        (repeat' (first | (with_reducible exact Below.refl _ _) | (with_reducible assumption) | (with_reducible refine Below.alloc ?_ ?_ _) | (with_reducible refine below_drewN ?_ _) | (with_reducible refine Below.drew ?_) | (with_reducible refine Below.setCell ?_ ?_ _) | (with_reducible refine below_via (by assumption) ?_ ?_) | (with_reducible refine below_via (later_below _) ?_ ?_) | (with_reducible exact Nat.le_refl _) | omega | (simp; omega) | (simp; done)))
      | true =>
        cases q4 with
        | false =>
          obtain rfl : R = false := by rw [← HR.out]; simp
          clear HR
          go_enter Try.func41, Try.ntmps41
          go_wp2_with (first | (go_at_call 56; (with_reducible refine (HP.out _ ?_).mono ?_); (focus ((repeat' (first | (with_reducible exact Below.refl _ _) | (with_reducible assumption) | (with_reducible refine Below.alloc ?_ ?_ _) | (with_reducible refine below_drewN ?_ _) | (with_reducible refine Below.drew ?_) | (with_reducible refine Below.setCell ?_ ?_ _) | (with_reducible refine below_via (by assumption) ?_ ?_) | (with_reducible refine below_via (later_below _) ?_ ?_) | (with_reducible exact Nat.le_refl _) | omega | (simp; omega) | (simp; done))))); rintro e w1 ⟨rfl, hb⟩; clear HP; (refine mem hb ?_; intro N hN hz hc hf; (try simp at hN); subst hN)) | (go_at_call 25; (with_reducible refine (HB.out _ ?_).mono ?_); (focus ((repeat' (first | (with_reducible exact Below.refl _ _) | (with_reducible assumption) | (with_reducible refine Below.alloc ?_ ?_ _) | (with_reducible refine below_drewN ?_ _) | (with_reducible refine Below.drew ?_) | (with_reducible refine Below.setCell ?_ ?_ _) | (with_reducible refine below_via (by assumption) ?_ ?_) | (with_reducible refine below_via (later_below _) ?_ ?_) | (with_reducible exact Nat.le_refl _) | omega | (simp; omega) | (simp; done))))); rintro e w1 ⟨rfl, hb⟩; clear HB; (refine mem hb ?_; intro N hN hz hc hf; (try simp at hN); subst hN)))
          go_returns
          refine ⟨rfl, ?_⟩
          (repeat' (first | (with_reducible exact Below.refl _ _) | (with_reducible assumption) | (with_reducible refine Below.alloc ?_ ?_ _) | (with_reducible refine below_drewN ?_ _) | (with_reducible refine Below.drew ?_) | (with_reducible refine Below.setCell ?_ ?_ _) | (with_reducible refine below_via (by assumption) ?_ ?_) | (with_reducible refine below_via (later_below _) ?_ ?_) | (with_reducible exact Nat.le_refl _) | omega | (simp; omega) | (simp; done)))
        | true =>
          cases q5 with
          | false =>
            obtain rfl : R = false := by rw [← HR.out]; simp
            clear HR
            go_enter Try.func41, Try.ntmps41
            go_wp2_with (first | (go_at_call 56; (with_reducible refine (HP.out _ ?_).mono ?_); (focus ((repeat' (first | (with_reducible exact Below.refl _ _) | (with_reducible assumption) | (with_reducible refine Below.alloc ?_ ?_ _) | (with_reducible refine below_drewN ?_ _) | (with_reducible refine Below.drew ?_) | (with_reducible refine Below.setCell ?_ ?_ _) | (with_reducible refine below_via (by assumption) ?_ ?_) | (with_reducible refine below_via (later_below _) ?_ ?_) | (with_reducible exact Nat.le_refl _) | omega | (simp; omega) | (simp; done))))); rintro e w1 ⟨rfl, hb⟩; clear HP; (refine mem hb ?_; intro N hN hz hc hf; (try simp at hN); subst hN)) | (go_at_call 25; (with_reducible refine (HB.out _ ?_).mono ?_); (focus ((repeat' (first | (with_reducible exact Below.refl _ _) | (with_reducible assumption) | (with_reducible refine Below.alloc ?_ ?_ _) | (with_reducible refine below_drewN ?_ _) | (with_reducible refine Below.drew ?_) | (with_reducible refine Below.setCell ?_ ?_ _) | (with_reducible refine below_via (by assumption) ?_ ?_) | (with_reducible refine below_via (later_below _) ?_ ?_) | (with_reducible exact Nat.le_refl _) | omega | (simp; omega) | (simp; done))))); rintro e w1 ⟨rfl, hb⟩; clear HB; (refine mem hb ?_; intro N hN hz hc hf; (try simp at hN); subst hN)))
            go_returns
            refine ⟨rfl, ?_⟩
            (repeat' (first | (with_reducible exact Below.refl _ _) | (with_reducible assumption) | (with_reducible refine Below.alloc ?_ ?_ _) | (with_reducible refine below_drewN ?_ _) | (with_reducible refine Below.drew ?_) | (with_reducible refine Below.setCell ?_ ?_ _) | (with_reducible refine below_via (by assumption) ?_ ?_) | (with_reducible refine below_via (later_below _) ?_ ?_) | (with_reducible exact Nat.le_refl _) | omega | (simp; omega) | (simp; done)))
          | true =>
            obtain rfl : R = true := HR.out.symm
            go_enter Try.func41, Try.ntmps41
            go_wp2_with (first | (go_at_call 56; (with_reducible refine (HP.out _ ?_).mono ?_); (focus ((repeat' (first | (with_reducible exact Below.refl _ _) | (with_reducible assumption) | (with_reducible refine Below.alloc ?_ ?_ _) | (with_reducible refine below_drewN ?_ _) | (with_reducible refine Below.drew ?_) | (with_reducible refine Below.setCell ?_ ?_ _) | (with_reducible refine below_via (by assumption) ?_ ?_) | (with_reducible refine below_via (later_below _) ?_ ?_) | (with_reducible exact Nat.le_refl _) | omega | (simp; omega) | (simp; done))))); rintro e w1 ⟨rfl, hb⟩; clear HP; (refine mem hb ?_; intro N hN hz hc hf; (try simp at hN); subst hN)) | (go_at_call 25; (with_reducible refine (HB.out _ ?_).mono ?_); (focus ((repeat' (first | (with_reducible exact Below.refl _ _) | (with_reducible assumption) | (with_reducible refine Below.alloc ?_ ?_ _) | (with_reducible refine below_drewN ?_ _) | (with_reducible refine Below.drew ?_) | (with_reducible refine Below.setCell ?_ ?_ _) | (with_reducible refine below_via (by assumption) ?_ ?_) | (with_reducible refine below_via (later_below _) ?_ ?_) | (with_reducible exact Nat.le_refl _) | omega | (simp; omega) | (simp; done))))); rintro e w1 ⟨rfl, hb⟩; clear HB; (refine mem hb ?_; intro N hN hz hc hf; (try simp at hN); subst hN)))
            go_returns
            refine ⟨rfl, ?_⟩
            (repeat' (first | (with_reducible exact Below.refl _ _) | (with_reducible assumption) | (with_reducible refine Below.alloc ?_ ?_ _) | (with_reducible refine below_drewN ?_ _) | (with_reducible refine Below.drew ?_) | (with_reducible refine Below.setCell ?_ ?_ _) | (with_reducible refine below_via (by assumption) ?_ ?_) | (with_reducible refine below_via (later_below _) ?_ ?_) | (with_reducible exact Nat.le_refl _) | omega | (simp; omega) | (simp; done)))
set_option maxHeartbeats 6400000 in
set_option maxRecDepth 100000 in
theorem rxp_step (n : Nat) (hX : RxP n) (hL : RlP n) : RxP (n + 1) := by
  intro x y w hr hx hy
  rw [rkX_eq] at hr
  obtain ⟨R, hR⟩ : ∃ R, seN (n + 1) (.inl (x, y)) = R := ⟨_, rfl⟩
  rw [hR]
  obtain ⟨q1, hq1⟩ : ∃ q, (x.k == y.k) = q := ⟨_, rfl⟩
  obtain ⟨q2, hq2⟩ : ∃ q, (x.op == y.op) = q := ⟨_, rfl⟩
  obtain ⟨q3, hq3⟩ : ∃ q, (x.ln == y.ln) = q := ⟨_, rfl⟩
  obtain ⟨q4, hq4⟩ : ∃ q, (x.p == y.p && x.q == y.q) = q := ⟨_, rfl⟩
  obtain ⟨q5, hq5⟩ : ∃ q, (x.s.toList == y.s.toList) = q := ⟨_, rfl⟩
  obtain ⟨q6, hq6⟩ : ∃ q, eqL (fun a b => seN n (.inl (a, b))) x.args y.args = q := ⟨_, rfl⟩
  obtain ⟨q7, hq7⟩ : ∃ q, eqL (sfB n) x.funcs y.funcs = q := ⟨_, rfl⟩
  have HR : Hid ((q1 && (q2 && (q3 && (q4 && (q5 && (q6 && (q7))))))) = R) := by show _ = _; rw [← hR, ← hq1, ← hq2, ← hq3, ← hq4, ← hq5, ← hq6, ← hq7]; rfl
  have HA : Hid (∀ W, Below w.heap.size w W → Calls Try.prog 40 #[.slice x.aA x.args.length x.aC, .slice y.aA y.args.length y.aC] W fun e W' => e = .returned (.bool q6) ∧ Below W.heap.size W W') := fun W hW => by
    rw [← hq6]
    exact rexprs_p hX (fun x hx => by have := rkXs_mem hx; omega) hx.xs hy.xs W hW
  have HH : Hid (∀ k (h1 : k < x.funcs.length) (h2 : k < y.funcs.length) W, Below w.heap.size w W → Calls Try.prog 41 #[(x.funcs[k]).v, (y.funcs[k]).v] W fun e W' => e = .returned (.bool (sfB n x.funcs[k] y.funcs[k])) ∧ Below W.heap.size W W') := fun k k1 k2 W hW =>
    rsameFunc_p hL _ _ W (by have := rkFs_mem (List.getElem_mem k1); rw [rkF_eq] at this; omega) (((inFs_iff _).1 hx.fs.2.2 _ (List.getElem_mem k1)).st hW) (((inFs_iff _).1 hy.fs.2.2 _ (List.getElem_mem k2)).st hW)
  have HIX := Lib.hid hx
  have HIY := Lib.hid hy
  have hn : (x.funcs.length : Int) ≤ 9223372036854775807 := by have := hx.fs.1.1; have := hx.fs.1.2.1; omega
  have hn2 : (y.funcs.length : Int) ≤ 9223372036854775807 := by have := hy.fs.1.1; have := hy.fs.1.2.1; omega
  have hnum := fun u => ne_num x.p x.q y.p y.q u
  rw [hq4] at hnum
  have hb1 : (x.k != y.k) = !q1 := by rw [← hq1]; rfl
  have hb2 : (x.op != y.op) = !q2 := by rw [← hq2]; rfl
  have hb3 : (x.ln != y.ln) = !q3 := by rw [← hq3]; rfl
  have HV0 := Lib.hid (X8n.new x w 35)
  have HV1 : Hid (X8n (w.heap.size + 1) y ((w.alloc (.cells #[.int .i64 x.k, .int .i64 x.op, .int .i64 x.ln, .int .i64 x.p, .int .i64 x.q, .string x.s, .slice x.aA x.args.length x.aC, .slice x.fA x.funcs.length x.fC] 35)).alloc (.cells #[.int .i64 y.k, .int .i64 y.op, .int .i64 y.ln, .int .i64 y.p, .int .i64 y.q, .string y.s, .slice y.aA y.args.length y.aC, .slice y.fA y.funcs.length y.fC] 35))) := by
    have h := X8n.new y (w.alloc (.cells #[.int .i64 x.k, .int .i64 x.op, .int .i64 x.ln, .int .i64 x.p, .int .i64 x.q, .string x.s, .slice x.aA x.args.length x.aC, .slice x.fA x.funcs.length x.fC] 35)) 35
    rw [World.size_alloc] at h
    exact h
  have HQ7 := Lib.hid hq7
  clear hR hq4 hq6 hq7 hX hL hx hy hr
  by_cases hlen : y.funcs.length = x.funcs.length
  · have HLEN := Lib.hid hlen
    have hl1 : ((x.funcs.length : Int) != (y.funcs.length : Int)) = false := by rw [hlen]; simp
    have hl2 : (x.funcs.length != y.funcs.length) = false := by rw [hlen]; simp
    clear hlen
    obtain ⟨uF, huF⟩ : ∃ v, x.fA = v := ⟨_, rfl⟩
    obtain ⟨uG, huG⟩ : ∃ v, y.fA = v := ⟨_, rfl⟩
    cases q1 with
    | false =>
      obtain rfl : R = false := by rw [← HR.out]; simp
      clear HR
      go_enter Try.func16, Try.ntmps16
      go_wp2_with (first | (go_at_call 40; (with_reducible refine (HA.out _ ?_).mono ?_); (focus ((repeat' (first | (with_reducible exact Below.refl _ _) | (with_reducible assumption) | (with_reducible refine Below.alloc ?_ ?_ _) | (with_reducible refine below_drewN ?_ _) | (with_reducible refine Below.drew ?_) | (with_reducible refine Below.setCell ?_ ?_ _) | (with_reducible refine below_via (by assumption) ?_ ?_) | (with_reducible refine below_via (later_below _) ?_ ?_) | (with_reducible exact Nat.le_refl _) | omega | (simp; omega) | (simp; done))))); rintro e w1 ⟨rfl, hb⟩; clear HA; (refine mem hb ?_; intro N hN hz hc hf; (try simp at hN); subst hN)))
      go_returns
      refine ⟨rfl, ?_⟩
      (repeat' (first | (with_reducible exact Below.refl _ _) | (with_reducible assumption) | (with_reducible refine Below.alloc ?_ ?_ _) | (with_reducible refine below_drewN ?_ _) | (with_reducible refine Below.drew ?_) | (with_reducible refine Below.setCell ?_ ?_ _) | (with_reducible refine below_via (by assumption) ?_ ?_) | (with_reducible refine below_via (later_below _) ?_ ?_) | (with_reducible exact Nat.le_refl _) | omega | (simp; omega) | (simp; done)))
    | true =>
      cases q2 with
      | false =>
        obtain rfl : R = false := by rw [← HR.out]; simp
        clear HR
        go_enter Try.func16, Try.ntmps16
        go_wp2_with (first | (go_at_call 40; (with_reducible refine (HA.out _ ?_).mono ?_); (focus ((repeat' (first | (with_reducible exact Below.refl _ _) | (with_reducible assumption) | (with_reducible refine Below.alloc ?_ ?_ _) | (with_reducible refine below_drewN ?_ _) | (with_reducible refine Below.drew ?_) | (with_reducible refine Below.setCell ?_ ?_ _) | (with_reducible refine below_via (by assumption) ?_ ?_) | (with_reducible refine below_via (later_below _) ?_ ?_) | (with_reducible exact Nat.le_refl _) | omega | (simp; omega) | (simp; done))))); rintro e w1 ⟨rfl, hb⟩; clear HA; (refine mem hb ?_; intro N hN hz hc hf; (try simp at hN); subst hN)))
        go_returns
        refine ⟨rfl, ?_⟩
        (repeat' (first | (with_reducible exact Below.refl _ _) | (with_reducible assumption) | (with_reducible refine Below.alloc ?_ ?_ _) | (with_reducible refine below_drewN ?_ _) | (with_reducible refine Below.drew ?_) | (with_reducible refine Below.setCell ?_ ?_ _) | (with_reducible refine below_via (by assumption) ?_ ?_) | (with_reducible refine below_via (later_below _) ?_ ?_) | (with_reducible exact Nat.le_refl _) | omega | (simp; omega) | (simp; done)))
      | true =>
        cases q3 with
        | false =>
          obtain rfl : R = false := by rw [← HR.out]; simp
          clear HR
          go_enter Try.func16, Try.ntmps16
          go_wp2_with (first | (go_at_call 40; (with_reducible refine (HA.out _ ?_).mono ?_); (focus ((repeat' (first | (with_reducible exact Below.refl _ _) | (with_reducible assumption) | (with_reducible refine Below.alloc ?_ ?_ _) | (with_reducible refine below_drewN ?_ _) | (with_reducible refine Below.drew ?_) | (with_reducible refine Below.setCell ?_ ?_ _) | (with_reducible refine below_via (by assumption) ?_ ?_) | (with_reducible refine below_via (later_below _) ?_ ?_) | (with_reducible exact Nat.le_refl _) | omega | (simp; omega) | (simp; done))))); rintro e w1 ⟨rfl, hb⟩; clear HA; (refine mem hb ?_; intro N hN hz hc hf; (try simp at hN); subst hN)))
          go_returns
          refine ⟨rfl, ?_⟩
          (repeat' (first | (with_reducible exact Below.refl _ _) | (with_reducible assumption) | (with_reducible refine Below.alloc ?_ ?_ _) | (with_reducible refine below_drewN ?_ _) | (with_reducible refine Below.drew ?_) | (with_reducible refine Below.setCell ?_ ?_ _) | (with_reducible refine below_via (by assumption) ?_ ?_) | (with_reducible refine below_via (later_below _) ?_ ?_) | (with_reducible exact Nat.le_refl _) | omega | (simp; omega) | (simp; done)))
        | true =>
          cases q4 with
          | false =>
            obtain rfl : R = false := by rw [← HR.out]; simp
            clear HR
            go_enter Try.func16, Try.ntmps16
            go_wp2_with (first | (go_at_call 40; (with_reducible refine (HA.out _ ?_).mono ?_); (focus ((repeat' (first | (with_reducible exact Below.refl _ _) | (with_reducible assumption) | (with_reducible refine Below.alloc ?_ ?_ _) | (with_reducible refine below_drewN ?_ _) | (with_reducible refine Below.drew ?_) | (with_reducible refine Below.setCell ?_ ?_ _) | (with_reducible refine below_via (by assumption) ?_ ?_) | (with_reducible refine below_via (later_below _) ?_ ?_) | (with_reducible exact Nat.le_refl _) | omega | (simp; omega) | (simp; done))))); rintro e w1 ⟨rfl, hb⟩; clear HA; (refine mem hb ?_; intro N hN hz hc hf; (try simp at hN); subst hN)))
            go_returns
            refine ⟨rfl, ?_⟩
            (repeat' (first | (with_reducible exact Below.refl _ _) | (with_reducible assumption) | (with_reducible refine Below.alloc ?_ ?_ _) | (with_reducible refine below_drewN ?_ _) | (with_reducible refine Below.drew ?_) | (with_reducible refine Below.setCell ?_ ?_ _) | (with_reducible refine below_via (by assumption) ?_ ?_) | (with_reducible refine below_via (later_below _) ?_ ?_) | (with_reducible exact Nat.le_refl _) | omega | (simp; omega) | (simp; done)))
          | true =>
            cases q5 with
            | false =>
              obtain rfl : R = false := by rw [← HR.out]; simp
              clear HR
              go_enter Try.func16, Try.ntmps16
              go_wp2_with (first | (go_at_call 40; (with_reducible refine (HA.out _ ?_).mono ?_); (focus ((repeat' (first | (with_reducible exact Below.refl _ _) | (with_reducible assumption) | (with_reducible refine Below.alloc ?_ ?_ _) | (with_reducible refine below_drewN ?_ _) | (with_reducible refine Below.drew ?_) | (with_reducible refine Below.setCell ?_ ?_ _) | (with_reducible refine below_via (by assumption) ?_ ?_) | (with_reducible refine below_via (later_below _) ?_ ?_) | (with_reducible exact Nat.le_refl _) | omega | (simp; omega) | (simp; done))))); rintro e w1 ⟨rfl, hb⟩; clear HA; (refine mem hb ?_; intro N hN hz hc hf; (try simp at hN); subst hN)))
              go_returns
              refine ⟨rfl, ?_⟩
              (repeat' (first | (with_reducible exact Below.refl _ _) | (with_reducible assumption) | (with_reducible refine Below.alloc ?_ ?_ _) | (with_reducible refine below_drewN ?_ _) | (with_reducible refine Below.drew ?_) | (with_reducible refine Below.setCell ?_ ?_ _) | (with_reducible refine below_via (by assumption) ?_ ?_) | (with_reducible refine below_via (later_below _) ?_ ?_) | (with_reducible exact Nat.le_refl _) | omega | (simp; omega) | (simp; done)))
            | true =>
              cases q6 with
              | false =>
                obtain rfl : R = false := by rw [← HR.out]; simp
                clear HR
                go_enter Try.func16, Try.ntmps16
                go_wp2_with (first | (go_at_call 40; (with_reducible refine (HA.out _ ?_).mono ?_); (focus ((repeat' (first | (with_reducible exact Below.refl _ _) | (with_reducible assumption) | (with_reducible refine Below.alloc ?_ ?_ _) | (with_reducible refine below_drewN ?_ _) | (with_reducible refine Below.drew ?_) | (with_reducible refine Below.setCell ?_ ?_ _) | (with_reducible refine below_via (by assumption) ?_ ?_) | (with_reducible refine below_via (later_below _) ?_ ?_) | (with_reducible exact Nat.le_refl _) | omega | (simp; omega) | (simp; done))))); rintro e w1 ⟨rfl, hb⟩; clear HA; (refine mem hb ?_; intro N hN hz hc hf; (try simp at hN); subst hN)))
                go_returns
                refine ⟨rfl, ?_⟩
                (repeat' (first | (with_reducible exact Below.refl _ _) | (with_reducible assumption) | (with_reducible refine Below.alloc ?_ ?_ _) | (with_reducible refine below_drewN ?_ _) | (with_reducible refine Below.drew ?_) | (with_reducible refine Below.setCell ?_ ?_ _) | (with_reducible refine below_via (by assumption) ?_ ?_) | (with_reducible refine below_via (later_below _) ?_ ?_) | (with_reducible exact Nat.le_refl _) | omega | (simp; omega) | (simp; done)))
              | true =>
                go_enter Try.func16, Try.ntmps16
                go_wp2_with (first | (go_at_call 40; (with_reducible refine (HA.out _ ?_).mono ?_); (focus ((repeat' (first | (with_reducible exact Below.refl _ _) | (with_reducible assumption) | (with_reducible refine Below.alloc ?_ ?_ _) | (with_reducible refine below_drewN ?_ _) | (with_reducible refine Below.drew ?_) | (with_reducible refine Below.setCell ?_ ?_ _) | (with_reducible refine below_via (by assumption) ?_ ?_) | (with_reducible refine below_via (later_below _) ?_ ?_) | (with_reducible exact Nat.le_refl _) | omega | (simp; omega) | (simp; done))))); rintro e w1 ⟨rfl, hb⟩; have hbA := hb; clear HA; (refine mem hb ?_; intro N hN hz hc hf; (try simp at hN); subst hN)))
                go_loopw [5] (fun i wr => ∃ k : Nat, k ≤ x.funcs.length ∧ i = .int .i64 k ∧ Hid (Below w.heap.size w wr) ∧ Hid (X8n w.heap.size x wr) ∧ Hid (X8n (w.heap.size + 1) y wr) ∧ Hid (∀ i (h1 : i < x.funcs.length) (h2 : i < y.funcs.length), i < k → sfB n x.funcs[i] y.funcs[i] = true)) (fun i _ => x.funcs.length - (intOf i).toNat)
                case atStart =>
                  refine ⟨0, Nat.zero_le _, rfl, ?_, ?_, ?_, fun i _ _ h => by omega⟩
                  · show Below _ _ _; (repeat' (first | (with_reducible exact Below.refl _ _) | (with_reducible assumption) | (with_reducible refine Below.alloc ?_ ?_ _) | (with_reducible refine below_drewN ?_ _) | (with_reducible refine Below.drew ?_) | (with_reducible refine Below.setCell ?_ ?_ _) | (with_reducible refine below_via (by assumption) ?_ ?_) | (with_reducible refine below_via (later_below _) ?_ ?_) | (with_reducible exact Nat.le_refl _) | omega | (simp; omega) | (simp; done)))
                  · show X8n _ _ _
                    simp only [← huF, ← huG] at hbA
                    exact (HV0.out.kept (a := 0) (b := 0) (kept_of ((Below.refl _ _).alloc (Nat.le_refl _) _) (Nat.zero_le _)) (Nat.zero_le _)).kept (kept_of hbA (Nat.zero_le _)) (Nat.zero_le _)
                  · show X8n _ _ _
                    simp only [← huF, ← huG] at hbA
                    exact HV1.out.kept (a := 0) (b := 0) (kept_of hbA (Nat.zero_le _)) (Nat.zero_le _)
                case round =>
                  clear hc hf hb hz hbA
                  obtain ⟨k, hk, rfl, HE, HV, HY, HZ⟩ := hrel
                  obtain ⟨e0, e1, e2, e3, e4, e5, e6, e7⟩ := HV.out
                  obtain ⟨g0, g1, g2, g3, g4, g5, g6, g7⟩ := HY.out
                  have hzr := cell_lt g7
                  have hs0 := HE.out.size
                  rw [huF] at e7
                  rw [huG] at g7
                  by_cases hlt : k < x.funcs.length
                  · have hltm : k < y.funcs.length := by have := HLEN.out; omega
                    obtain ⟨b1, o1, ha1, hb1, hc1, hi1⟩ := (HIX.out.fs.still (still_of HE.out (Nat.le_refl _)) (Nat.le_refl _)).at_ hlt
                    obtain ⟨b2, o2, ha2, hb2, hc2, hi2⟩ := (HIY.out.fs.still (still_of HE.out (Nat.le_refl _)) (Nat.le_refl _)).at_ hltm
                    rw [huF] at ha1
                    rw [huG] at ha2
                    subst ha1 ha2
                    have HC := Lib.hid (HH.out k hlt hltm)
                    obtain ⟨f, hf⟩ : ∃ f, x.funcs[k] = f := ⟨_, rfl⟩
                    obtain ⟨g, hg⟩ : ∃ g, y.funcs[k] = g := ⟨_, rfl⟩
                    obtain ⟨q, hq⟩ : ∃ q, sfB n x.funcs[k] y.funcs[k] = q := ⟨_, rfl⟩
                    have HQ := Lib.hid hq
                    rw [hq, hf, hg] at HC
                    rw [hf] at hc1
                    rw [hg] at hc2
                    clear hf hg hq hi1 hi2
                    obtain ⟨c0, c1, c2, c3, c4⟩ := hc1
                    obtain ⟨d0, d1, d2, d3, d4⟩ := hc2
                    have hbl1 := cell_lt c0
                    have hbl2 := cell_lt d0
                    cases q with
                    | true =>
                      go_wp2_with fail
                      (refine wp_region_calm (by kernel_rfl) (by kernel_rfl) ?_; refine calm_mem ?_; intro N hN hne hcu; (try simp at hN); subst hN; (repeat ((refine wpQuiet_step (fun K hK => ?_)); go_simp; (repeat (simp only [↓IntWalk.iteOmega]; go_simp)); (first | (refine hK _ ?_; clear hK K) | (apply Exists.intro; refine ⟨fun _ => ?_, hK _ ?_⟩; ((go_at_call 41; exact calm_of (HC.out _ (HE.out.trans (Below.mono (Subtype.property _) hs0))))); clear hK K)))); refine wpQuiet_nil ?_; intro _ hw'; obtain ⟨⟨w1, hb⟩, hw''⟩ := hw'; subst hw''; clear hcu hne; (try dsimp only); (refine mem hb ?_; intro N hN hz hc hf; (try simp at hN); subst hN))
                      have hbB := hb
                      go_wp2_with fail
                      refine ⟨⟨k + 1, by omega, by go_num, ?_, ?_, ?_, ?_⟩, by simp [intOf]; omega⟩
                      · show Below _ _ _; have h0 := HE.out; (repeat' (first | (with_reducible exact Below.refl _ _) | (with_reducible assumption) | (with_reducible refine Below.alloc ?_ ?_ _) | (with_reducible refine below_drewN ?_ _) | (with_reducible refine Below.drew ?_) | (with_reducible refine Below.setCell ?_ ?_ _) | (with_reducible refine below_via (by assumption) ?_ ?_) | (with_reducible refine below_via (later_below _) ?_ ?_) | (with_reducible exact Nat.le_refl _) | omega | (simp; omega) | (simp; done)))
                      · exact HV.out.kept (kept_of (a := 0) (b := 0) hbB (Nat.zero_le _)) (Nat.zero_le _)
                      · exact HY.out.kept (kept_of (a := 0) (b := 0) hbB (Nat.zero_le _)) (Nat.zero_le _)
                      · intro i h1 h2 hik
                        by_cases h : i = k
                        · subst h; exact HQ.out
                        · exact HZ.out i h1 h2 (by omega)
                    | false =>
                      go_wp2_with fail
                      (refine wp_region_calm (by kernel_rfl) (by kernel_rfl) ?_; refine calm_mem ?_; intro N hN hne hcu; (try simp at hN); subst hN; (repeat ((refine wpQuiet_step (fun K hK => ?_)); go_simp; (repeat (simp only [↓IntWalk.iteOmega]; go_simp)); (first | (refine hK _ ?_; clear hK K) | (apply Exists.intro; refine ⟨fun _ => ?_, hK _ ?_⟩; ((go_at_call 41; exact calm_of (HC.out _ (HE.out.trans (Below.mono (Subtype.property _) hs0))))); clear hK K)))); refine wpQuiet_nil ?_; intro _ hw'; obtain ⟨⟨w1, hb⟩, hw''⟩ := hw'; subst hw''; clear hcu hne; (try dsimp only); (refine mem hb ?_; intro N hN hz hc hf; (try simp at hN); subst hN))
                      go_wp2_with fail
                      go_returns
                      have e : R = false := by rw [← HR.out, ← HQ7.out, eqL_at hlt hltm HQ.out]; simp
                      rw [e]
                      refine ⟨rfl, ?_⟩
                      have h0 := HE.out
                      (repeat' (first | (with_reducible exact Below.refl _ _) | (with_reducible assumption) | (with_reducible refine Below.alloc ?_ ?_ _) | (with_reducible refine below_drewN ?_ _) | (with_reducible refine Below.drew ?_) | (with_reducible refine Below.setCell ?_ ?_ _) | (with_reducible refine below_via (by assumption) ?_ ?_) | (with_reducible refine below_via (later_below _) ?_ ?_) | (with_reducible exact Nat.le_refl _) | omega | (simp; omega) | (simp; done)))
                  · obtain rfl : k = x.funcs.length := by omega
                    go_wp2_with fail
                    go_returns
                    have e : R = true := by rw [← HR.out, ← HQ7.out, eqL_all HLEN.out (fun i h => HZ.out i h (by have := HLEN.out; omega) h)]; simp
                    rw [e]
                    exact ⟨rfl, HE.out⟩
  · have hlen2 : ¬ x.funcs.length = y.funcs.length := fun h => hlen h.symm
    obtain rfl : q7 = false := by rw [← HQ7.out]; exact eqL_len hlen2
    obtain rfl : R = false := by rw [← HR.out]; simp
    clear HR HQ7 HH HIX HIY HV0 HV1
    cases q1 with
    | false =>
      go_enter Try.func16, Try.ntmps16
      go_wp2_with (first | (go_at_call 40; (with_reducible refine (HA.out _ ?_).mono ?_); (focus ((repeat' (first | (with_reducible exact Below.refl _ _) | (with_reducible assumption) | (with_reducible refine Below.alloc ?_ ?_ _) | (with_reducible refine below_drewN ?_ _) | (with_reducible refine Below.drew ?_) | (with_reducible refine Below.setCell ?_ ?_ _) | (with_reducible refine below_via (by assumption) ?_ ?_) | (with_reducible refine below_via (later_below _) ?_ ?_) | (with_reducible exact Nat.le_refl _) | omega | (simp; omega) | (simp; done))))); rintro e w1 ⟨rfl, hb⟩; clear HA; (refine mem hb ?_; intro N hN hz hc hf; (try simp at hN); subst hN)))
      go_returns
      refine ⟨rfl, ?_⟩
      (repeat' (first | (with_reducible exact Below.refl _ _) | (with_reducible assumption) | (with_reducible refine Below.alloc ?_ ?_ _) | (with_reducible refine below_drewN ?_ _) | (with_reducible refine Below.drew ?_) | (with_reducible refine Below.setCell ?_ ?_ _) | (with_reducible refine below_via (by assumption) ?_ ?_) | (with_reducible refine below_via (later_below _) ?_ ?_) | (with_reducible exact Nat.le_refl _) | omega | (simp; omega) | (simp; done)))
    | true =>
      cases q2 with
      | false =>
        go_enter Try.func16, Try.ntmps16
        go_wp2_with (first | (go_at_call 40; (with_reducible refine (HA.out _ ?_).mono ?_); (focus ((repeat' (first | (with_reducible exact Below.refl _ _) | (with_reducible assumption) | (with_reducible refine Below.alloc ?_ ?_ _) | (with_reducible refine below_drewN ?_ _) | (with_reducible refine Below.drew ?_) | (with_reducible refine Below.setCell ?_ ?_ _) | (with_reducible refine below_via (by assumption) ?_ ?_) | (with_reducible refine below_via (later_below _) ?_ ?_) | (with_reducible exact Nat.le_refl _) | omega | (simp; omega) | (simp; done))))); rintro e w1 ⟨rfl, hb⟩; clear HA; (refine mem hb ?_; intro N hN hz hc hf; (try simp at hN); subst hN)))
        go_returns
        refine ⟨rfl, ?_⟩
        (repeat' (first | (with_reducible exact Below.refl _ _) | (with_reducible assumption) | (with_reducible refine Below.alloc ?_ ?_ _) | (with_reducible refine below_drewN ?_ _) | (with_reducible refine Below.drew ?_) | (with_reducible refine Below.setCell ?_ ?_ _) | (with_reducible refine below_via (by assumption) ?_ ?_) | (with_reducible refine below_via (later_below _) ?_ ?_) | (with_reducible exact Nat.le_refl _) | omega | (simp; omega) | (simp; done)))
      | true =>
        cases q3 with
        | false =>
          go_enter Try.func16, Try.ntmps16
          go_wp2_with (first | (go_at_call 40; (with_reducible refine (HA.out _ ?_).mono ?_); (focus ((repeat' (first | (with_reducible exact Below.refl _ _) | (with_reducible assumption) | (with_reducible refine Below.alloc ?_ ?_ _) | (with_reducible refine below_drewN ?_ _) | (with_reducible refine Below.drew ?_) | (with_reducible refine Below.setCell ?_ ?_ _) | (with_reducible refine below_via (by assumption) ?_ ?_) | (with_reducible refine below_via (later_below _) ?_ ?_) | (with_reducible exact Nat.le_refl _) | omega | (simp; omega) | (simp; done))))); rintro e w1 ⟨rfl, hb⟩; clear HA; (refine mem hb ?_; intro N hN hz hc hf; (try simp at hN); subst hN)))
          go_returns
          refine ⟨rfl, ?_⟩
          (repeat' (first | (with_reducible exact Below.refl _ _) | (with_reducible assumption) | (with_reducible refine Below.alloc ?_ ?_ _) | (with_reducible refine below_drewN ?_ _) | (with_reducible refine Below.drew ?_) | (with_reducible refine Below.setCell ?_ ?_ _) | (with_reducible refine below_via (by assumption) ?_ ?_) | (with_reducible refine below_via (later_below _) ?_ ?_) | (with_reducible exact Nat.le_refl _) | omega | (simp; omega) | (simp; done)))
        | true =>
          cases q4 with
          | false =>
            go_enter Try.func16, Try.ntmps16
            go_wp2_with (first | (go_at_call 40; (with_reducible refine (HA.out _ ?_).mono ?_); (focus ((repeat' (first | (with_reducible exact Below.refl _ _) | (with_reducible assumption) | (with_reducible refine Below.alloc ?_ ?_ _) | (with_reducible refine below_drewN ?_ _) | (with_reducible refine Below.drew ?_) | (with_reducible refine Below.setCell ?_ ?_ _) | (with_reducible refine below_via (by assumption) ?_ ?_) | (with_reducible refine below_via (later_below _) ?_ ?_) | (with_reducible exact Nat.le_refl _) | omega | (simp; omega) | (simp; done))))); rintro e w1 ⟨rfl, hb⟩; clear HA; (refine mem hb ?_; intro N hN hz hc hf; (try simp at hN); subst hN)))
            go_returns
            refine ⟨rfl, ?_⟩
            (repeat' (first | (with_reducible exact Below.refl _ _) | (with_reducible assumption) | (with_reducible refine Below.alloc ?_ ?_ _) | (with_reducible refine below_drewN ?_ _) | (with_reducible refine Below.drew ?_) | (with_reducible refine Below.setCell ?_ ?_ _) | (with_reducible refine below_via (by assumption) ?_ ?_) | (with_reducible refine below_via (later_below _) ?_ ?_) | (with_reducible exact Nat.le_refl _) | omega | (simp; omega) | (simp; done)))
          | true =>
            cases q5 with
            | false =>
              go_enter Try.func16, Try.ntmps16
              go_wp2_with (first | (go_at_call 40; (with_reducible refine (HA.out _ ?_).mono ?_); (focus ((repeat' (first | (with_reducible exact Below.refl _ _) | (with_reducible assumption) | (with_reducible refine Below.alloc ?_ ?_ _) | (with_reducible refine below_drewN ?_ _) | (with_reducible refine Below.drew ?_) | (with_reducible refine Below.setCell ?_ ?_ _) | (with_reducible refine below_via (by assumption) ?_ ?_) | (with_reducible refine below_via (later_below _) ?_ ?_) | (with_reducible exact Nat.le_refl _) | omega | (simp; omega) | (simp; done))))); rintro e w1 ⟨rfl, hb⟩; clear HA; (refine mem hb ?_; intro N hN hz hc hf; (try simp at hN); subst hN)))
              go_returns
              refine ⟨rfl, ?_⟩
              (repeat' (first | (with_reducible exact Below.refl _ _) | (with_reducible assumption) | (with_reducible refine Below.alloc ?_ ?_ _) | (with_reducible refine below_drewN ?_ _) | (with_reducible refine Below.drew ?_) | (with_reducible refine Below.setCell ?_ ?_ _) | (with_reducible refine below_via (by assumption) ?_ ?_) | (with_reducible refine below_via (later_below _) ?_ ?_) | (with_reducible exact Nat.le_refl _) | omega | (simp; omega) | (simp; done)))
            | true =>
              cases q6 with
              | false =>
                go_enter Try.func16, Try.ntmps16
                go_wp2_with (first | (go_at_call 40; (with_reducible refine (HA.out _ ?_).mono ?_); (focus ((repeat' (first | (with_reducible exact Below.refl _ _) | (with_reducible assumption) | (with_reducible refine Below.alloc ?_ ?_ _) | (with_reducible refine below_drewN ?_ _) | (with_reducible refine Below.drew ?_) | (with_reducible refine Below.setCell ?_ ?_ _) | (with_reducible refine below_via (by assumption) ?_ ?_) | (with_reducible refine below_via (later_below _) ?_ ?_) | (with_reducible exact Nat.le_refl _) | omega | (simp; omega) | (simp; done))))); rintro e w1 ⟨rfl, hb⟩; clear HA; (refine mem hb ?_; intro N hN hz hc hf; (try simp at hN); subst hN)))
                go_returns
                refine ⟨rfl, ?_⟩
                (repeat' (first | (with_reducible exact Below.refl _ _) | (with_reducible assumption) | (with_reducible refine Below.alloc ?_ ?_ _) | (with_reducible refine below_drewN ?_ _) | (with_reducible refine Below.drew ?_) | (with_reducible refine Below.setCell ?_ ?_ _) | (with_reducible refine below_via (by assumption) ?_ ?_) | (with_reducible refine below_via (later_below _) ?_ ?_) | (with_reducible exact Nat.le_refl _) | omega | (simp; omega) | (simp; done)))
              | true =>
                go_enter Try.func16, Try.ntmps16
                go_wp2_with (first | (go_at_call 40; (with_reducible refine (HA.out _ ?_).mono ?_); (focus ((repeat' (first | (with_reducible exact Below.refl _ _) | (with_reducible assumption) | (with_reducible refine Below.alloc ?_ ?_ _) | (with_reducible refine below_drewN ?_ _) | (with_reducible refine Below.drew ?_) | (with_reducible refine Below.setCell ?_ ?_ _) | (with_reducible refine below_via (by assumption) ?_ ?_) | (with_reducible refine below_via (later_below _) ?_ ?_) | (with_reducible exact Nat.le_refl _) | omega | (simp; omega) | (simp; done))))); rintro e w1 ⟨rfl, hb⟩; clear HA; (refine mem hb ?_; intro N hN hz hc hf; (try simp at hN); subst hN)))
                go_returns
                refine ⟨rfl, ?_⟩
                (repeat' (first | (with_reducible exact Below.refl _ _) | (with_reducible assumption) | (with_reducible refine Below.alloc ?_ ?_ _) | (with_reducible refine below_drewN ?_ _) | (with_reducible refine Below.drew ?_) | (with_reducible refine Below.setCell ?_ ?_ _) | (with_reducible refine below_via (by assumption) ?_ ?_) | (with_reducible refine below_via (later_below _) ?_ ?_) | (with_reducible exact Nat.le_refl _) | omega | (simp; omega) | (simp; done)))
end Go.Proofs.Ythkpggpnbdedjaa

/- The reference's sameStat; Same and SameExpr whole. -/
namespace Go.Proofs.Ythkpggpnbdedjaa
open Go.RowKit Go.Instr
set_option linter.unusedVariables false

set_option maxHeartbeats 6400000 in
set_option maxRecDepth 100000 in
theorem rsameStat_p {n : Nat} (hX : RxP n) (hL : RlP n) (s t : TS) (w : World) (hr : rkS s ≤ n) (hs : InS w w.heap.size s) (ht : InS w w.heap.size t) :
    Calls Try.prog 46 #[s.v, t.v] w fun e W' => e = .returned (.bool (ssB n s t)) ∧ Below w.heap.size w W' := by
  rw [rkS_eq] at hr
  obtain ⟨R, hR⟩ : ∃ R, ssB n s t = R := ⟨_, rfl⟩
  rw [hR]
  obtain ⟨q1, hq1⟩ : ∃ q, (s.k == t.k) = q := ⟨_, rfl⟩
  obtain ⟨q2, hq2⟩ : ∃ q, (s.ln == t.ln) = q := ⟨_, rfl⟩
  obtain ⟨q3, hq3⟩ : ∃ q, (s.label.toList == t.label.toList) = q := ⟨_, rfl⟩
  obtain ⟨q4, hq4⟩ : ∃ q, eqL eqLo s.names t.names = q := ⟨_, rfl⟩
  obtain ⟨q5, hq5⟩ : ∃ q, eqL (fun a b => seN n (.inl (a, b))) s.left t.left = q := ⟨_, rfl⟩
  obtain ⟨q6, hq6⟩ : ∃ q, eqL (fun a b => seN n (.inl (a, b))) s.right t.right = q := ⟨_, rfl⟩
  obtain ⟨q7, hq7⟩ : ∃ q, eqL (fun a b => seN n (.inr (a.l, b.l))) s.blocks t.blocks = q := ⟨_, rfl⟩
  have HR : Hid ((q1 && (q2 && (q3 && (q4 && (q5 && (q6 && (q7))))))) = R) := by show _ = _; rw [← hR, ← hq1, ← hq2, ← hq3, ← hq4, ← hq5, ← hq6, ← hq7]; rfl
  have HN : Hid (∀ W, Below w.heap.size w W → Calls Try.prog 63 #[.slice s.nA s.names.length s.nC, .slice t.nA t.names.length t.nC] W fun e W' => e = .returned (.bool q4) ∧ Below W.heap.size W W') := fun W hW => by
    rw [← hq4]
    exact rlocs_any _ _ _ _ _ _ W.heap.size W ((inS_iff s).1 (hs.st hW)).1.ni ((inS_iff s).1 (hs.st hW)).1.nAt ((inS_iff t).1 (ht.st hW)).1.ni ((inS_iff t).1 (ht.st hW)).1.nAt (Nat.le_refl _)
  have HA : Hid (∀ W, Below w.heap.size w W → Calls Try.prog 40 #[.slice s.lA s.left.length s.lC, .slice t.lA t.left.length t.lC] W fun e W' => e = .returned (.bool q5) ∧ Below W.heap.size W W') := fun W hW => by
    rw [← hq5]
    exact rexprs_p hX (fun x hx => by have := rkXs_mem hx; omega) hs.lf ht.lf W hW
  have HB : Hid (∀ W, Below w.heap.size w W → Calls Try.prog 40 #[.slice s.rA s.right.length s.rC, .slice t.rA t.right.length t.rC] W fun e W' => e = .returned (.bool q6) ∧ Below W.heap.size W W') := fun W hW => by
    rw [← hq6]
    exact rexprs_p hX (fun x hx => by have := rkXs_mem hx; omega) hs.rt ht.rt W hW
  have HH : Hid (∀ k (h1 : k < s.blocks.length) (h2 : k < t.blocks.length) W, Below w.heap.size w W → Calls Try.prog 25 #[(s.blocks[k]).v, (t.blocks[k]).v] W fun e W' => e = .returned (.bool (seN n (.inr (s.blocks[k].l, t.blocks[k].l)))) ∧ Below W.heap.size W W') := fun k k1 k2 W hW =>
    hL _ _ _ _ _ _ W (by have := rkBs_mem (List.getElem_mem k1); rw [rkB_eq] at this; omega) (((inBs_iff _).1 hs.bs.2.2 _ (List.getElem_mem k1)).ss.st hW) (((inBs_iff _).1 ht.bs.2.2 _ (List.getElem_mem k2)).ss.st hW)
  have HIX := Lib.hid hs
  have HIY := Lib.hid ht
  have hn : (s.blocks.length : Int) ≤ 9223372036854775807 := by have := hs.bs.1.1; have := hs.bs.1.2.1; omega
  have hn2 : (t.blocks.length : Int) ≤ 9223372036854775807 := by have := ht.bs.1.1; have := ht.bs.1.2.1; omega
  have hb1 : (s.k != t.k) = !q1 := by rw [← hq1]; rfl
  have hb2 : (s.ln != t.ln) = !q2 := by rw [← hq2]; rfl
  have HV0 := Lib.hid (S7n.new s w 54)
  have HV1 : Hid (S7n (w.heap.size + 1) t ((w.alloc (.cells #[.int .i64 s.k, .int .i64 s.ln, .slice s.nA s.names.length s.nC, .slice s.lA s.left.length s.lC, .slice s.rA s.right.length s.rC, .slice s.bA s.blocks.length s.bC, .string s.label] 54)).alloc (.cells #[.int .i64 t.k, .int .i64 t.ln, .slice t.nA t.names.length t.nC, .slice t.lA t.left.length t.lC, .slice t.rA t.right.length t.rC, .slice t.bA t.blocks.length t.bC, .string t.label] 54))) := by
    have h := S7n.new t (w.alloc (.cells #[.int .i64 s.k, .int .i64 s.ln, .slice s.nA s.names.length s.nC, .slice s.lA s.left.length s.lC, .slice s.rA s.right.length s.rC, .slice s.bA s.blocks.length s.bC, .string s.label] 54)) 54
    rw [World.size_alloc] at h
    exact h
  have HQ7 := Lib.hid hq7
  clear hR hq4 hq5 hq6 hq7 hX hL hs ht hr
  by_cases hlen : t.blocks.length = s.blocks.length
  · have HLEN := Lib.hid hlen
    have hl1 : ((s.blocks.length : Int) != (t.blocks.length : Int)) = false := by rw [hlen]; simp
    have hl2 : (s.blocks.length != t.blocks.length) = false := by rw [hlen]; simp
    clear hlen
    obtain ⟨uF, huF⟩ : ∃ v, s.bA = v := ⟨_, rfl⟩
    obtain ⟨uG, huG⟩ : ∃ v, t.bA = v := ⟨_, rfl⟩
    cases q1 with
    | false =>
      obtain rfl : R = false := by rw [← HR.out]; simp
      clear HR
      go_enter Try.func46, Try.ntmps46
      go_wp2_with (first | (go_at_call 63; (with_reducible refine (HN.out _ ?_).mono ?_); (focus ((repeat' (first | (with_reducible exact Below.refl _ _) | (with_reducible assumption) | (with_reducible refine Below.alloc ?_ ?_ _) | (with_reducible refine below_drewN ?_ _) | (with_reducible refine Below.drew ?_) | (with_reducible refine Below.setCell ?_ ?_ _) | (with_reducible refine below_via (by assumption) ?_ ?_) | (with_reducible refine below_via (later_below _) ?_ ?_) | (with_reducible exact Nat.le_refl _) | omega | (simp; omega) | (simp; done))))); rintro e w1 ⟨rfl, hb⟩; clear HN; (refine mem hb ?_; intro N hN hz hc hf; (try simp at hN); subst hN)) | (go_at_call 40; (with_reducible refine (HA.out _ ?_).mono ?_); (focus ((repeat' (first | (with_reducible exact Below.refl _ _) | (with_reducible assumption) | (with_reducible refine Below.alloc ?_ ?_ _) | (with_reducible refine below_drewN ?_ _) | (with_reducible refine Below.drew ?_) | (with_reducible refine Below.setCell ?_ ?_ _) | (with_reducible refine below_via (by assumption) ?_ ?_) | (with_reducible refine below_via (later_below _) ?_ ?_) | (with_reducible exact Nat.le_refl _) | omega | (simp; omega) | (simp; done))))); rintro e w1 ⟨rfl, hb⟩; clear HA; (refine mem hb ?_; intro N hN hz hc hf; (try simp at hN); subst hN)) | (go_at_call 40; (with_reducible refine (HB.out _ ?_).mono ?_); (focus ((repeat' (first | (with_reducible exact Below.refl _ _) | (with_reducible assumption) | (with_reducible refine Below.alloc ?_ ?_ _) | (with_reducible refine below_drewN ?_ _) | (with_reducible refine Below.drew ?_) | (with_reducible refine Below.setCell ?_ ?_ _) | (with_reducible refine below_via (by assumption) ?_ ?_) | (with_reducible refine below_via (later_below _) ?_ ?_) | (with_reducible exact Nat.le_refl _) | omega | (simp; omega) | (simp; done))))); rintro e w1 ⟨rfl, hb⟩; clear HB; (refine mem hb ?_; intro N hN hz hc hf; (try simp at hN); subst hN)))
      go_returns
      refine ⟨rfl, ?_⟩
      (repeat' (first | (with_reducible exact Below.refl _ _) | (with_reducible assumption) | (with_reducible refine Below.alloc ?_ ?_ _) | (with_reducible refine below_drewN ?_ _) | (with_reducible refine Below.drew ?_) | (with_reducible refine Below.setCell ?_ ?_ _) | (with_reducible refine below_via (by assumption) ?_ ?_) | (with_reducible refine below_via (later_below _) ?_ ?_) | (with_reducible exact Nat.le_refl _) | omega | (simp; omega) | (simp; done)))
    | true =>
      cases q2 with
      | false =>
        obtain rfl : R = false := by rw [← HR.out]; simp
        clear HR
        go_enter Try.func46, Try.ntmps46
        go_wp2_with (first | (go_at_call 63; (with_reducible refine (HN.out _ ?_).mono ?_); (focus ((repeat' (first | (with_reducible exact Below.refl _ _) | (with_reducible assumption) | (with_reducible refine Below.alloc ?_ ?_ _) | (with_reducible refine below_drewN ?_ _) | (with_reducible refine Below.drew ?_) | (with_reducible refine Below.setCell ?_ ?_ _) | (with_reducible refine below_via (by assumption) ?_ ?_) | (with_reducible refine below_via (later_below _) ?_ ?_) | (with_reducible exact Nat.le_refl _) | omega | (simp; omega) | (simp; done))))); rintro e w1 ⟨rfl, hb⟩; clear HN; (refine mem hb ?_; intro N hN hz hc hf; (try simp at hN); subst hN)) | (go_at_call 40; (with_reducible refine (HA.out _ ?_).mono ?_); (focus ((repeat' (first | (with_reducible exact Below.refl _ _) | (with_reducible assumption) | (with_reducible refine Below.alloc ?_ ?_ _) | (with_reducible refine below_drewN ?_ _) | (with_reducible refine Below.drew ?_) | (with_reducible refine Below.setCell ?_ ?_ _) | (with_reducible refine below_via (by assumption) ?_ ?_) | (with_reducible refine below_via (later_below _) ?_ ?_) | (with_reducible exact Nat.le_refl _) | omega | (simp; omega) | (simp; done))))); rintro e w1 ⟨rfl, hb⟩; clear HA; (refine mem hb ?_; intro N hN hz hc hf; (try simp at hN); subst hN)) | (go_at_call 40; (with_reducible refine (HB.out _ ?_).mono ?_); (focus ((repeat' (first | (with_reducible exact Below.refl _ _) | (with_reducible assumption) | (with_reducible refine Below.alloc ?_ ?_ _) | (with_reducible refine below_drewN ?_ _) | (with_reducible refine Below.drew ?_) | (with_reducible refine Below.setCell ?_ ?_ _) | (with_reducible refine below_via (by assumption) ?_ ?_) | (with_reducible refine below_via (later_below _) ?_ ?_) | (with_reducible exact Nat.le_refl _) | omega | (simp; omega) | (simp; done))))); rintro e w1 ⟨rfl, hb⟩; clear HB; (refine mem hb ?_; intro N hN hz hc hf; (try simp at hN); subst hN)))
        go_returns
        refine ⟨rfl, ?_⟩
        (repeat' (first | (with_reducible exact Below.refl _ _) | (with_reducible assumption) | (with_reducible refine Below.alloc ?_ ?_ _) | (with_reducible refine below_drewN ?_ _) | (with_reducible refine Below.drew ?_) | (with_reducible refine Below.setCell ?_ ?_ _) | (with_reducible refine below_via (by assumption) ?_ ?_) | (with_reducible refine below_via (later_below _) ?_ ?_) | (with_reducible exact Nat.le_refl _) | omega | (simp; omega) | (simp; done)))
      | true =>
        cases q3 with
        | false =>
          obtain rfl : R = false := by rw [← HR.out]; simp
          clear HR
          go_enter Try.func46, Try.ntmps46
          go_wp2_with (first | (go_at_call 63; (with_reducible refine (HN.out _ ?_).mono ?_); (focus ((repeat' (first | (with_reducible exact Below.refl _ _) | (with_reducible assumption) | (with_reducible refine Below.alloc ?_ ?_ _) | (with_reducible refine below_drewN ?_ _) | (with_reducible refine Below.drew ?_) | (with_reducible refine Below.setCell ?_ ?_ _) | (with_reducible refine below_via (by assumption) ?_ ?_) | (with_reducible refine below_via (later_below _) ?_ ?_) | (with_reducible exact Nat.le_refl _) | omega | (simp; omega) | (simp; done))))); rintro e w1 ⟨rfl, hb⟩; clear HN; (refine mem hb ?_; intro N hN hz hc hf; (try simp at hN); subst hN)) | (go_at_call 40; (with_reducible refine (HA.out _ ?_).mono ?_); (focus ((repeat' (first | (with_reducible exact Below.refl _ _) | (with_reducible assumption) | (with_reducible refine Below.alloc ?_ ?_ _) | (with_reducible refine below_drewN ?_ _) | (with_reducible refine Below.drew ?_) | (with_reducible refine Below.setCell ?_ ?_ _) | (with_reducible refine below_via (by assumption) ?_ ?_) | (with_reducible refine below_via (later_below _) ?_ ?_) | (with_reducible exact Nat.le_refl _) | omega | (simp; omega) | (simp; done))))); rintro e w1 ⟨rfl, hb⟩; clear HA; (refine mem hb ?_; intro N hN hz hc hf; (try simp at hN); subst hN)) | (go_at_call 40; (with_reducible refine (HB.out _ ?_).mono ?_); (focus ((repeat' (first | (with_reducible exact Below.refl _ _) | (with_reducible assumption) | (with_reducible refine Below.alloc ?_ ?_ _) | (with_reducible refine below_drewN ?_ _) | (with_reducible refine Below.drew ?_) | (with_reducible refine Below.setCell ?_ ?_ _) | (with_reducible refine below_via (by assumption) ?_ ?_) | (with_reducible refine below_via (later_below _) ?_ ?_) | (with_reducible exact Nat.le_refl _) | omega | (simp; omega) | (simp; done))))); rintro e w1 ⟨rfl, hb⟩; clear HB; (refine mem hb ?_; intro N hN hz hc hf; (try simp at hN); subst hN)))
          go_returns
          refine ⟨rfl, ?_⟩
          (repeat' (first | (with_reducible exact Below.refl _ _) | (with_reducible assumption) | (with_reducible refine Below.alloc ?_ ?_ _) | (with_reducible refine below_drewN ?_ _) | (with_reducible refine Below.drew ?_) | (with_reducible refine Below.setCell ?_ ?_ _) | (with_reducible refine below_via (by assumption) ?_ ?_) | (with_reducible refine below_via (later_below _) ?_ ?_) | (with_reducible exact Nat.le_refl _) | omega | (simp; omega) | (simp; done)))
        | true =>
          cases q4 with
          | false =>
            obtain rfl : R = false := by rw [← HR.out]; simp
            clear HR
            go_enter Try.func46, Try.ntmps46
            go_wp2_with (first | (go_at_call 63; (with_reducible refine (HN.out _ ?_).mono ?_); (focus ((repeat' (first | (with_reducible exact Below.refl _ _) | (with_reducible assumption) | (with_reducible refine Below.alloc ?_ ?_ _) | (with_reducible refine below_drewN ?_ _) | (with_reducible refine Below.drew ?_) | (with_reducible refine Below.setCell ?_ ?_ _) | (with_reducible refine below_via (by assumption) ?_ ?_) | (with_reducible refine below_via (later_below _) ?_ ?_) | (with_reducible exact Nat.le_refl _) | omega | (simp; omega) | (simp; done))))); rintro e w1 ⟨rfl, hb⟩; clear HN; (refine mem hb ?_; intro N hN hz hc hf; (try simp at hN); subst hN)) | (go_at_call 40; (with_reducible refine (HA.out _ ?_).mono ?_); (focus ((repeat' (first | (with_reducible exact Below.refl _ _) | (with_reducible assumption) | (with_reducible refine Below.alloc ?_ ?_ _) | (with_reducible refine below_drewN ?_ _) | (with_reducible refine Below.drew ?_) | (with_reducible refine Below.setCell ?_ ?_ _) | (with_reducible refine below_via (by assumption) ?_ ?_) | (with_reducible refine below_via (later_below _) ?_ ?_) | (with_reducible exact Nat.le_refl _) | omega | (simp; omega) | (simp; done))))); rintro e w1 ⟨rfl, hb⟩; clear HA; (refine mem hb ?_; intro N hN hz hc hf; (try simp at hN); subst hN)) | (go_at_call 40; (with_reducible refine (HB.out _ ?_).mono ?_); (focus ((repeat' (first | (with_reducible exact Below.refl _ _) | (with_reducible assumption) | (with_reducible refine Below.alloc ?_ ?_ _) | (with_reducible refine below_drewN ?_ _) | (with_reducible refine Below.drew ?_) | (with_reducible refine Below.setCell ?_ ?_ _) | (with_reducible refine below_via (by assumption) ?_ ?_) | (with_reducible refine below_via (later_below _) ?_ ?_) | (with_reducible exact Nat.le_refl _) | omega | (simp; omega) | (simp; done))))); rintro e w1 ⟨rfl, hb⟩; clear HB; (refine mem hb ?_; intro N hN hz hc hf; (try simp at hN); subst hN)))
            go_returns
            refine ⟨rfl, ?_⟩
            (repeat' (first | (with_reducible exact Below.refl _ _) | (with_reducible assumption) | (with_reducible refine Below.alloc ?_ ?_ _) | (with_reducible refine below_drewN ?_ _) | (with_reducible refine Below.drew ?_) | (with_reducible refine Below.setCell ?_ ?_ _) | (with_reducible refine below_via (by assumption) ?_ ?_) | (with_reducible refine below_via (later_below _) ?_ ?_) | (with_reducible exact Nat.le_refl _) | omega | (simp; omega) | (simp; done)))
          | true =>
            cases q5 with
            | false =>
              obtain rfl : R = false := by rw [← HR.out]; simp
              clear HR
              go_enter Try.func46, Try.ntmps46
              go_wp2_with (first | (go_at_call 63; (with_reducible refine (HN.out _ ?_).mono ?_); (focus ((repeat' (first | (with_reducible exact Below.refl _ _) | (with_reducible assumption) | (with_reducible refine Below.alloc ?_ ?_ _) | (with_reducible refine below_drewN ?_ _) | (with_reducible refine Below.drew ?_) | (with_reducible refine Below.setCell ?_ ?_ _) | (with_reducible refine below_via (by assumption) ?_ ?_) | (with_reducible refine below_via (later_below _) ?_ ?_) | (with_reducible exact Nat.le_refl _) | omega | (simp; omega) | (simp; done))))); rintro e w1 ⟨rfl, hb⟩; clear HN; (refine mem hb ?_; intro N hN hz hc hf; (try simp at hN); subst hN)) | (go_at_call 40; (with_reducible refine (HA.out _ ?_).mono ?_); (focus ((repeat' (first | (with_reducible exact Below.refl _ _) | (with_reducible assumption) | (with_reducible refine Below.alloc ?_ ?_ _) | (with_reducible refine below_drewN ?_ _) | (with_reducible refine Below.drew ?_) | (with_reducible refine Below.setCell ?_ ?_ _) | (with_reducible refine below_via (by assumption) ?_ ?_) | (with_reducible refine below_via (later_below _) ?_ ?_) | (with_reducible exact Nat.le_refl _) | omega | (simp; omega) | (simp; done))))); rintro e w1 ⟨rfl, hb⟩; clear HA; (refine mem hb ?_; intro N hN hz hc hf; (try simp at hN); subst hN)) | (go_at_call 40; (with_reducible refine (HB.out _ ?_).mono ?_); (focus ((repeat' (first | (with_reducible exact Below.refl _ _) | (with_reducible assumption) | (with_reducible refine Below.alloc ?_ ?_ _) | (with_reducible refine below_drewN ?_ _) | (with_reducible refine Below.drew ?_) | (with_reducible refine Below.setCell ?_ ?_ _) | (with_reducible refine below_via (by assumption) ?_ ?_) | (with_reducible refine below_via (later_below _) ?_ ?_) | (with_reducible exact Nat.le_refl _) | omega | (simp; omega) | (simp; done))))); rintro e w1 ⟨rfl, hb⟩; clear HB; (refine mem hb ?_; intro N hN hz hc hf; (try simp at hN); subst hN)))
              go_returns
              refine ⟨rfl, ?_⟩
              (repeat' (first | (with_reducible exact Below.refl _ _) | (with_reducible assumption) | (with_reducible refine Below.alloc ?_ ?_ _) | (with_reducible refine below_drewN ?_ _) | (with_reducible refine Below.drew ?_) | (with_reducible refine Below.setCell ?_ ?_ _) | (with_reducible refine below_via (by assumption) ?_ ?_) | (with_reducible refine below_via (later_below _) ?_ ?_) | (with_reducible exact Nat.le_refl _) | omega | (simp; omega) | (simp; done)))
            | true =>
              cases q6 with
              | false =>
                obtain rfl : R = false := by rw [← HR.out]; simp
                clear HR
                go_enter Try.func46, Try.ntmps46
                go_wp2_with (first | (go_at_call 63; (with_reducible refine (HN.out _ ?_).mono ?_); (focus ((repeat' (first | (with_reducible exact Below.refl _ _) | (with_reducible assumption) | (with_reducible refine Below.alloc ?_ ?_ _) | (with_reducible refine below_drewN ?_ _) | (with_reducible refine Below.drew ?_) | (with_reducible refine Below.setCell ?_ ?_ _) | (with_reducible refine below_via (by assumption) ?_ ?_) | (with_reducible refine below_via (later_below _) ?_ ?_) | (with_reducible exact Nat.le_refl _) | omega | (simp; omega) | (simp; done))))); rintro e w1 ⟨rfl, hb⟩; clear HN; (refine mem hb ?_; intro N hN hz hc hf; (try simp at hN); subst hN)) | (go_at_call 40; (with_reducible refine (HA.out _ ?_).mono ?_); (focus ((repeat' (first | (with_reducible exact Below.refl _ _) | (with_reducible assumption) | (with_reducible refine Below.alloc ?_ ?_ _) | (with_reducible refine below_drewN ?_ _) | (with_reducible refine Below.drew ?_) | (with_reducible refine Below.setCell ?_ ?_ _) | (with_reducible refine below_via (by assumption) ?_ ?_) | (with_reducible refine below_via (later_below _) ?_ ?_) | (with_reducible exact Nat.le_refl _) | omega | (simp; omega) | (simp; done))))); rintro e w1 ⟨rfl, hb⟩; clear HA; (refine mem hb ?_; intro N hN hz hc hf; (try simp at hN); subst hN)) | (go_at_call 40; (with_reducible refine (HB.out _ ?_).mono ?_); (focus ((repeat' (first | (with_reducible exact Below.refl _ _) | (with_reducible assumption) | (with_reducible refine Below.alloc ?_ ?_ _) | (with_reducible refine below_drewN ?_ _) | (with_reducible refine Below.drew ?_) | (with_reducible refine Below.setCell ?_ ?_ _) | (with_reducible refine below_via (by assumption) ?_ ?_) | (with_reducible refine below_via (later_below _) ?_ ?_) | (with_reducible exact Nat.le_refl _) | omega | (simp; omega) | (simp; done))))); rintro e w1 ⟨rfl, hb⟩; clear HB; (refine mem hb ?_; intro N hN hz hc hf; (try simp at hN); subst hN)))
                go_returns
                refine ⟨rfl, ?_⟩
                (repeat' (first | (with_reducible exact Below.refl _ _) | (with_reducible assumption) | (with_reducible refine Below.alloc ?_ ?_ _) | (with_reducible refine below_drewN ?_ _) | (with_reducible refine Below.drew ?_) | (with_reducible refine Below.setCell ?_ ?_ _) | (with_reducible refine below_via (by assumption) ?_ ?_) | (with_reducible refine below_via (later_below _) ?_ ?_) | (with_reducible exact Nat.le_refl _) | omega | (simp; omega) | (simp; done)))
              | true =>
                go_enter Try.func46, Try.ntmps46
                go_wp2_with (first | (go_at_call 63; (with_reducible refine (HN.out _ ?_).mono ?_); (focus ((repeat' (first | (with_reducible exact Below.refl _ _) | (with_reducible assumption) | (with_reducible refine Below.alloc ?_ ?_ _) | (with_reducible refine below_drewN ?_ _) | (with_reducible refine Below.drew ?_) | (with_reducible refine Below.setCell ?_ ?_ _) | (with_reducible refine below_via (by assumption) ?_ ?_) | (with_reducible refine below_via (later_below _) ?_ ?_) | (with_reducible exact Nat.le_refl _) | omega | (simp; omega) | (simp; done))))); rintro e w1 ⟨rfl, hb⟩; have hbN := hb; clear HN; (refine mem hb ?_; intro N hN hz hc hf; (try simp at hN); subst hN)) | (go_at_call 40; (with_reducible refine (HA.out _ ?_).mono ?_); (focus ((repeat' (first | (with_reducible exact Below.refl _ _) | (with_reducible assumption) | (with_reducible refine Below.alloc ?_ ?_ _) | (with_reducible refine below_drewN ?_ _) | (with_reducible refine Below.drew ?_) | (with_reducible refine Below.setCell ?_ ?_ _) | (with_reducible refine below_via (by assumption) ?_ ?_) | (with_reducible refine below_via (later_below _) ?_ ?_) | (with_reducible exact Nat.le_refl _) | omega | (simp; omega) | (simp; done))))); rintro e w1 ⟨rfl, hb⟩; have hbA := hb; clear HA; (refine mem hb ?_; intro N hN hz hc hf; (try simp at hN); subst hN)) | (go_at_call 40; (with_reducible refine (HB.out _ ?_).mono ?_); (focus ((repeat' (first | (with_reducible exact Below.refl _ _) | (with_reducible assumption) | (with_reducible refine Below.alloc ?_ ?_ _) | (with_reducible refine below_drewN ?_ _) | (with_reducible refine Below.drew ?_) | (with_reducible refine Below.setCell ?_ ?_ _) | (with_reducible refine below_via (by assumption) ?_ ?_) | (with_reducible refine below_via (later_below _) ?_ ?_) | (with_reducible exact Nat.le_refl _) | omega | (simp; omega) | (simp; done))))); rintro e w1 ⟨rfl, hb⟩; have hbB := hb; clear HB; (refine mem hb ?_; intro N hN hz hc hf; (try simp at hN); subst hN)))
                go_loopw [5] (fun i wr => ∃ k : Nat, k ≤ s.blocks.length ∧ i = .int .i64 k ∧ Hid (Below w.heap.size w wr) ∧ Hid (S7n w.heap.size s wr) ∧ Hid (S7n (w.heap.size + 1) t wr) ∧ Hid (∀ i (h1 : i < s.blocks.length) (h2 : i < t.blocks.length), i < k → seN n (.inr (s.blocks[i].l, t.blocks[i].l)) = true)) (fun i _ => s.blocks.length - (intOf i).toNat)
                case atStart =>
                  refine ⟨0, Nat.zero_le _, rfl, ?_, ?_, ?_, fun i _ _ h => by omega⟩
                  · show Below _ _ _; (repeat' (first | (with_reducible exact Below.refl _ _) | (with_reducible assumption) | (with_reducible refine Below.alloc ?_ ?_ _) | (with_reducible refine below_drewN ?_ _) | (with_reducible refine Below.drew ?_) | (with_reducible refine Below.setCell ?_ ?_ _) | (with_reducible refine below_via (by assumption) ?_ ?_) | (with_reducible refine below_via (later_below _) ?_ ?_) | (with_reducible exact Nat.le_refl _) | omega | (simp; omega) | (simp; done)))
                  · show S7n _ _ _
                    simp only [← huF, ← huG] at hbN
                    exact (((HV0.out.kept (a := 0) (b := 0) (kept_of ((Below.refl _ _).alloc (Nat.le_refl _) _) (Nat.zero_le _)) (Nat.zero_le _)).kept (kept_of hbN (Nat.zero_le _)) (Nat.zero_le _)).kept (kept_of hbA (Nat.zero_le _)) (Nat.zero_le _)).kept (kept_of hbB (Nat.zero_le _)) (Nat.zero_le _)
                  · show S7n _ _ _
                    simp only [← huF, ← huG] at hbN
                    exact ((HV1.out.kept (a := 0) (b := 0) (kept_of hbN (Nat.zero_le _)) (Nat.zero_le _)).kept (kept_of hbA (Nat.zero_le _)) (Nat.zero_le _)).kept (kept_of hbB (Nat.zero_le _)) (Nat.zero_le _)
                case round =>
                  clear hc hf hb hz hbN hbA hbB
                  obtain ⟨k, hk, rfl, HE, HV, HY, HZ⟩ := hrel
                  obtain ⟨e0, e1, e2, e3, e4, e5, e6⟩ := HV.out
                  obtain ⟨g0, g1, g2, g3, g4, g5, g6⟩ := HY.out
                  have hzr := cell_lt g6
                  have hs0 := HE.out.size
                  rw [huF] at e5
                  rw [huG] at g5
                  by_cases hlt : k < s.blocks.length
                  · have hltm : k < t.blocks.length := by have := HLEN.out; omega
                    obtain ⟨b1, o1, ha1, hb1, hc1, hi1⟩ := (HIX.out.bs.still (still_of HE.out (Nat.le_refl _)) (Nat.le_refl _)).at_ hlt
                    obtain ⟨b2, o2, ha2, hb2, hc2, hi2⟩ := (HIY.out.bs.still (still_of HE.out (Nat.le_refl _)) (Nat.le_refl _)).at_ hltm
                    rw [huF] at ha1
                    rw [huG] at ha2
                    subst ha1 ha2
                    have HC := Lib.hid (HH.out k hlt hltm)
                    obtain ⟨f, hf⟩ : ∃ f, s.blocks[k] = f := ⟨_, rfl⟩
                    obtain ⟨g, hg⟩ : ∃ g, t.blocks[k] = g := ⟨_, rfl⟩
                    obtain ⟨q, hq⟩ : ∃ q, seN n (.inr (s.blocks[k].l, t.blocks[k].l)) = q := ⟨_, rfl⟩
                    have HQ := Lib.hid hq
                    rw [hq, hf, hg] at HC
                    rw [hf] at hc1
                    rw [hg] at hc2
                    clear hf hg hq hi1 hi2
                    have c0 : World.cell? _ _ = some (Value.slice _ _ _) := hc1
                    have d0 : World.cell? _ _ = some (Value.slice _ _ _) := hc2
                    have hbl1 := cell_lt c0
                    have hbl2 := cell_lt d0
                    clear hc1 hc2
                    cases q with
                    | true =>
                      go_wp2_with fail
                      (refine wp_region_calm (by kernel_rfl) (by kernel_rfl) ?_; refine calm_mem ?_; intro N hN hne hcu; (try simp at hN); subst hN; (repeat ((refine wpQuiet_step (fun K hK => ?_)); go_simp; (repeat (simp only [↓IntWalk.iteOmega]; go_simp)); (first | (refine hK _ ?_; clear hK K) | (apply Exists.intro; refine ⟨fun _ => ?_, hK _ ?_⟩; ((go_at_call 25; exact calm_of (HC.out _ (HE.out.trans (Below.mono (Subtype.property _) hs0))))); clear hK K)))); refine wpQuiet_nil ?_; intro _ hw'; obtain ⟨⟨w1, hb⟩, hw''⟩ := hw'; subst hw''; clear hcu hne; (try dsimp only); (refine mem hb ?_; intro N hN hz hc hf; (try simp at hN); subst hN))
                      have hbC := hb
                      go_wp2_with fail
                      refine ⟨⟨k + 1, by omega, by go_num, ?_, ?_, ?_, ?_⟩, by simp [intOf]; omega⟩
                      · show Below _ _ _; have h0 := HE.out; (repeat' (first | (with_reducible exact Below.refl _ _) | (with_reducible assumption) | (with_reducible refine Below.alloc ?_ ?_ _) | (with_reducible refine below_drewN ?_ _) | (with_reducible refine Below.drew ?_) | (with_reducible refine Below.setCell ?_ ?_ _) | (with_reducible refine below_via (by assumption) ?_ ?_) | (with_reducible refine below_via (later_below _) ?_ ?_) | (with_reducible exact Nat.le_refl _) | omega | (simp; omega) | (simp; done)))
                      · exact HV.out.kept (kept_of (a := 0) (b := 0) hbC (Nat.zero_le _)) (Nat.zero_le _)
                      · exact HY.out.kept (kept_of (a := 0) (b := 0) hbC (Nat.zero_le _)) (Nat.zero_le _)
                      · intro i h1 h2 hik
                        by_cases h : i = k
                        · subst h; exact HQ.out
                        · exact HZ.out i h1 h2 (by omega)
                    | false =>
                      go_wp2_with fail
                      (refine wp_region_calm (by kernel_rfl) (by kernel_rfl) ?_; refine calm_mem ?_; intro N hN hne hcu; (try simp at hN); subst hN; (repeat ((refine wpQuiet_step (fun K hK => ?_)); go_simp; (repeat (simp only [↓IntWalk.iteOmega]; go_simp)); (first | (refine hK _ ?_; clear hK K) | (apply Exists.intro; refine ⟨fun _ => ?_, hK _ ?_⟩; ((go_at_call 25; exact calm_of (HC.out _ (HE.out.trans (Below.mono (Subtype.property _) hs0))))); clear hK K)))); refine wpQuiet_nil ?_; intro _ hw'; obtain ⟨⟨w1, hb⟩, hw''⟩ := hw'; subst hw''; clear hcu hne; (try dsimp only); (refine mem hb ?_; intro N hN hz hc hf; (try simp at hN); subst hN))
                      go_wp2_with fail
                      go_returns
                      have e : R = false := by rw [← HR.out, ← HQ7.out, eqL_at hlt hltm HQ.out]; simp
                      rw [e]
                      refine ⟨rfl, ?_⟩
                      have h0 := HE.out
                      (repeat' (first | (with_reducible exact Below.refl _ _) | (with_reducible assumption) | (with_reducible refine Below.alloc ?_ ?_ _) | (with_reducible refine below_drewN ?_ _) | (with_reducible refine Below.drew ?_) | (with_reducible refine Below.setCell ?_ ?_ _) | (with_reducible refine below_via (by assumption) ?_ ?_) | (with_reducible refine below_via (later_below _) ?_ ?_) | (with_reducible exact Nat.le_refl _) | omega | (simp; omega) | (simp; done)))
                  · obtain rfl : k = s.blocks.length := by omega
                    go_wp2_with fail
                    go_returns
                    have e : R = true := by rw [← HR.out, ← HQ7.out, eqL_all HLEN.out (fun i h => HZ.out i h (by have := HLEN.out; omega) h)]; simp
                    rw [e]
                    exact ⟨rfl, HE.out⟩
  · have hlen2 : ¬ s.blocks.length = t.blocks.length := fun h => hlen h.symm
    obtain rfl : q7 = false := by rw [← HQ7.out]; exact eqL_len hlen2
    obtain rfl : R = false := by rw [← HR.out]; simp
    clear HR HQ7 HH HIX HIY HV0 HV1
    cases q1 with
    | false =>
      go_enter Try.func46, Try.ntmps46
      go_wp2_with (first | (go_at_call 63; (with_reducible refine (HN.out _ ?_).mono ?_); (focus ((repeat' (first | (with_reducible exact Below.refl _ _) | (with_reducible assumption) | (with_reducible refine Below.alloc ?_ ?_ _) | (with_reducible refine below_drewN ?_ _) | (with_reducible refine Below.drew ?_) | (with_reducible refine Below.setCell ?_ ?_ _) | (with_reducible refine below_via (by assumption) ?_ ?_) | (with_reducible refine below_via (later_below _) ?_ ?_) | (with_reducible exact Nat.le_refl _) | omega | (simp; omega) | (simp; done))))); rintro e w1 ⟨rfl, hb⟩; clear HN; (refine mem hb ?_; intro N hN hz hc hf; (try simp at hN); subst hN)) | (go_at_call 40; (with_reducible refine (HA.out _ ?_).mono ?_); (focus ((repeat' (first | (with_reducible exact Below.refl _ _) | (with_reducible assumption) | (with_reducible refine Below.alloc ?_ ?_ _) | (with_reducible refine below_drewN ?_ _) | (with_reducible refine Below.drew ?_) | (with_reducible refine Below.setCell ?_ ?_ _) | (with_reducible refine below_via (by assumption) ?_ ?_) | (with_reducible refine below_via (later_below _) ?_ ?_) | (with_reducible exact Nat.le_refl _) | omega | (simp; omega) | (simp; done))))); rintro e w1 ⟨rfl, hb⟩; clear HA; (refine mem hb ?_; intro N hN hz hc hf; (try simp at hN); subst hN)) | (go_at_call 40; (with_reducible refine (HB.out _ ?_).mono ?_); (focus ((repeat' (first | (with_reducible exact Below.refl _ _) | (with_reducible assumption) | (with_reducible refine Below.alloc ?_ ?_ _) | (with_reducible refine below_drewN ?_ _) | (with_reducible refine Below.drew ?_) | (with_reducible refine Below.setCell ?_ ?_ _) | (with_reducible refine below_via (by assumption) ?_ ?_) | (with_reducible refine below_via (later_below _) ?_ ?_) | (with_reducible exact Nat.le_refl _) | omega | (simp; omega) | (simp; done))))); rintro e w1 ⟨rfl, hb⟩; clear HB; (refine mem hb ?_; intro N hN hz hc hf; (try simp at hN); subst hN)))
      go_returns
      refine ⟨rfl, ?_⟩
      (repeat' (first | (with_reducible exact Below.refl _ _) | (with_reducible assumption) | (with_reducible refine Below.alloc ?_ ?_ _) | (with_reducible refine below_drewN ?_ _) | (with_reducible refine Below.drew ?_) | (with_reducible refine Below.setCell ?_ ?_ _) | (with_reducible refine below_via (by assumption) ?_ ?_) | (with_reducible refine below_via (later_below _) ?_ ?_) | (with_reducible exact Nat.le_refl _) | omega | (simp; omega) | (simp; done)))
    | true =>
      cases q2 with
      | false =>
        go_enter Try.func46, Try.ntmps46
        go_wp2_with (first | (go_at_call 63; (with_reducible refine (HN.out _ ?_).mono ?_); (focus ((repeat' (first | (with_reducible exact Below.refl _ _) | (with_reducible assumption) | (with_reducible refine Below.alloc ?_ ?_ _) | (with_reducible refine below_drewN ?_ _) | (with_reducible refine Below.drew ?_) | (with_reducible refine Below.setCell ?_ ?_ _) | (with_reducible refine below_via (by assumption) ?_ ?_) | (with_reducible refine below_via (later_below _) ?_ ?_) | (with_reducible exact Nat.le_refl _) | omega | (simp; omega) | (simp; done))))); rintro e w1 ⟨rfl, hb⟩; clear HN; (refine mem hb ?_; intro N hN hz hc hf; (try simp at hN); subst hN)) | (go_at_call 40; (with_reducible refine (HA.out _ ?_).mono ?_); (focus ((repeat' (first | (with_reducible exact Below.refl _ _) | (with_reducible assumption) | (with_reducible refine Below.alloc ?_ ?_ _) | (with_reducible refine below_drewN ?_ _) | (with_reducible refine Below.drew ?_) | (with_reducible refine Below.setCell ?_ ?_ _) | (with_reducible refine below_via (by assumption) ?_ ?_) | (with_reducible refine below_via (later_below _) ?_ ?_) | (with_reducible exact Nat.le_refl _) | omega | (simp; omega) | (simp; done))))); rintro e w1 ⟨rfl, hb⟩; clear HA; (refine mem hb ?_; intro N hN hz hc hf; (try simp at hN); subst hN)) | (go_at_call 40; (with_reducible refine (HB.out _ ?_).mono ?_); (focus ((repeat' (first | (with_reducible exact Below.refl _ _) | (with_reducible assumption) | (with_reducible refine Below.alloc ?_ ?_ _) | (with_reducible refine below_drewN ?_ _) | (with_reducible refine Below.drew ?_) | (with_reducible refine Below.setCell ?_ ?_ _) | (with_reducible refine below_via (by assumption) ?_ ?_) | (with_reducible refine below_via (later_below _) ?_ ?_) | (with_reducible exact Nat.le_refl _) | omega | (simp; omega) | (simp; done))))); rintro e w1 ⟨rfl, hb⟩; clear HB; (refine mem hb ?_; intro N hN hz hc hf; (try simp at hN); subst hN)))
        go_returns
        refine ⟨rfl, ?_⟩
        (repeat' (first | (with_reducible exact Below.refl _ _) | (with_reducible assumption) | (with_reducible refine Below.alloc ?_ ?_ _) | (with_reducible refine below_drewN ?_ _) | (with_reducible refine Below.drew ?_) | (with_reducible refine Below.setCell ?_ ?_ _) | (with_reducible refine below_via (by assumption) ?_ ?_) | (with_reducible refine below_via (later_below _) ?_ ?_) | (with_reducible exact Nat.le_refl _) | omega | (simp; omega) | (simp; done)))
      | true =>
        cases q3 with
        | false =>
          go_enter Try.func46, Try.ntmps46
          go_wp2_with (first | (go_at_call 63; (with_reducible refine (HN.out _ ?_).mono ?_); (focus ((repeat' (first | (with_reducible exact Below.refl _ _) | (with_reducible assumption) | (with_reducible refine Below.alloc ?_ ?_ _) | (with_reducible refine below_drewN ?_ _) | (with_reducible refine Below.drew ?_) | (with_reducible refine Below.setCell ?_ ?_ _) | (with_reducible refine below_via (by assumption) ?_ ?_) | (with_reducible refine below_via (later_below _) ?_ ?_) | (with_reducible exact Nat.le_refl _) | omega | (simp; omega) | (simp; done))))); rintro e w1 ⟨rfl, hb⟩; clear HN; (refine mem hb ?_; intro N hN hz hc hf; (try simp at hN); subst hN)) | (go_at_call 40; (with_reducible refine (HA.out _ ?_).mono ?_); (focus ((repeat' (first | (with_reducible exact Below.refl _ _) | (with_reducible assumption) | (with_reducible refine Below.alloc ?_ ?_ _) | (with_reducible refine below_drewN ?_ _) | (with_reducible refine Below.drew ?_) | (with_reducible refine Below.setCell ?_ ?_ _) | (with_reducible refine below_via (by assumption) ?_ ?_) | (with_reducible refine below_via (later_below _) ?_ ?_) | (with_reducible exact Nat.le_refl _) | omega | (simp; omega) | (simp; done))))); rintro e w1 ⟨rfl, hb⟩; clear HA; (refine mem hb ?_; intro N hN hz hc hf; (try simp at hN); subst hN)) | (go_at_call 40; (with_reducible refine (HB.out _ ?_).mono ?_); (focus ((repeat' (first | (with_reducible exact Below.refl _ _) | (with_reducible assumption) | (with_reducible refine Below.alloc ?_ ?_ _) | (with_reducible refine below_drewN ?_ _) | (with_reducible refine Below.drew ?_) | (with_reducible refine Below.setCell ?_ ?_ _) | (with_reducible refine below_via (by assumption) ?_ ?_) | (with_reducible refine below_via (later_below _) ?_ ?_) | (with_reducible exact Nat.le_refl _) | omega | (simp; omega) | (simp; done))))); rintro e w1 ⟨rfl, hb⟩; clear HB; (refine mem hb ?_; intro N hN hz hc hf; (try simp at hN); subst hN)))
          go_returns
          refine ⟨rfl, ?_⟩
          (repeat' (first | (with_reducible exact Below.refl _ _) | (with_reducible assumption) | (with_reducible refine Below.alloc ?_ ?_ _) | (with_reducible refine below_drewN ?_ _) | (with_reducible refine Below.drew ?_) | (with_reducible refine Below.setCell ?_ ?_ _) | (with_reducible refine below_via (by assumption) ?_ ?_) | (with_reducible refine below_via (later_below _) ?_ ?_) | (with_reducible exact Nat.le_refl _) | omega | (simp; omega) | (simp; done)))
        | true =>
          cases q4 with
          | false =>
            go_enter Try.func46, Try.ntmps46
            go_wp2_with (first | (go_at_call 63; (with_reducible refine (HN.out _ ?_).mono ?_); (focus ((repeat' (first | (with_reducible exact Below.refl _ _) | (with_reducible assumption) | (with_reducible refine Below.alloc ?_ ?_ _) | (with_reducible refine below_drewN ?_ _) | (with_reducible refine Below.drew ?_) | (with_reducible refine Below.setCell ?_ ?_ _) | (with_reducible refine below_via (by assumption) ?_ ?_) | (with_reducible refine below_via (later_below _) ?_ ?_) | (with_reducible exact Nat.le_refl _) | omega | (simp; omega) | (simp; done))))); rintro e w1 ⟨rfl, hb⟩; clear HN; (refine mem hb ?_; intro N hN hz hc hf; (try simp at hN); subst hN)) | (go_at_call 40; (with_reducible refine (HA.out _ ?_).mono ?_); (focus ((repeat' (first | (with_reducible exact Below.refl _ _) | (with_reducible assumption) | (with_reducible refine Below.alloc ?_ ?_ _) | (with_reducible refine below_drewN ?_ _) | (with_reducible refine Below.drew ?_) | (with_reducible refine Below.setCell ?_ ?_ _) | (with_reducible refine below_via (by assumption) ?_ ?_) | (with_reducible refine below_via (later_below _) ?_ ?_) | (with_reducible exact Nat.le_refl _) | omega | (simp; omega) | (simp; done))))); rintro e w1 ⟨rfl, hb⟩; clear HA; (refine mem hb ?_; intro N hN hz hc hf; (try simp at hN); subst hN)) | (go_at_call 40; (with_reducible refine (HB.out _ ?_).mono ?_); (focus ((repeat' (first | (with_reducible exact Below.refl _ _) | (with_reducible assumption) | (with_reducible refine Below.alloc ?_ ?_ _) | (with_reducible refine below_drewN ?_ _) | (with_reducible refine Below.drew ?_) | (with_reducible refine Below.setCell ?_ ?_ _) | (with_reducible refine below_via (by assumption) ?_ ?_) | (with_reducible refine below_via (later_below _) ?_ ?_) | (with_reducible exact Nat.le_refl _) | omega | (simp; omega) | (simp; done))))); rintro e w1 ⟨rfl, hb⟩; clear HB; (refine mem hb ?_; intro N hN hz hc hf; (try simp at hN); subst hN)))
            go_returns
            refine ⟨rfl, ?_⟩
            (repeat' (first | (with_reducible exact Below.refl _ _) | (with_reducible assumption) | (with_reducible refine Below.alloc ?_ ?_ _) | (with_reducible refine below_drewN ?_ _) | (with_reducible refine Below.drew ?_) | (with_reducible refine Below.setCell ?_ ?_ _) | (with_reducible refine below_via (by assumption) ?_ ?_) | (with_reducible refine below_via (later_below _) ?_ ?_) | (with_reducible exact Nat.le_refl _) | omega | (simp; omega) | (simp; done)))
          | true =>
            cases q5 with
            | false =>
              go_enter Try.func46, Try.ntmps46
              go_wp2_with (first | (go_at_call 63; (with_reducible refine (HN.out _ ?_).mono ?_); (focus ((repeat' (first | (with_reducible exact Below.refl _ _) | (with_reducible assumption) | (with_reducible refine Below.alloc ?_ ?_ _) | (with_reducible refine below_drewN ?_ _) | (with_reducible refine Below.drew ?_) | (with_reducible refine Below.setCell ?_ ?_ _) | (with_reducible refine below_via (by assumption) ?_ ?_) | (with_reducible refine below_via (later_below _) ?_ ?_) | (with_reducible exact Nat.le_refl _) | omega | (simp; omega) | (simp; done))))); rintro e w1 ⟨rfl, hb⟩; clear HN; (refine mem hb ?_; intro N hN hz hc hf; (try simp at hN); subst hN)) | (go_at_call 40; (with_reducible refine (HA.out _ ?_).mono ?_); (focus ((repeat' (first | (with_reducible exact Below.refl _ _) | (with_reducible assumption) | (with_reducible refine Below.alloc ?_ ?_ _) | (with_reducible refine below_drewN ?_ _) | (with_reducible refine Below.drew ?_) | (with_reducible refine Below.setCell ?_ ?_ _) | (with_reducible refine below_via (by assumption) ?_ ?_) | (with_reducible refine below_via (later_below _) ?_ ?_) | (with_reducible exact Nat.le_refl _) | omega | (simp; omega) | (simp; done))))); rintro e w1 ⟨rfl, hb⟩; clear HA; (refine mem hb ?_; intro N hN hz hc hf; (try simp at hN); subst hN)) | (go_at_call 40; (with_reducible refine (HB.out _ ?_).mono ?_); (focus ((repeat' (first | (with_reducible exact Below.refl _ _) | (with_reducible assumption) | (with_reducible refine Below.alloc ?_ ?_ _) | (with_reducible refine below_drewN ?_ _) | (with_reducible refine Below.drew ?_) | (with_reducible refine Below.setCell ?_ ?_ _) | (with_reducible refine below_via (by assumption) ?_ ?_) | (with_reducible refine below_via (later_below _) ?_ ?_) | (with_reducible exact Nat.le_refl _) | omega | (simp; omega) | (simp; done))))); rintro e w1 ⟨rfl, hb⟩; clear HB; (refine mem hb ?_; intro N hN hz hc hf; (try simp at hN); subst hN)))
              go_returns
              refine ⟨rfl, ?_⟩
              (repeat' (first | (with_reducible exact Below.refl _ _) | (with_reducible assumption) | (with_reducible refine Below.alloc ?_ ?_ _) | (with_reducible refine below_drewN ?_ _) | (with_reducible refine Below.drew ?_) | (with_reducible refine Below.setCell ?_ ?_ _) | (with_reducible refine below_via (by assumption) ?_ ?_) | (with_reducible refine below_via (later_below _) ?_ ?_) | (with_reducible exact Nat.le_refl _) | omega | (simp; omega) | (simp; done)))
            | true =>
              cases q6 with
              | false =>
                go_enter Try.func46, Try.ntmps46
                go_wp2_with (first | (go_at_call 63; (with_reducible refine (HN.out _ ?_).mono ?_); (focus ((repeat' (first | (with_reducible exact Below.refl _ _) | (with_reducible assumption) | (with_reducible refine Below.alloc ?_ ?_ _) | (with_reducible refine below_drewN ?_ _) | (with_reducible refine Below.drew ?_) | (with_reducible refine Below.setCell ?_ ?_ _) | (with_reducible refine below_via (by assumption) ?_ ?_) | (with_reducible refine below_via (later_below _) ?_ ?_) | (with_reducible exact Nat.le_refl _) | omega | (simp; omega) | (simp; done))))); rintro e w1 ⟨rfl, hb⟩; clear HN; (refine mem hb ?_; intro N hN hz hc hf; (try simp at hN); subst hN)) | (go_at_call 40; (with_reducible refine (HA.out _ ?_).mono ?_); (focus ((repeat' (first | (with_reducible exact Below.refl _ _) | (with_reducible assumption) | (with_reducible refine Below.alloc ?_ ?_ _) | (with_reducible refine below_drewN ?_ _) | (with_reducible refine Below.drew ?_) | (with_reducible refine Below.setCell ?_ ?_ _) | (with_reducible refine below_via (by assumption) ?_ ?_) | (with_reducible refine below_via (later_below _) ?_ ?_) | (with_reducible exact Nat.le_refl _) | omega | (simp; omega) | (simp; done))))); rintro e w1 ⟨rfl, hb⟩; clear HA; (refine mem hb ?_; intro N hN hz hc hf; (try simp at hN); subst hN)) | (go_at_call 40; (with_reducible refine (HB.out _ ?_).mono ?_); (focus ((repeat' (first | (with_reducible exact Below.refl _ _) | (with_reducible assumption) | (with_reducible refine Below.alloc ?_ ?_ _) | (with_reducible refine below_drewN ?_ _) | (with_reducible refine Below.drew ?_) | (with_reducible refine Below.setCell ?_ ?_ _) | (with_reducible refine below_via (by assumption) ?_ ?_) | (with_reducible refine below_via (later_below _) ?_ ?_) | (with_reducible exact Nat.le_refl _) | omega | (simp; omega) | (simp; done))))); rintro e w1 ⟨rfl, hb⟩; clear HB; (refine mem hb ?_; intro N hN hz hc hf; (try simp at hN); subst hN)))
                go_returns
                refine ⟨rfl, ?_⟩
                (repeat' (first | (with_reducible exact Below.refl _ _) | (with_reducible assumption) | (with_reducible refine Below.alloc ?_ ?_ _) | (with_reducible refine below_drewN ?_ _) | (with_reducible refine Below.drew ?_) | (with_reducible refine Below.setCell ?_ ?_ _) | (with_reducible refine below_via (by assumption) ?_ ?_) | (with_reducible refine below_via (later_below _) ?_ ?_) | (with_reducible exact Nat.le_refl _) | omega | (simp; omega) | (simp; done)))
              | true =>
                go_enter Try.func46, Try.ntmps46
                go_wp2_with (first | (go_at_call 63; (with_reducible refine (HN.out _ ?_).mono ?_); (focus ((repeat' (first | (with_reducible exact Below.refl _ _) | (with_reducible assumption) | (with_reducible refine Below.alloc ?_ ?_ _) | (with_reducible refine below_drewN ?_ _) | (with_reducible refine Below.drew ?_) | (with_reducible refine Below.setCell ?_ ?_ _) | (with_reducible refine below_via (by assumption) ?_ ?_) | (with_reducible refine below_via (later_below _) ?_ ?_) | (with_reducible exact Nat.le_refl _) | omega | (simp; omega) | (simp; done))))); rintro e w1 ⟨rfl, hb⟩; clear HN; (refine mem hb ?_; intro N hN hz hc hf; (try simp at hN); subst hN)) | (go_at_call 40; (with_reducible refine (HA.out _ ?_).mono ?_); (focus ((repeat' (first | (with_reducible exact Below.refl _ _) | (with_reducible assumption) | (with_reducible refine Below.alloc ?_ ?_ _) | (with_reducible refine below_drewN ?_ _) | (with_reducible refine Below.drew ?_) | (with_reducible refine Below.setCell ?_ ?_ _) | (with_reducible refine below_via (by assumption) ?_ ?_) | (with_reducible refine below_via (later_below _) ?_ ?_) | (with_reducible exact Nat.le_refl _) | omega | (simp; omega) | (simp; done))))); rintro e w1 ⟨rfl, hb⟩; clear HA; (refine mem hb ?_; intro N hN hz hc hf; (try simp at hN); subst hN)) | (go_at_call 40; (with_reducible refine (HB.out _ ?_).mono ?_); (focus ((repeat' (first | (with_reducible exact Below.refl _ _) | (with_reducible assumption) | (with_reducible refine Below.alloc ?_ ?_ _) | (with_reducible refine below_drewN ?_ _) | (with_reducible refine Below.drew ?_) | (with_reducible refine Below.setCell ?_ ?_ _) | (with_reducible refine below_via (by assumption) ?_ ?_) | (with_reducible refine below_via (later_below _) ?_ ?_) | (with_reducible exact Nat.le_refl _) | omega | (simp; omega) | (simp; done))))); rintro e w1 ⟨rfl, hb⟩; clear HB; (refine mem hb ?_; intro N hN hz hc hf; (try simp at hN); subst hN)))
                go_returns
                refine ⟨rfl, ?_⟩
                (repeat' (first | (with_reducible exact Below.refl _ _) | (with_reducible assumption) | (with_reducible refine Below.alloc ?_ ?_ _) | (with_reducible refine below_drewN ?_ _) | (with_reducible refine Below.drew ?_) | (with_reducible refine Below.setCell ?_ ?_ _) | (with_reducible refine below_via (by assumption) ?_ ?_) | (with_reducible refine below_via (later_below _) ?_ ?_) | (with_reducible exact Nat.le_refl _) | omega | (simp; omega) | (simp; done)))
theorem rlp_step (n : Nat) (hX : RxP n) (hL : RlP n) : RlP (n + 1) := by
  intro l m a b c d w hr hl hm
  exact rlist_S (ssB n) l m _ _ _ _ w.heap.size w hl.1 hl.2.1 hm.1 hm.2.1 (Nat.le_refl _) fun k k1 k2 W1 h =>
    rsameStat_p hX hL _ _ W1 (by have := rkSs_mem (List.getElem_mem k1); omega) (((inSs_iff _).1 hl.2.2 _ (List.getElem_mem k1)).st h) (((inSs_iff _).1 hm.2.2 _ (List.getElem_mem k2)).st h)
theorem rsame_p : ∀ n, RxP n ∧ RlP n
  | 0 => ⟨fun _ _ _ h => by omega, fun _ _ _ _ _ _ _ h => by omega⟩
  | n + 1 => have ih := rsame_p n; ⟨rxp_step n ih.1 ih.2, rlp_step n ih.1 ih.2⟩
end Go.Proofs.Ythkpggpnbdedjaa
