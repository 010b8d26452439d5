/- Equality of trees, plain; slices.EqualFunc and slices.Equal at the tree's types. -/
import Derived.Test.YthkpggpnbdedjaaMTrSz2
import Derived.Test.YthkpggpnbdedjaaMTrFo
import Derived.BigQuiet
import Derived.Laws.EntriesVeiled
namespace Go.Proofs.Ythkpggpnbdedjaa
open Go.RowKit Go.Instr
set_option linter.unusedVariables false

/-- Two lists, element by element. -/
def eqL {α : Type} (f : α → α → Bool) : List α → List α → Bool
  | [], [] => true
  | a :: l, b :: m => f a b && eqL f l m
  | _, _ => false
theorem eqL_len {α : Type} {f : α → α → Bool} : ∀ {l m : List α}, l.length ≠ m.length → eqL f l m = false
  | [], [], h => absurd rfl h
  | [], _ :: _, _ => rfl
  | _ :: _, [], _ => rfl
  | a :: l, b :: m, h => by
    show (f a b && eqL f l m) = false
    rw [eqL_len (by simpa using h), Bool.and_false]
theorem eqL_all {α : Type} {f : α → α → Bool} : ∀ {l m : List α} (hl : m.length = l.length), (∀ i (h : i < l.length), f l[i] (m[i]'(by omega)) = true) → eqL f l m = true
  | [], [], _, _ => rfl
  | [], _ :: _, h, _ => by simp at h
  | _ :: _, [], h, _ => by simp at h
  | a :: l, b :: m, hl, h => by
    show (f a b && eqL f l m) = true
    rw [show f a b = true from h 0 (by simp), Bool.true_and]
    exact eqL_all (by simpa using hl) fun i hi => h (i + 1) (by simpa using hi)
theorem eqL_at {α : Type} {f : α → α → Bool} : ∀ {l m : List α} {k : Nat} (h1 : k < l.length) (h2 : k < m.length), f l[k] m[k] = false → eqL f l m = false
  | a :: l, b :: m, 0, _, _, h => by
    show (f a b && eqL f l m) = false
    rw [show f a b = false from h, Bool.false_and]
  | a :: l, b :: m, k + 1, h1, h2, h => by
    show (f a b && eqL f l m) = false
    rw [eqL_at (l := l) (m := m) (k := k) (by simpa using h1) (by simpa using h2) h, Bool.and_false]
theorem eqL_refl {α : Type} {f : α → α → Bool} : ∀ {l : List α}, (∀ x ∈ l, f x x = true) → eqL f l l = true
  | [], _ => rfl
  | a :: l, h => by
    show (f a a && eqL f l l) = true
    rw [h a List.mem_cons_self, Bool.true_and]
    exact eqL_refl fun x hx => h x (List.mem_cons_of_mem _ hx)
def eqLo (x y : ByteArray × Int) : Bool := (x.1.toList == y.1.toList) && x.2 == y.2
def eqSt (x y : ByteArray) : Bool := x.toList == y.toList
/-- Equality of expressions and of lists of statements (the number: more than the first one's rank). -/
def seN : Nat → (TX × TX) ⊕ (List TS × List TS) → Bool
  | 0, _ => true
  | n + 1, .inl (x, y) => (x.k == y.k) && ((x.op == y.op) && ((x.ln == y.ln) && ((x.p == y.p && x.q == y.q) && ((x.s.toList == y.s.toList) && (eqL (fun a b => seN n (.inl (a, b))) x.args y.args && eqL (fun f g => (f.name.toList == g.name.toList) && ((f.ln == g.ln) && ((f.va == g.va) && (eqL eqSt f.params g.params && seN n (.inr (f.body, g.body)))))) x.funcs y.funcs)))))
  | n + 1, .inr (l, m) => eqL (fun s t => (s.k == t.k) && ((s.ln == t.ln) && ((s.label.toList == t.label.toList) && (eqL eqLo s.names t.names && (eqL (fun a b => seN n (.inl (a, b))) s.left t.left && (eqL (fun a b => seN n (.inl (a, b))) s.right t.right && eqL (fun a b => seN n (.inr (a.l, b.l))) s.blocks t.blocks)))))) l m
theorem seN_refl : ∀ n, (∀ x, seN n (.inl (x, x)) = true) ∧ ∀ l, seN n (.inr (l, l)) = true
  | 0 => ⟨fun _ => rfl, fun _ => rfl⟩
  | n + 1 => by
    obtain ⟨hx, hl⟩ := seN_refl n
    refine ⟨fun x => ?_, fun l => ?_⟩
    · unfold seN
      rw [eqL_refl (fun a _ => hx a), eqL_refl (l := x.funcs) (fun f _ => by
        rw [eqL_refl (fun a _ => by unfold eqSt; simp), hl]
        simp)]
      simp
    · unfold seN
      refine eqL_refl fun s _ => ?_
      rw [eqL_refl (fun a _ => by unfold eqLo; simp), eqL_refl (fun a _ => hx a), eqL_refl (fun a _ => hx a), eqL_refl (fun a _ => hl a.l)]
      simp

set_option maxHeartbeats 3200000 in
set_option maxRecDepth 100000 in
theorem eqf_X (F : TX → TX → Bool) (l m : List TX) (a b : Option Addr) (c d N : Nat) (w : World) (hl : Slc a l.length c) (hla : XsAt w N a l) (hm : Slc b m.length d) (hma : XsAt w N b m) (hN : N ≤ w.heap.size)
    (H : ∀ k (h1 : k < l.length) (h2 : k < m.length) W, Below w.heap.size w W → Calls Try.prog 26 #[(l[k]).v, (m[k]).v] W fun e W' => e = .returned (.bool (F l[k] m[k])) ∧ Below W.heap.size W W') :
    Calls Try.prog 47
      #[.slice a l.length c, .slice b m.length d, .func (.func 26) #[] #[]] w fun e W' => e = .returned (.bool (eqL F l m)) ∧ Below w.heap.size w W' := by
  have hn : (l.length : Int) ≤ 9223372036854775807 := by have := hl.1; have := hl.2.1; omega
  have hn2 : (m.length : Int) ≤ 9223372036854775807 := by have := hm.1; have := hm.2.1; omega
  have hg := enters_of Try.func26 (by kernel_rfl) rfl
  have HL := Lib.hid hla
  have HM := Lib.hid hma
  have HH := Lib.hid H
  clear hla hma H hl hm
  by_cases hlen : m.length = l.length
  · obtain ⟨R, hR⟩ : ∃ R, eqL F l m = R := ⟨_, rfl⟩
    rw [hR]
    have HR := Lib.hid hR
    clear hR hn2
    rw [hlen]
    have HLEN := Lib.hid hlen
    clear hlen
    go_enter Try.func47, Try.ntmps47
    go_wp2_with fail
    go_loopw [17] (fun i wr => ∃ k : Nat, k ≤ l.length ∧ i = .int .i64 k ∧ Hid (Below w.heap.size w wr) ∧ Hid (∀ i (h1 : i < l.length) (h2 : i < m.length), i < k → F l[i] m[i] = true)) (fun i _ => l.length - (intOf i).toNat)
    case atStart => exact ⟨0, Nat.zero_le _, rfl, Below.refl _ _, fun i _ _ h => by omega⟩
    case round =>
      obtain ⟨k, hk, rfl, HE, HP⟩ := hrel
      by_cases hlt : k < l.length
      · have hltm : k < m.length := by have := HLEN.out; omega
        rcases HL.out with h0 | ⟨b1, o1, ha1, hb1, hc1⟩
        · omega
        rcases HM.out with h0 | ⟨b2, o2, ha2, hb2, hc2⟩
        · omega
        subst ha1 ha2
        have hx1 := x8_still (still_of HE.out hN) _ _ _ hb1 (hc1 k hlt)
        have hx2 := x8_still (still_of HE.out hN) _ _ _ hb2 (hc2 k hltm)
        have HC := Lib.hid (HH.out k hlt hltm)
        obtain ⟨x, hx⟩ : ∃ x, l[k] = x := ⟨_, rfl⟩
        obtain ⟨y, hy⟩ : ∃ y, m[k] = y := ⟨_, rfl⟩
        obtain ⟨q, hq⟩ : ∃ q, F l[k] m[k] = q := ⟨_, rfl⟩
        have HQ := Lib.hid hq
        rw [hq, hx, hy] at HC
        rw [hx] at hx1
        rw [hy] at hx2
        have hs0 := HE.out.size
        clear hx hy hq hc1 hc2
        obtain ⟨c0, c1, c2, c3, c4, c5, c6, c7⟩ := hx1
        obtain ⟨d0, d1, d2, d3, d4, d5, d6, d7⟩ := hx2
        have hbl1 := cell_lt c0
        have hbl2 := cell_lt d0
        cases q with
        | true =>
          go_wp2_with (go_at_call 26; (with_reducible refine (HC.out _ ?_).mono ?_); (focus (have h0 := HE.out; (repeat' (first | (with_reducible exact Below.refl _ _) | (with_reducible assumption) | (with_reducible refine Below.alloc ?_ ?_ _) | (with_reducible refine below_drewN ?_ _) | (with_reducible refine Below.drew ?_) | (with_reducible refine Below.setCell ?_ ?_ _) | (with_reducible refine below_via (by assumption) ?_ ?_) | (with_reducible refine below_via (later_below _) ?_ ?_) | (with_reducible exact Nat.le_refl _) | omega | (simp; omega) | (simp; done))))); rintro e w1 ⟨rfl, hb⟩)
          refine ⟨⟨k + 1, by omega, by go_num, ?_, ?_⟩, by simp [intOf]; omega⟩
          · show Below _ _ _; have h0 := HE.out; (repeat' (first | (with_reducible exact Below.refl _ _) | (with_reducible assumption) | (with_reducible refine Below.alloc ?_ ?_ _) | (with_reducible refine below_drewN ?_ _) | (with_reducible refine Below.drew ?_) | (with_reducible refine Below.setCell ?_ ?_ _) | (with_reducible refine below_via (by assumption) ?_ ?_) | (with_reducible refine below_via (later_below _) ?_ ?_) | (with_reducible exact Nat.le_refl _) | omega | (simp; omega) | (simp; done)))
          · intro i h1 h2 hik
            by_cases h : i = k
            · subst h; exact HQ.out
            · exact HP.out i h1 h2 (by omega)
        | false =>
          go_wp2_with (go_at_call 26; (with_reducible refine (HC.out _ ?_).mono ?_); (focus (have h0 := HE.out; (repeat' (first | (with_reducible exact Below.refl _ _) | (with_reducible assumption) | (with_reducible refine Below.alloc ?_ ?_ _) | (with_reducible refine below_drewN ?_ _) | (with_reducible refine Below.drew ?_) | (with_reducible refine Below.setCell ?_ ?_ _) | (with_reducible refine below_via (by assumption) ?_ ?_) | (with_reducible refine below_via (later_below _) ?_ ?_) | (with_reducible exact Nat.le_refl _) | omega | (simp; omega) | (simp; done))))); rintro e w1 ⟨rfl, hb⟩)
          go_returns
          have e : R = false := by rw [← HR.out]; exact eqL_at hlt hltm HQ.out
          rw [e]
          refine ⟨rfl, ?_⟩
          have h0 := HE.out
          (repeat' (first | (with_reducible exact Below.refl _ _) | (with_reducible assumption) | (with_reducible refine Below.alloc ?_ ?_ _) | (with_reducible refine below_drewN ?_ _) | (with_reducible refine Below.drew ?_) | (with_reducible refine Below.setCell ?_ ?_ _) | (with_reducible refine below_via (by assumption) ?_ ?_) | (with_reducible refine below_via (later_below _) ?_ ?_) | (with_reducible exact Nat.le_refl _) | omega | (simp; omega) | (simp; done)))
      · obtain rfl : k = l.length := by omega
        go_wp2_with fail
        go_returns
        have e : R = true := by rw [← HR.out]; exact eqL_all HLEN.out (fun i h => HP.out i h (by have := HLEN.out; omega) h)
        rw [e]
        exact ⟨rfl, HE.out⟩
  · rw [eqL_len (fun h => hlen h.symm)]
    have hlen2 : ¬ l.length = m.length := fun h => hlen h.symm
    go_enter Try.func47, Try.ntmps47
    go_wp2_with fail
    go_returns
    exact ⟨rfl, Below.refl _ _⟩

set_option maxHeartbeats 3200000 in
set_option maxRecDepth 100000 in
theorem eqf_S (F : TS → TS → Bool) (l m : List TS) (a b : Option Addr) (c d N : Nat) (w : World) (hl : Slc a l.length c) (hla : SsAt w N a l) (hm : Slc b m.length d) (hma : SsAt w N b m) (hN : N ≤ w.heap.size)
    (H : ∀ k (h1 : k < l.length) (h2 : k < m.length) W, Below w.heap.size w W → Calls Try.prog 45 #[(l[k]).v, (m[k]).v] W fun e W' => e = .returned (.bool (F l[k] m[k])) ∧ Below W.heap.size W W') :
    Calls Try.prog 44
      #[.slice a l.length c, .slice b m.length d, .func (.func 45) #[] #[]] w fun e W' => e = .returned (.bool (eqL F l m)) ∧ Below w.heap.size w W' := by
  have hn : (l.length : Int) ≤ 9223372036854775807 := by have := hl.1; have := hl.2.1; omega
  have hn2 : (m.length : Int) ≤ 9223372036854775807 := by have := hm.1; have := hm.2.1; omega
  have hg := enters_of Try.func45 (by kernel_rfl) rfl
  have HL := Lib.hid hla
  have HM := Lib.hid hma
  have HH := Lib.hid H
  clear hla hma H hl hm
  by_cases hlen : m.length = l.length
  · obtain ⟨R, hR⟩ : ∃ R, eqL F l m = R := ⟨_, rfl⟩
    rw [hR]
    have HR := Lib.hid hR
    clear hR hn2
    rw [hlen]
    have HLEN := Lib.hid hlen
    clear hlen
    go_enter Try.func44, Try.ntmps44
    go_wp2_with fail
    go_loopw [17] (fun i wr => ∃ k : Nat, k ≤ l.length ∧ i = .int .i64 k ∧ Hid (Below w.heap.size w wr) ∧ Hid (∀ i (h1 : i < l.length) (h2 : i < m.length), i < k → F l[i] m[i] = true)) (fun i _ => l.length - (intOf i).toNat)
    case atStart => exact ⟨0, Nat.zero_le _, rfl, Below.refl _ _, fun i _ _ h => by omega⟩
    case round =>
      obtain ⟨k, hk, rfl, HE, HP⟩ := hrel
      by_cases hlt : k < l.length
      · have hltm : k < m.length := by have := HLEN.out; omega
        rcases HL.out with h0 | ⟨b1, o1, ha1, hb1, hc1⟩
        · omega
        rcases HM.out with h0 | ⟨b2, o2, ha2, hb2, hc2⟩
        · omega
        subst ha1 ha2
        have hx1 := s7_still (still_of HE.out hN) _ _ _ hb1 (hc1 k hlt)
        have hx2 := s7_still (still_of HE.out hN) _ _ _ hb2 (hc2 k hltm)
        have HC := Lib.hid (HH.out k hlt hltm)
        obtain ⟨x, hx⟩ : ∃ x, l[k] = x := ⟨_, rfl⟩
        obtain ⟨y, hy⟩ : ∃ y, m[k] = y := ⟨_, rfl⟩
        obtain ⟨q, hq⟩ : ∃ q, F l[k] m[k] = q := ⟨_, rfl⟩
        have HQ := Lib.hid hq
        rw [hq, hx, hy] at HC
        rw [hx] at hx1
        rw [hy] at hx2
        have hs0 := HE.out.size
        clear hx hy hq hc1 hc2
        obtain ⟨c0, c1, c2, c3, c4, c5, c6⟩ := hx1
        obtain ⟨d0, d1, d2, d3, d4, d5, d6⟩ := hx2
        have hbl1 := cell_lt c0
        have hbl2 := cell_lt d0
        cases q with
        | true =>
          go_wp2_with (go_at_call 45; (with_reducible refine (HC.out _ ?_).mono ?_); (focus (have h0 := HE.out; (repeat' (first | (with_reducible exact Below.refl _ _) | (with_reducible assumption) | (with_reducible refine Below.alloc ?_ ?_ _) | (with_reducible refine below_drewN ?_ _) | (with_reducible refine Below.drew ?_) | (with_reducible refine Below.setCell ?_ ?_ _) | (with_reducible refine below_via (by assumption) ?_ ?_) | (with_reducible refine below_via (later_below _) ?_ ?_) | (with_reducible exact Nat.le_refl _) | omega | (simp; omega) | (simp; done))))); rintro e w1 ⟨rfl, hb⟩)
          refine ⟨⟨k + 1, by omega, by go_num, ?_, ?_⟩, by simp [intOf]; omega⟩
          · show Below _ _ _; have h0 := HE.out; (repeat' (first | (with_reducible exact Below.refl _ _) | (with_reducible assumption) | (with_reducible refine Below.alloc ?_ ?_ _) | (with_reducible refine below_drewN ?_ _) | (with_reducible refine Below.drew ?_) | (with_reducible refine Below.setCell ?_ ?_ _) | (with_reducible refine below_via (by assumption) ?_ ?_) | (with_reducible refine below_via (later_below _) ?_ ?_) | (with_reducible exact Nat.le_refl _) | omega | (simp; omega) | (simp; done)))
          · intro i h1 h2 hik
            by_cases h : i = k
            · subst h; exact HQ.out
            · exact HP.out i h1 h2 (by omega)
        | false =>
          go_wp2_with (go_at_call 45; (with_reducible refine (HC.out _ ?_).mono ?_); (focus (have h0 := HE.out; (repeat' (first | (with_reducible exact Below.refl _ _) | (with_reducible assumption) | (with_reducible refine Below.alloc ?_ ?_ _) | (with_reducible refine below_drewN ?_ _) | (with_reducible refine Below.drew ?_) | (with_reducible refine Below.setCell ?_ ?_ _) | (with_reducible refine below_via (by assumption) ?_ ?_) | (with_reducible refine below_via (later_below _) ?_ ?_) | (with_reducible exact Nat.le_refl _) | omega | (simp; omega) | (simp; done))))); rintro e w1 ⟨rfl, hb⟩)
          go_returns
          have e : R = false := by rw [← HR.out]; exact eqL_at hlt hltm HQ.out
          rw [e]
          refine ⟨rfl, ?_⟩
          have h0 := HE.out
          (repeat' (first | (with_reducible exact Below.refl _ _) | (with_reducible assumption) | (with_reducible refine Below.alloc ?_ ?_ _) | (with_reducible refine below_drewN ?_ _) | (with_reducible refine Below.drew ?_) | (with_reducible refine Below.setCell ?_ ?_ _) | (with_reducible refine below_via (by assumption) ?_ ?_) | (with_reducible refine below_via (later_below _) ?_ ?_) | (with_reducible exact Nat.le_refl _) | omega | (simp; omega) | (simp; done)))
      · obtain rfl : k = l.length := by omega
        go_wp2_with fail
        go_returns
        have e : R = true := by rw [← HR.out]; exact eqL_all HLEN.out (fun i h => HP.out i h (by have := HLEN.out; omega) h)
        rw [e]
        exact ⟨rfl, HE.out⟩
  · rw [eqL_len (fun h => hlen h.symm)]
    have hlen2 : ¬ l.length = m.length := fun h => hlen h.symm
    go_enter Try.func44, Try.ntmps44
    go_wp2_with fail
    go_returns
    exact ⟨rfl, Below.refl _ _⟩

set_option maxHeartbeats 3200000 in
set_option maxRecDepth 100000 in
theorem eqf_F (F : TF → TF → Bool) (l m : List TF) (a b : Option Addr) (c d N : Nat) (w : World) (hl : Slc a l.length c) (hla : FsAt w N a l) (hm : Slc b m.length d) (hma : FsAt w N b m) (hN : N ≤ w.heap.size)
    (H : ∀ k (h1 : k < l.length) (h2 : k < m.length) W, Below w.heap.size w W → Calls Try.prog 49 #[(l[k]).v, (m[k]).v] W fun e W' => e = .returned (.bool (F l[k] m[k])) ∧ Below W.heap.size W W') :
    Calls Try.prog 48
      #[.slice a l.length c, .slice b m.length d, .func (.func 49) #[] #[]] w fun e W' => e = .returned (.bool (eqL F l m)) ∧ Below w.heap.size w W' := by
  have hn : (l.length : Int) ≤ 9223372036854775807 := by have := hl.1; have := hl.2.1; omega
  have hn2 : (m.length : Int) ≤ 9223372036854775807 := by have := hm.1; have := hm.2.1; omega
  have hg := enters_of Try.func49 (by kernel_rfl) rfl
  have HL := Lib.hid hla
  have HM := Lib.hid hma
  have HH := Lib.hid H
  clear hla hma H hl hm
  by_cases hlen : m.length = l.length
  · obtain ⟨R, hR⟩ : ∃ R, eqL F l m = R := ⟨_, rfl⟩
    rw [hR]
    have HR := Lib.hid hR
    clear hR hn2
    rw [hlen]
    have HLEN := Lib.hid hlen
    clear hlen
    go_enter Try.func48, Try.ntmps48
    go_wp2_with fail
    go_loopw [17] (fun i wr => ∃ k : Nat, k ≤ l.length ∧ i = .int .i64 k ∧ Hid (Below w.heap.size w wr) ∧ Hid (∀ i (h1 : i < l.length) (h2 : i < m.length), i < k → F l[i] m[i] = true)) (fun i _ => l.length - (intOf i).toNat)
    case atStart => exact ⟨0, Nat.zero_le _, rfl, Below.refl _ _, fun i _ _ h => by omega⟩
    case round =>
      obtain ⟨k, hk, rfl, HE, HP⟩ := hrel
      by_cases hlt : k < l.length
      · have hltm : k < m.length := by have := HLEN.out; omega
        rcases HL.out with h0 | ⟨b1, o1, ha1, hb1, hc1⟩
        · omega
        rcases HM.out with h0 | ⟨b2, o2, ha2, hb2, hc2⟩
        · omega
        subst ha1 ha2
        have hx1 := f5_still (still_of HE.out hN) _ _ _ hb1 (hc1 k hlt)
        have hx2 := f5_still (still_of HE.out hN) _ _ _ hb2 (hc2 k hltm)
        have HC := Lib.hid (HH.out k hlt hltm)
        obtain ⟨x, hx⟩ : ∃ x, l[k] = x := ⟨_, rfl⟩
        obtain ⟨y, hy⟩ : ∃ y, m[k] = y := ⟨_, rfl⟩
        obtain ⟨q, hq⟩ : ∃ q, F l[k] m[k] = q := ⟨_, rfl⟩
        have HQ := Lib.hid hq
        rw [hq, hx, hy] at HC
        rw [hx] at hx1
        rw [hy] at hx2
        have hs0 := HE.out.size
        clear hx hy hq hc1 hc2
        obtain ⟨c0, c1, c2, c3, c4⟩ := hx1
        obtain ⟨d0, d1, d2, d3, d4⟩ := hx2
        have hbl1 := cell_lt c0
        have hbl2 := cell_lt d0
        cases q with
        | true =>
          go_wp2_with (go_at_call 49; (with_reducible refine (HC.out _ ?_).mono ?_); (focus (have h0 := HE.out; (repeat' (first | (with_reducible exact Below.refl _ _) | (with_reducible assumption) | (with_reducible refine Below.alloc ?_ ?_ _) | (with_reducible refine below_drewN ?_ _) | (with_reducible refine Below.drew ?_) | (with_reducible refine Below.setCell ?_ ?_ _) | (with_reducible refine below_via (by assumption) ?_ ?_) | (with_reducible refine below_via (later_below _) ?_ ?_) | (with_reducible exact Nat.le_refl _) | omega | (simp; omega) | (simp; done))))); rintro e w1 ⟨rfl, hb⟩)
          refine ⟨⟨k + 1, by omega, by go_num, ?_, ?_⟩, by simp [intOf]; omega⟩
          · show Below _ _ _; have h0 := HE.out; (repeat' (first | (with_reducible exact Below.refl _ _) | (with_reducible assumption) | (with_reducible refine Below.alloc ?_ ?_ _) | (with_reducible refine below_drewN ?_ _) | (with_reducible refine Below.drew ?_) | (with_reducible refine Below.setCell ?_ ?_ _) | (with_reducible refine below_via (by assumption) ?_ ?_) | (with_reducible refine below_via (later_below _) ?_ ?_) | (with_reducible exact Nat.le_refl _) | omega | (simp; omega) | (simp; done)))
          · intro i h1 h2 hik
            by_cases h : i = k
            · subst h; exact HQ.out
            · exact HP.out i h1 h2 (by omega)
        | false =>
          go_wp2_with (go_at_call 49; (with_reducible refine (HC.out _ ?_).mono ?_); (focus (have h0 := HE.out; (repeat' (first | (with_reducible exact Below.refl _ _) | (with_reducible assumption) | (with_reducible refine Below.alloc ?_ ?_ _) | (with_reducible refine below_drewN ?_ _) | (with_reducible refine Below.drew ?_) | (with_reducible refine Below.setCell ?_ ?_ _) | (with_reducible refine below_via (by assumption) ?_ ?_) | (with_reducible refine below_via (later_below _) ?_ ?_) | (with_reducible exact Nat.le_refl _) | omega | (simp; omega) | (simp; done))))); rintro e w1 ⟨rfl, hb⟩)
          go_returns
          have e : R = false := by rw [← HR.out]; exact eqL_at hlt hltm HQ.out
          rw [e]
          refine ⟨rfl, ?_⟩
          have h0 := HE.out
          (repeat' (first | (with_reducible exact Below.refl _ _) | (with_reducible assumption) | (with_reducible refine Below.alloc ?_ ?_ _) | (with_reducible refine below_drewN ?_ _) | (with_reducible refine Below.drew ?_) | (with_reducible refine Below.setCell ?_ ?_ _) | (with_reducible refine below_via (by assumption) ?_ ?_) | (with_reducible refine below_via (later_below _) ?_ ?_) | (with_reducible exact Nat.le_refl _) | omega | (simp; omega) | (simp; done)))
      · obtain rfl : k = l.length := by omega
        go_wp2_with fail
        go_returns
        have e : R = true := by rw [← HR.out]; exact eqL_all HLEN.out (fun i h => HP.out i h (by have := HLEN.out; omega) h)
        rw [e]
        exact ⟨rfl, HE.out⟩
  · rw [eqL_len (fun h => hlen h.symm)]
    have hlen2 : ¬ l.length = m.length := fun h => hlen h.symm
    go_enter Try.func48, Try.ntmps48
    go_wp2_with fail
    go_returns
    exact ⟨rfl, Below.refl _ _⟩

set_option maxHeartbeats 3200000 in
set_option maxRecDepth 100000 in
theorem eqf_B (F : TB → TB → Bool) (l m : List TB) (a b : Option Addr) (c d N : Nat) (w : World) (hl : Slc a l.length c) (hla : BsAt w N a l) (hm : Slc b m.length d) (hma : BsAt w N b m) (hN : N ≤ w.heap.size)
    (H : ∀ k (h1 : k < l.length) (h2 : k < m.length) W, Below w.heap.size w W → Calls Try.prog 24 #[(l[k]).v, (m[k]).v] W fun e W' => e = .returned (.bool (F l[k] m[k])) ∧ Below W.heap.size W W') :
    Calls Try.prog 62
      #[.slice a l.length c, .slice b m.length d, .func (.func 24) #[] #[]] w fun e W' => e = .returned (.bool (eqL F l m)) ∧ Below w.heap.size w W' := by
  have hn : (l.length : Int) ≤ 9223372036854775807 := by have := hl.1; have := hl.2.1; omega
  have hn2 : (m.length : Int) ≤ 9223372036854775807 := by have := hm.1; have := hm.2.1; omega
  have hg := enters_of Try.func24 (by kernel_rfl) rfl
  have HL := Lib.hid hla
  have HM := Lib.hid hma
  have HH := Lib.hid H
  clear hla hma H hl hm
  by_cases hlen : m.length = l.length
  · obtain ⟨R, hR⟩ : ∃ R, eqL F l m = R := ⟨_, rfl⟩
    rw [hR]
    have HR := Lib.hid hR
    clear hR hn2
    rw [hlen]
    have HLEN := Lib.hid hlen
    clear hlen
    go_enter Try.func62, Try.ntmps62
    go_wp2_with fail
    go_loopw [17] (fun i wr => ∃ k : Nat, k ≤ l.length ∧ i = .int .i64 k ∧ Hid (Below w.heap.size w wr) ∧ Hid (∀ i (h1 : i < l.length) (h2 : i < m.length), i < k → F l[i] m[i] = true)) (fun i _ => l.length - (intOf i).toNat)
    case atStart => exact ⟨0, Nat.zero_le _, rfl, Below.refl _ _, fun i _ _ h => by omega⟩
    case round =>
      obtain ⟨k, hk, rfl, HE, HP⟩ := hrel
      by_cases hlt : k < l.length
      · have hltm : k < m.length := by have := HLEN.out; omega
        rcases HL.out with h0 | ⟨b1, o1, ha1, hb1, hc1⟩
        · omega
        rcases HM.out with h0 | ⟨b2, o2, ha2, hb2, hc2⟩
        · omega
        subst ha1 ha2
        have hx1 := b1_still (still_of HE.out hN) _ _ _ hb1 (hc1 k hlt)
        have hx2 := b1_still (still_of HE.out hN) _ _ _ hb2 (hc2 k hltm)
        have HC := Lib.hid (HH.out k hlt hltm)
        obtain ⟨x, hx⟩ : ∃ x, l[k] = x := ⟨_, rfl⟩
        obtain ⟨y, hy⟩ : ∃ y, m[k] = y := ⟨_, rfl⟩
        obtain ⟨q, hq⟩ : ∃ q, F l[k] m[k] = q := ⟨_, rfl⟩
        have HQ := Lib.hid hq
        rw [hq, hx, hy] at HC
        rw [hx] at hx1
        rw [hy] at hx2
        have hs0 := HE.out.size
        clear hx hy hq hc1 hc2
        rw [Nat.mul_one] at hx1
        have c0 : World.cell? _ _ = some (Value.slice _ _ _) := hx1
        rw [Nat.mul_one] at hx2
        have d0 : World.cell? _ _ = some (Value.slice _ _ _) := hx2
        have hbl1 := cell_lt c0
        have hbl2 := cell_lt d0
        cases q with
        | true =>
          go_wp2_with (go_at_call 24; (with_reducible refine (HC.out _ ?_).mono ?_); (focus (have h0 := HE.out; (repeat' (first | (with_reducible exact Below.refl _ _) | (with_reducible assumption) | (with_reducible refine Below.alloc ?_ ?_ _) | (with_reducible refine below_drewN ?_ _) | (with_reducible refine Below.drew ?_) | (with_reducible refine Below.setCell ?_ ?_ _) | (with_reducible refine below_via (by assumption) ?_ ?_) | (with_reducible refine below_via (later_below _) ?_ ?_) | (with_reducible exact Nat.le_refl _) | omega | (simp; omega) | (simp; done))))); rintro e w1 ⟨rfl, hb⟩)
          refine ⟨⟨k + 1, by omega, by go_num, ?_, ?_⟩, by simp [intOf]; omega⟩
          · show Below _ _ _; have h0 := HE.out; (repeat' (first | (with_reducible exact Below.refl _ _) | (with_reducible assumption) | (with_reducible refine Below.alloc ?_ ?_ _) | (with_reducible refine below_drewN ?_ _) | (with_reducible refine Below.drew ?_) | (with_reducible refine Below.setCell ?_ ?_ _) | (with_reducible refine below_via (by assumption) ?_ ?_) | (with_reducible refine below_via (later_below _) ?_ ?_) | (with_reducible exact Nat.le_refl _) | omega | (simp; omega) | (simp; done)))
          · intro i h1 h2 hik
            by_cases h : i = k
            · subst h; exact HQ.out
            · exact HP.out i h1 h2 (by omega)
        | false =>
          go_wp2_with (go_at_call 24; (with_reducible refine (HC.out _ ?_).mono ?_); (focus (have h0 := HE.out; (repeat' (first | (with_reducible exact Below.refl _ _) | (with_reducible assumption) | (with_reducible refine Below.alloc ?_ ?_ _) | (with_reducible refine below_drewN ?_ _) | (with_reducible refine Below.drew ?_) | (with_reducible refine Below.setCell ?_ ?_ _) | (with_reducible refine below_via (by assumption) ?_ ?_) | (with_reducible refine below_via (later_below _) ?_ ?_) | (with_reducible exact Nat.le_refl _) | omega | (simp; omega) | (simp; done))))); rintro e w1 ⟨rfl, hb⟩)
          go_returns
          have e : R = false := by rw [← HR.out]; exact eqL_at hlt hltm HQ.out
          rw [e]
          refine ⟨rfl, ?_⟩
          have h0 := HE.out
          (repeat' (first | (with_reducible exact Below.refl _ _) | (with_reducible assumption) | (with_reducible refine Below.alloc ?_ ?_ _) | (with_reducible refine below_drewN ?_ _) | (with_reducible refine Below.drew ?_) | (with_reducible refine Below.setCell ?_ ?_ _) | (with_reducible refine below_via (by assumption) ?_ ?_) | (with_reducible refine below_via (later_below _) ?_ ?_) | (with_reducible exact Nat.le_refl _) | omega | (simp; omega) | (simp; done)))
      · obtain rfl : k = l.length := by omega
        go_wp2_with fail
        go_returns
        have e : R = true := by rw [← HR.out]; exact eqL_all HLEN.out (fun i h => HP.out i h (by have := HLEN.out; omega) h)
        rw [e]
        exact ⟨rfl, HE.out⟩
  · rw [eqL_len (fun h => hlen h.symm)]
    have hlen2 : ¬ l.length = m.length := fun h => hlen h.symm
    go_enter Try.func62, Try.ntmps62
    go_wp2_with fail
    go_returns
    exact ⟨rfl, Below.refl _ _⟩
end Go.Proofs.Ythkpggpnbdedjaa

/- slices.Equal at local variables and strings, and the reference's loops of the same shape. -/
namespace Go.Proofs.Ythkpggpnbdedjaa
open Go.RowKit Go.Instr
set_option linter.unusedVariables false

theorem eqIn_loc (s t : ByteArray) (i j : Int) (u : World) : (Op.equalIn 10000 50 (.agg #[.string s, .int .i64 i]) (.agg #[.string t, .int .i64 j])).run Try.prog u = .ok ((s.toList == t.toList) && (i == j)) u := by
  by_cases h1 : s.toList = t.toList
  · have e1 : (s.toList == t.toList) = true := by simpa using h1
    by_cases h2 : i = j
    · subst h2
      simp [go_sem, e1]
    · have e2 : (i == j) = false := by simpa using h2
      simp [go_sem, e1, e2]
  · have e1 : (s.toList == t.toList) = false := by simpa using h1
    simp [go_sem, e1]
theorem ne_loc (s t : ByteArray) (i j : Int) (u : World) : (binOp .neq 50 (.agg #[.string s, .int .i64 i]) (.agg #[.string t, .int .i64 j])).run Try.prog u = .ok (.bool !((s.toList == t.toList) && (i == j))) u := by
  rw [run_neq_struct, eqIn_loc]
  rfl

set_option maxHeartbeats 3200000 in
set_option maxRecDepth 100000 in
theorem equalL_any (l m : List (ByteArray × Int)) (a b : Option Addr) (c d N : Nat) (w : World) (hl : Slc a l.length c) (hla : LsAt w N a l) (hm : Slc b m.length d) (hma : LsAt w N b m) (hN : N ≤ w.heap.size) :
    Calls Try.prog 61
      #[.slice a l.length c, .slice b m.length d] w fun e W' => e = .returned (.bool (eqL eqLo l m)) ∧ Below w.heap.size w W' := by
  have hn : (l.length : Int) ≤ 9223372036854775807 := by have := hl.1; have := hl.2.1; omega
  have hn2 : (m.length : Int) ≤ 9223372036854775807 := by have := hm.1; have := hm.2.1; omega
  have HL := Lib.hid hla
  have HM := Lib.hid hma
  clear hla hma hl hm
  by_cases hlen : m.length = l.length
  · obtain ⟨R, hR⟩ : ∃ R, eqL eqLo l m = R := ⟨_, rfl⟩
    rw [hR]
    have HR := Lib.hid hR
    clear hR hn2
    rw [hlen]
    have HLEN := Lib.hid hlen
    clear hlen
    go_enter Try.func61, Try.ntmps61
    go_wp2_with fail
    go_loopw [13] (fun i wr => ∃ k : Nat, k ≤ l.length ∧ i = .int .i64 k ∧ Hid (Below w.heap.size w wr) ∧ Hid (∀ i (h1 : i < l.length) (h2 : i < m.length), i < k → eqLo l[i] m[i] = true)) (fun i _ => l.length - (intOf i).toNat)
    case atStart => exact ⟨0, Nat.zero_le _, rfl, Below.refl _ _, fun i _ _ h => by omega⟩
    case round =>
      obtain ⟨k, hk, rfl, HE, HP⟩ := hrel
      have hs0 := HE.out.size
      by_cases hlt : k < l.length
      · have hltm : k < m.length := by have := HLEN.out; omega
        rcases HL.out with h0 | ⟨b1, o1, ha1, hb1, hc1⟩
        · omega
        rcases HM.out with h0 | ⟨b2, o2, ha2, hb2, hc2⟩
        · omega
        subst ha1 ha2
        have hx1 := l2_still (still_of HE.out hN) _ _ _ hb1 (hc1 k hlt)
        have hx2 := l2_still (still_of HE.out hN) _ _ _ hb2 (hc2 k hltm)
        obtain ⟨x, hx⟩ : ∃ x, l[k] = x := ⟨_, rfl⟩
        obtain ⟨y, hy⟩ : ∃ y, m[k] = y := ⟨_, rfl⟩
        obtain ⟨q, hq⟩ : ∃ q, eqLo l[k] m[k] = q := ⟨_, rfl⟩
        have HQ := Lib.hid hq
        have hq2 := hq
        rw [hx, hy] at hq2
        rw [hx] at hx1
        rw [hy] at hx2
        clear hx hy hq hc1 hc2
        obtain ⟨c0, c1⟩ := hx1
        obtain ⟨d0, d1⟩ := hx2
        have hbl1 := cell_lt c0
        have hbl2 := cell_lt d0
        have hnl := fun u => ne_loc x.1 y.1 x.2 y.2 u
        have hqq : ((x.1.toList == y.1.toList) && (x.2 == y.2)) = q := hq2
        rw [hqq] at hnl
        clear hq2
        cases q with
        | true =>
          go_wp2_with fail
          go_quiet (fail)
          go_wp2_with fail
          refine ⟨⟨k + 1, by omega, by go_num, ?_, ?_⟩, by simp [intOf]; omega⟩
          · show Below _ _ _; have h0 := HE.out; (repeat' (first | (with_reducible exact Below.refl _ _) | (with_reducible assumption) | (with_reducible refine Below.alloc ?_ ?_ _) | (with_reducible refine below_drewN ?_ _) | (with_reducible refine Below.drew ?_) | (with_reducible refine Below.setCell ?_ ?_ _) | (with_reducible refine below_via (by assumption) ?_ ?_) | (with_reducible refine below_via (later_below _) ?_ ?_) | (with_reducible exact Nat.le_refl _) | omega | (simp; omega) | (simp; done)))
          · intro i h1 h2 hik
            by_cases h : i = k
            · subst h; exact HQ.out
            · exact HP.out i h1 h2 (by omega)
        | false =>
          go_wp2_with fail
          go_quiet (fail)
          go_wp2_with fail
          go_returns
          have e : R = false := by rw [← HR.out]; exact eqL_at hlt hltm HQ.out
          rw [e]
          refine ⟨rfl, ?_⟩
          have h0 := HE.out
          (repeat' (first | (with_reducible exact Below.refl _ _) | (with_reducible assumption) | (with_reducible refine Below.alloc ?_ ?_ _) | (with_reducible refine below_drewN ?_ _) | (with_reducible refine Below.drew ?_) | (with_reducible refine Below.setCell ?_ ?_ _) | (with_reducible refine below_via (by assumption) ?_ ?_) | (with_reducible refine below_via (later_below _) ?_ ?_) | (with_reducible exact Nat.le_refl _) | omega | (simp; omega) | (simp; done)))
      · obtain rfl : k = l.length := by omega
        go_wp2_with fail
        go_returns
        have e : R = true := by rw [← HR.out]; exact eqL_all HLEN.out (fun i h => HP.out i h (by have := HLEN.out; omega) h)
        rw [e]
        exact ⟨rfl, HE.out⟩
  · rw [eqL_len (fun h => hlen h.symm)]
    have hlen2 : ¬ l.length = m.length := fun h => hlen h.symm
    go_enter Try.func61, Try.ntmps61
    go_wp2_with fail
    go_returns
    exact ⟨rfl, Below.refl _ _⟩

set_option maxHeartbeats 3200000 in
set_option maxRecDepth 100000 in
theorem equalP_any (l m : List ByteArray) (a b : Option Addr) (c d N : Nat) (w : World) (hl : Slc a l.length c) (hla : PsAt w N a l) (hm : Slc b m.length d) (hma : PsAt w N b m) (hN : N ≤ w.heap.size) :
    Calls Try.prog 64
      #[.slice a l.length c, .slice b m.length d] w fun e W' => e = .returned (.bool (eqL eqSt l m)) ∧ Below w.heap.size w W' := by
  have hn : (l.length : Int) ≤ 9223372036854775807 := by have := hl.1; have := hl.2.1; omega
  have hn2 : (m.length : Int) ≤ 9223372036854775807 := by have := hm.1; have := hm.2.1; omega
  have HL := Lib.hid hla
  have HM := Lib.hid hma
  clear hla hma hl hm
  by_cases hlen : m.length = l.length
  · obtain ⟨R, hR⟩ : ∃ R, eqL eqSt l m = R := ⟨_, rfl⟩
    rw [hR]
    have HR := Lib.hid hR
    clear hR hn2
    rw [hlen]
    have HLEN := Lib.hid hlen
    clear hlen
    go_enter Try.func64, Try.ntmps64
    go_wp2_with fail
    go_loopw [13] (fun i wr => ∃ k : Nat, k ≤ l.length ∧ i = .int .i64 k ∧ Hid (Below w.heap.size w wr) ∧ Hid (∀ i (h1 : i < l.length) (h2 : i < m.length), i < k → eqSt l[i] m[i] = true)) (fun i _ => l.length - (intOf i).toNat)
    case atStart => exact ⟨0, Nat.zero_le _, rfl, Below.refl _ _, fun i _ _ h => by omega⟩
    case round =>
      obtain ⟨k, hk, rfl, HE, HP⟩ := hrel
      have hs0 := HE.out.size
      by_cases hlt : k < l.length
      · have hltm : k < m.length := by have := HLEN.out; omega
        rcases HL.out with h0 | ⟨b1, o1, ha1, hb1, hc1⟩
        · omega
        rcases HM.out with h0 | ⟨b2, o2, ha2, hb2, hc2⟩
        · omega
        subst ha1 ha2
        have hx1 := p1_still (still_of HE.out hN) _ _ _ hb1 (hc1 k hlt)
        have hx2 := p1_still (still_of HE.out hN) _ _ _ hb2 (hc2 k hltm)
        obtain ⟨x, hx⟩ : ∃ x, l[k] = x := ⟨_, rfl⟩
        obtain ⟨y, hy⟩ : ∃ y, m[k] = y := ⟨_, rfl⟩
        obtain ⟨q, hq⟩ : ∃ q, eqSt l[k] m[k] = q := ⟨_, rfl⟩
        have HQ := Lib.hid hq
        have hq2 := hq
        rw [hx, hy] at hq2
        rw [hx] at hx1
        rw [hy] at hx2
        clear hx hy hq hc1 hc2
        rw [Nat.mul_one] at hx1
        have c0 : World.cell? _ _ = some (Value.string _) := hx1
        rw [Nat.mul_one] at hx2
        have d0 : World.cell? _ _ = some (Value.string _) := hx2
        have hbl1 := cell_lt c0
        have hbl2 := cell_lt d0
        have hqq : (x.toList == y.toList) = q := hq2

        clear hq2
        cases q with
        | true =>
          go_wp2_with fail
          go_quiet (fail)
          go_wp2_with fail
          refine ⟨⟨k + 1, by omega, by go_num, ?_, ?_⟩, by simp [intOf]; omega⟩
          · show Below _ _ _; have h0 := HE.out; (repeat' (first | (with_reducible exact Below.refl _ _) | (with_reducible assumption) | (with_reducible refine Below.alloc ?_ ?_ _) | (with_reducible refine below_drewN ?_ _) | (with_reducible refine Below.drew ?_) | (with_reducible refine Below.setCell ?_ ?_ _) | (with_reducible refine below_via (by assumption) ?_ ?_) | (with_reducible refine below_via (later_below _) ?_ ?_) | (with_reducible exact Nat.le_refl _) | omega | (simp; omega) | (simp; done)))
          · intro i h1 h2 hik
            by_cases h : i = k
            · subst h; exact HQ.out
            · exact HP.out i h1 h2 (by omega)
        | false =>
          go_wp2_with fail
          go_quiet (fail)
          go_wp2_with fail
          go_returns
          have e : R = false := by rw [← HR.out]; exact eqL_at hlt hltm HQ.out
          rw [e]
          refine ⟨rfl, ?_⟩
          have h0 := HE.out
          (repeat' (first | (with_reducible exact Below.refl _ _) | (with_reducible assumption) | (with_reducible refine Below.alloc ?_ ?_ _) | (with_reducible refine below_drewN ?_ _) | (with_reducible refine Below.drew ?_) | (with_reducible refine Below.setCell ?_ ?_ _) | (with_reducible refine below_via (by assumption) ?_ ?_) | (with_reducible refine below_via (later_below _) ?_ ?_) | (with_reducible exact Nat.le_refl _) | omega | (simp; omega) | (simp; done)))
      · obtain rfl : k = l.length := by omega
        go_wp2_with fail
        go_returns
        have e : R = true := by rw [← HR.out]; exact eqL_all HLEN.out (fun i h => HP.out i h (by have := HLEN.out; omega) h)
        rw [e]
        exact ⟨rfl, HE.out⟩
  · rw [eqL_len (fun h => hlen h.symm)]
    have hlen2 : ¬ l.length = m.length := fun h => hlen h.symm
    go_enter Try.func64, Try.ntmps64
    go_wp2_with fail
    go_returns
    exact ⟨rfl, Below.refl _ _⟩

set_option maxHeartbeats 3200000 in
set_option maxRecDepth 100000 in
theorem rlocs_any (l m : List (ByteArray × Int)) (a b : Option Addr) (c d N : Nat) (w : World) (hl : Slc a l.length c) (hla : LsAt w N a l) (hm : Slc b m.length d) (hma : LsAt w N b m) (hN : N ≤ w.heap.size) :
    Calls Try.prog 63
      #[.slice a l.length c, .slice b m.length d] w fun e W' => e = .returned (.bool (eqL eqLo l m)) ∧ Below w.heap.size w W' := by
  have hn : (l.length : Int) ≤ 9223372036854775807 := by have := hl.1; have := hl.2.1; omega
  have hn2 : (m.length : Int) ≤ 9223372036854775807 := by have := hm.1; have := hm.2.1; omega
  have HL := Lib.hid hla
  have HM := Lib.hid hma
  clear hla hma hl hm
  by_cases hlen : m.length = l.length
  · obtain ⟨R, hR⟩ : ∃ R, eqL eqLo l m = R := ⟨_, rfl⟩
    rw [hR]
    have HR := Lib.hid hR
    clear hR hn2
    rw [hlen]
    have HLEN := Lib.hid hlen
    clear hlen
    go_enter Try.func63, Try.ntmps63
    go_wp2_with fail
    go_loopw [5] (fun i wr => ∃ k : Nat, k ≤ l.length ∧ i = .int .i64 k ∧ Hid (Below w.heap.size w wr) ∧ Hid (∀ i (h1 : i < l.length) (h2 : i < m.length), i < k → eqLo l[i] m[i] = true)) (fun i _ => l.length - (intOf i).toNat)
    case atStart => exact ⟨0, Nat.zero_le _, rfl, Below.refl _ _, fun i _ _ h => by omega⟩
    case round =>
      obtain ⟨k, hk, rfl, HE, HP⟩ := hrel
      have hs0 := HE.out.size
      by_cases hlt : k < l.length
      · have hltm : k < m.length := by have := HLEN.out; omega
        rcases HL.out with h0 | ⟨b1, o1, ha1, hb1, hc1⟩
        · omega
        rcases HM.out with h0 | ⟨b2, o2, ha2, hb2, hc2⟩
        · omega
        subst ha1 ha2
        have hx1 := l2_still (still_of HE.out hN) _ _ _ hb1 (hc1 k hlt)
        have hx2 := l2_still (still_of HE.out hN) _ _ _ hb2 (hc2 k hltm)
        obtain ⟨x, hx⟩ : ∃ x, l[k] = x := ⟨_, rfl⟩
        obtain ⟨y, hy⟩ : ∃ y, m[k] = y := ⟨_, rfl⟩
        obtain ⟨q, hq⟩ : ∃ q, eqLo l[k] m[k] = q := ⟨_, rfl⟩
        have HQ := Lib.hid hq
        have hq2 := hq
        rw [hx, hy] at hq2
        rw [hx] at hx1
        rw [hy] at hx2
        clear hx hy hq hc1 hc2
        obtain ⟨c0, c1⟩ := hx1
        obtain ⟨d0, d1⟩ := hx2
        have hbl1 := cell_lt c0
        have hbl2 := cell_lt d0
        have hnl := fun u => ne_loc x.1 y.1 x.2 y.2 u
        have hqq : ((x.1.toList == y.1.toList) && (x.2 == y.2)) = q := hq2
        rw [hqq] at hnl
        clear hq2
        cases q with
        | true =>
          go_wp2_with fail
          go_quiet (fail)
          go_wp2_with fail
          refine ⟨⟨k + 1, by omega, by go_num, ?_, ?_⟩, by simp [intOf]; omega⟩
          · show Below _ _ _; have h0 := HE.out; (repeat' (first | (with_reducible exact Below.refl _ _) | (with_reducible assumption) | (with_reducible refine Below.alloc ?_ ?_ _) | (with_reducible refine below_drewN ?_ _) | (with_reducible refine Below.drew ?_) | (with_reducible refine Below.setCell ?_ ?_ _) | (with_reducible refine below_via (by assumption) ?_ ?_) | (with_reducible refine below_via (later_below _) ?_ ?_) | (with_reducible exact Nat.le_refl _) | omega | (simp; omega) | (simp; done)))
          · intro i h1 h2 hik
            by_cases h : i = k
            · subst h; exact HQ.out
            · exact HP.out i h1 h2 (by omega)
        | false =>
          go_wp2_with fail
          go_quiet (fail)
          go_wp2_with fail
          go_returns
          have e : R = false := by rw [← HR.out]; exact eqL_at hlt hltm HQ.out
          rw [e]
          refine ⟨rfl, ?_⟩
          have h0 := HE.out
          (repeat' (first | (with_reducible exact Below.refl _ _) | (with_reducible assumption) | (with_reducible refine Below.alloc ?_ ?_ _) | (with_reducible refine below_drewN ?_ _) | (with_reducible refine Below.drew ?_) | (with_reducible refine Below.setCell ?_ ?_ _) | (with_reducible refine below_via (by assumption) ?_ ?_) | (with_reducible refine below_via (later_below _) ?_ ?_) | (with_reducible exact Nat.le_refl _) | omega | (simp; omega) | (simp; done)))
      · obtain rfl : k = l.length := by omega
        go_wp2_with fail
        go_returns
        have e : R = true := by rw [← HR.out]; exact eqL_all HLEN.out (fun i h => HP.out i h (by have := HLEN.out; omega) h)
        rw [e]
        exact ⟨rfl, HE.out⟩
  · rw [eqL_len (fun h => hlen h.symm)]
    have hlen2 : ¬ l.length = m.length := fun h => hlen h.symm
    go_enter Try.func63, Try.ntmps63
    go_wp2_with fail
    go_returns
    exact ⟨rfl, Below.refl _ _⟩

set_option maxHeartbeats 3200000 in
set_option maxRecDepth 100000 in
theorem rstrs_any (l m : List ByteArray) (a b : Option Addr) (c d N : Nat) (w : World) (hl : Slc a l.length c) (hla : PsAt w N a l) (hm : Slc b m.length d) (hma : PsAt w N b m) (hN : N ≤ w.heap.size) :
    Calls Try.prog 56
      #[.slice a l.length c, .slice b m.length d] w fun e W' => e = .returned (.bool (eqL eqSt l m)) ∧ Below w.heap.size w W' := by
  have hn : (l.length : Int) ≤ 9223372036854775807 := by have := hl.1; have := hl.2.1; omega
  have hn2 : (m.length : Int) ≤ 9223372036854775807 := by have := hm.1; have := hm.2.1; omega
  have HL := Lib.hid hla
  have HM := Lib.hid hma
  clear hla hma hl hm
  by_cases hlen : m.length = l.length
  · obtain ⟨R, hR⟩ : ∃ R, eqL eqSt l m = R := ⟨_, rfl⟩
    rw [hR]
    have HR := Lib.hid hR
    clear hR hn2
    rw [hlen]
    have HLEN := Lib.hid hlen
    clear hlen
    go_enter Try.func56, Try.ntmps56
    go_wp2_with fail
    go_loopw [5] (fun i wr => ∃ k : Nat, k ≤ l.length ∧ i = .int .i64 k ∧ Hid (Below w.heap.size w wr) ∧ Hid (∀ i (h1 : i < l.length) (h2 : i < m.length), i < k → eqSt l[i] m[i] = true)) (fun i _ => l.length - (intOf i).toNat)
    case atStart => exact ⟨0, Nat.zero_le _, rfl, Below.refl _ _, fun i _ _ h => by omega⟩
    case round =>
      obtain ⟨k, hk, rfl, HE, HP⟩ := hrel
      have hs0 := HE.out.size
      by_cases hlt : k < l.length
      · have hltm : k < m.length := by have := HLEN.out; omega
        rcases HL.out with h0 | ⟨b1, o1, ha1, hb1, hc1⟩
        · omega
        rcases HM.out with h0 | ⟨b2, o2, ha2, hb2, hc2⟩
        · omega
        subst ha1 ha2
        have hx1 := p1_still (still_of HE.out hN) _ _ _ hb1 (hc1 k hlt)
        have hx2 := p1_still (still_of HE.out hN) _ _ _ hb2 (hc2 k hltm)
        obtain ⟨x, hx⟩ : ∃ x, l[k] = x := ⟨_, rfl⟩
        obtain ⟨y, hy⟩ : ∃ y, m[k] = y := ⟨_, rfl⟩
        obtain ⟨q, hq⟩ : ∃ q, eqSt l[k] m[k] = q := ⟨_, rfl⟩
        have HQ := Lib.hid hq
        have hq2 := hq
        rw [hx, hy] at hq2
        rw [hx] at hx1
        rw [hy] at hx2
        clear hx hy hq hc1 hc2
        rw [Nat.mul_one] at hx1
        have c0 : World.cell? _ _ = some (Value.string _) := hx1
        rw [Nat.mul_one] at hx2
        have d0 : World.cell? _ _ = some (Value.string _) := hx2
        have hbl1 := cell_lt c0
        have hbl2 := cell_lt d0
        have hqq : (x.toList == y.toList) = q := hq2

        clear hq2
        cases q with
        | true =>
          go_wp2_with fail
          go_quiet (fail)
          go_wp2_with fail
          refine ⟨⟨k + 1, by omega, by go_num, ?_, ?_⟩, by simp [intOf]; omega⟩
          · show Below _ _ _; have h0 := HE.out; (repeat' (first | (with_reducible exact Below.refl _ _) | (with_reducible assumption) | (with_reducible refine Below.alloc ?_ ?_ _) | (with_reducible refine below_drewN ?_ _) | (with_reducible refine Below.drew ?_) | (with_reducible refine Below.setCell ?_ ?_ _) | (with_reducible refine below_via (by assumption) ?_ ?_) | (with_reducible refine below_via (later_below _) ?_ ?_) | (with_reducible exact Nat.le_refl _) | omega | (simp; omega) | (simp; done)))
          · intro i h1 h2 hik
            by_cases h : i = k
            · subst h; exact HQ.out
            · exact HP.out i h1 h2 (by omega)
        | false =>
          go_wp2_with fail
          go_quiet (fail)
          go_wp2_with fail
          go_returns
          have e : R = false := by rw [← HR.out]; exact eqL_at hlt hltm HQ.out
          rw [e]
          refine ⟨rfl, ?_⟩
          have h0 := HE.out
          (repeat' (first | (with_reducible exact Below.refl _ _) | (with_reducible assumption) | (with_reducible refine Below.alloc ?_ ?_ _) | (with_reducible refine below_drewN ?_ _) | (with_reducible refine Below.drew ?_) | (with_reducible refine Below.setCell ?_ ?_ _) | (with_reducible refine below_via (by assumption) ?_ ?_) | (with_reducible refine below_via (later_below _) ?_ ?_) | (with_reducible exact Nat.le_refl _) | omega | (simp; omega) | (simp; done)))
      · obtain rfl : k = l.length := by omega
        go_wp2_with fail
        go_returns
        have e : R = true := by rw [← HR.out]; exact eqL_all HLEN.out (fun i h => HP.out i h (by have := HLEN.out; omega) h)
        rw [e]
        exact ⟨rfl, HE.out⟩
  · rw [eqL_len (fun h => hlen h.symm)]
    have hlen2 : ¬ l.length = m.length := fun h => hlen h.symm
    go_enter Try.func56, Try.ntmps56
    go_wp2_with fail
    go_returns
    exact ⟨rfl, Below.refl _ _⟩
end Go.Proofs.Ythkpggpnbdedjaa

/- The program's Same and SameExpr. -/
namespace Go.Proofs.Ythkpggpnbdedjaa
open Go.RowKit Go.Instr
set_option linter.unusedVariables false

theorem eqIn_num (p q r s : Int) (u : World) : (Op.equalIn 10000 32 (.agg #[.int .i64 p, .int .i64 q]) (.agg #[.int .i64 r, .int .i64 s])).run Try.prog u = .ok ((p == r) && (q == s)) u := by
  by_cases h1 : p = r
  · by_cases h2 : q = s
    · subst h1 h2
      simp [go_sem]
    · have e2 : (q == s) = false := by simpa using h2
      subst h1
      simp [go_sem, e2]
  · have e1 : (p == r) = false := by simpa using h1
    simp [go_sem, e1]
theorem eq_num (p q r s : Int) (u : World) : (binOp .eql 32 (.agg #[.int .i64 p, .int .i64 q]) (.agg #[.int .i64 r, .int .i64 s])).run Try.prog u = .ok (.bool ((p == r) && (q == s))) u := by
  rw [run_eql_struct, eqIn_num]
  rfl
theorem ne_num (p q r s : Int) (u : World) : (binOp .neq 32 (.agg #[.int .i64 p, .int .i64 q]) (.agg #[.int .i64 r, .int .i64 s])).run Try.prog u = .ok (.bool !((p == r) && (q == s))) u := by
  rw [run_neq_struct, eqIn_num]
  rfl
abbrev SxP (n : Nat) : Prop := ∀ (x y : TX) (w : World), rkX x < n → InX w w.heap.size x → InX w w.heap.size y → Calls Try.prog 26 #[x.v, y.v] w fun e W' => e = .returned (.bool (seN n (.inl (x, y)))) ∧ Below w.heap.size w W'
abbrev SlP (n : Nat) : Prop := ∀ (l m : List TS) (a b : Option Addr) (c d : Nat) (w : World), rkSs l < n → SsOk w w.heap.size a c l → SsOk w w.heap.size b d m → Calls Try.prog 24 #[.slice a l.length c, .slice b m.length d] w fun e W' => e = .returned (.bool (seN n (.inr (l, m)))) ∧ Below w.heap.size w W'
/-- Equality of functions and of statements, over that of lists of statements and of expressions. -/
def sfB (n : Nat) (f g : TF) : Bool := (f.name.toList == g.name.toList) && ((f.ln == g.ln) && ((f.va == g.va) && (eqL eqSt f.params g.params && seN n (.inr (f.body, g.body)))))
def ssB (n : Nat) (s t : TS) : Bool := (s.k == t.k) && ((s.ln == t.ln) && ((s.label.toList == t.label.toList) && (eqL eqLo s.names t.names && (eqL (fun a b => seN n (.inl (a, b))) s.left t.left && (eqL (fun a b => seN n (.inl (a, b))) s.right t.right && eqL (fun a b => seN n (.inr (a.l, b.l))) s.blocks t.blocks)))))
theorem InX.st {w W : World} {x : TX} (h : InX w w.heap.size x) (hW : Below w.heap.size w W) : InX W W.heap.size x := h.still (still_of hW (Nat.le_refl _)) hW.size
theorem InS.st {w W : World} {x : TS} (h : InS w w.heap.size x) (hW : Below w.heap.size w W) : InS W W.heap.size x := h.still (still_of hW (Nat.le_refl _)) hW.size
theorem InF.st {w W : World} {x : TF} (h : InF w w.heap.size x) (hW : Below w.heap.size w W) : InF W W.heap.size x := h.still (still_of hW (Nat.le_refl _)) hW.size
theorem InB.st {w W : World} {x : TB} (h : InB w w.heap.size x) (hW : Below w.heap.size w W) : InB W W.heap.size x := h.still (still_of hW (Nat.le_refl _)) hW.size
theorem SsOk.st {w W : World} {a : Option Addr} {c : Nat} {l : List TS} (h : SsOk w w.heap.size a c l) (hW : Below w.heap.size w W) : SsOk W W.heap.size a c l := h.still (still_of hW (Nat.le_refl _)) hW.size
/-- The library's EqualFunc over two lists of expressions. -/
theorem eqx_p {n : Nat} (hX : SxP n) {l m : List TX} {a b : Option Addr} {c d : Nat} {w : World} (hr : ∀ x ∈ l, rkX x < n) (hl : XsOk w w.heap.size a c l) (hm : XsOk w w.heap.size b d m) (W : World) (hW : Below w.heap.size w W) :
    Calls Try.prog 47
      #[.slice a l.length c, .slice b m.length d, .func (.func 26) #[] #[]] W fun e W' => e = .returned (.bool (eqL (fun a b => seN n (.inl (a, b))) l m)) ∧ Below W.heap.size W W' :=
  have hl := hl.still (still_of hW (Nat.le_refl _)) hW.size
  have hm := hm.still (still_of hW (Nat.le_refl _)) hW.size
  eqf_X _ l m a b c d W.heap.size W hl.1 hl.2.1 hm.1 hm.2.1 (Nat.le_refl _) fun k h1 h2 W1 h => hX _ _ W1 (hr _ (List.getElem_mem h1)) (((inXs_iff _).1 hl.2.2 _ (List.getElem_mem h1)).st h) (((inXs_iff _).1 hm.2.2 _ (List.getElem_mem h2)).st h)
set_option maxHeartbeats 6400000 in
set_option maxRecDepth 100000 in
theorem sameFunc_p {n : Nat} (hL : SlP n) (f g : TF) (w : World) (hr : rkSs f.body < n) (hf : InF w w.heap.size f) (hg : InF w w.heap.size g) :
    Calls Try.prog 49 #[f.v, g.v] w fun e W' => e = .returned (.bool (sfB n f g)) ∧ Below w.heap.size w W' := by
  obtain ⟨R, hR⟩ : ∃ R, sfB n f g = R := ⟨_, rfl⟩
  rw [hR]
  obtain ⟨q1, hq1⟩ : ∃ q, (f.name.toList == g.name.toList) = q := ⟨_, rfl⟩
  obtain ⟨q2, hq2⟩ : ∃ q, (f.ln == g.ln) = q := ⟨_, rfl⟩
  obtain ⟨q3, hq3⟩ : ∃ q, (f.va == g.va) = q := ⟨_, rfl⟩
  obtain ⟨q4, hq4⟩ : ∃ q, eqL eqSt f.params g.params = q := ⟨_, rfl⟩
  obtain ⟨q5, hq5⟩ : ∃ q, seN n (.inr (f.body, g.body)) = q := ⟨_, rfl⟩
  have HR : Hid ((q1 && (q2 && (q3 && (q4 && (q5))))) = R) := by show _ = _; rw [← hR, ← hq1, ← hq2, ← hq3, ← hq4, ← hq5]; rfl
  have HP : Hid (∀ W, Below w.heap.size w W → Calls Try.prog 64
      #[.slice f.pA f.params.length f.pC, .slice g.pA g.params.length g.pC] W fun e W' => e = .returned (.bool q4) ∧ Below W.heap.size W W') := fun W hW => by
    rw [← hq4]
    exact equalP_any _ _ _ _ _ _ W.heap.size W ((inF_iff f).1 (hf.st hW)).1.pi ((inF_iff f).1 (hf.st hW)).1.pAt ((inF_iff g).1 (hg.st hW)).1.pi ((inF_iff g).1 (hg.st hW)).1.pAt (Nat.le_refl _)
  have HB : Hid (∀ W, Below w.heap.size w W → Calls Try.prog 24 #[.slice f.bA f.body.length f.bC, .slice g.bA g.body.length g.bC] W fun e W' => e = .returned (.bool q5) ∧ Below W.heap.size W W') := fun W hW => by
    rw [← hq5]
    exact hL _ _ _ _ _ _ W hr (hf.st hW).ss (hg.st hW).ss
  clear hR hq4 hq5 hL hf hg hr
  cases q1 with
  | false =>
    obtain rfl : R = false := by rw [← HR.out]; simp
    clear HR
    go_enter Try.func49, Try.ntmps49
    go_wp2_with (first | (go_at_call 64; (with_reducible refine (HP.out _ ?_).mono ?_); (focus ((repeat' (first | (with_reducible exact Below.refl _ _) | (with_reducible assumption) | (with_reducible refine Below.alloc ?_ ?_ _) | (with_reducible refine below_drewN ?_ _) | (with_reducible refine Below.drew ?_) | (with_reducible refine Below.setCell ?_ ?_ _) | (with_reducible refine below_via (by assumption) ?_ ?_) | (with_reducible refine below_via (later_below _) ?_ ?_) | (with_reducible exact Nat.le_refl _) | omega | (simp; omega) | (simp; done))))); rintro e w1 ⟨rfl, hb⟩; clear HP; (refine mem hb ?_; intro N hN hz hc hf; (try simp at hN); subst hN)) | (go_at_call 24; (with_reducible refine (HB.out _ ?_).mono ?_); (focus ((repeat' (first | (with_reducible exact Below.refl _ _) | (with_reducible assumption) | (with_reducible refine Below.alloc ?_ ?_ _) | (with_reducible refine below_drewN ?_ _) | (with_reducible refine Below.drew ?_) | (with_reducible refine Below.setCell ?_ ?_ _) | (with_reducible refine below_via (by assumption) ?_ ?_) | (with_reducible refine below_via (later_below _) ?_ ?_) | (with_reducible exact Nat.le_refl _) | omega | (simp; omega) | (simp; done))))); rintro e w1 ⟨rfl, hb⟩; clear HB; (refine mem hb ?_; intro N hN hz hc hf; (try simp at hN); subst hN)))
    go_returns
    refine ⟨rfl, ?_⟩
    (repeat' (first | (with_reducible exact Below.refl _ _) | (with_reducible assumption) | (with_reducible refine Below.alloc ?_ ?_ _) | (with_reducible refine below_drewN ?_ _) | (with_reducible refine Below.drew ?_) | (with_reducible refine Below.setCell ?_ ?_ _) | (with_reducible refine below_via (by assumption) ?_ ?_) | (with_reducible refine below_via (later_below _) ?_ ?_) | (with_reducible exact Nat.le_refl _) | omega | (simp; omega) | (simp; done)))
  | true =>
    cases q2 with
    | false =>
      obtain rfl : R = false := by rw [← HR.out]; simp
      clear HR
      go_enter Try.func49, Try.ntmps49
      go_wp2_with (first | (go_at_call 64; (with_reducible refine (HP.out _ ?_).mono ?_); (focus ((repeat' (first | (with_reducible exact Below.refl _ _) | (with_reducible assumption) | (with_reducible refine Below.alloc ?_ ?_ _) | (with_reducible refine below_drewN ?_ _) | (with_reducible refine Below.drew ?_) | (with_reducible refine Below.setCell ?_ ?_ _) | (with_reducible refine below_via (by assumption) ?_ ?_) | (with_reducible refine below_via (later_below _) ?_ ?_) | (with_reducible exact Nat.le_refl _) | omega | (simp; omega) | (simp; done))))); rintro e w1 ⟨rfl, hb⟩; clear HP; (refine mem hb ?_; intro N hN hz hc hf; (try simp at hN); subst hN)) | (go_at_call 24; (with_reducible refine (HB.out _ ?_).mono ?_); (focus ((repeat' (first | (with_reducible exact Below.refl _ _) | (with_reducible assumption) | (with_reducible refine Below.alloc ?_ ?_ _) | (with_reducible refine below_drewN ?_ _) | (with_reducible refine Below.drew ?_) | (with_reducible refine Below.setCell ?_ ?_ _) | (with_reducible refine below_via (by assumption) ?_ ?_) | (with_reducible refine below_via (later_below _) ?_ ?_) | (with_reducible exact Nat.le_refl _) | omega | (simp; omega) | (simp; done))))); rintro e w1 ⟨rfl, hb⟩; clear HB; (refine mem hb ?_; intro N hN hz hc hf; (try simp at hN); subst hN)))
      go_returns
      refine ⟨rfl, ?_⟩
      (repeat' (first | (with_reducible exact Below.refl _ _) | (with_reducible assumption) | (with_reducible refine Below.alloc ?_ ?_ _) | (with_reducible refine below_drewN ?_ _) | (with_reducible refine Below.drew ?_) | (with_reducible refine Below.setCell ?_ ?_ _) | (with_reducible refine below_via (by assumption) ?_ ?_) | (with_reducible refine below_via (later_below _) ?_ ?_) | (with_reducible exact Nat.le_refl _) | omega | (simp; omega) | (simp; done)))
    | true =>
      cases q3 with
      | false =>
        obtain rfl : R = false := by rw [← HR.out]; simp
        clear HR
        go_enter Try.func49, Try.ntmps49
        go_wp2_with (first | (go_at_call 64; (with_reducible refine (HP.out _ ?_).mono ?_); (focus ((repeat' (first | (with_reducible exact Below.refl _ _) | (with_reducible assumption) | (with_reducible refine Below.alloc ?_ ?_ _) | (with_reducible refine below_drewN ?_ _) | (with_reducible refine Below.drew ?_) | (with_reducible refine Below.setCell ?_ ?_ _) | (with_reducible refine below_via (by assumption) ?_ ?_) | (with_reducible refine below_via (later_below _) ?_ ?_) | (with_reducible exact Nat.le_refl _) | omega | (simp; omega) | (simp; done))))); rintro e w1 ⟨rfl, hb⟩; clear HP; (refine mem hb ?_; intro N hN hz hc hf; (try simp at hN); subst hN)) | (go_at_call 24; (with_reducible refine (HB.out _ ?_).mono ?_); (focus ((repeat' (first | (with_reducible exact Below.refl _ _) | (with_reducible assumption) | (with_reducible refine Below.alloc ?_ ?_ _) | (with_reducible refine below_drewN ?_ _) | (with_reducible refine Below.drew ?_) | (with_reducible refine Below.setCell ?_ ?_ _) | (with_reducible refine below_via (by assumption) ?_ ?_) | (with_reducible refine below_via (later_below _) ?_ ?_) | (with_reducible exact Nat.le_refl _) | omega | (simp; omega) | (simp; done))))); rintro e w1 ⟨rfl, hb⟩; clear HB; (refine mem hb ?_; intro N hN hz hc hf; (try simp at hN); subst hN)))
        go_returns
        refine ⟨rfl, ?_⟩
        (repeat' (first | (with_reducible exact Below.refl _ _) | (with_reducible assumption) | (with_reducible refine Below.alloc ?_ ?_ _) | (with_reducible refine below_drewN ?_ _) | (with_reducible refine Below.drew ?_) | (with_reducible refine Below.setCell ?_ ?_ _) | (with_reducible refine below_via (by assumption) ?_ ?_) | (with_reducible refine below_via (later_below _) ?_ ?_) | (with_reducible exact Nat.le_refl _) | omega | (simp; omega) | (simp; done)))
      | true =>
        cases q4 with
        | false =>
          obtain rfl : R = false := by rw [← HR.out]; simp
          clear HR
          go_enter Try.func49, Try.ntmps49
          go_wp2_with (first | (go_at_call 64; (with_reducible refine (HP.out _ ?_).mono ?_); (focus ((repeat' (first | (with_reducible exact Below.refl _ _) | (with_reducible assumption) | (with_reducible refine Below.alloc ?_ ?_ _) | (with_reducible refine below_drewN ?_ _) | (with_reducible refine Below.drew ?_) | (with_reducible refine Below.setCell ?_ ?_ _) | (with_reducible refine below_via (by assumption) ?_ ?_) | (with_reducible refine below_via (later_below _) ?_ ?_) | (with_reducible exact Nat.le_refl _) | omega | (simp; omega) | (simp; done))))); rintro e w1 ⟨rfl, hb⟩; clear HP; (refine mem hb ?_; intro N hN hz hc hf; (try simp at hN); subst hN)) | (go_at_call 24; (with_reducible refine (HB.out _ ?_).mono ?_); (focus ((repeat' (first | (with_reducible exact Below.refl _ _) | (with_reducible assumption) | (with_reducible refine Below.alloc ?_ ?_ _) | (with_reducible refine below_drewN ?_ _) | (with_reducible refine Below.drew ?_) | (with_reducible refine Below.setCell ?_ ?_ _) | (with_reducible refine below_via (by assumption) ?_ ?_) | (with_reducible refine below_via (later_below _) ?_ ?_) | (with_reducible exact Nat.le_refl _) | omega | (simp; omega) | (simp; done))))); rintro e w1 ⟨rfl, hb⟩; clear HB; (refine mem hb ?_; intro N hN hz hc hf; (try simp at hN); subst hN)))
          go_returns
          refine ⟨rfl, ?_⟩
          (repeat' (first | (with_reducible exact Below.refl _ _) | (with_reducible assumption) | (with_reducible refine Below.alloc ?_ ?_ _) | (with_reducible refine below_drewN ?_ _) | (with_reducible refine Below.drew ?_) | (with_reducible refine Below.setCell ?_ ?_ _) | (with_reducible refine below_via (by assumption) ?_ ?_) | (with_reducible refine below_via (later_below _) ?_ ?_) | (with_reducible exact Nat.le_refl _) | omega | (simp; omega) | (simp; done)))
        | true =>
          cases q5 with
          | false =>
            obtain rfl : R = false := by rw [← HR.out]; simp
            clear HR
            go_enter Try.func49, Try.ntmps49
            go_wp2_with (first | (go_at_call 64; (with_reducible refine (HP.out _ ?_).mono ?_); (focus ((repeat' (first | (with_reducible exact Below.refl _ _) | (with_reducible assumption) | (with_reducible refine Below.alloc ?_ ?_ _) | (with_reducible refine below_drewN ?_ _) | (with_reducible refine Below.drew ?_) | (with_reducible refine Below.setCell ?_ ?_ _) | (with_reducible refine below_via (by assumption) ?_ ?_) | (with_reducible refine below_via (later_below _) ?_ ?_) | (with_reducible exact Nat.le_refl _) | omega | (simp; omega) | (simp; done))))); rintro e w1 ⟨rfl, hb⟩; clear HP; (refine mem hb ?_; intro N hN hz hc hf; (try simp at hN); subst hN)) | (go_at_call 24; (with_reducible refine (HB.out _ ?_).mono ?_); (focus ((repeat' (first | (with_reducible exact Below.refl _ _) | (with_reducible assumption) | (with_reducible refine Below.alloc ?_ ?_ _) | (with_reducible refine below_drewN ?_ _) | (with_reducible refine Below.drew ?_) | (with_reducible refine Below.setCell ?_ ?_ _) | (with_reducible refine below_via (by assumption) ?_ ?_) | (with_reducible refine below_via (later_below _) ?_ ?_) | (with_reducible exact Nat.le_refl _) | omega | (simp; omega) | (simp; done))))); rintro e w1 ⟨rfl, hb⟩; clear HB; (refine mem hb ?_; intro N hN hz hc hf; (try simp at hN); subst hN)))
            go_returns
            refine ⟨rfl, ?_⟩
            (repeat' (first | (with_reducible exact Below.refl _ _) | (with_reducible assumption) | (with_reducible refine Below.alloc ?_ ?_ _) | (with_reducible refine below_drewN ?_ _) | (with_reducible refine Below.drew ?_) | (with_reducible refine Below.setCell ?_ ?_ _) | (with_reducible refine below_via (by assumption) ?_ ?_) | (with_reducible refine below_via (later_below _) ?_ ?_) | (with_reducible exact Nat.le_refl _) | omega | (simp; omega) | (simp; done)))
          | true =>
            obtain rfl : R = true := HR.out.symm
            go_enter Try.func49, Try.ntmps49
            go_wp2_with (first | (go_at_call 64; (with_reducible refine (HP.out _ ?_).mono ?_); (focus ((repeat' (first | (with_reducible exact Below.refl _ _) | (with_reducible assumption) | (with_reducible refine Below.alloc ?_ ?_ _) | (with_reducible refine below_drewN ?_ _) | (with_reducible refine Below.drew ?_) | (with_reducible refine Below.setCell ?_ ?_ _) | (with_reducible refine below_via (by assumption) ?_ ?_) | (with_reducible refine below_via (later_below _) ?_ ?_) | (with_reducible exact Nat.le_refl _) | omega | (simp; omega) | (simp; done))))); rintro e w1 ⟨rfl, hb⟩; clear HP; (refine mem hb ?_; intro N hN hz hc hf; (try simp at hN); subst hN)) | (go_at_call 24; (with_reducible refine (HB.out _ ?_).mono ?_); (focus ((repeat' (first | (with_reducible exact Below.refl _ _) | (with_reducible assumption) | (with_reducible refine Below.alloc ?_ ?_ _) | (with_reducible refine below_drewN ?_ _) | (with_reducible refine Below.drew ?_) | (with_reducible refine Below.setCell ?_ ?_ _) | (with_reducible refine below_via (by assumption) ?_ ?_) | (with_reducible refine below_via (later_below _) ?_ ?_) | (with_reducible exact Nat.le_refl _) | omega | (simp; omega) | (simp; done))))); rintro e w1 ⟨rfl, hb⟩; clear HB; (refine mem hb ?_; intro N hN hz hc hf; (try simp at hN); subst hN)))
            go_returns
            refine ⟨rfl, ?_⟩
            (repeat' (first | (with_reducible exact Below.refl _ _) | (with_reducible assumption) | (with_reducible refine Below.alloc ?_ ?_ _) | (with_reducible refine below_drewN ?_ _) | (with_reducible refine Below.drew ?_) | (with_reducible refine Below.setCell ?_ ?_ _) | (with_reducible refine below_via (by assumption) ?_ ?_) | (with_reducible refine below_via (later_below _) ?_ ?_) | (with_reducible exact Nat.le_refl _) | omega | (simp; omega) | (simp; done)))
set_option maxHeartbeats 6400000 in
set_option maxRecDepth 100000 in
theorem sameStat_p {n : Nat} (hX : SxP n) (hL : SlP n) (s t : TS) (w : World) (hr : rkS s ≤ n) (hs : InS w w.heap.size s) (ht : InS w w.heap.size t) :
    Calls Try.prog 45 #[s.v, t.v] w fun e W' => e = .returned (.bool (ssB n s t)) ∧ Below w.heap.size w W' := by
  rw [rkS_eq] at hr
  obtain ⟨R, hR⟩ : ∃ R, ssB n s t = R := ⟨_, rfl⟩
  rw [hR]
  obtain ⟨q1, hq1⟩ : ∃ q, (s.k == t.k) = q := ⟨_, rfl⟩
  obtain ⟨q2, hq2⟩ : ∃ q, (s.ln == t.ln) = q := ⟨_, rfl⟩
  obtain ⟨q3, hq3⟩ : ∃ q, (s.label.toList == t.label.toList) = q := ⟨_, rfl⟩
  obtain ⟨q4, hq4⟩ : ∃ q, eqL eqLo s.names t.names = q := ⟨_, rfl⟩
  obtain ⟨q5, hq5⟩ : ∃ q, eqL (fun a b => seN n (.inl (a, b))) s.left t.left = q := ⟨_, rfl⟩
  obtain ⟨q6, hq6⟩ : ∃ q, eqL (fun a b => seN n (.inl (a, b))) s.right t.right = q := ⟨_, rfl⟩
  obtain ⟨q7, hq7⟩ : ∃ q, eqL (fun a b => seN n (.inr (a.l, b.l))) s.blocks t.blocks = q := ⟨_, rfl⟩
  have HR : Hid ((q1 && (q2 && (q3 && (q4 && (q5 && (q6 && (q7))))))) = R) := by show _ = _; rw [← hR, ← hq1, ← hq2, ← hq3, ← hq4, ← hq5, ← hq6, ← hq7]; rfl
  have HN : Hid (∀ W, Below w.heap.size w W → Calls Try.prog 61
      #[.slice s.nA s.names.length s.nC, .slice t.nA t.names.length t.nC] W fun e W' => e = .returned (.bool q4) ∧ Below W.heap.size W W') := fun W hW => by
    rw [← hq4]
    exact equalL_any _ _ _ _ _ _ W.heap.size W ((inS_iff s).1 (hs.st hW)).1.ni ((inS_iff s).1 (hs.st hW)).1.nAt ((inS_iff t).1 (ht.st hW)).1.ni ((inS_iff t).1 (ht.st hW)).1.nAt (Nat.le_refl _)
  have HA : Hid (∀ W, Below w.heap.size w W → Calls Try.prog 47
      #[.slice s.lA s.left.length s.lC, .slice t.lA t.left.length t.lC, .func (.func 26) #[] #[]] W fun e W' => e = .returned (.bool q5) ∧ Below W.heap.size W W') := fun W hW => by
    rw [← hq5]
    exact eqx_p hX (fun x hx => by have := rkXs_mem hx; omega) hs.lf ht.lf W hW
  have HB : Hid (∀ W, Below w.heap.size w W → Calls Try.prog 47
      #[.slice s.rA s.right.length s.rC, .slice t.rA t.right.length t.rC, .func (.func 26) #[] #[]] W fun e W' => e = .returned (.bool q6) ∧ Below W.heap.size W W') := fun W hW => by
    rw [← hq6]
    exact eqx_p hX (fun x hx => by have := rkXs_mem hx; omega) hs.rt ht.rt W hW
  have HD : Hid (∀ W, Below w.heap.size w W → Calls Try.prog 62
      #[.slice s.bA s.blocks.length s.bC, .slice t.bA t.blocks.length t.bC, .func (.func 24) #[] #[]] W fun e W' => e = .returned (.bool q7) ∧ Below W.heap.size W W') := fun W hW => by
    rw [← hq7]
    have h1 := (hs.st hW).bs
    have h2 := (ht.st hW).bs
    refine eqf_B _ s.blocks t.blocks _ _ _ _ W.heap.size W h1.1 h1.2.1 h2.1 h2.2.1 (Nat.le_refl _) fun k k1 k2 W1 h => ?_
    exact hL _ _ _ _ _ _ W1 (by have := rkBs_mem (List.getElem_mem k1); rw [rkB_eq] at this; omega) (((inBs_iff _).1 h1.2.2 _ (List.getElem_mem k1)).ss.st h) (((inBs_iff _).1 h2.2.2 _ (List.getElem_mem k2)).ss.st h)
  clear hR hq4 hq5 hq6 hq7 hX hL hs ht hr
  cases q1 with
  | false =>
    obtain rfl : R = false := by rw [← HR.out]; simp
    clear HR
    go_enter Try.func45, Try.ntmps45
    go_wp2_with (first | (go_at_call 61; (with_reducible refine (HN.out _ ?_).mono ?_); (focus ((repeat' (first | (with_reducible exact Below.refl _ _) | (with_reducible assumption) | (with_reducible refine Below.alloc ?_ ?_ _) | (with_reducible refine below_drewN ?_ _) | (with_reducible refine Below.drew ?_) | (with_reducible refine Below.setCell ?_ ?_ _) | (with_reducible refine below_via (by assumption) ?_ ?_) | (with_reducible refine below_via (later_below _) ?_ ?_) | (with_reducible exact Nat.le_refl _) | omega | (simp; omega) | (simp; done))))); rintro e w1 ⟨rfl, hb⟩; clear HN; (refine mem hb ?_; intro N hN hz hc hf; (try simp at hN); subst hN)) | (go_at_call 47; (with_reducible refine (HA.out _ ?_).mono ?_); (focus ((repeat' (first | (with_reducible exact Below.refl _ _) | (with_reducible assumption) | (with_reducible refine Below.alloc ?_ ?_ _) | (with_reducible refine below_drewN ?_ _) | (with_reducible refine Below.drew ?_) | (with_reducible refine Below.setCell ?_ ?_ _) | (with_reducible refine below_via (by assumption) ?_ ?_) | (with_reducible refine below_via (later_below _) ?_ ?_) | (with_reducible exact Nat.le_refl _) | omega | (simp; omega) | (simp; done))))); rintro e w1 ⟨rfl, hb⟩; clear HA; (refine mem hb ?_; intro N hN hz hc hf; (try simp at hN); subst hN)) | (go_at_call 47; (with_reducible refine (HB.out _ ?_).mono ?_); (focus ((repeat' (first | (with_reducible exact Below.refl _ _) | (with_reducible assumption) | (with_reducible refine Below.alloc ?_ ?_ _) | (with_reducible refine below_drewN ?_ _) | (with_reducible refine Below.drew ?_) | (with_reducible refine Below.setCell ?_ ?_ _) | (with_reducible refine below_via (by assumption) ?_ ?_) | (with_reducible refine below_via (later_below _) ?_ ?_) | (with_reducible exact Nat.le_refl _) | omega | (simp; omega) | (simp; done))))); rintro e w1 ⟨rfl, hb⟩; clear HB; (refine mem hb ?_; intro N hN hz hc hf; (try simp at hN); subst hN)) | (go_at_call 62; (with_reducible refine (HD.out _ ?_).mono ?_); (focus ((repeat' (first | (with_reducible exact Below.refl _ _) | (with_reducible assumption) | (with_reducible refine Below.alloc ?_ ?_ _) | (with_reducible refine below_drewN ?_ _) | (with_reducible refine Below.drew ?_) | (with_reducible refine Below.setCell ?_ ?_ _) | (with_reducible refine below_via (by assumption) ?_ ?_) | (with_reducible refine below_via (later_below _) ?_ ?_) | (with_reducible exact Nat.le_refl _) | omega | (simp; omega) | (simp; done))))); rintro e w1 ⟨rfl, hb⟩; clear HD; (refine mem hb ?_; intro N hN hz hc hf; (try simp at hN); subst hN)))
    go_returns
    refine ⟨rfl, ?_⟩
    (repeat' (first | (with_reducible exact Below.refl _ _) | (with_reducible assumption) | (with_reducible refine Below.alloc ?_ ?_ _) | (with_reducible refine below_drewN ?_ _) | (with_reducible refine Below.drew ?_) | (with_reducible refine Below.setCell ?_ ?_ _) | (with_reducible refine below_via (by assumption) ?_ ?_) | (with_reducible refine below_via (later_below _) ?_ ?_) | (with_reducible exact Nat.le_refl _) | omega | (simp; omega) | (simp; done)))
  | true =>
    cases q2 with
    | false =>
      obtain rfl : R = false := by rw [← HR.out]; simp
      clear HR
      go_enter Try.func45, Try.ntmps45
      go_wp2_with (first | (go_at_call 61; (with_reducible refine (HN.out _ ?_).mono ?_); (focus ((repeat' (first | (with_reducible exact Below.refl _ _) | (with_reducible assumption) | (with_reducible refine Below.alloc ?_ ?_ _) | (with_reducible refine below_drewN ?_ _) | (with_reducible refine Below.drew ?_) | (with_reducible refine Below.setCell ?_ ?_ _) | (with_reducible refine below_via (by assumption) ?_ ?_) | (with_reducible refine below_via (later_below _) ?_ ?_) | (with_reducible exact Nat.le_refl _) | omega | (simp; omega) | (simp; done))))); rintro e w1 ⟨rfl, hb⟩; clear HN; (refine mem hb ?_; intro N hN hz hc hf; (try simp at hN); subst hN)) | (go_at_call 47; (with_reducible refine (HA.out _ ?_).mono ?_); (focus ((repeat' (first | (with_reducible exact Below.refl _ _) | (with_reducible assumption) | (with_reducible refine Below.alloc ?_ ?_ _) | (with_reducible refine below_drewN ?_ _) | (with_reducible refine Below.drew ?_) | (with_reducible refine Below.setCell ?_ ?_ _) | (with_reducible refine below_via (by assumption) ?_ ?_) | (with_reducible refine below_via (later_below _) ?_ ?_) | (with_reducible exact Nat.le_refl _) | omega | (simp; omega) | (simp; done))))); rintro e w1 ⟨rfl, hb⟩; clear HA; (refine mem hb ?_; intro N hN hz hc hf; (try simp at hN); subst hN)) | (go_at_call 47; (with_reducible refine (HB.out _ ?_).mono ?_); (focus ((repeat' (first | (with_reducible exact Below.refl _ _) | (with_reducible assumption) | (with_reducible refine Below.alloc ?_ ?_ _) | (with_reducible refine below_drewN ?_ _) | (with_reducible refine Below.drew ?_) | (with_reducible refine Below.setCell ?_ ?_ _) | (with_reducible refine below_via (by assumption) ?_ ?_) | (with_reducible refine below_via (later_below _) ?_ ?_) | (with_reducible exact Nat.le_refl _) | omega | (simp; omega) | (simp; done))))); rintro e w1 ⟨rfl, hb⟩; clear HB; (refine mem hb ?_; intro N hN hz hc hf; (try simp at hN); subst hN)) | (go_at_call 62; (with_reducible refine (HD.out _ ?_).mono ?_); (focus ((repeat' (first | (with_reducible exact Below.refl _ _) | (with_reducible assumption) | (with_reducible refine Below.alloc ?_ ?_ _) | (with_reducible refine below_drewN ?_ _) | (with_reducible refine Below.drew ?_) | (with_reducible refine Below.setCell ?_ ?_ _) | (with_reducible refine below_via (by assumption) ?_ ?_) | (with_reducible refine below_via (later_below _) ?_ ?_) | (with_reducible exact Nat.le_refl _) | omega | (simp; omega) | (simp; done))))); rintro e w1 ⟨rfl, hb⟩; clear HD; (refine mem hb ?_; intro N hN hz hc hf; (try simp at hN); subst hN)))
      go_returns
      refine ⟨rfl, ?_⟩
      (repeat' (first | (with_reducible exact Below.refl _ _) | (with_reducible assumption) | (with_reducible refine Below.alloc ?_ ?_ _) | (with_reducible refine below_drewN ?_ _) | (with_reducible refine Below.drew ?_) | (with_reducible refine Below.setCell ?_ ?_ _) | (with_reducible refine below_via (by assumption) ?_ ?_) | (with_reducible refine below_via (later_below _) ?_ ?_) | (with_reducible exact Nat.le_refl _) | omega | (simp; omega) | (simp; done)))
    | true =>
      cases q3 with
      | false =>
        obtain rfl : R = false := by rw [← HR.out]; simp
        clear HR
        go_enter Try.func45, Try.ntmps45
        go_wp2_with (first | (go_at_call 61; (with_reducible refine (HN.out _ ?_).mono ?_); (focus ((repeat' (first | (with_reducible exact Below.refl _ _) | (with_reducible assumption) | (with_reducible refine Below.alloc ?_ ?_ _) | (with_reducible refine below_drewN ?_ _) | (with_reducible refine Below.drew ?_) | (with_reducible refine Below.setCell ?_ ?_ _) | (with_reducible refine below_via (by assumption) ?_ ?_) | (with_reducible refine below_via (later_below _) ?_ ?_) | (with_reducible exact Nat.le_refl _) | omega | (simp; omega) | (simp; done))))); rintro e w1 ⟨rfl, hb⟩; clear HN; (refine mem hb ?_; intro N hN hz hc hf; (try simp at hN); subst hN)) | (go_at_call 47; (with_reducible refine (HA.out _ ?_).mono ?_); (focus ((repeat' (first | (with_reducible exact Below.refl _ _) | (with_reducible assumption) | (with_reducible refine Below.alloc ?_ ?_ _) | (with_reducible refine below_drewN ?_ _) | (with_reducible refine Below.drew ?_) | (with_reducible refine Below.setCell ?_ ?_ _) | (with_reducible refine below_via (by assumption) ?_ ?_) | (with_reducible refine below_via (later_below _) ?_ ?_) | (with_reducible exact Nat.le_refl _) | omega | (simp; omega) | (simp; done))))); rintro e w1 ⟨rfl, hb⟩; clear HA; (refine mem hb ?_; intro N hN hz hc hf; (try simp at hN); subst hN)) | (go_at_call 47; (with_reducible refine (HB.out _ ?_).mono ?_); (focus ((repeat' (first | (with_reducible exact Below.refl _ _) | (with_reducible assumption) | (with_reducible refine Below.alloc ?_ ?_ _) | (with_reducible refine below_drewN ?_ _) | (with_reducible refine Below.drew ?_) | (with_reducible refine Below.setCell ?_ ?_ _) | (with_reducible refine below_via (by assumption) ?_ ?_) | (with_reducible refine below_via (later_below _) ?_ ?_) | (with_reducible exact Nat.le_refl _) | omega | (simp; omega) | (simp; done))))); rintro e w1 ⟨rfl, hb⟩; clear HB; (refine mem hb ?_; intro N hN hz hc hf; (try simp at hN); subst hN)) | (go_at_call 62; (with_reducible refine (HD.out _ ?_).mono ?_); (focus ((repeat' (first | (with_reducible exact Below.refl _ _) | (with_reducible assumption) | (with_reducible refine Below.alloc ?_ ?_ _) | (with_reducible refine below_drewN ?_ _) | (with_reducible refine Below.drew ?_) | (with_reducible refine Below.setCell ?_ ?_ _) | (with_reducible refine below_via (by assumption) ?_ ?_) | (with_reducible refine below_via (later_below _) ?_ ?_) | (with_reducible exact Nat.le_refl _) | omega | (simp; omega) | (simp; done))))); rintro e w1 ⟨rfl, hb⟩; clear HD; (refine mem hb ?_; intro N hN hz hc hf; (try simp at hN); subst hN)))
        go_returns
        refine ⟨rfl, ?_⟩
        (repeat' (first | (with_reducible exact Below.refl _ _) | (with_reducible assumption) | (with_reducible refine Below.alloc ?_ ?_ _) | (with_reducible refine below_drewN ?_ _) | (with_reducible refine Below.drew ?_) | (with_reducible refine Below.setCell ?_ ?_ _) | (with_reducible refine below_via (by assumption) ?_ ?_) | (with_reducible refine below_via (later_below _) ?_ ?_) | (with_reducible exact Nat.le_refl _) | omega | (simp; omega) | (simp; done)))
      | true =>
        cases q4 with
        | false =>
          obtain rfl : R = false := by rw [← HR.out]; simp
          clear HR
          go_enter Try.func45, Try.ntmps45
          go_wp2_with (first | (go_at_call 61; (with_reducible refine (HN.out _ ?_).mono ?_); (focus ((repeat' (first | (with_reducible exact Below.refl _ _) | (with_reducible assumption) | (with_reducible refine Below.alloc ?_ ?_ _) | (with_reducible refine below_drewN ?_ _) | (with_reducible refine Below.drew ?_) | (with_reducible refine Below.setCell ?_ ?_ _) | (with_reducible refine below_via (by assumption) ?_ ?_) | (with_reducible refine below_via (later_below _) ?_ ?_) | (with_reducible exact Nat.le_refl _) | omega | (simp; omega) | (simp; done))))); rintro e w1 ⟨rfl, hb⟩; clear HN; (refine mem hb ?_; intro N hN hz hc hf; (try simp at hN); subst hN)) | (go_at_call 47; (with_reducible refine (HA.out _ ?_).mono ?_); (focus ((repeat' (first | (with_reducible exact Below.refl _ _) | (with_reducible assumption) | (with_reducible refine Below.alloc ?_ ?_ _) | (with_reducible refine below_drewN ?_ _) | (with_reducible refine Below.drew ?_) | (with_reducible refine Below.setCell ?_ ?_ _) | (with_reducible refine below_via (by assumption) ?_ ?_) | (with_reducible refine below_via (later_below _) ?_ ?_) | (with_reducible exact Nat.le_refl _) | omega | (simp; omega) | (simp; done))))); rintro e w1 ⟨rfl, hb⟩; clear HA; (refine mem hb ?_; intro N hN hz hc hf; (try simp at hN); subst hN)) | (go_at_call 47; (with_reducible refine (HB.out _ ?_).mono ?_); (focus ((repeat' (first | (with_reducible exact Below.refl _ _) | (with_reducible assumption) | (with_reducible refine Below.alloc ?_ ?_ _) | (with_reducible refine below_drewN ?_ _) | (with_reducible refine Below.drew ?_) | (with_reducible refine Below.setCell ?_ ?_ _) | (with_reducible refine below_via (by assumption) ?_ ?_) | (with_reducible refine below_via (later_below _) ?_ ?_) | (with_reducible exact Nat.le_refl _) | omega | (simp; omega) | (simp; done))))); rintro e w1 ⟨rfl, hb⟩; clear HB; (refine mem hb ?_; intro N hN hz hc hf; (try simp at hN); subst hN)) | (go_at_call 62; (with_reducible refine (HD.out _ ?_).mono ?_); (focus ((repeat' (first | (with_reducible exact Below.refl _ _) | (with_reducible assumption) | (with_reducible refine Below.alloc ?_ ?_ _) | (with_reducible refine below_drewN ?_ _) | (with_reducible refine Below.drew ?_) | (with_reducible refine Below.setCell ?_ ?_ _) | (with_reducible refine below_via (by assumption) ?_ ?_) | (with_reducible refine below_via (later_below _) ?_ ?_) | (with_reducible exact Nat.le_refl _) | omega | (simp; omega) | (simp; done))))); rintro e w1 ⟨rfl, hb⟩; clear HD; (refine mem hb ?_; intro N hN hz hc hf; (try simp at hN); subst hN)))
          go_returns
          refine ⟨rfl, ?_⟩
          (repeat' (first | (with_reducible exact Below.refl _ _) | (with_reducible assumption) | (with_reducible refine Below.alloc ?_ ?_ _) | (with_reducible refine below_drewN ?_ _) | (with_reducible refine Below.drew ?_) | (with_reducible refine Below.setCell ?_ ?_ _) | (with_reducible refine below_via (by assumption) ?_ ?_) | (with_reducible refine below_via (later_below _) ?_ ?_) | (with_reducible exact Nat.le_refl _) | omega | (simp; omega) | (simp; done)))
        | true =>
          cases q5 with
          | false =>
            obtain rfl : R = false := by rw [← HR.out]; simp
            clear HR
            go_enter Try.func45, Try.ntmps45
            go_wp2_with (first | (go_at_call 61; (with_reducible refine (HN.out _ ?_).mono ?_); (focus ((repeat' (first | (with_reducible exact Below.refl _ _) | (with_reducible assumption) | (with_reducible refine Below.alloc ?_ ?_ _) | (with_reducible refine below_drewN ?_ _) | (with_reducible refine Below.drew ?_) | (with_reducible refine Below.setCell ?_ ?_ _) | (with_reducible refine below_via (by assumption) ?_ ?_) | (with_reducible refine below_via (later_below _) ?_ ?_) | (with_reducible exact Nat.le_refl _) | omega | (simp; omega) | (simp; done))))); rintro e w1 ⟨rfl, hb⟩; clear HN; (refine mem hb ?_; intro N hN hz hc hf; (try simp at hN); subst hN)) | (go_at_call 47; (with_reducible refine (HA.out _ ?_).mono ?_); (focus ((repeat' (first | (with_reducible exact Below.refl _ _) | (with_reducible assumption) | (with_reducible refine Below.alloc ?_ ?_ _) | (with_reducible refine below_drewN ?_ _) | (with_reducible refine Below.drew ?_) | (with_reducible refine Below.setCell ?_ ?_ _) | (with_reducible refine below_via (by assumption) ?_ ?_) | (with_reducible refine below_via (later_below _) ?_ ?_) | (with_reducible exact Nat.le_refl _) | omega | (simp; omega) | (simp; done))))); rintro e w1 ⟨rfl, hb⟩; clear HA; (refine mem hb ?_; intro N hN hz hc hf; (try simp at hN); subst hN)) | (go_at_call 47; (with_reducible refine (HB.out _ ?_).mono ?_); (focus ((repeat' (first | (with_reducible exact Below.refl _ _) | (with_reducible assumption) | (with_reducible refine Below.alloc ?_ ?_ _) | (with_reducible refine below_drewN ?_ _) | (with_reducible refine Below.drew ?_) | (with_reducible refine Below.setCell ?_ ?_ _) | (with_reducible refine below_via (by assumption) ?_ ?_) | (with_reducible refine below_via (later_below _) ?_ ?_) | (with_reducible exact Nat.le_refl _) | omega | (simp; omega) | (simp; done))))); rintro e w1 ⟨rfl, hb⟩; clear HB; (refine mem hb ?_; intro N hN hz hc hf; (try simp at hN); subst hN)) | (go_at_call 62; (with_reducible refine (HD.out _ ?_).mono ?_); (focus ((repeat' (first | (with_reducible exact Below.refl _ _) | (with_reducible assumption) | (with_reducible refine Below.alloc ?_ ?_ _) | (with_reducible refine below_drewN ?_ _) | (with_reducible refine Below.drew ?_) | (with_reducible refine Below.setCell ?_ ?_ _) | (with_reducible refine below_via (by assumption) ?_ ?_) | (with_reducible refine below_via (later_below _) ?_ ?_) | (with_reducible exact Nat.le_refl _) | omega | (simp; omega) | (simp; done))))); rintro e w1 ⟨rfl, hb⟩; clear HD; (refine mem hb ?_; intro N hN hz hc hf; (try simp at hN); subst hN)))
            go_returns
            refine ⟨rfl, ?_⟩
            (repeat' (first | (with_reducible exact Below.refl _ _) | (with_reducible assumption) | (with_reducible refine Below.alloc ?_ ?_ _) | (with_reducible refine below_drewN ?_ _) | (with_reducible refine Below.drew ?_) | (with_reducible refine Below.setCell ?_ ?_ _) | (with_reducible refine below_via (by assumption) ?_ ?_) | (with_reducible refine below_via (later_below _) ?_ ?_) | (with_reducible exact Nat.le_refl _) | omega | (simp; omega) | (simp; done)))
          | true =>
            cases q6 with
            | false =>
              obtain rfl : R = false := by rw [← HR.out]; simp
              clear HR
              go_enter Try.func45, Try.ntmps45
              go_wp2_with (first | (go_at_call 61; (with_reducible refine (HN.out _ ?_).mono ?_); (focus ((repeat' (first | (with_reducible exact Below.refl _ _) | (with_reducible assumption) | (with_reducible refine Below.alloc ?_ ?_ _) | (with_reducible refine below_drewN ?_ _) | (with_reducible refine Below.drew ?_) | (with_reducible refine Below.setCell ?_ ?_ _) | (with_reducible refine below_via (by assumption) ?_ ?_) | (with_reducible refine below_via (later_below _) ?_ ?_) | (with_reducible exact Nat.le_refl _) | omega | (simp; omega) | (simp; done))))); rintro e w1 ⟨rfl, hb⟩; clear HN; (refine mem hb ?_; intro N hN hz hc hf; (try simp at hN); subst hN)) | (go_at_call 47; (with_reducible refine (HA.out _ ?_).mono ?_); (focus ((repeat' (first | (with_reducible exact Below.refl _ _) | (with_reducible assumption) | (with_reducible refine Below.alloc ?_ ?_ _) | (with_reducible refine below_drewN ?_ _) | (with_reducible refine Below.drew ?_) | (with_reducible refine Below.setCell ?_ ?_ _) | (with_reducible refine below_via (by assumption) ?_ ?_) | (with_reducible refine below_via (later_below _) ?_ ?_) | (with_reducible exact Nat.le_refl _) | omega | (simp; omega) | (simp; done))))); rintro e w1 ⟨rfl, hb⟩; clear HA; (refine mem hb ?_; intro N hN hz hc hf; (try simp at hN); subst hN)) | (go_at_call 47; (with_reducible refine (HB.out _ ?_).mono ?_); (focus ((repeat' (first | (with_reducible exact Below.refl _ _) | (with_reducible assumption) | (with_reducible refine Below.alloc ?_ ?_ _) | (with_reducible refine below_drewN ?_ _) | (with_reducible refine Below.drew ?_) | (with_reducible refine Below.setCell ?_ ?_ _) | (with_reducible refine below_via (by assumption) ?_ ?_) | (with_reducible refine below_via (later_below _) ?_ ?_) | (with_reducible exact Nat.le_refl _) | omega | (simp; omega) | (simp; done))))); rintro e w1 ⟨rfl, hb⟩; clear HB; (refine mem hb ?_; intro N hN hz hc hf; (try simp at hN); subst hN)) | (go_at_call 62; (with_reducible refine (HD.out _ ?_).mono ?_); (focus ((repeat' (first | (with_reducible exact Below.refl _ _) | (with_reducible assumption) | (with_reducible refine Below.alloc ?_ ?_ _) | (with_reducible refine below_drewN ?_ _) | (with_reducible refine Below.drew ?_) | (with_reducible refine Below.setCell ?_ ?_ _) | (with_reducible refine below_via (by assumption) ?_ ?_) | (with_reducible refine below_via (later_below _) ?_ ?_) | (with_reducible exact Nat.le_refl _) | omega | (simp; omega) | (simp; done))))); rintro e w1 ⟨rfl, hb⟩; clear HD; (refine mem hb ?_; intro N hN hz hc hf; (try simp at hN); subst hN)))
              go_returns
              refine ⟨rfl, ?_⟩
              (repeat' (first | (with_reducible exact Below.refl _ _) | (with_reducible assumption) | (with_reducible refine Below.alloc ?_ ?_ _) | (with_reducible refine below_drewN ?_ _) | (with_reducible refine Below.drew ?_) | (with_reducible refine Below.setCell ?_ ?_ _) | (with_reducible refine below_via (by assumption) ?_ ?_) | (with_reducible refine below_via (later_below _) ?_ ?_) | (with_reducible exact Nat.le_refl _) | omega | (simp; omega) | (simp; done)))
            | true =>
              cases q7 with
              | false =>
                obtain rfl : R = false := by rw [← HR.out]; simp
                clear HR
                go_enter Try.func45, Try.ntmps45
                go_wp2_with (first | (go_at_call 61; (with_reducible refine (HN.out _ ?_).mono ?_); (focus ((repeat' (first | (with_reducible exact Below.refl _ _) | (with_reducible assumption) | (with_reducible refine Below.alloc ?_ ?_ _) | (with_reducible refine below_drewN ?_ _) | (with_reducible refine Below.drew ?_) | (with_reducible refine Below.setCell ?_ ?_ _) | (with_reducible refine below_via (by assumption) ?_ ?_) | (with_reducible refine below_via (later_below _) ?_ ?_) | (with_reducible exact Nat.le_refl _) | omega | (simp; omega) | (simp; done))))); rintro e w1 ⟨rfl, hb⟩; clear HN; (refine mem hb ?_; intro N hN hz hc hf; (try simp at hN); subst hN)) | (go_at_call 47; (with_reducible refine (HA.out _ ?_).mono ?_); (focus ((repeat' (first | (with_reducible exact Below.refl _ _) | (with_reducible assumption) | (with_reducible refine Below.alloc ?_ ?_ _) | (with_reducible refine below_drewN ?_ _) | (with_reducible refine Below.drew ?_) | (with_reducible refine Below.setCell ?_ ?_ _) | (with_reducible refine below_via (by assumption) ?_ ?_) | (with_reducible refine below_via (later_below _) ?_ ?_) | (with_reducible exact Nat.le_refl _) | omega | (simp; omega) | (simp; done))))); rintro e w1 ⟨rfl, hb⟩; clear HA; (refine mem hb ?_; intro N hN hz hc hf; (try simp at hN); subst hN)) | (go_at_call 47; (with_reducible refine (HB.out _ ?_).mono ?_); (focus ((repeat' (first | (with_reducible exact Below.refl _ _) | (with_reducible assumption) | (with_reducible refine Below.alloc ?_ ?_ _) | (with_reducible refine below_drewN ?_ _) | (with_reducible refine Below.drew ?_) | (with_reducible refine Below.setCell ?_ ?_ _) | (with_reducible refine below_via (by assumption) ?_ ?_) | (with_reducible refine below_via (later_below _) ?_ ?_) | (with_reducible exact Nat.le_refl _) | omega | (simp; omega) | (simp; done))))); rintro e w1 ⟨rfl, hb⟩; clear HB; (refine mem hb ?_; intro N hN hz hc hf; (try simp at hN); subst hN)) | (go_at_call 62; (with_reducible refine (HD.out _ ?_).mono ?_); (focus ((repeat' (first | (with_reducible exact Below.refl _ _) | (with_reducible assumption) | (with_reducible refine Below.alloc ?_ ?_ _) | (with_reducible refine below_drewN ?_ _) | (with_reducible refine Below.drew ?_) | (with_reducible refine Below.setCell ?_ ?_ _) | (with_reducible refine below_via (by assumption) ?_ ?_) | (with_reducible refine below_via (later_below _) ?_ ?_) | (with_reducible exact Nat.le_refl _) | omega | (simp; omega) | (simp; done))))); rintro e w1 ⟨rfl, hb⟩; clear HD; (refine mem hb ?_; intro N hN hz hc hf; (try simp at hN); subst hN)))
                go_returns
                refine ⟨rfl, ?_⟩
                (repeat' (first | (with_reducible exact Below.refl _ _) | (with_reducible assumption) | (with_reducible refine Below.alloc ?_ ?_ _) | (with_reducible refine below_drewN ?_ _) | (with_reducible refine Below.drew ?_) | (with_reducible refine Below.setCell ?_ ?_ _) | (with_reducible refine below_via (by assumption) ?_ ?_) | (with_reducible refine below_via (later_below _) ?_ ?_) | (with_reducible exact Nat.le_refl _) | omega | (simp; omega) | (simp; done)))
              | true =>
                obtain rfl : R = true := HR.out.symm
                go_enter Try.func45, Try.ntmps45
                go_wp2_with (first | (go_at_call 61; (with_reducible refine (HN.out _ ?_).mono ?_); (focus ((repeat' (first | (with_reducible exact Below.refl _ _) | (with_reducible assumption) | (with_reducible refine Below.alloc ?_ ?_ _) | (with_reducible refine below_drewN ?_ _) | (with_reducible refine Below.drew ?_) | (with_reducible refine Below.setCell ?_ ?_ _) | (with_reducible refine below_via (by assumption) ?_ ?_) | (with_reducible refine below_via (later_below _) ?_ ?_) | (with_reducible exact Nat.le_refl _) | omega | (simp; omega) | (simp; done))))); rintro e w1 ⟨rfl, hb⟩; clear HN; (refine mem hb ?_; intro N hN hz hc hf; (try simp at hN); subst hN)) | (go_at_call 47; (with_reducible refine (HA.out _ ?_).mono ?_); (focus ((repeat' (first | (with_reducible exact Below.refl _ _) | (with_reducible assumption) | (with_reducible refine Below.alloc ?_ ?_ _) | (with_reducible refine below_drewN ?_ _) | (with_reducible refine Below.drew ?_) | (with_reducible refine Below.setCell ?_ ?_ _) | (with_reducible refine below_via (by assumption) ?_ ?_) | (with_reducible refine below_via (later_below _) ?_ ?_) | (with_reducible exact Nat.le_refl _) | omega | (simp; omega) | (simp; done))))); rintro e w1 ⟨rfl, hb⟩; clear HA; (refine mem hb ?_; intro N hN hz hc hf; (try simp at hN); subst hN)) | (go_at_call 47; (with_reducible refine (HB.out _ ?_).mono ?_); (focus ((repeat' (first | (with_reducible exact Below.refl _ _) | (with_reducible assumption) | (with_reducible refine Below.alloc ?_ ?_ _) | (with_reducible refine below_drewN ?_ _) | (with_reducible refine Below.drew ?_) | (with_reducible refine Below.setCell ?_ ?_ _) | (with_reducible refine below_via (by assumption) ?_ ?_) | (with_reducible refine below_via (later_below _) ?_ ?_) | (with_reducible exact Nat.le_refl _) | omega | (simp; omega) | (simp; done))))); rintro e w1 ⟨rfl, hb⟩; clear HB; (refine mem hb ?_; intro N hN hz hc hf; (try simp at hN); subst hN)) | (go_at_call 62; (with_reducible refine (HD.out _ ?_).mono ?_); (focus ((repeat' (first | (with_reducible exact Below.refl _ _) | (with_reducible assumption) | (with_reducible refine Below.alloc ?_ ?_ _) | (with_reducible refine below_drewN ?_ _) | (with_reducible refine Below.drew ?_) | (with_reducible refine Below.setCell ?_ ?_ _) | (with_reducible refine below_via (by assumption) ?_ ?_) | (with_reducible refine below_via (later_below _) ?_ ?_) | (with_reducible exact Nat.le_refl _) | omega | (simp; omega) | (simp; done))))); rintro e w1 ⟨rfl, hb⟩; clear HD; (refine mem hb ?_; intro N hN hz hc hf; (try simp at hN); subst hN)))
                go_returns
                refine ⟨rfl, ?_⟩
                (repeat' (first | (with_reducible exact Below.refl _ _) | (with_reducible assumption) | (with_reducible refine Below.alloc ?_ ?_ _) | (with_reducible refine below_drewN ?_ _) | (with_reducible refine Below.drew ?_) | (with_reducible refine Below.setCell ?_ ?_ _) | (with_reducible refine below_via (by assumption) ?_ ?_) | (with_reducible refine below_via (later_below _) ?_ ?_) | (with_reducible exact Nat.le_refl _) | omega | (simp; omega) | (simp; done)))
set_option maxHeartbeats 6400000 in
set_option maxRecDepth 100000 in
theorem sxp_step (n : Nat) (hX : SxP n) (hL : SlP n) : SxP (n + 1) := by
  intro x y w hr hx hy
  rw [rkX_eq] at hr
  obtain ⟨R, hR⟩ : ∃ R, seN (n + 1) (.inl (x, y)) = R := ⟨_, rfl⟩
  rw [hR]
  obtain ⟨q1, hq1⟩ : ∃ q, (x.k == y.k) = q := ⟨_, rfl⟩
  obtain ⟨q2, hq2⟩ : ∃ q, (x.op == y.op) = q := ⟨_, rfl⟩
  obtain ⟨q3, hq3⟩ : ∃ q, (x.ln == y.ln) = q := ⟨_, rfl⟩
  obtain ⟨q4, hq4⟩ : ∃ q, (x.p == y.p && x.q == y.q) = q := ⟨_, rfl⟩
  obtain ⟨q5, hq5⟩ : ∃ q, (x.s.toList == y.s.toList) = q := ⟨_, rfl⟩
  obtain ⟨q6, hq6⟩ : ∃ q, eqL (fun a b => seN n (.inl (a, b))) x.args y.args = q := ⟨_, rfl⟩
  obtain ⟨q7, hq7⟩ : ∃ q, eqL (sfB n) x.funcs y.funcs = q := ⟨_, rfl⟩
  have HR : Hid ((q1 && (q2 && (q3 && (q4 && (q5 && (q6 && (q7))))))) = R) := by show _ = _; rw [← hR, ← hq1, ← hq2, ← hq3, ← hq4, ← hq5, ← hq6, ← hq7]; rfl
  have HA : Hid (∀ W, Below w.heap.size w W → Calls Try.prog 47
      #[.slice x.aA x.args.length x.aC, .slice y.aA y.args.length y.aC, .func (.func 26) #[] #[]] W fun e W' => e = .returned (.bool q6) ∧ Below W.heap.size W W') := fun W hW => by
    rw [← hq6]
    exact eqx_p hX (fun x hx => by have := rkXs_mem hx; omega) hx.xs hy.xs W hW
  have HF : Hid (∀ W, Below w.heap.size w W → Calls Try.prog 48
      #[.slice x.fA x.funcs.length x.fC, .slice y.fA y.funcs.length y.fC, .func (.func 49) #[] #[]] W fun e W' => e = .returned (.bool q7) ∧ Below W.heap.size W W') := fun W hW => by
    rw [← hq7]
    have h1 := (hx.st hW).fs
    have h2 := (hy.st hW).fs
    refine eqf_F _ x.funcs y.funcs _ _ _ _ W.heap.size W h1.1 h1.2.1 h2.1 h2.2.1 (Nat.le_refl _) fun k k1 k2 W1 h => ?_
    exact sameFunc_p hL _ _ W1 (by have := rkFs_mem (List.getElem_mem k1); rw [rkF_eq] at this; omega) (((inFs_iff _).1 h1.2.2 _ (List.getElem_mem k1)).st h) (((inFs_iff _).1 h2.2.2 _ (List.getElem_mem k2)).st h)
  have hnum := fun u => eq_num x.p x.q y.p y.q u
  rw [hq4] at hnum
  clear hR hq4 hq6 hq7 hX hL hx hy hr
  cases q1 with
  | false =>
    obtain rfl : R = false := by rw [← HR.out]; simp
    clear HR
    go_enter Try.func26, Try.ntmps26
    go_wp2_with (first | (go_at_call 47; (with_reducible refine (HA.out _ ?_).mono ?_); (focus ((repeat' (first | (with_reducible exact Below.refl _ _) | (with_reducible assumption) | (with_reducible refine Below.alloc ?_ ?_ _) | (with_reducible refine below_drewN ?_ _) | (with_reducible refine Below.drew ?_) | (with_reducible refine Below.setCell ?_ ?_ _) | (with_reducible refine below_via (by assumption) ?_ ?_) | (with_reducible refine below_via (later_below _) ?_ ?_) | (with_reducible exact Nat.le_refl _) | omega | (simp; omega) | (simp; done))))); rintro e w1 ⟨rfl, hb⟩; clear HA; (refine mem hb ?_; intro N hN hz hc hf; (try simp at hN); subst hN)) | (go_at_call 48; (with_reducible refine (HF.out _ ?_).mono ?_); (focus ((repeat' (first | (with_reducible exact Below.refl _ _) | (with_reducible assumption) | (with_reducible refine Below.alloc ?_ ?_ _) | (with_reducible refine below_drewN ?_ _) | (with_reducible refine Below.drew ?_) | (with_reducible refine Below.setCell ?_ ?_ _) | (with_reducible refine below_via (by assumption) ?_ ?_) | (with_reducible refine below_via (later_below _) ?_ ?_) | (with_reducible exact Nat.le_refl _) | omega | (simp; omega) | (simp; done))))); rintro e w1 ⟨rfl, hb⟩; clear HF; (refine mem hb ?_; intro N hN hz hc hf; (try simp at hN); subst hN)))
    go_returns
    refine ⟨rfl, ?_⟩
    (repeat' (first | (with_reducible exact Below.refl _ _) | (with_reducible assumption) | (with_reducible refine Below.alloc ?_ ?_ _) | (with_reducible refine below_drewN ?_ _) | (with_reducible refine Below.drew ?_) | (with_reducible refine Below.setCell ?_ ?_ _) | (with_reducible refine below_via (by assumption) ?_ ?_) | (with_reducible refine below_via (later_below _) ?_ ?_) | (with_reducible exact Nat.le_refl _) | omega | (simp; omega) | (simp; done)))
  | true =>
    cases q2 with
    | false =>
      obtain rfl : R = false := by rw [← HR.out]; simp
      clear HR
      go_enter Try.func26, Try.ntmps26
      go_wp2_with (first | (go_at_call 47; (with_reducible refine (HA.out _ ?_).mono ?_); (focus ((repeat' (first | (with_reducible exact Below.refl _ _) | (with_reducible assumption) | (with_reducible refine Below.alloc ?_ ?_ _) | (with_reducible refine below_drewN ?_ _) | (with_reducible refine Below.drew ?_) | (with_reducible refine Below.setCell ?_ ?_ _) | (with_reducible refine below_via (by assumption) ?_ ?_) | (with_reducible refine below_via (later_below _) ?_ ?_) | (with_reducible exact Nat.le_refl _) | omega | (simp; omega) | (simp; done))))); rintro e w1 ⟨rfl, hb⟩; clear HA; (refine mem hb ?_; intro N hN hz hc hf; (try simp at hN); subst hN)) | (go_at_call 48; (with_reducible refine (HF.out _ ?_).mono ?_); (focus ((repeat' (first | (with_reducible exact Below.refl _ _) | (with_reducible assumption) | (with_reducible refine Below.alloc ?_ ?_ _) | (with_reducible refine below_drewN ?_ _) | (with_reducible refine Below.drew ?_) | (with_reducible refine Below.setCell ?_ ?_ _) | (with_reducible refine below_via (by assumption) ?_ ?_) | (with_reducible refine below_via (later_below _) ?_ ?_) | (with_reducible exact Nat.le_refl _) | omega | (simp; omega) | (simp; done))))); rintro e w1 ⟨rfl, hb⟩; clear HF; (refine mem hb ?_; intro N hN hz hc hf; (try simp at hN); subst hN)))
      go_returns
      refine ⟨rfl, ?_⟩
      (repeat' (first | (with_reducible exact Below.refl _ _) | (with_reducible assumption) | (with_reducible refine Below.alloc ?_ ?_ _) | (with_reducible refine below_drewN ?_ _) | (with_reducible refine Below.drew ?_) | (with_reducible refine Below.setCell ?_ ?_ _) | (with_reducible refine below_via (by assumption) ?_ ?_) | (with_reducible refine below_via (later_below _) ?_ ?_) | (with_reducible exact Nat.le_refl _) | omega | (simp; omega) | (simp; done)))
    | true =>
      cases q3 with
      | false =>
        obtain rfl : R = false := by rw [← HR.out]; simp
        clear HR
        go_enter Try.func26, Try.ntmps26
        go_wp2_with (first | (go_at_call 47; (with_reducible refine (HA.out _ ?_).mono ?_); (focus ((repeat' (first | (with_reducible exact Below.refl _ _) | (with_reducible assumption) | (with_reducible refine Below.alloc ?_ ?_ _) | (with_reducible refine below_drewN ?_ _) | (with_reducible refine Below.drew ?_) | (with_reducible refine Below.setCell ?_ ?_ _) | (with_reducible refine below_via (by assumption) ?_ ?_) | (with_reducible refine below_via (later_below _) ?_ ?_) | (with_reducible exact Nat.le_refl _) | omega | (simp; omega) | (simp; done))))); rintro e w1 ⟨rfl, hb⟩; clear HA; (refine mem hb ?_; intro N hN hz hc hf; (try simp at hN); subst hN)) | (go_at_call 48; (with_reducible refine (HF.out _ ?_).mono ?_); (focus ((repeat' (first | (with_reducible exact Below.refl _ _) | (with_reducible assumption) | (with_reducible refine Below.alloc ?_ ?_ _) | (with_reducible refine below_drewN ?_ _) | (with_reducible refine Below.drew ?_) | (with_reducible refine Below.setCell ?_ ?_ _) | (with_reducible refine below_via (by assumption) ?_ ?_) | (with_reducible refine below_via (later_below _) ?_ ?_) | (with_reducible exact Nat.le_refl _) | omega | (simp; omega) | (simp; done))))); rintro e w1 ⟨rfl, hb⟩; clear HF; (refine mem hb ?_; intro N hN hz hc hf; (try simp at hN); subst hN)))
        go_returns
        refine ⟨rfl, ?_⟩
        (repeat' (first | (with_reducible exact Below.refl _ _) | (with_reducible assumption) | (with_reducible refine Below.alloc ?_ ?_ _) | (with_reducible refine below_drewN ?_ _) | (with_reducible refine Below.drew ?_) | (with_reducible refine Below.setCell ?_ ?_ _) | (with_reducible refine below_via (by assumption) ?_ ?_) | (with_reducible refine below_via (later_below _) ?_ ?_) | (with_reducible exact Nat.le_refl _) | omega | (simp; omega) | (simp; done)))
      | true =>
        cases q4 with
        | false =>
          obtain rfl : R = false := by rw [← HR.out]; simp
          clear HR
          go_enter Try.func26, Try.ntmps26
          go_wp2_with (first | (go_at_call 47; (with_reducible refine (HA.out _ ?_).mono ?_); (focus ((repeat' (first | (with_reducible exact Below.refl _ _) | (with_reducible assumption) | (with_reducible refine Below.alloc ?_ ?_ _) | (with_reducible refine below_drewN ?_ _) | (with_reducible refine Below.drew ?_) | (with_reducible refine Below.setCell ?_ ?_ _) | (with_reducible refine below_via (by assumption) ?_ ?_) | (with_reducible refine below_via (later_below _) ?_ ?_) | (with_reducible exact Nat.le_refl _) | omega | (simp; omega) | (simp; done))))); rintro e w1 ⟨rfl, hb⟩; clear HA; (refine mem hb ?_; intro N hN hz hc hf; (try simp at hN); subst hN)) | (go_at_call 48; (with_reducible refine (HF.out _ ?_).mono ?_); (focus ((repeat' (first | (with_reducible exact Below.refl _ _) | (with_reducible assumption) | (with_reducible refine Below.alloc ?_ ?_ _) | (with_reducible refine below_drewN ?_ _) | (with_reducible refine Below.drew ?_) | (with_reducible refine Below.setCell ?_ ?_ _) | (with_reducible refine below_via (by assumption) ?_ ?_) | (with_reducible refine below_via (later_below _) ?_ ?_) | (with_reducible exact Nat.le_refl _) | omega | (simp; omega) | (simp; done))))); rintro e w1 ⟨rfl, hb⟩; clear HF; (refine mem hb ?_; intro N hN hz hc hf; (try simp at hN); subst hN)))
          go_returns
          refine ⟨rfl, ?_⟩
          (repeat' (first | (with_reducible exact Below.refl _ _) | (with_reducible assumption) | (with_reducible refine Below.alloc ?_ ?_ _) | (with_reducible refine below_drewN ?_ _) | (with_reducible refine Below.drew ?_) | (with_reducible refine Below.setCell ?_ ?_ _) | (with_reducible refine below_via (by assumption) ?_ ?_) | (with_reducible refine below_via (later_below _) ?_ ?_) | (with_reducible exact Nat.le_refl _) | omega | (simp; omega) | (simp; done)))
        | true =>
          cases q5 with
          | false =>
            obtain rfl : R = false := by rw [← HR.out]; simp
            clear HR
            go_enter Try.func26, Try.ntmps26
            go_wp2_with (first | (go_at_call 47; (with_reducible refine (HA.out _ ?_).mono ?_); (focus ((repeat' (first | (with_reducible exact Below.refl _ _) | (with_reducible assumption) | (with_reducible refine Below.alloc ?_ ?_ _) | (with_reducible refine below_drewN ?_ _) | (with_reducible refine Below.drew ?_) | (with_reducible refine Below.setCell ?_ ?_ _) | (with_reducible refine below_via (by assumption) ?_ ?_) | (with_reducible refine below_via (later_below _) ?_ ?_) | (with_reducible exact Nat.le_refl _) | omega | (simp; omega) | (simp; done))))); rintro e w1 ⟨rfl, hb⟩; clear HA; (refine mem hb ?_; intro N hN hz hc hf; (try simp at hN); subst hN)) | (go_at_call 48; (with_reducible refine (HF.out _ ?_).mono ?_); (focus ((repeat' (first | (with_reducible exact Below.refl _ _) | (with_reducible assumption) | (with_reducible refine Below.alloc ?_ ?_ _) | (with_reducible refine below_drewN ?_ _) | (with_reducible refine Below.drew ?_) | (with_reducible refine Below.setCell ?_ ?_ _) | (with_reducible refine below_via (by assumption) ?_ ?_) | (with_reducible refine below_via (later_below _) ?_ ?_) | (with_reducible exact Nat.le_refl _) | omega | (simp; omega) | (simp; done))))); rintro e w1 ⟨rfl, hb⟩; clear HF; (refine mem hb ?_; intro N hN hz hc hf; (try simp at hN); subst hN)))
            go_returns
            refine ⟨rfl, ?_⟩
            (repeat' (first | (with_reducible exact Below.refl _ _) | (with_reducible assumption) | (with_reducible refine Below.alloc ?_ ?_ _) | (with_reducible refine below_drewN ?_ _) | (with_reducible refine Below.drew ?_) | (with_reducible refine Below.setCell ?_ ?_ _) | (with_reducible refine below_via (by assumption) ?_ ?_) | (with_reducible refine below_via (later_below _) ?_ ?_) | (with_reducible exact Nat.le_refl _) | omega | (simp; omega) | (simp; done)))
          | true =>
            cases q6 with
            | false =>
              obtain rfl : R = false := by rw [← HR.out]; simp
              clear HR
              go_enter Try.func26, Try.ntmps26
              go_wp2_with (first | (go_at_call 47; (with_reducible refine (HA.out _ ?_).mono ?_); (focus ((repeat' (first | (with_reducible exact Below.refl _ _) | (with_reducible assumption) | (with_reducible refine Below.alloc ?_ ?_ _) | (with_reducible refine below_drewN ?_ _) | (with_reducible refine Below.drew ?_) | (with_reducible refine Below.setCell ?_ ?_ _) | (with_reducible refine below_via (by assumption) ?_ ?_) | (with_reducible refine below_via (later_below _) ?_ ?_) | (with_reducible exact Nat.le_refl _) | omega | (simp; omega) | (simp; done))))); rintro e w1 ⟨rfl, hb⟩; clear HA; (refine mem hb ?_; intro N hN hz hc hf; (try simp at hN); subst hN)) | (go_at_call 48; (with_reducible refine (HF.out _ ?_).mono ?_); (focus ((repeat' (first | (with_reducible exact Below.refl _ _) | (with_reducible assumption) | (with_reducible refine Below.alloc ?_ ?_ _) | (with_reducible refine below_drewN ?_ _) | (with_reducible refine Below.drew ?_) | (with_reducible refine Below.setCell ?_ ?_ _) | (with_reducible refine below_via (by assumption) ?_ ?_) | (with_reducible refine below_via (later_below _) ?_ ?_) | (with_reducible exact Nat.le_refl _) | omega | (simp; omega) | (simp; done))))); rintro e w1 ⟨rfl, hb⟩; clear HF; (refine mem hb ?_; intro N hN hz hc hf; (try simp at hN); subst hN)))
              go_returns
              refine ⟨rfl, ?_⟩
              (repeat' (first | (with_reducible exact Below.refl _ _) | (with_reducible assumption) | (with_reducible refine Below.alloc ?_ ?_ _) | (with_reducible refine below_drewN ?_ _) | (with_reducible refine Below.drew ?_) | (with_reducible refine Below.setCell ?_ ?_ _) | (with_reducible refine below_via (by assumption) ?_ ?_) | (with_reducible refine below_via (later_below _) ?_ ?_) | (with_reducible exact Nat.le_refl _) | omega | (simp; omega) | (simp; done)))
            | true =>
              cases q7 with
              | false =>
                obtain rfl : R = false := by rw [← HR.out]; simp
                clear HR
                go_enter Try.func26, Try.ntmps26
                go_wp2_with (first | (go_at_call 47; (with_reducible refine (HA.out _ ?_).mono ?_); (focus ((repeat' (first | (with_reducible exact Below.refl _ _) | (with_reducible assumption) | (with_reducible refine Below.alloc ?_ ?_ _) | (with_reducible refine below_drewN ?_ _) | (with_reducible refine Below.drew ?_) | (with_reducible refine Below.setCell ?_ ?_ _) | (with_reducible refine below_via (by assumption) ?_ ?_) | (with_reducible refine below_via (later_below _) ?_ ?_) | (with_reducible exact Nat.le_refl _) | omega | (simp; omega) | (simp; done))))); rintro e w1 ⟨rfl, hb⟩; clear HA; (refine mem hb ?_; intro N hN hz hc hf; (try simp at hN); subst hN)) | (go_at_call 48; (with_reducible refine (HF.out _ ?_).mono ?_); (focus ((repeat' (first | (with_reducible exact Below.refl _ _) | (with_reducible assumption) | (with_reducible refine Below.alloc ?_ ?_ _) | (with_reducible refine below_drewN ?_ _) | (with_reducible refine Below.drew ?_) | (with_reducible refine Below.setCell ?_ ?_ _) | (with_reducible refine below_via (by assumption) ?_ ?_) | (with_reducible refine below_via (later_below _) ?_ ?_) | (with_reducible exact Nat.le_refl _) | omega | (simp; omega) | (simp; done))))); rintro e w1 ⟨rfl, hb⟩; clear HF; (refine mem hb ?_; intro N hN hz hc hf; (try simp at hN); subst hN)))
                go_returns
                refine ⟨rfl, ?_⟩
                (repeat' (first | (with_reducible exact Below.refl _ _) | (with_reducible assumption) | (with_reducible refine Below.alloc ?_ ?_ _) | (with_reducible refine below_drewN ?_ _) | (with_reducible refine Below.drew ?_) | (with_reducible refine Below.setCell ?_ ?_ _) | (with_reducible refine below_via (by assumption) ?_ ?_) | (with_reducible refine below_via (later_below _) ?_ ?_) | (with_reducible exact Nat.le_refl _) | omega | (simp; omega) | (simp; done)))
              | true =>
                obtain rfl : R = true := HR.out.symm
                go_enter Try.func26, Try.ntmps26
                go_wp2_with (first | (go_at_call 47; (with_reducible refine (HA.out _ ?_).mono ?_); (focus ((repeat' (first | (with_reducible exact Below.refl _ _) | (with_reducible assumption) | (with_reducible refine Below.alloc ?_ ?_ _) | (with_reducible refine below_drewN ?_ _) | (with_reducible refine Below.drew ?_) | (with_reducible refine Below.setCell ?_ ?_ _) | (with_reducible refine below_via (by assumption) ?_ ?_) | (with_reducible refine below_via (later_below _) ?_ ?_) | (with_reducible exact Nat.le_refl _) | omega | (simp; omega) | (simp; done))))); rintro e w1 ⟨rfl, hb⟩; clear HA; (refine mem hb ?_; intro N hN hz hc hf; (try simp at hN); subst hN)) | (go_at_call 48; (with_reducible refine (HF.out _ ?_).mono ?_); (focus ((repeat' (first | (with_reducible exact Below.refl _ _) | (with_reducible assumption) | (with_reducible refine Below.alloc ?_ ?_ _) | (with_reducible refine below_drewN ?_ _) | (with_reducible refine Below.drew ?_) | (with_reducible refine Below.setCell ?_ ?_ _) | (with_reducible refine below_via (by assumption) ?_ ?_) | (with_reducible refine below_via (later_below _) ?_ ?_) | (with_reducible exact Nat.le_refl _) | omega | (simp; omega) | (simp; done))))); rintro e w1 ⟨rfl, hb⟩; clear HF; (refine mem hb ?_; intro N hN hz hc hf; (try simp at hN); subst hN)))
                go_returns
                refine ⟨rfl, ?_⟩
                (repeat' (first | (with_reducible exact Below.refl _ _) | (with_reducible assumption) | (with_reducible refine Below.alloc ?_ ?_ _) | (with_reducible refine below_drewN ?_ _) | (with_reducible refine Below.drew ?_) | (with_reducible refine Below.setCell ?_ ?_ _) | (with_reducible refine below_via (by assumption) ?_ ?_) | (with_reducible refine below_via (later_below _) ?_ ?_) | (with_reducible exact Nat.le_refl _) | omega | (simp; omega) | (simp; done)))
theorem slp_step (n : Nat) (hX : SxP n) (hL : SlP n) : SlP (n + 1) := by
  intro l m a b c d w hr hl hm
  obtain ⟨R, hR⟩ : ∃ R, seN (n + 1) (.inr (l, m)) = R := ⟨_, rfl⟩
  rw [hR]
  have HC : Hid (∀ W, Below w.heap.size w W → Calls Try.prog 44
      #[.slice a l.length c, .slice b m.length d, .func (.func 45) #[] #[]] W fun e W' => e = .returned (.bool R) ∧ Below W.heap.size W W') := fun W hW => by
    rw [← hR]
    have h1 := hl.st hW
    have h2 := hm.st hW
    refine eqf_S (ssB n) l m _ _ _ _ W.heap.size W h1.1 h1.2.1 h2.1 h2.2.1 (Nat.le_refl _) fun k k1 k2 W1 h => ?_
    exact sameStat_p hX hL _ _ W1 (by have := rkSs_mem (List.getElem_mem k1); omega) (((inSs_iff _).1 h1.2.2 _ (List.getElem_mem k1)).st h) (((inSs_iff _).1 h2.2.2 _ (List.getElem_mem k2)).st h)
  clear hR hX hL hl hm hr
  go_enter Try.func24, Try.ntmps24
  go_wp2_with (go_at_call 44; (with_reducible refine (HC.out _ ?_).mono ?_); (focus ((repeat' (first | (with_reducible exact Below.refl _ _) | (with_reducible assumption) | (with_reducible refine Below.alloc ?_ ?_ _) | (with_reducible refine below_drewN ?_ _) | (with_reducible refine Below.drew ?_) | (with_reducible refine Below.setCell ?_ ?_ _) | (with_reducible refine below_via (by assumption) ?_ ?_) | (with_reducible refine below_via (later_below _) ?_ ?_) | (with_reducible exact Nat.le_refl _) | omega | (simp; omega) | (simp; done))))); rintro e w1 ⟨rfl, hb⟩)
  go_returns
  exact ⟨rfl, hb⟩
theorem same_p : ∀ n, SxP n ∧ SlP n
  | 0 => ⟨fun _ _ _ h => by omega, fun _ _ _ _ _ _ _ h => by omega⟩
  | n + 1 => have ih := same_p n; ⟨sxp_step n ih.1 ih.2, slp_step n ih.1 ih.2⟩
end Go.Proofs.Ythkpggpnbdedjaa
