/- The program's check, its small parts: need, fail (a panic with an error), counts, plain. -/
import Derived.Test.YtplphejillkdeaaGreatDoorMTrVis2
import Derived.Test.YtplphejillkdeaaGreatDoorMTrDp
namespace Go.Proofs.YtplphejillkdeaaGreatDoor
open Go.RowKit Go.Instr
set_option linter.unusedVariables false

/-- The panic with which a check reports an error. -/
def faultP (e : Int) : List PanicEntry := [{ v := .iface 75 (.agg #[.int .i64 e]), recovered := false }]
/-- No error, and a result; or the panic. -/
def PE (v : Value) (e : Int) (W : World) : Ending → World → Prop := fun r W' => ((e = 0 ∧ r = .returned v) ∨ (e ≠ 0 ∧ r = .panicked (faultP e))) ∧ Below W.heap.size W W'

theorem fail_any (e : Int) (w : World) : Calls Tryz.prog 89 #[.int .i64 e] w fun r w' => r = .panicked (faultP e) ∧ w' = w := by
  go_enter Tryz.func89, Tryz.ntmps89
  go_wp2_with fail
  exact ⟨rfl, rfl, rfl⟩
theorem need_any (b : Bool) (e : Int) (w : World) : Calls Tryz.prog 76 #[.bool b, .int .i64 e] w fun r w' => ((b = true ∧ r = .returned (.tuple #[])) ∨ (b = false ∧ r = .panicked (faultP e))) ∧ w' = w := by
  cases b
  · go_enter Tryz.func76, Tryz.ntmps76
    go_wp2_with (go_at_call 89; (with_reducible refine (fail_any _ _).mono ?_); rintro r w1 ⟨rfl, rfl⟩)
    exact ⟨rfl, by simp [faultP]⟩
  · go_enter Tryz.func76, Tryz.ntmps76
    go_wp2_with fail
    go_end0
    simp

/-- Whether a number of parts is the wanted one (-1: any; -2: at least one). -/
def fitN (n : Nat) (want : Int) : Bool := ((n : Int) == want) || (want == -1) || ((want == -2) && decide (1 ≤ n))
theorem counts1_any (n : Nat) (want : Int) (w : World) : Calls Tryz.prog 113 #[.int .i64 n, .int .i64 want] w fun r w' => r = .returned (.bool (fitN n want)) ∧ w' = w := by
  obtain ⟨F, hF⟩ : ∃ F, fitN n want = F := ⟨_, rfl⟩
  rw [hF]
  have hf : (((n : Int) == want) || (want == -1) || ((want == -2) && decide ((1 : Int) ≤ n))) = F := by
    rw [← hF]; unfold fitN; congr 2; simp; omega
  clear hF
  cases h1 : ((n : Int) == want)
  · cases h2 : (want == -1)
    · cases h3 : (want == -2)
      · rw [h1, h2, h3] at hf
        subst hf
        go_enter Tryz.func113, Tryz.ntmps113
        go_wp2_with fail
        go_returns
        exact ⟨rfl, rfl⟩
      · cases h4 : decide ((1 : Int) ≤ n)
        · rw [h1, h2, h3, h4] at hf
          subst hf
          go_enter Tryz.func113, Tryz.ntmps113
          go_wp2_with fail
          go_returns
          exact ⟨rfl, rfl⟩
        · rw [h1, h2, h3, h4] at hf
          subst hf
          go_enter Tryz.func113, Tryz.ntmps113
          go_wp2_with fail
          go_returns
          exact ⟨rfl, rfl⟩
    · rw [h1, h2] at hf
      subst hf
      go_enter Tryz.func113, Tryz.ntmps113
      go_wp2_with fail
      go_returns
      exact ⟨rfl, rfl⟩
  · rw [h1] at hf
    subst hf
    go_enter Tryz.func113, Tryz.ntmps113
    go_wp2_with fail
    go_returns
    exact ⟨rfl, rfl⟩

/-- The numbers of a statement's parts, and a label only if it may. -/
def cntB (s : TS) (n l r b : Int) (lb : Bool) : Bool := fitN s.names.length n && (fitN s.left.length l && (fitN s.right.length r && (fitN s.blocks.length b && (lb || s.label.toList.isEmpty))))
set_option maxHeartbeats 1600000 in
theorem counts_any (s : TS) (n l r b : Int) (lb : Bool) (w : World) : Calls Tryz.prog 92 #[s.v, .int .i64 n, .int .i64 l, .int .i64 r, .int .i64 b, .bool lb] w fun e w' => e = .returned (.bool (cntB s n l r b lb)) ∧ Below w.heap.size w w' := by
  obtain ⟨f1, h1⟩ : ∃ f, fitN s.names.length n = f := ⟨_, rfl⟩
  obtain ⟨f2, h2⟩ : ∃ f, fitN s.left.length l = f := ⟨_, rfl⟩
  obtain ⟨f3, h3⟩ : ∃ f, fitN s.right.length r = f := ⟨_, rfl⟩
  obtain ⟨f4, h4⟩ : ∃ f, fitN s.blocks.length b = f := ⟨_, rfl⟩
  obtain ⟨f5, h5⟩ : ∃ f, s.label.toList.isEmpty = f := ⟨_, rfl⟩
  have c1 : Hid (∀ W, Calls Tryz.prog 113 #[.int .i64 s.names.length, .int .i64 n] W fun r w' => r = .returned (.bool f1) ∧ w' = W) := fun W => h1 ▸ counts1_any _ _ W
  have c2 : Hid (∀ W, Calls Tryz.prog 113 #[.int .i64 s.left.length, .int .i64 l] W fun r w' => r = .returned (.bool f2) ∧ w' = W) := fun W => h2 ▸ counts1_any _ _ W
  have c3 : Hid (∀ W, Calls Tryz.prog 113 #[.int .i64 s.right.length, .int .i64 r] W fun r w' => r = .returned (.bool f3) ∧ w' = W) := fun W => h3 ▸ counts1_any _ _ W
  have c4 : Hid (∀ W, Calls Tryz.prog 113 #[.int .i64 s.blocks.length, .int .i64 b] W fun r w' => r = .returned (.bool f4) ∧ w' = W) := fun W => h4 ▸ counts1_any _ _ W
  have e : cntB s n l r b lb = (f1 && (f2 && (f3 && (f4 && (lb || f5))))) := by unfold cntB; rw [h1, h2, h3, h4, h5]
  rw [e]
  clear h1 h2 h3 h4 e
  have hg := enters_of Tryz.func113 (by kernel_rfl) rfl
  cases f1 with
  | false =>
    go_enter Tryz.func92, Tryz.ntmps92
    go_wp2_with (first | (go_at_call 113; (with_reducible refine (c1.out _).mono ?_); rintro r w1 ⟨rfl, rfl⟩; clear c1) | (go_at_call 113; (with_reducible refine (c2.out _).mono ?_); rintro r w1 ⟨rfl, rfl⟩; clear c2) | (go_at_call 113; (with_reducible refine (c3.out _).mono ?_); rintro r w1 ⟨rfl, rfl⟩; clear c3) | (go_at_call 113; (with_reducible refine (c4.out _).mono ?_); rintro r w1 ⟨rfl, rfl⟩; clear c4))
    go_returns
    exact ⟨rfl, by (repeat' (first | (with_reducible exact Below.refl _ _) | (with_reducible assumption) | (with_reducible refine Below.alloc ?_ ?_ _) | (with_reducible refine below_drewN ?_ _) | (with_reducible refine Below.drew ?_) | (with_reducible refine Below.setCell ?_ ?_ _) | (with_reducible refine below_via (by assumption) ?_ ?_) | (with_reducible refine below_via (later_below _) ?_ ?_) | (with_reducible exact Nat.le_refl _) | omega | (simp; omega) | (simp; done)))⟩
  | true =>
    cases f2 with
    | false =>
      go_enter Tryz.func92, Tryz.ntmps92
      go_wp2_with (first | (go_at_call 113; (with_reducible refine (c1.out _).mono ?_); rintro r w1 ⟨rfl, rfl⟩; clear c1) | (go_at_call 113; (with_reducible refine (c2.out _).mono ?_); rintro r w1 ⟨rfl, rfl⟩; clear c2) | (go_at_call 113; (with_reducible refine (c3.out _).mono ?_); rintro r w1 ⟨rfl, rfl⟩; clear c3) | (go_at_call 113; (with_reducible refine (c4.out _).mono ?_); rintro r w1 ⟨rfl, rfl⟩; clear c4))
      go_returns
      exact ⟨rfl, by (repeat' (first | (with_reducible exact Below.refl _ _) | (with_reducible assumption) | (with_reducible refine Below.alloc ?_ ?_ _) | (with_reducible refine below_drewN ?_ _) | (with_reducible refine Below.drew ?_) | (with_reducible refine Below.setCell ?_ ?_ _) | (with_reducible refine below_via (by assumption) ?_ ?_) | (with_reducible refine below_via (later_below _) ?_ ?_) | (with_reducible exact Nat.le_refl _) | omega | (simp; omega) | (simp; done)))⟩
    | true =>
      cases f3 with
      | false =>
        go_enter Tryz.func92, Tryz.ntmps92
        go_wp2_with (first | (go_at_call 113; (with_reducible refine (c1.out _).mono ?_); rintro r w1 ⟨rfl, rfl⟩; clear c1) | (go_at_call 113; (with_reducible refine (c2.out _).mono ?_); rintro r w1 ⟨rfl, rfl⟩; clear c2) | (go_at_call 113; (with_reducible refine (c3.out _).mono ?_); rintro r w1 ⟨rfl, rfl⟩; clear c3) | (go_at_call 113; (with_reducible refine (c4.out _).mono ?_); rintro r w1 ⟨rfl, rfl⟩; clear c4))
        go_returns
        exact ⟨rfl, by (repeat' (first | (with_reducible exact Below.refl _ _) | (with_reducible assumption) | (with_reducible refine Below.alloc ?_ ?_ _) | (with_reducible refine below_drewN ?_ _) | (with_reducible refine Below.drew ?_) | (with_reducible refine Below.setCell ?_ ?_ _) | (with_reducible refine below_via (by assumption) ?_ ?_) | (with_reducible refine below_via (later_below _) ?_ ?_) | (with_reducible exact Nat.le_refl _) | omega | (simp; omega) | (simp; done)))⟩
      | true =>
        cases f4 with
        | false =>
          go_enter Tryz.func92, Tryz.ntmps92
          go_wp2_with (first | (go_at_call 113; (with_reducible refine (c1.out _).mono ?_); rintro r w1 ⟨rfl, rfl⟩; clear c1) | (go_at_call 113; (with_reducible refine (c2.out _).mono ?_); rintro r w1 ⟨rfl, rfl⟩; clear c2) | (go_at_call 113; (with_reducible refine (c3.out _).mono ?_); rintro r w1 ⟨rfl, rfl⟩; clear c3) | (go_at_call 113; (with_reducible refine (c4.out _).mono ?_); rintro r w1 ⟨rfl, rfl⟩; clear c4))
          go_returns
          exact ⟨rfl, by (repeat' (first | (with_reducible exact Below.refl _ _) | (with_reducible assumption) | (with_reducible refine Below.alloc ?_ ?_ _) | (with_reducible refine below_drewN ?_ _) | (with_reducible refine Below.drew ?_) | (with_reducible refine Below.setCell ?_ ?_ _) | (with_reducible refine below_via (by assumption) ?_ ?_) | (with_reducible refine below_via (later_below _) ?_ ?_) | (with_reducible exact Nat.le_refl _) | omega | (simp; omega) | (simp; done)))⟩
        | true =>
          cases lb with
          | true =>
            go_enter Tryz.func92, Tryz.ntmps92
            go_wp2_with (first | (go_at_call 113; (with_reducible refine (c1.out _).mono ?_); rintro r w1 ⟨rfl, rfl⟩; clear c1) | (go_at_call 113; (with_reducible refine (c2.out _).mono ?_); rintro r w1 ⟨rfl, rfl⟩; clear c2) | (go_at_call 113; (with_reducible refine (c3.out _).mono ?_); rintro r w1 ⟨rfl, rfl⟩; clear c3) | (go_at_call 113; (with_reducible refine (c4.out _).mono ?_); rintro r w1 ⟨rfl, rfl⟩; clear c4))
            go_returns
            exact ⟨rfl, by (repeat' (first | (with_reducible exact Below.refl _ _) | (with_reducible assumption) | (with_reducible refine Below.alloc ?_ ?_ _) | (with_reducible refine below_drewN ?_ _) | (with_reducible refine Below.drew ?_) | (with_reducible refine Below.setCell ?_ ?_ _) | (with_reducible refine below_via (by assumption) ?_ ?_) | (with_reducible refine below_via (later_below _) ?_ ?_) | (with_reducible exact Nat.le_refl _) | omega | (simp; omega) | (simp; done)))⟩
          | false =>
            cases f5 with
            | false =>
              go_enter Tryz.func92, Tryz.ntmps92
              go_wp2_with (first | (go_at_call 113; (with_reducible refine (c1.out _).mono ?_); rintro r w1 ⟨rfl, rfl⟩; clear c1) | (go_at_call 113; (with_reducible refine (c2.out _).mono ?_); rintro r w1 ⟨rfl, rfl⟩; clear c2) | (go_at_call 113; (with_reducible refine (c3.out _).mono ?_); rintro r w1 ⟨rfl, rfl⟩; clear c3) | (go_at_call 113; (with_reducible refine (c4.out _).mono ?_); rintro r w1 ⟨rfl, rfl⟩; clear c4))
              go_returns
              exact ⟨rfl, by (repeat' (first | (with_reducible exact Below.refl _ _) | (with_reducible assumption) | (with_reducible refine Below.alloc ?_ ?_ _) | (with_reducible refine below_drewN ?_ _) | (with_reducible refine Below.drew ?_) | (with_reducible refine Below.setCell ?_ ?_ _) | (with_reducible refine below_via (by assumption) ?_ ?_) | (with_reducible refine below_via (later_below _) ?_ ?_) | (with_reducible exact Nat.le_refl _) | omega | (simp; omega) | (simp; done)))⟩
            | true =>
              go_enter Tryz.func92, Tryz.ntmps92
              go_wp2_with (first | (go_at_call 113; (with_reducible refine (c1.out _).mono ?_); rintro r w1 ⟨rfl, rfl⟩; clear c1) | (go_at_call 113; (with_reducible refine (c2.out _).mono ?_); rintro r w1 ⟨rfl, rfl⟩; clear c2) | (go_at_call 113; (with_reducible refine (c3.out _).mono ?_); rintro r w1 ⟨rfl, rfl⟩; clear c3) | (go_at_call 113; (with_reducible refine (c4.out _).mono ?_); rintro r w1 ⟨rfl, rfl⟩; clear c4))
              go_returns
              exact ⟨rfl, by (repeat' (first | (with_reducible exact Below.refl _ _) | (with_reducible assumption) | (with_reducible refine Below.alloc ?_ ?_ _) | (with_reducible refine below_drewN ?_ _) | (with_reducible refine Below.drew ?_) | (with_reducible refine Below.setCell ?_ ?_ _) | (with_reducible refine below_via (by assumption) ?_ ?_) | (with_reducible refine below_via (later_below _) ?_ ?_) | (with_reducible exact Nat.le_refl _) | omega | (simp; omega) | (simp; done)))⟩
end Go.Proofs.YtplphejillkdeaaGreatDoor

/- slices.ContainsFunc over a statement's names and over expressions; the tests that are handed to it. -/
namespace Go.Proofs.YtplphejillkdeaaGreatDoor
open Go.RowKit Go.Instr
set_option linter.unusedVariables false

/-- The first index at which p holds, -1 if there is none. -/
def idxF {α : Type} (p : α → Bool) : List α → Int
  | [] => -1
  | x :: l => if p x then 0 else if idxF p l < 0 then -1 else 1 + idxF p l
theorem idxF_any {α : Type} (p : α → Bool) : ∀ l : List α, decide ((0 : Int) ≤ idxF p l) = l.any p
  | [] => rfl
  | x :: l => by
    have ih := idxF_any p l
    unfold idxF
    cases hx : p x
    · rw [List.any_cons, hx, Bool.false_or, ← ih]
      by_cases h : idxF p l < 0
      · rw [if_neg (by simp), if_pos h]; simp; omega
      · rw [if_neg (by simp), if_neg h]; simp; omega
    · rw [List.any_cons, hx]; rfl
theorem idxF_at {α : Type} (p : α → Bool) : ∀ (l : List α) (k : Nat) (h : k < l.length), (∀ i (hi : i < k), p (l[i]'(by omega)) = false) → p l[k] = true → idxF p l = k
  | x :: l, 0, _, _, hk => by unfold idxF; rw [if_pos (by simpa using hk)]; rfl
  | x :: l, k + 1, h, hb, hk => by
    have ih := idxF_at p l k (by simpa using h) (fun i hi => by have := hb (i + 1) (by omega); simpa using this) (by simpa using hk)
    have h0 := hb 0 (by omega)
    unfold idxF
    rw [if_neg (by simpa using h0), ih, if_neg (by omega)]
    push_cast; omega
theorem idxF_none {α : Type} (p : α → Bool) : ∀ (l : List α), (∀ i (hi : i < l.length), p l[i] = false) → idxF p l = -1
  | [], _ => rfl
  | x :: l, h => by
    have ih := idxF_none p l (fun i hi => by have := h (i + 1) (by simpa using hi); simpa using this)
    have h0 := h 0 (by simp)
    unfold idxF
    rw [if_neg (by simpa using h0), ih]; rfl

/-- A test: in every world it answers p. -/
def TestL (g : FuncId) (p : ByteArray × Int → Bool) : Prop := (∀ args u, (callFunc g args).run Tryz.prog u = .ok (.enter g args) u) ∧ ∀ x W, Calls Tryz.prog g #[.agg #[.string x.1, .int .i64 x.2]] W fun e W' => e = .returned (.bool (p x)) ∧ Below W.heap.size W W'
set_option maxHeartbeats 1600000 in
theorem indexL_any (g : FuncId) (p : ByteArray × Int → Bool) (hg : TestL g p) (l : List (ByteArray × Int)) (a : Option Addr) (c N : Nat) (w : World) (hs : Slc a l.length c) (hl : LsAt w N a l) (hN : N ≤ w.heap.size) :
    Calls Tryz.prog 112
      #[.slice a l.length c, .func (.func g) #[] #[]] w fun e w' => e = .returned (.int .i64 (idxF p l)) ∧ Below w.heap.size w w' := by
  obtain ⟨hg1, hg2⟩ := hg
  obtain ⟨hn1, hn2, -⟩ := hs
  have hn : (l.length : Int) ≤ 9223372036854775807 := by omega
  have HL := Lib.hid hl
  have HG := Lib.hid hg2
  obtain ⟨R, hR⟩ : ∃ R, idxF p l = R := ⟨_, rfl⟩
  rw [hR]
  have HR := Lib.hid hR
  clear hl hg2 hR
  go_enter Tryz.func112, Tryz.ntmps112
  go_wp2_with fail
  go_loopw [8] (fun i wr => ∃ k : Nat, k ≤ l.length ∧ i = .int .i64 k ∧ Hid (Below w.heap.size w wr) ∧ Hid (∀ i (hi : i < l.length), i < k → p l[i] = false)) (fun i _ => l.length - (intOf i).toNat)
  case atStart => exact ⟨0, Nat.zero_le _, rfl, Below.refl _ _, fun i _ h => by omega⟩
  case round =>
    obtain ⟨k, hk, rfl, HE, HP⟩ := hrel
    by_cases hlt : k < l.length
    · rcases HL.out with h0 | ⟨b, o, rfl, hb, hc⟩
      · omega
      have hck := l2_still (still_of HE.out hN) _ _ _ hb (hc k hlt)
      obtain ⟨x, hx⟩ : ∃ x, l[k] = x := ⟨_, rfl⟩
      have HX := Lib.hid hx
      rw [hx] at hck
      obtain ⟨c0, c1⟩ := hck
      obtain ⟨q, hq⟩ : ∃ q, p x = q := ⟨_, rfl⟩
      have HC : Hid (∀ W, Calls Tryz.prog g #[.agg #[.string x.1, .int .i64 x.2]] W fun e W' => e = .returned (.bool q) ∧ Below W.heap.size W W') := fun W => hq ▸ HG.out x W
      have HQ := Lib.hid hq
      clear hx hq
      cases q
      · go_wp2_with (go_at_fn g; (with_reducible refine (HC.out _).mono ?_); rintro e w1 ⟨rfl, hb1⟩)
        refine ⟨⟨k + 1, by omega, by go_num, ?_, ?_⟩, by simp [intOf]; omega⟩
        · show Below _ _ _; have h0 := HE.out; have hs0 := h0.size; (repeat' (first | (with_reducible exact Below.refl _ _) | (with_reducible assumption) | (with_reducible refine Below.alloc ?_ ?_ _) | (with_reducible refine below_drewN ?_ _) | (with_reducible refine Below.drew ?_) | (with_reducible refine Below.setCell ?_ ?_ _) | (with_reducible refine below_via (by assumption) ?_ ?_) | (with_reducible refine below_via (later_below _) ?_ ?_) | (with_reducible exact Nat.le_refl _) | omega | (simp; omega) | (simp; done)))
        · intro i hi hik
          by_cases h : i = k
          · subst h; rw [HX.out]; exact HQ.out
          · exact HP.out i hi (by omega)
      · go_wp2_with (go_at_fn g; (with_reducible refine (HC.out _).mono ?_); rintro e w1 ⟨rfl, hb1⟩)
        go_returns
        have e : R = (k : Int) := by rw [← HR.out]; exact idxF_at p l k hlt (fun i hi => HP.out i (by omega) hi) (by rw [HX.out]; exact HQ.out)
        rw [e]
        refine ⟨rfl, ?_⟩
        have h0 := HE.out
        have hs0 := h0.size
        (repeat' (first | (with_reducible exact Below.refl _ _) | (with_reducible assumption) | (with_reducible refine Below.alloc ?_ ?_ _) | (with_reducible refine below_drewN ?_ _) | (with_reducible refine Below.drew ?_) | (with_reducible refine Below.setCell ?_ ?_ _) | (with_reducible refine below_via (by assumption) ?_ ?_) | (with_reducible refine below_via (later_below _) ?_ ?_) | (with_reducible exact Nat.le_refl _) | omega | (simp; omega) | (simp; done)))
    · obtain rfl : k = l.length := by omega
      go_wp2_with fail
      go_returns
      have e : R = -1 := by rw [← HR.out]; exact idxF_none p l (fun i hi => HP.out i hi hi)
      rw [e]
      exact ⟨rfl, HE.out⟩
theorem containsL_any (g : FuncId) (p : ByteArray × Int → Bool) (hg : TestL g p) (l : List (ByteArray × Int)) (a : Option Addr) (c N : Nat) (w : World) (hs : Slc a l.length c) (hl : LsAt w N a l) (hN : N ≤ w.heap.size) :
    Calls Tryz.prog 90
      #[.slice a l.length c, .func (.func g) #[] #[]] w fun e w' => e = .returned (.bool (l.any p)) ∧ Below w.heap.size w w' := by
  have HI := Lib.hid (indexL_any g p hg l a c N w hs hl hN)
  obtain ⟨R, hR⟩ : ∃ R, idxF p l = R := ⟨_, rfl⟩
  have hA := idxF_any p l
  rw [hR] at HI hA
  obtain ⟨A, hA2⟩ : ∃ A, l.any p = A := ⟨_, rfl⟩
  rw [hA2] at hA ⊢
  clear hg hl hs hR hA2
  go_enter Tryz.func90, Tryz.ntmps90
  go_wp2_with (go_at_call 112; (with_reducible refine HI.out.mono ?_); rintro e w1 ⟨rfl, hb1⟩)
  go_returns
  exact ⟨by simp [← hA], hb1⟩

/-- A test: in every world it answers p. -/
def TestX (g : FuncId) (p : TX → Bool) : Prop := (∀ args u, (callFunc g args).run Tryz.prog u = .ok (.enter g args) u) ∧ ∀ x W, Calls Tryz.prog g #[x.v] W fun e W' => e = .returned (.bool (p x)) ∧ Below W.heap.size W W'
set_option maxHeartbeats 1600000 in
theorem indexX_any (g : FuncId) (p : TX → Bool) (hg : TestX g p) (l : List (TX)) (a : Option Addr) (c N : Nat) (w : World) (hs : Slc a l.length c) (hl : XsAt w N a l) (hN : N ≤ w.heap.size) :
    Calls Tryz.prog 115
      #[.slice a l.length c, .func (.func g) #[] #[]] w fun e w' => e = .returned (.int .i64 (idxF p l)) ∧ Below w.heap.size w w' := by
  obtain ⟨hg1, hg2⟩ := hg
  obtain ⟨hn1, hn2, -⟩ := hs
  have hn : (l.length : Int) ≤ 9223372036854775807 := by omega
  have HL := Lib.hid hl
  have HG := Lib.hid hg2
  obtain ⟨R, hR⟩ : ∃ R, idxF p l = R := ⟨_, rfl⟩
  rw [hR]
  have HR := Lib.hid hR
  clear hl hg2 hR
  go_enter Tryz.func115, Tryz.ntmps115
  go_wp2_with fail
  go_loopw [8] (fun i wr => ∃ k : Nat, k ≤ l.length ∧ i = .int .i64 k ∧ Hid (Below w.heap.size w wr) ∧ Hid (∀ i (hi : i < l.length), i < k → p l[i] = false)) (fun i _ => l.length - (intOf i).toNat)
  case atStart => exact ⟨0, Nat.zero_le _, rfl, Below.refl _ _, fun i _ h => by omega⟩
  case round =>
    obtain ⟨k, hk, rfl, HE, HP⟩ := hrel
    by_cases hlt : k < l.length
    · rcases HL.out with h0 | ⟨b, o, rfl, hb, hc⟩
      · omega
      have hck := x8_still (still_of HE.out hN) _ _ _ hb (hc k hlt)
      obtain ⟨x, hx⟩ : ∃ x, l[k] = x := ⟨_, rfl⟩
      have HX := Lib.hid hx
      rw [hx] at hck
      obtain ⟨c0, c1, c2, c3, c4, c5, c6, c7⟩ := hck
      obtain ⟨q, hq⟩ : ∃ q, p x = q := ⟨_, rfl⟩
      have HC : Hid (∀ W, Calls Tryz.prog g #[x.v] W fun e W' => e = .returned (.bool q) ∧ Below W.heap.size W W') := fun W => hq ▸ HG.out x W
      have HQ := Lib.hid hq
      clear hx hq
      cases q
      · go_wp2_with (go_at_fn g; (with_reducible refine (HC.out _).mono ?_); rintro e w1 ⟨rfl, hb1⟩)
        refine ⟨⟨k + 1, by omega, by go_num, ?_, ?_⟩, by simp [intOf]; omega⟩
        · show Below _ _ _; have h0 := HE.out; have hs0 := h0.size; (repeat' (first | (with_reducible exact Below.refl _ _) | (with_reducible assumption) | (with_reducible refine Below.alloc ?_ ?_ _) | (with_reducible refine below_drewN ?_ _) | (with_reducible refine Below.drew ?_) | (with_reducible refine Below.setCell ?_ ?_ _) | (with_reducible refine below_via (by assumption) ?_ ?_) | (with_reducible refine below_via (later_below _) ?_ ?_) | (with_reducible exact Nat.le_refl _) | omega | (simp; omega) | (simp; done)))
        · intro i hi hik
          by_cases h : i = k
          · subst h; rw [HX.out]; exact HQ.out
          · exact HP.out i hi (by omega)
      · go_wp2_with (go_at_fn g; (with_reducible refine (HC.out _).mono ?_); rintro e w1 ⟨rfl, hb1⟩)
        go_returns
        have e : R = (k : Int) := by rw [← HR.out]; exact idxF_at p l k hlt (fun i hi => HP.out i (by omega) hi) (by rw [HX.out]; exact HQ.out)
        rw [e]
        refine ⟨rfl, ?_⟩
        have h0 := HE.out
        have hs0 := h0.size
        (repeat' (first | (with_reducible exact Below.refl _ _) | (with_reducible assumption) | (with_reducible refine Below.alloc ?_ ?_ _) | (with_reducible refine below_drewN ?_ _) | (with_reducible refine Below.drew ?_) | (with_reducible refine Below.setCell ?_ ?_ _) | (with_reducible refine below_via (by assumption) ?_ ?_) | (with_reducible refine below_via (later_below _) ?_ ?_) | (with_reducible exact Nat.le_refl _) | omega | (simp; omega) | (simp; done)))
    · obtain rfl : k = l.length := by omega
      go_wp2_with fail
      go_returns
      have e : R = -1 := by rw [← HR.out]; exact idxF_none p l (fun i hi => HP.out i hi hi)
      rw [e]
      exact ⟨rfl, HE.out⟩
theorem containsX_any (g : FuncId) (p : TX → Bool) (hg : TestX g p) (l : List (TX)) (a : Option Addr) (c N : Nat) (w : World) (hs : Slc a l.length c) (hl : XsAt w N a l) (hN : N ≤ w.heap.size) :
    Calls Tryz.prog 94
      #[.slice a l.length c, .func (.func g) #[] #[]] w fun e w' => e = .returned (.bool (l.any p)) ∧ Below w.heap.size w w' := by
  have HI := Lib.hid (indexX_any g p hg l a c N w hs hl hN)
  obtain ⟨R, hR⟩ : ∃ R, idxF p l = R := ⟨_, rfl⟩
  have hA := idxF_any p l
  rw [hR] at HI hA
  obtain ⟨A, hA2⟩ : ∃ A, l.any p = A := ⟨_, rfl⟩
  rw [hA2] at hA ⊢
  clear hg hl hs hR hA2
  go_enter Tryz.func94, Tryz.ntmps94
  go_wp2_with (go_at_call 115; (with_reducible refine HI.out.mono ?_); rintro e w1 ⟨rfl, hb1⟩)
  go_returns
  exact ⟨by simp [← hA], hb1⟩

theorem plain1_test : TestL 114 fun x => x.2 != 0 := by
  refine ⟨enters_of Tryz.func114 (by kernel_rfl) rfl, fun x W => ?_⟩
  go_enter Tryz.func114, Tryz.ntmps114
  go_wp2_with fail
  go_returns
  exact ⟨rfl, by (repeat' (first | (with_reducible exact Below.refl _ _) | (with_reducible assumption) | (with_reducible refine Below.alloc ?_ ?_ _) | (with_reducible refine below_drewN ?_ _) | (with_reducible refine Below.drew ?_) | (with_reducible refine Below.setCell ?_ ?_ _) | (with_reducible refine below_via (by assumption) ?_ ?_) | (with_reducible refine below_via (later_below _) ?_ ?_) | (with_reducible exact Nat.le_refl _) | omega | (simp; omega) | (simp; done)))⟩
theorem stat1_test : TestL 91 fun x => decide (x.2 < 0) || decide (2 < x.2) := by
  refine ⟨enters_of Tryz.func91 (by kernel_rfl) rfl, fun x W => ?_⟩
  dsimp only
  by_cases h1 : x.2 < 0
  · rw [decide_eq_true h1]
    go_enter Tryz.func91, Tryz.ntmps91
    go_wp2_with fail
    go_returns
    exact ⟨rfl, by (repeat' (first | (with_reducible exact Below.refl _ _) | (with_reducible assumption) | (with_reducible refine Below.alloc ?_ ?_ _) | (with_reducible refine below_drewN ?_ _) | (with_reducible refine Below.drew ?_) | (with_reducible refine Below.setCell ?_ ?_ _) | (with_reducible refine below_via (by assumption) ?_ ?_) | (with_reducible refine below_via (later_below _) ?_ ?_) | (with_reducible exact Nat.le_refl _) | omega | (simp; omega) | (simp; done)))⟩
  · rw [decide_eq_false h1]
    by_cases h2 : 2 < x.2
    · rw [decide_eq_true h2]
      go_enter Tryz.func91, Tryz.ntmps91
      go_wp2_with fail
      go_returns
      exact ⟨rfl, by (repeat' (first | (with_reducible exact Below.refl _ _) | (with_reducible assumption) | (with_reducible refine Below.alloc ?_ ?_ _) | (with_reducible refine below_drewN ?_ _) | (with_reducible refine Below.drew ?_) | (with_reducible refine Below.setCell ?_ ?_ _) | (with_reducible refine below_via (by assumption) ?_ ?_) | (with_reducible refine below_via (later_below _) ?_ ?_) | (with_reducible exact Nat.le_refl _) | omega | (simp; omega) | (simp; done)))⟩
    · rw [decide_eq_false h2]
      go_enter Tryz.func91, Tryz.ntmps91
      go_wp2_with fail
      go_returns
      exact ⟨rfl, by (repeat' (first | (with_reducible exact Below.refl _ _) | (with_reducible assumption) | (with_reducible refine Below.alloc ?_ ?_ _) | (with_reducible refine below_drewN ?_ _) | (with_reducible refine Below.drew ?_) | (with_reducible refine Below.setCell ?_ ?_ _) | (with_reducible refine below_via (by assumption) ?_ ?_) | (with_reducible refine below_via (later_below _) ?_ ?_) | (with_reducible exact Nat.le_refl _) | omega | (simp; omega) | (simp; done)))⟩
theorem plain_any (l : List (ByteArray × Int)) (a : Option Addr) (c N : Nat) (w : World) (hs : Slc a l.length c) (hl : LsAt w N a l) (hN : N ≤ w.heap.size) :
    Calls Tryz.prog 93 #[.slice a l.length c] w fun e w' => e = .returned (.bool (!l.any fun x => x.2 != 0)) ∧ Below w.heap.size w w' := by
  have HC := Lib.hid (containsL_any _ _ plain1_test l a c N w hs hl hN)
  obtain ⟨A, hA⟩ : ∃ A, (l.any fun x => x.2 != 0) = A := ⟨_, rfl⟩
  rw [hA] at HC ⊢
  clear hs hl hA
  go_enter Tryz.func93, Tryz.ntmps93
  go_wp2_with (go_at_call 90; (with_reducible refine HC.out.mono ?_); rintro e w1 ⟨rfl, hb1⟩)
  go_returns
  exact ⟨rfl, hb1⟩
theorem stat2_test : TestX 95 fun x => x.k != 7 && x.k != 8 := by
  refine ⟨enters_of Tryz.func95 (by kernel_rfl) rfl, fun x W => ?_⟩
  dsimp only
  cases h1 : (x.k != 7)
  · rw [Bool.false_and]
    go_enter Tryz.func95, Tryz.ntmps95
    go_wp2_with fail
    go_returns
    exact ⟨rfl, by (repeat' (first | (with_reducible exact Below.refl _ _) | (with_reducible assumption) | (with_reducible refine Below.alloc ?_ ?_ _) | (with_reducible refine below_drewN ?_ _) | (with_reducible refine Below.drew ?_) | (with_reducible refine Below.setCell ?_ ?_ _) | (with_reducible refine below_via (by assumption) ?_ ?_) | (with_reducible refine below_via (later_below _) ?_ ?_) | (with_reducible exact Nat.le_refl _) | omega | (simp; omega) | (simp; done)))⟩
  · rw [Bool.true_and]
    cases h2 : (x.k != 8)
    · go_enter Tryz.func95, Tryz.ntmps95
      go_wp2_with fail
      go_returns
      exact ⟨rfl, by (repeat' (first | (with_reducible exact Below.refl _ _) | (with_reducible assumption) | (with_reducible refine Below.alloc ?_ ?_ _) | (with_reducible refine below_drewN ?_ _) | (with_reducible refine Below.drew ?_) | (with_reducible refine Below.setCell ?_ ?_ _) | (with_reducible refine below_via (by assumption) ?_ ?_) | (with_reducible refine below_via (later_below _) ?_ ?_) | (with_reducible exact Nat.le_refl _) | omega | (simp; omega) | (simp; done)))⟩
    · go_enter Tryz.func95, Tryz.ntmps95
      go_wp2_with fail
      go_returns
      exact ⟨rfl, by (repeat' (first | (with_reducible exact Below.refl _ _) | (with_reducible assumption) | (with_reducible refine Below.alloc ?_ ?_ _) | (with_reducible refine below_drewN ?_ _) | (with_reducible refine Below.drew ?_) | (with_reducible refine Below.setCell ?_ ?_ _) | (with_reducible refine below_via (by assumption) ?_ ?_) | (with_reducible refine below_via (later_below _) ?_ ?_) | (with_reducible exact Nat.le_refl _) | omega | (simp; omega) | (simp; done)))⟩
theorem expr1_test : TestX 120 fun x => x.k != 13 && x.k != 14 := by
  refine ⟨enters_of Tryz.func120 (by kernel_rfl) rfl, fun x W => ?_⟩
  dsimp only
  cases h1 : (x.k != 13)
  · rw [Bool.false_and]
    go_enter Tryz.func120, Tryz.ntmps120
    go_wp2_with fail
    go_returns
    exact ⟨rfl, by (repeat' (first | (with_reducible exact Below.refl _ _) | (with_reducible assumption) | (with_reducible refine Below.alloc ?_ ?_ _) | (with_reducible refine below_drewN ?_ _) | (with_reducible refine Below.drew ?_) | (with_reducible refine Below.setCell ?_ ?_ _) | (with_reducible refine below_via (by assumption) ?_ ?_) | (with_reducible refine below_via (later_below _) ?_ ?_) | (with_reducible exact Nat.le_refl _) | omega | (simp; omega) | (simp; done)))⟩
  · rw [Bool.true_and]
    cases h2 : (x.k != 14)
    · go_enter Tryz.func120, Tryz.ntmps120
      go_wp2_with fail
      go_returns
      exact ⟨rfl, by (repeat' (first | (with_reducible exact Below.refl _ _) | (with_reducible assumption) | (with_reducible refine Below.alloc ?_ ?_ _) | (with_reducible refine below_drewN ?_ _) | (with_reducible refine Below.drew ?_) | (with_reducible refine Below.setCell ?_ ?_ _) | (with_reducible refine below_via (by assumption) ?_ ?_) | (with_reducible refine below_via (later_below _) ?_ ?_) | (with_reducible exact Nat.le_refl _) | omega | (simp; omega) | (simp; done)))⟩
    · go_enter Tryz.func120, Tryz.ntmps120
      go_wp2_with fail
      go_returns
      exact ⟨rfl, by (repeat' (first | (with_reducible exact Below.refl _ _) | (with_reducible assumption) | (with_reducible refine Below.alloc ?_ ?_ _) | (with_reducible refine below_drewN ?_ _) | (with_reducible refine Below.drew ?_) | (with_reducible refine Below.setCell ?_ ?_ _) | (with_reducible refine below_via (by assumption) ?_ ?_) | (with_reducible refine below_via (later_below _) ?_ ?_) | (with_reducible exact Nat.le_refl _) | omega | (simp; omega) | (simp; done)))⟩
end Go.Proofs.YtplphejillkdeaaGreatDoor
