/- The lexer's tests of bytes: function values that stay what they are whatever is made behind them. -/
import Derived.Test.YtplphejillkdeaaGreatDoorMStr
import Derived.Test.YtplphejillkdeaaGreatDoorMLxPlain
namespace Go.Proofs.YtplphejillkdeaaGreatDoor
open Go.RowKit Go.Instr
set_option linter.unusedVariables false

/-- The value v is a test of bytes: in every later world it answers p. -/
def IsTest (w : World) (v : Value) (p : UInt8 → Bool) : Prop :=
  ∃ g lb, v = .func (.func g) #[] lb ∧ (∀ args u, (callFunc g args).run Tryz.prog u = .ok (.enter g args) u) ∧
    ∀ (W : World) (c : UInt8), Below w.heap.size w W → Calls Tryz.prog g (#[.int .u8 c.toNat] ++ lb) W fun e W' => e = .returned (.bool (p c)) ∧ Below W.heap.size W W'
theorem IsTest.later {w W : World} {v : Value} {p : UInt8 → Bool} (h : IsTest w v p) (hb : Below w.heap.size w W) : IsTest W v p := by
  obtain ⟨g, lb, h1, h2, h3⟩ := h
  exact ⟨g, lb, h1, h2, fun W' c hb' => h3 W' c (hb.trans (hb'.mono hb.size))⟩
theorem IsTest.form {w : World} {v : Value} {p : UInt8 → Bool} (h : IsTest w v p) : ∃ g lb, v = .func (.func g) #[] lb := by
  obtain ⟨g, lb, h1, -⟩ := h
  exact ⟨g, lb, h1⟩
theorem IsTest.ext {w : World} {v : Value} {p q : UInt8 → Bool} (h : IsTest w v p) (e : ∀ c, p c = q c) : IsTest w v q := by
  have : p = q := funext e
  rw [← this]; exact h

theorem between1_any (lo hi c : UInt8) (b1 b2 : Nat) (w : World) (h1 : w.cell? ⟨b1, 0, none⟩ = some (.int .u8 lo.toNat)) (h2 : w.cell? ⟨b2, 0, none⟩ = some (.int .u8 hi.toNat)) :
    Calls Tryz.prog 61 #[.int .u8 c.toNat, .pointer (some ⟨b1, 0, none⟩), .pointer (some ⟨b2, 0, none⟩)] w fun e w' => e = .returned (.bool (decide (lo.toNat ≤ c.toNat) && decide (c.toNat ≤ hi.toNat))) ∧ Below w.heap.size w w' := by
  by_cases hl : lo.toNat ≤ c.toNat
  · have d1 : decide ((lo.toNat : Int) ≤ (c.toNat : Int)) = true := by simp; omega
    have e1 : decide (lo.toNat ≤ c.toNat) = true := by simpa using hl
    rw [e1]
    go_enter Tryz.func61, Tryz.ntmps61
    go_wp2
    go_returns
    exact ⟨by simp, Below.refl _ _⟩
  · have d1 : decide ((lo.toNat : Int) ≤ (c.toNat : Int)) = false := by simp; omega
    have e1 : decide (lo.toNat ≤ c.toNat) = false := by simpa using hl
    rw [e1]
    go_enter Tryz.func61, Tryz.ntmps61
    go_wp2
    go_returns
    exact ⟨by simp, Below.refl _ _⟩
theorem between_any (lo hi : UInt8) (w : World) :
    Calls Tryz.prog 39 #[.int .u8 lo.toNat, .int .u8 hi.toNat] w fun e w' => (∃ v, e = .returned v ∧ IsTest w' v fun c => decide (lo.toNat ≤ c.toNat) && decide (c.toNat ≤ hi.toNat)) ∧ Below w.heap.size w w' := by
  go_enter Tryz.func39, Tryz.ntmps39
  go_wp2
  go_returns
  refine ⟨⟨_, rfl, _, _, rfl, enters_of Tryz.func61 (by kernel_rfl) rfl, fun W c hb => ?_⟩, ?_⟩
  · refine between1_any lo hi c _ _ W ?_ ?_
    · refine (hb.cell (p := ⟨w.heap.size, 0, none⟩) (by simp; omega)).trans ?_
      simp [cell_alloc_if]
    · refine (hb.cell (p := ⟨w.heap.size + 1, 0, none⟩) (by simp)).trans ?_
      simp [cell_alloc_if]
  · (repeat' (first | (with_reducible exact Below.refl _ _) | (with_reducible assumption) | (with_reducible refine Below.alloc ?_ ?_ _) | (with_reducible refine below_drewN ?_ _) | (with_reducible refine Below.drew ?_) | (with_reducible refine Below.setCell ?_ ?_ _) | (with_reducible refine below_via (by assumption) ?_ ?_) | (with_reducible refine below_via (later_below _) ?_ ?_) | (with_reducible exact Nat.le_refl _) | omega | (simp; omega) | (simp; done)))

theorem one1_any (s : ByteArray) (c : UInt8) (b1 : Nat) (w : World) (h1 : w.cell? ⟨b1, 0, none⟩ = some (.string s)) :
    Calls Tryz.prog 62 #[.int .u8 c.toNat, .pointer (some ⟨b1, 0, none⟩)] w fun e w' => e = .returned (.bool (decide (0 ≤ Lib.indexByte s.data.toList c))) ∧ Below w.heap.size w w' := by
  have HI := Lib.hid (Tryz.strings_IndexByte s (c.toNat : Int))
  have ec : ((c.toNat : Int).toNat.toUInt8) = c := by simp
  go_enter Tryz.func62, Tryz.ntmps62
  go_wp2_with (first | (go_at_call 63; (with_reducible refine (HI.out _).mono ?_); rintro e w1 ⟨rfl, rfl⟩))
  go_returns
  exact ⟨by simp, Below.refl _ _⟩
theorem one_any (s : ByteArray) (w : World) :
    Calls Tryz.prog 40 #[.string s] w fun e w' => (∃ v, e = .returned v ∧ IsTest w' v fun c => decide (0 ≤ Lib.indexByte s.data.toList c)) ∧ Below w.heap.size w w' := by
  go_enter Tryz.func40, Tryz.ntmps40
  go_wp2
  go_returns
  refine ⟨⟨_, rfl, _, _, rfl, enters_of Tryz.func62 (by kernel_rfl) rfl, fun W c hb => ?_⟩, ?_⟩
  · refine one1_any s c _ W ?_
    refine (hb.cell (p := ⟨w.heap.size, 0, none⟩) (by simp)).trans ?_
    simp [cell_alloc_if]
  · (repeat' (first | (with_reducible exact Below.refl _ _) | (with_reducible assumption) | (with_reducible refine Below.alloc ?_ ?_ _) | (with_reducible refine below_drewN ?_ _) | (with_reducible refine Below.drew ?_) | (with_reducible refine Below.setCell ?_ ?_ _) | (with_reducible refine below_via (by assumption) ?_ ?_) | (with_reducible refine below_via (later_below _) ?_ ?_) | (with_reducible exact Nat.le_refl _) | omega | (simp; omega) | (simp; done)))

/-- What a test answers that stands in memory, asked for one byte. -/
theorem either11_any (v : Value) (p : UInt8 → Bool) (c : UInt8) (b1 : Nat) (w W : World) (hb : Below w.heap.size w W) (hv : IsTest w v p) (h1 : W.cell? ⟨b1, 0, none⟩ = some (.int .u8 c.toNat)) :
    Calls Tryz.prog 60 #[v, .pointer (some ⟨b1, 0, none⟩)] W fun e w' => e = .returned (.bool (p c)) ∧ Below W.heap.size W w' := by
  obtain ⟨g, lb, rfl, hg, hc⟩ := hv
  have HC := Lib.hid (hc W c hb)
  clear hc
  go_enter Tryz.func60, Tryz.ntmps60
  go_wp2_with (go_at_fn g; (with_reducible refine HC.out.mono ?_); rintro e w1 ⟨rfl, hb1⟩)
  go_returns
  exact ⟨rfl, hb1⟩
end Go.Proofs.YtplphejillkdeaaGreatDoor

/- The lexer's tests of bytes that are made of several; the ones that it uses. -/
namespace Go.Proofs.YtplphejillkdeaaGreatDoor
open Go.RowKit Go.Instr
set_option linter.unusedVariables false

/-- Tests in a block. -/
def TestsAt (w : World) (B : Nat) (ts : List (Value × (UInt8 → Bool))) : Prop := ∀ j, (h : j < ts.length) → w.cell? ⟨B, j, none⟩ = some (ts[j]).1 ∧ IsTest w (ts[j]).1 (ts[j]).2
theorem TestsAt.later {w W : World} {B : Nat} {ts : List (Value × (UInt8 → Bool))} (h : TestsAt w B ts) (hb : Below w.heap.size w W) : TestsAt W B ts := fun j hj =>
  ⟨(hb.cell (p := ⟨B, j, none⟩) (cell_lt (h j hj).1)).trans (h j hj).1, (h j hj).2.later hb⟩
/-- The index of the first test that a byte satisfies; -1 if there is none. -/
def idxT (c : UInt8) : List (Value × (UInt8 → Bool)) → Int → Int
  | [], _ => -1
  | t :: l, k => if t.2 c = true then k else idxT c l (k + 1)
theorem idxT_any (c : UInt8) : ∀ (l : List (Value × (UInt8 → Bool))) (k : Int), 0 ≤ k → decide (0 ≤ idxT c l k) = l.any fun t => t.2 c
  | [], k, _ => rfl
  | t :: l, k, h => by
    rw [idxT, List.any_cons]
    cases hc : t.2 c
    · rw [if_neg (by simp), idxT_any c l _ (by omega)]; rfl
    · rw [if_pos rfl]; simpa using h

set_option maxHeartbeats 1000000 in
theorem indexT_any (c : UInt8) (B b1 cap : Nat) (ts : List (Value × (UInt8 → Bool))) (w : World) (hn : ts.length ≤ 100) (hT : TestsAt w B ts) (h1 : w.cell? ⟨b1, 0, none⟩ = some (.int .u8 c.toNat)) :
    Calls Tryz.prog 81 #[.slice (some ⟨B, 0, none⟩) ts.length cap, .func (.func 60) #[] #[.pointer (some ⟨b1, 0, none⟩)]] w fun e w' => e = .returned (.int .i64 (idxT c ts 0)) ∧ Below w.heap.size w w' := by
  have HT := Lib.hid hT
  have HC := Lib.hid h1
  have HL := cell_lt h1
  clear hT h1
  have hg : ∀ args u, (callFunc 60 args).run Tryz.prog u = .ok (.enter 60 args) u := enters_of Tryz.func60 (by kernel_rfl) rfl
  go_enter Tryz.func81, Tryz.ntmps81
  go_wp2_with fail
  go_loopw [5, 8] (fun _ i wr => ∃ k : Nat, k ≤ ts.length ∧ i = .int .i64 k ∧ Hid (idxT c (ts.drop k) k = idxT c ts 0) ∧ Hid (Below w.heap.size w wr)) (fun _ i _ => ts.length - (intOf i).toNat)
  case atStart => exact ⟨0, Nat.zero_le _, rfl, rfl, Below.refl _ _⟩
  case round =>
    obtain ⟨k, hk, rfl, HI, HB⟩ := hrel
    by_cases hlt : k < ts.length
    · obtain ⟨hcell, htest⟩ := (HT.out.later HB.out) k hlt
      have hc1 := (HB.out.cell (p := ⟨b1, 0, none⟩) HL).trans HC.out
      obtain ⟨t, ht⟩ : ∃ t, ts[k] = t := ⟨_, rfl⟩
      rw [ht] at hcell htest
      have HD : Hid (ts.drop k = t :: ts.drop (k + 1)) := by show _ = _; rw [List.drop_eq_getElem_cons hlt, ht]
      clear ht
      have HV := Lib.hid (fun W hb hc => either11_any t.1 t.2 c b1 wr W hb htest hc)
      clear htest
      cases hp : t.2 c
      · rw [hp] at HV
        have HP := Lib.hid hp
        clear hp
        go_wp2_with (go_at_fn 60; (with_reducible refine (HV.out _ (Below.refl _ _) hc1).mono ?_); rintro e w1 ⟨rfl, hb1⟩)
        refine ⟨⟨k + 1, by omega, by go_num, ?_, ?_⟩, by simp [intOf]; omega⟩
        · show _ = _
          rw [← HI.out, HD.out, idxT, if_neg (by rw [HP.out]; simp)]
          rfl
        · show Below _ _ _
          exact HB.out.trans (hb1.mono HB.out.size)
      · rw [hp] at HV
        have HP := Lib.hid hp
        clear hp
        go_wp2_with (go_at_fn 60; (with_reducible refine (HV.out _ (Below.refl _ _) hc1).mono ?_); rintro e w1 ⟨rfl, hb1⟩)
        go_returns
        refine ⟨ret_int ?_, HB.out.trans (hb1.mono HB.out.size)⟩
        rw [← HI.out, HD.out, idxT, if_pos HP.out]
    · obtain rfl : k = ts.length := by omega
      go_wp2_with fail
      go_returns
      refine ⟨ret_int ?_, HB.out⟩
      rw [← HI.out, List.drop_length, idxT]
theorem containsT_any (c : UInt8) (B b1 cap : Nat) (ts : List (Value × (UInt8 → Bool))) (w : World) (hn : ts.length ≤ 100) (hT : TestsAt w B ts) (h1 : w.cell? ⟨b1, 0, none⟩ = some (.int .u8 c.toNat)) :
    Calls Tryz.prog 59 #[.slice (some ⟨B, 0, none⟩) ts.length cap, .func (.func 60) #[] #[.pointer (some ⟨b1, 0, none⟩)]] w fun e w' => e = .returned (.bool (ts.any fun t => t.2 c)) ∧ Below w.heap.size w w' := by
  have HI := Lib.hid (indexT_any c B b1 cap ts w hn hT h1)
  have ha := Lib.hid (idxT_any c ts 0 (by omega))
  clear hT h1
  go_enter Tryz.func59, Tryz.ntmps59
  go_wp2_with (first | (go_at_call 81; (with_reducible refine HI.out.mono ?_); rintro e w1 ⟨rfl, hb⟩))
  go_returns
  exact ⟨ret_bool ha.out, hb⟩
theorem either1_any (c : UInt8) (b1 B cap : Nat) (ts : List (Value × (UInt8 → Bool))) (w : World) (hn : ts.length ≤ 100) (hT : TestsAt w B ts) (h1 : w.cell? ⟨b1, 0, none⟩ = some (.slice (some ⟨B, 0, none⟩) ts.length cap)) :
    Calls Tryz.prog 58 #[.int .u8 c.toNat, .pointer (some ⟨b1, 0, none⟩)] w fun e w' => e = .returned (.bool (ts.any fun t => t.2 c)) ∧ Below w.heap.size w w' := by
  have hl := cell_lt h1
  have HC := Lib.hid (fun W hb h1 => containsT_any c B w.heap.size cap ts W hn (hT.later hb) h1)
  clear hT
  go_enter Tryz.func58, Tryz.ntmps58
  go_wp2_with (first | (go_at_call 59; (with_reducible refine (HC.out _ ?_ ?_).mono ?_); (focus ((repeat' (first | (with_reducible exact Below.refl _ _) | (with_reducible assumption) | (with_reducible refine Below.alloc ?_ ?_ _) | (with_reducible refine below_drewN ?_ _) | (with_reducible refine Below.drew ?_) | (with_reducible refine Below.setCell ?_ ?_ _) | (with_reducible refine below_via (by assumption) ?_ ?_) | (with_reducible refine below_via (later_below _) ?_ ?_) | (with_reducible exact Nat.le_refl _) | omega | (simp; omega) | (simp; done))))); (focus (simp)); rintro e w1 ⟨rfl, hb⟩))
  go_returns
  refine ⟨rfl, ?_⟩
  (repeat' (first | (with_reducible exact Below.refl _ _) | (with_reducible assumption) | (with_reducible refine Below.alloc ?_ ?_ _) | (with_reducible refine below_drewN ?_ _) | (with_reducible refine Below.drew ?_) | (with_reducible refine Below.setCell ?_ ?_ _) | (with_reducible refine below_via (by assumption) ?_ ?_) | (with_reducible refine below_via (later_below _) ?_ ?_) | (with_reducible exact Nat.le_refl _) | omega | (simp; omega) | (simp; done)))
theorem either_any (B cap : Nat) (ts : List (Value × (UInt8 → Bool))) (w : World) (hn : ts.length ≤ 100) (hT : TestsAt w B ts) :
    Calls Tryz.prog 38 #[.slice (some ⟨B, 0, none⟩) ts.length cap] w fun e w' => (∃ v, e = .returned v ∧ IsTest w' v fun c => ts.any fun t => t.2 c) ∧ Below w.heap.size w w' := by
  have HT := Lib.hid hT
  clear hT
  go_enter Tryz.func38, Tryz.ntmps38
  go_wp2
  go_returns
  refine ⟨⟨_, rfl, _, _, rfl, enters_of Tryz.func58 (by kernel_rfl) rfl, fun W c hb => ?_⟩, ?_⟩
  · refine either1_any c _ B cap ts W hn ?_ ?_
    · exact HT.out.later (((Below.refl _ _).alloc (Nat.le_refl _) _).trans (hb.mono (by simp)))
    · refine (hb.cell (p := ⟨w.heap.size, 0, none⟩) (by simp)).trans ?_
      simp [cell_alloc_if]
  · (repeat' (first | (with_reducible exact Below.refl _ _) | (with_reducible assumption) | (with_reducible refine Below.alloc ?_ ?_ _) | (with_reducible refine below_drewN ?_ _) | (with_reducible refine Below.drew ?_) | (with_reducible refine Below.setCell ?_ ?_ _) | (with_reducible refine below_via (by assumption) ?_ ?_) | (with_reducible refine below_via (later_below _) ?_ ?_) | (with_reducible exact Nat.le_refl _) | omega | (simp; omega) | (simp; done)))

theorem digits_any (w : World) : Calls Tryz.prog 41 #[] w fun e w' => (∃ v, e = .returned v ∧ IsTest w' v digB) ∧ Below w.heap.size w w' := by
  have HB := Lib.hid (between_any 48 57)
  go_enter Tryz.func41, Tryz.ntmps41
  go_wp2_with (first | (go_at_call 39; refine (HB.out _).mono ?_; rintro e w1 ⟨⟨v, rfl, hv⟩, hb⟩))
  go_returns
  exact ⟨⟨v, rfl, hv⟩, hb⟩
end Go.Proofs.YtplphejillkdeaaGreatDoor
