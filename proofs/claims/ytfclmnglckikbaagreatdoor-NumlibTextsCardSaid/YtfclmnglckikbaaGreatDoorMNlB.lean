/- Numlib's number: what each call returns. -/
import Derived.Test.YtfclmnglckikbaaGreatDoorMNlW4
import Derived.Test.YtfclmnglckikbaaGreatDoorMValW6
import Derived.Deep.DeepCutAuto
import Derived.Deep.RegionHeld3
import Derived.Deep.DrawnRows
namespace Go.Proofs.YtfclmnglckikbaaGreatDoor
open Go.RowKit Go.Instr
set_option linter.unusedVariables false

/-- What an argument reads as: a missing one is nil. -/
def ArgIs (W : World) (a : Option Addr) (n : Nat) (i : Int) (k p q : Int) (s : ByteArray) (r : Int) : Prop :=
  ((i < 0 ∨ (0 ≤ i ∧ (n : Int) ≤ i)) ∧ k = 0 ∧ p = 0 ∧ q = 0 ∧ s = ⟨#[]⟩ ∧ r = 0) ∨ ∃ b o j : Nat, a = some ⟨b, o, none⟩ ∧ i = j ∧ j < n ∧ CellsAt W b (o + j * 5) k p q s r
theorem arg_is {W : World} {a : Option Addr} {n : Nat} {i k p q : Int} {s : ByteArray} {r : Int} (h : ArgIs W a n i k p q s r) (cap : Nat) (hn : n ≤ 9223372036854775807) (w : World) (hb : Below W.heap.size W w) :
    Calls Tryz.prog 65 #[.slice a n cap, .int .i64 i] w fun e w' => e = .returned (vV k p q s r) ∧ Below w.heap.size w w' := by
  rcases h with ⟨h, rfl, rfl, rfl, rfl, rfl⟩ | ⟨b, o, j, rfl, rfl, hj, hc⟩
  · exact arg_out a n cap i w hn h
  · exact arg_in b o n cap j k p q s r w hn hj (hc.below hb)
abbrev ArgSays (W : World) (a : Option Addr) (n cap : Nat) (i k p q : Int) (s : ByteArray) (r : Int) : Prop := ∀ w, Below W.heap.size W w → Calls Tryz.prog 65 #[.slice a n cap, .int .i64 i] w fun e w' => e = .returned (vV k p q s r) ∧ Below w.heap.size w w'
theorem frozen_out (w : World) (n i : Nat) (h : w.heap.size ≤ n) : w.frozen? ⟨n, i, none⟩ = false := by
  have e : w.heap[n]? = none := by rw [Array.getElem?_eq_none]; exact h
  simp [World.frozen?, e]
/-- The action that is none. -/
abbrev act0 : Value := .agg #[.int .i64 0, .int .i64 0, .int .i64 0, .int .i64 0, .int .i64 0, .string ⟨#[]⟩, .int .i64 0, .slice none 0 0, .string ⟨#[]⟩, .int .i64 0, .int .i64 0, .slice none 0 0]

set_option maxHeartbeats 1600000 in
set_option maxRecDepth 100000 in
theorem number_ok (word : ByteArray) (a : Option Addr) (n cap : Nat) (i : Int) (k p q : Int) (s : ByteArray) (r P Q : Int) (w : World) (h0 : -9223372036854775807 ≤ i) (h1 : i ≤ 9223372036854775807) (ha : ArgSays w a n cap (i - 1) k p q s r) (hv : VNumSays k p q s r P Q 0) :
    Calls Tryz.prog 59 #[.agg #[.string word, .slice a n cap], .int .i64 i] w fun e w' => e = .returned (.tuple #[.agg #[.int .i64 P, .int .i64 Q], act0, .bool true]) ∧ Below w.heap.size w w' := by
  have HA := Lib.hid ha
  have HV := Lib.hid hv
  clear ha hv
  have fr0 := fun i => frozen_out w (w.heap.size) i (by omega)
  have fr1 := fun i => frozen_out w (w.heap.size + 1) i (by omega)
  have fr2 := fun i => frozen_out w (w.heap.size + 1 + 1) i (by omega)
  have fr3 := fun i => frozen_out w (w.heap.size + 1 + 1 + 1) i (by omega)
  go_enter Tryz.func59, Tryz.ntmps59
  go_wp2_with (first | (go_at_call 65; refine (HA.out _ ?_).mono ?_; (focus ((repeat' (first | (with_reducible exact Below.refl _ _) | (with_reducible assumption) | (with_reducible refine Below.alloc ?_ ?_ _) | (with_reducible refine below_drewN ?_ _) | (with_reducible refine Below.drew ?_) | (with_reducible refine Below.setCell ?_ ?_ _) | (with_reducible refine below_via (by assumption) ?_ ?_) | (with_reducible refine below_via (later_below _) ?_ ?_) | (with_reducible exact Nat.le_refl _) | omega | (simp; omega) | (simp; done))))); rintro e w8 ⟨rfl, hb⟩; (refine mem hb ?_; intro N hN hz hc hf; (try simp at hN); subst hN)) | (go_at_call 86; refine (HV.out _).mono ?_; rintro e w9 ⟨rfl, hb⟩; (refine mem hb ?_; intro N hN hz hc hf; (try simp at hN); subst hN)))
  ((try simp only [Exit.inBlock, Exit.then]); refine bodyPost_ret (by first | (simp [results, Tryz.results59, go_sem, *]; done) | (simp [results, Tryz.results59, go_sem, *]; rfl) | (simp [results, Tryz.results59, go_sem, ↓IntWalk.iteOmega, *]; try rfl)) rfl ?_)
  refine ⟨rfl, ?_⟩
  (repeat' (first | (with_reducible exact Below.refl _ _) | (with_reducible assumption) | (with_reducible refine Below.alloc ?_ ?_ _) | (with_reducible refine below_drewN ?_ _) | (with_reducible refine Below.drew ?_) | (with_reducible refine Below.setCell ?_ ?_ _) | (with_reducible refine below_via (by assumption) ?_ ?_) | (with_reducible refine below_via (later_below _) ?_ ?_) | (with_reducible exact Nat.le_refl _) | omega | (simp; omega) | (simp; done)))

end Go.Proofs.YtfclmnglckikbaaGreatDoor

/- Numlib's number where it fails: what each call returns. -/
namespace Go.Proofs.YtfclmnglckikbaaGreatDoor
open Go.RowKit Go.Instr
set_option linter.unusedVariables false

/-- The message about an argument that is no number. -/
def gotS (k : Int) : ByteArray := ⟨#[110, 117, 109, 98, 101, 114, 32, 101, 120, 112, 101, 99, 116, 101, 100, 44, 32, 103, 111, 116, 32]⟩ ++ typeN k
theorem typeN_size (k : Int) : (typeN k).size ≤ 8 := by
  rcases kinds k with rfl | rfl | rfl | rfl | rfl | rfl | rfl | rfl | rfl | h
  case inr.inr.inr.inr.inr.inr.inr.inr.inr =>
    unfold typeN
    rw [if_neg (by omega), if_neg (by omega), if_neg (by omega), if_neg (by omega), if_neg (by omega), if_neg (by omega), if_neg (by omega), if_neg (by omega), if_neg (by omega)]
    decide
  all_goals decide
theorem gotS_size (k : Int) : (gotS k).size ≤ 40 := by
  have := typeN_size k
  unfold gotS
  rw [ByteArray.size_append]
  have h1 : (⟨#[110, 117, 109, 98, 101, 114, 32, 101, 120, 112, 101, 99, 116, 101, 100, 44, 32, 103, 111, 116, 32]⟩ : ByteArray).size = 21 := rfl
  omega
theorem up_6 {a b c d e g : Nat} (h1 : a + 1 + 1 + 1 ≤ b) (h2 : b + 1 ≤ c) (h3 : d = c + 1) (h4 : d ≤ e) (h5 : e ≤ g) : a + 5 ≤ g := by omega
theorem up4 {a b : Nat} (h : a + 5 ≤ b) : a ≤ b ∧ a + 1 ≠ b ∧ a + 1 + 1 ≠ b := by omega
theorem Cells5.set2 {w : World} {g n m : Nat} {k p q : Int} {s : ByteArray} {r : Int} {a : Addr} {v : Value} (h1 : n ≠ g) (h2 : m ≠ g) (hne : a.block = n ∨ a.block = m) (h : Cells5 w g k p q s r) : Cells5 (w.setCell a v) g k p q s r :=
  Cells5.set (by rcases hne with h | h <;> rw [h] <;> assumption) h


/-- Nine cells in three blocks. -/
abbrev S9 (b1 b2 b3 : Nat) (x0 x1 y0 y1 y2 y3 y4 z0 z1 : Value) (w' : World) : Prop :=
  w'.cell? ⟨b1, 0, none⟩ = some x0 ∧ w'.cell? ⟨b1, 1, none⟩ = some x1 ∧ w'.cell? ⟨b2, 0, none⟩ = some y0 ∧ w'.cell? ⟨b2, 1, none⟩ = some y1 ∧ w'.cell? ⟨b2, 2, none⟩ = some y2 ∧ w'.cell? ⟨b2, 3, none⟩ = some y3 ∧ w'.cell? ⟨b2, 4, none⟩ = some y4 ∧ w'.cell? ⟨b3, 0, none⟩ = some z0 ∧ w'.cell? ⟨b3, 1, none⟩ = some z1
theorem s9_below {W w' : World} {b1 b2 b3 : Nat} {x0 x1 y0 y1 y2 y3 y4 z0 z1 : Value} (hb : Below W.heap.size W w') (h : S9 b1 b2 b3 x0 x1 y0 y1 y2 y3 y4 z0 z1 W) : S9 b1 b2 b3 x0 x1 y0 y1 y2 y3 y4 z0 z1 w' := by
  obtain ⟨h0, h1, h2, h3, h4, h5, h6, h7, h8⟩ := h
  exact ⟨(hb.cell (cell_lt h0)).trans h0, (hb.cell (cell_lt h1)).trans h1, (hb.cell (cell_lt h2)).trans h2, (hb.cell (cell_lt h3)).trans h3, (hb.cell (cell_lt h4)).trans h4, (hb.cell (cell_lt h5)).trans h5, (hb.cell (cell_lt h6)).trans h6, (hb.cell (cell_lt h7)).trans h7, (hb.cell (cell_lt h8)).trans h8⟩
theorem s9_drew {w : World} {b1 b2 b3 : Nat} {x0 x1 y0 y1 y2 y3 y4 z0 z1 : Value} (h : S9 b1 b2 b3 x0 x1 y0 y1 y2 y3 y4 z0 z1 w) : S9 b1 b2 b3 x0 x1 y0 y1 y2 y3 y4 z0 z1 w.drew := h
theorem s9_set {w : World} {b1 b2 b3 b i : Nat} {v x0 x1 y0 y1 y2 y3 y4 z0 z1 : Value} (n1 : b ≠ b1) (n2 : b ≠ b2) (n3 : b ≠ b3) (h : S9 b1 b2 b3 x0 x1 y0 y1 y2 y3 y4 z0 z1 w) : S9 b1 b2 b3 x0 x1 y0 y1 y2 y3 y4 z0 z1 (w.setCell ⟨b, i, none⟩ v) := by
  obtain ⟨h0, h1, h2, h3, h4, h5, h6, h7, h8⟩ := h
  refine ⟨?_, ?_, ?_, ?_, ?_, ?_, ?_, ?_, ?_⟩ <;> rw [cell_set_if, if_neg (fun e => by first | exact n1 e.1 | exact n2 e.1 | exact n3 e.1)] <;> assumption

set_option maxHeartbeats 16000000 in
set_option maxRecDepth 100000 in
theorem number_bad (word : ByteArray) (a : Option Addr) (n cap : Nat) (i : Int) (k p q : Int) (s : ByteArray) (r E : Int) (w : World) (h0 : -9223372036854775807 ≤ i) (h1 : i ≤ 9223372036854775807) (hw : word.size ≤ 100) (ha : ArgSays w a n cap (i - 1) k p q s r) (hE : ¬ E = 0) (hv : VNumSays k p q s r 0 0 E) (hT : Tabs w) :
    Calls Tryz.prog 59 #[.agg #[.string word, .slice a n cap], .int .i64 i] w fun e w' => (∃ g cp : Nat, e = .returned (.tuple #[.agg #[.int .i64 0, .int .i64 0], actV 2 g cp 1, .bool false]) ∧ w.heap.size ≤ g ∧ Cells5 w' g 3 0 0 (badS word i (gotS k)) 0) ∧ Below w.heap.size w w' := by
  have HA := Lib.hid ha
  have HV := Lib.hid hv
  have HT := Lib.hid hT
  have hE2 : (E != 0) = true := by simpa using hE
  have hg := gotS_size k
  have HY : Hid (∀ w', Calls Tryz.prog 87 #[vV k p q s r] w' fun e w'' => e = .returned (.string (typeN k)) ∧ Below w'.heap.size w' w'') := fun w' => type_any k p q s r w'
  have HB : Hid (∀ w', Below w.heap.size w w' → Calls Tryz.prog 62 #[.agg #[.string word, .slice a n cap], .int .i64 i, .string (gotS k)] w' fun e w'' => ActIs w'.heap.size 2 1 3 0 0 (badS word i (gotS k)) 0 e w'' ∧ Below w'.heap.size w' w'') := fun w' hb => bad_one word a n cap i (gotS k) w' hw (by omega) (by omega) (by omega) (HT.out.later hb)
  have hts := typeN_size k
  generalize badS word i (gotS k) = M at HB ⊢
  unfold gotS at HB
  clear ha hv hT hE hg
  generalize typeN k = T at *
  have fr0 := fun i => frozen_out w (w.heap.size) i (by omega)
  have fr1 := fun i => frozen_out w (w.heap.size + 1) i (by omega)
  have fr2 := fun i => frozen_out w (w.heap.size + 1 + 1) i (by omega)
  have fr3 := fun i => frozen_out w (w.heap.size + 1 + 1 + 1) i (by omega)
  go_enter Tryz.func59, Tryz.ntmps59
  go_upto_region 3 with (first | (go_at_call 65; refine (HA.out _ ?_).mono ?_; (focus ((repeat' (first | (with_reducible exact Below.refl _ _) | (with_reducible assumption) | (with_reducible refine Below.alloc ?_ ?_ _) | (with_reducible refine below_drewN ?_ _) | (with_reducible refine Below.drew ?_) | (with_reducible refine Below.setCell ?_ ?_ _) | (with_reducible refine below_via (by assumption) ?_ ?_) | (with_reducible refine below_via (later_below _) ?_ ?_) | (with_reducible exact Nat.le_refl _) | omega | (simp; omega) | (simp; done))))); rintro e w8 ⟨rfl, hb⟩; (refine mem hb ?_; intro N hN hz hc hf; (try simp at hN); subst hN); (have hc8 := hc)) | (go_at_call 86; refine (HV.out _).mono ?_; rintro e w9 ⟨rfl, hb⟩; (refine mem hb ?_; intro N hN hz hc hf; (try simp at hN); subst hN)))
  go_cut [21] (fun s21 wx => s21 = .bool true ∧ wx.heap.size = w9.heap.size + 1 ∧ (∀ i, wx.cell? ⟨w.heap.size, i, none⟩ = (#[Value.string word, .slice a n cap] : Array Value)[i]?) ∧ (∀ i, wx.cell? ⟨w8.heap.size, i, none⟩ = (#[Value.int .i64 k, .int .i64 p, .int .i64 q, .string s, .int .i64 r] : Array Value)[i]?) ∧ (∀ i, wx.cell? ⟨w9.heap.size, i, none⟩ = (#[Value.int .i64 0, .int .i64 0] : Array Value)[i]?) ∧
    (∀ i, wx.cell? ⟨w.heap.size + 1, i, none⟩ = (#[Value.int .i64 0, .int .i64 0] : Array Value)[i]?) ∧ (∀ i, wx.cell? ⟨w.heap.size + 1 + 1, i, none⟩ = (#[Value.int .i64 0, .int .i64 0, .int .i64 0, .int .i64 0, .int .i64 0, .string ⟨#[]⟩, .int .i64 0, .slice none 0 0, .string ⟨#[]⟩, .int .i64 0, .int .i64 0, .slice none 0 0] : Array Value)[i]?) ∧
    (∀ i, wx.frozen? ⟨w.heap.size + 1, i, none⟩ = false) ∧ (∀ i, wx.frozen? ⟨w.heap.size + 1 + 1, i, none⟩ = false) ∧ Below w.heap.size w wx)
  case first =>
    go_wp2_with fail
    go_meet
    have q8 : w.heap.size + 1 + 1 + 1 ≤ w8.heap.size := by assumption
    have q9 : w8.heap.size + 1 ≤ w9.heap.size := by assumption
    refine ⟨rfl, by simp, ?_, ?_, ?_, ?_, ?_, ?_, ?_, ?_⟩
    case refine_8 => (repeat' (first | (with_reducible exact Below.refl _ _) | (with_reducible assumption) | (with_reducible refine Below.alloc ?_ ?_ _) | (with_reducible refine below_drewN ?_ _) | (with_reducible refine Below.drew ?_) | (with_reducible refine Below.setCell ?_ ?_ _) | (with_reducible refine below_via (by assumption) ?_ ?_) | (with_reducible refine below_via (later_below _) ?_ ?_) | (with_reducible exact Nat.le_refl _) | omega | (simp; omega) | (simp; done)))
    case refine_4 =>
      intro i
      rw [cell_alloc_if, if_neg (by omega), hc, if_pos (by omega), cell_alloc_if, if_neg (by omega), hc8, if_pos (by omega), cell_alloc_if, if_neg (by simp), cell_alloc_if, if_pos (by simp)]
    case refine_5 =>
      intro i
      rw [cell_alloc_if, if_neg (by omega), hc, if_pos (by omega), cell_alloc_if, if_neg (by omega), hc8, if_pos (by omega), cell_alloc_if, if_pos (by simp)]
    all_goals intro i
    all_goals (simp only [↓IntWalk.iteOmega, cell_alloc_if, frozen_alloc, World.size_alloc, *]; done)
  case rest =>
    obtain ⟨rfl, hsz, f1, f2, f3, f4, f5, f6, f7, hbw⟩ := hcut
    have q8 : w.heap.size + 1 + 1 + 1 ≤ w8.heap.size := by assumption
    have q9 : w8.heap.size + 1 ≤ w9.heap.size := by assumption
    clear hc hc8 hf hb
    go_wp2_with fail
    have n11 : w.heap.size + 1 ≠ w.heap.size := by omega
    have n12 : w.heap.size + 1 ≠ w8.heap.size := by omega
    have n13 : w.heap.size + 1 ≠ w9.heap.size := by omega
    have n21 : w.heap.size + 1 + 1 ≠ w.heap.size := by omega
    have n22 : w.heap.size + 1 + 1 ≠ w8.heap.size := by omega
    have n23 : w.heap.size + 1 + 1 ≠ w9.heap.size := by omega
    have hcat : ¬ 9223372036854775807 < 21 + T.size := by omega
    have hnf1 : ¬ w9.heap.size ≤ w.heap.size := by omega
    have hnf2 : ¬ w9.heap.size ≤ w.heap.size + 1 := by omega
    have hS0 : S9 w.heap.size w8.heap.size w9.heap.size (.string word) (.slice a n cap) (.int .i64 k) (.int .i64 p) (.int .i64 q) (.string s) (.int .i64 r) (.int .i64 0) (.int .i64 0) wc := ⟨f1 0, f1 1, f2 0, f2 1, f2 2, f2 3, f2 4, f3 0, f3 1⟩
    go_region_held3 (fun w' => w'.cell? ⟨w.heap.size, 0, none⟩ = some (.string word) ∧ w'.cell? ⟨w.heap.size, 1, none⟩ = some (.slice a n cap) ∧ w'.cell? ⟨w8.heap.size, 0, none⟩ = some (.int .i64 k) ∧ w'.cell? ⟨w8.heap.size, 1, none⟩ = some (.int .i64 p) ∧ w'.cell? ⟨w8.heap.size, 2, none⟩ = some (.int .i64 q) ∧ w'.cell? ⟨w8.heap.size, 3, none⟩ = some (.string s) ∧ w'.cell? ⟨w8.heap.size, 4, none⟩ = some (.int .i64 r) ∧ w'.cell? ⟨w9.heap.size, 0, none⟩ = some (.int .i64 0) ∧ w'.cell? ⟨w9.heap.size, 1, none⟩ = some (.int .i64 0)) ((first | (with_reducible assumption) | (with_reducible exact s9_drew hS0) | (with_reducible exact s9_below (by with_reducible assumption) (by with_reducible assumption)) | (repeat (first | (with_reducible assumption) | (with_reducible refine s9_set (by with_reducible assumption) (by with_reducible assumption) (by with_reducible assumption) ?_))))) (first | (go_at_call 87; refine (HY.out _).mono ?_; rintro e w10 ⟨rfl, hb⟩; (refine mem hb ?_; intro N hN hz hc hf; (try simp at hN); subst hN)) | (go_at_call 62; refine (HB.out _ ?_).mono ?_; (focus ((repeat' (first | (with_reducible exact Below.refl _ _) | (with_reducible assumption) | (with_reducible refine Below.alloc ?_ ?_ _) | (with_reducible refine below_drewN ?_ _) | (with_reducible refine Below.drew ?_) | (with_reducible refine Below.setCell ?_ ?_ _) | (with_reducible refine below_via (by assumption) ?_ ?_) | (with_reducible refine below_via (later_below _) ?_ ?_) | (with_reducible exact Nat.le_refl _) | omega | (simp; omega) | (simp; done))))); rintro e w11 ⟨⟨g, cp, rfl, hg, hcl⟩, hb⟩; (refine mem hb ?_; intro N hN hz hc hf; (try simp at hN); subst hN)))
    all_goals
      go_wp2_with fail
      ((try simp only [Exit.inBlock, Exit.then]); refine bodyPost_ret (by first | (simp [results, Tryz.results59, go_sem, *]; done) | (simp [results, Tryz.results59, go_sem, *]; rfl) | (simp [results, Tryz.results59, go_sem, ↓IntWalk.iteOmega, *]; try rfl)) rfl ?_)
      have hg3 : w.heap.size + 5 ≤ g := by
        have h10 : w9.heap.size + 1 ≤ w10.heap.size := by omega
        have h11 : w10.heap.size ≤ g := by simpa using hg
        exact up_6 q8 q9 rfl h10 h11
      obtain ⟨g1, g2, g3⟩ := up4 hg3
      refine ⟨⟨g, cp, rfl, g1, ?_⟩, ?_⟩
      · repeat (with_reducible refine Cells5.set (by first | exact g2 | exact g3) ?_)
        exact hcl
      · (repeat' (first | (with_reducible exact Below.refl _ _) | (with_reducible assumption) | (with_reducible refine Below.alloc ?_ ?_ _) | (with_reducible refine below_drewN ?_ _) | (with_reducible refine Below.drew ?_) | (with_reducible refine Below.setCell ?_ ?_ _) | (with_reducible refine below_via (by assumption) ?_ ?_) | (with_reducible refine below_via (later_below _) ?_ ?_) | (with_reducible exact Nat.le_refl _) | omega | (simp; omega) | (simp; done)))
end Go.Proofs.YtfclmnglckikbaaGreatDoor
