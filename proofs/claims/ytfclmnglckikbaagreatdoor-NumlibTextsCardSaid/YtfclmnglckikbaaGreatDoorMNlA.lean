/- Package protocol's Return, Fail and Error of one value: what each call returns. -/
import Derived.Test.YtfclmnglckikbaaGreatDoorMValW1
import Derived.Test.YtfclmnglckikbaaGreatDoorMOwn
import Derived.Test.YtfclmnglckikbaaGreatDoorMValW3
import Derived.Test.YtfclmnglckikbaaGreatDoorMNumW13
namespace Go.Proofs.YtfclmnglckikbaaGreatDoor
open Go.RowKit Go.Instr
set_option linter.unusedVariables false

/-- A value in memory: five cells at a block's head. -/
def Cells5 (w : World) (g : Nat) (k p q : Int) (s : ByteArray) (r : Int) : Prop :=
  w.cell? ⟨g, 0, none⟩ = some (.int .i64 k) ∧ w.cell? ⟨g, 1, none⟩ = some (.int .i64 p) ∧ w.cell? ⟨g, 2, none⟩ = some (.int .i64 q) ∧ w.cell? ⟨g, 3, none⟩ = some (.string s) ∧ w.cell? ⟨g, 4, none⟩ = some (.int .i64 r)
theorem Cells5.below {W w : World} {g : Nat} {k p q : Int} {s : ByteArray} {r : Int} (hb : Below W.heap.size W w) (h : Cells5 W g k p q s r) : Cells5 w g k p q s r :=
  ⟨(hb.cell (p := ⟨g, 0, none⟩) (cell_lt h.1)).trans h.1, (hb.cell (p := ⟨g, 1, none⟩) (cell_lt h.2.1)).trans h.2.1, (hb.cell (p := ⟨g, 2, none⟩) (cell_lt h.2.2.1)).trans h.2.2.1, (hb.cell (p := ⟨g, 3, none⟩) (cell_lt h.2.2.2.1)).trans h.2.2.2.1, (hb.cell (p := ⟨g, 4, none⟩) (cell_lt h.2.2.2.2)).trans h.2.2.2.2⟩
theorem Cells5.lt {W : World} {g : Nat} {k p q : Int} {s : ByteArray} {r : Int} (h : Cells5 W g k p q s r) : g < W.heap.size := cell_lt h.1
/-- The action of one value. -/
abbrev actV (kind g cap level : Nat) : Value := .agg #[.int .i64 kind, .int .i64 0, .int .i64 0, .int .i64 0, .int .i64 0, .string ⟨#[]⟩, .int .i64 0, .slice (some ⟨g, 0, none⟩) 1 cap, .string ⟨#[]⟩, .int .i64 level, .int .i64 0, .slice none 0 0]
theorem value_info : (Tryz.prog.info? 32).map (fun i => (i.zero, i.size, i.bytes)) = some (some (vV 0 0 0 ⟨#[]⟩ 0), 5, 48) := by kernel_rfl

set_option maxHeartbeats 1000000 in
set_option maxRecDepth 100000 in
theorem list_one (b c : Nat) (k p q : Int) (s : ByteArray) (r : Int) (w : World) (h : Cells5 w b k p q s r) :
    Calls Tryz.prog 90 #[.slice (some ⟨b, 0, none⟩) 1 c] w fun e w' => ∃ g cap : Nat, e = .returned (.slice (some ⟨g, 0, none⟩) 1 cap) ∧ w.heap.size ≤ g ∧ Cells5 w' g k p q s r ∧ Below w.heap.size w w' := by
  obtain ⟨i0, hi, hz0, hz1, hz2⟩ := info_parts value_info
  have hnews : ∀ (j : Nat) u, [Value.int .i64 k, .int .i64 p, .int .i64 q, .string s, .int .i64 r][j]? = some u → w.cell? ((⟨b, 0, none⟩ : Addr).add j) = some u := by
    intro j u hj
    rw [show (⟨b, 0, none⟩ : Addr).add j = ⟨b, j, none⟩ by unfold Addr.add; split <;> simp_all]
    rcases j with _ | _ | _ | _ | _ | j
    · simp at hj; subst hj; exact h.1
    · simp at hj; subst hj; exact h.2.1
    · simp at hj; subst hj; exact h.2.2.1
    · simp at hj; subst hj; exact h.2.2.2.1
    · simp at hj; subst hj; exact h.2.2.2.2
    · simp at hj
  have HN := Lib.hid hnews
  clear hnews h
  go_enter Tryz.func90, Tryz.ntmps90
  go_wp2_with (at_builtin; refine wpList_append_grows _ rfl _ _ 22 rfl 32 i0 _ 5 48 Tryz.underlying22 hi hz0 hz1 hz2 rfl (by omega) none 0 0 [] rfl (fun _ => ⟨rfl, rfl⟩) rfl (fun b h => by cases h) _ 1 _ [Value.int .i64 k, .int .i64 p, .int .i64 q, .string s, .int .i64 r] rfl rfl HN.out (by simp [Value.oneCell']) (by omega) (by unfold maxLen; omega) (by omega) ?_; intro v' w' hown hgr)
  obtain ⟨g, cap, h1, h2, h3⟩ : ∃ g cap : Nat, v' = .slice (some ⟨g, 0, none⟩) 1 cap ∧ w.heap.size ≤ g ∧ Cells5 w' g k p q s r := by
    rcases hown.2 with ⟨_, h2⟩ | ⟨g, cap, cur, hv, hb, hg, hnc, _, hs, ht⟩
    · omega
    · refine ⟨g, cap, hv, hb, ?_⟩
      have hcell : ∀ j u, [Value.int .i64 k, .int .i64 p, .int .i64 q, .string s, .int .i64 r][j]? = some u → w'.cell? ⟨g, j, none⟩ = some u := by
        intro j u hj
        rw [cell_of_row w' g j cur _ (0, 0) hg]
        have := congrArg (fun l => l[j]?) ht
        simp only [List.nil_append] at this
        rw [hj, List.getElem?_take] at this
        split at this
        · simpa using this
        · cases this
      exact ⟨hcell 0 _ rfl, hcell 1 _ rfl, hcell 2 _ rfl, hcell 3 _ rfl, hcell 4 _ rfl⟩
  subst h1
  have hbel : Below w.heap.size w w' := (Below.refl w.heap.size w).grown hgr (Nat.le_refl _) (fun k h => by cases h)
  go_wp2
  go_returns
  exact ⟨g, cap, rfl, h2, h3, hbel⟩
end Go.Proofs.YtfclmnglckikbaaGreatDoor

/- Package protocol's Return, Fail, Error of one value: what each call returns. -/
namespace Go.Proofs.YtfclmnglckikbaaGreatDoor
open Go.RowKit Go.Instr
set_option linter.unusedVariables false

theorem Cells5.set {w : World} {g : Nat} {k p q : Int} {s : ByteArray} {r : Int} {a : Addr} {v : Value} (hne : a.block ≠ g) (h : Cells5 w g k p q s r) : Cells5 (w.setCell a v) g k p q s r := by
  have hh : ∀ j x, w.cell? ⟨g, j, none⟩ = x → (w.setCell a v).cell? ⟨g, j, none⟩ = x := by
    intro j x hx
    rw [← hx]
    exact World.cell?_of_block (Below.heap_setCell _ _ _ _ (fun e => hne e.symm))
  exact ⟨hh 0 _ h.1, hh 1 _ h.2.1, hh 2 _ h.2.2.1, hh 3 _ h.2.2.2.1, hh 4 _ h.2.2.2.2⟩
theorem cells5_at (w : World) (k p q : Int) (s : ByteArray) (r : Int) (t : TypeId) (g : Nat) (hg : g = w.heap.size) : Cells5 (w.alloc (.cells #[.int .i64 k, .int .i64 p, .int .i64 q, .string s, .int .i64 r] t)) g k p q s r := by
  subst hg
  exact ⟨World.cell?_alloc_at #[.int .i64 k, .int .i64 p, .int .i64 q, .string s, .int .i64 r] t _ 0 rfl, World.cell?_alloc_at #[.int .i64 k, .int .i64 p, .int .i64 q, .string s, .int .i64 r] t _ 1 rfl, World.cell?_alloc_at #[.int .i64 k, .int .i64 p, .int .i64 q, .string s, .int .i64 r] t _ 2 rfl, World.cell?_alloc_at #[.int .i64 k, .int .i64 p, .int .i64 q, .string s, .int .i64 r] t _ 3 rfl, World.cell?_alloc_at #[.int .i64 k, .int .i64 p, .int .i64 q, .string s, .int .i64 r] t _ 4 rfl⟩
/-- The action of one value, in memory from base on. -/
def ActIs (base kind level : Nat) (k p q : Int) (s : ByteArray) (r : Int) (e : Ending) (w : World) : Prop := ∃ g cap : Nat, e = .returned (actV kind g cap level) ∧ base ≤ g ∧ Cells5 w g k p q s r
theorem act_mk {base kind level g cap : Nat} {k p q : Int} {s : ByteArray} {r : Int} {w : World} {K L : Int} (hK : K = kind) (hL : L = level) (h1 : base ≤ g) (h2 : Cells5 w g k p q s r) :
    ActIs base kind level k p q s r (.returned (.agg #[.int .i64 K, .int .i64 0, .int .i64 0, .int .i64 0, .int .i64 0, .string ⟨#[]⟩, .int .i64 0, .slice (some ⟨g, 0, none⟩) 1 cap, .string ⟨#[]⟩, .int .i64 L, .int .i64 0, .slice none 0 0])) w := by
  subst hK hL
  exact ⟨g, cap, rfl, h1, h2⟩
theorem up1 {a b : Nat} (h : a + 1 ≤ b) : a ≤ b ∧ a ≠ b := by omega
theorem up3 {a b : Nat} (h : a + 3 ≤ b) : a ≤ b ∧ a + 1 ≠ b := by omega
theorem ActIs.below {base kind level : Nat} {k p q : Int} {s : ByteArray} {r : Int} {e : Ending} {W w : World} (hb : Below W.heap.size W w) (h : ActIs base kind level k p q s r e W) : ActIs base kind level k p q s r e w := by
  obtain ⟨g, cap, h1, h2, h3⟩ := h
  exact ⟨g, cap, h1, h2, h3.below hb⟩

set_option maxHeartbeats 800000 in
set_option maxRecDepth 100000 in
theorem return_one (b c : Nat) (k p q : Int) (s : ByteArray) (r : Int) (w : World) (h : Cells5 w b k p q s r) :
    Calls Tryz.prog 63 #[.slice (some ⟨b, 0, none⟩) 1 c] w fun e w' => ActIs w.heap.size 1 0 k p q s r e w' ∧ Below w.heap.size w w' := by
  have HC : Hid (∀ w', Below w.heap.size w w' → Calls Tryz.prog 90 #[.slice (some ⟨b, 0, none⟩) 1 c] w' fun e w'' => ∃ g cap : Nat, e = .returned (.slice (some ⟨g, 0, none⟩) 1 cap) ∧ w'.heap.size ≤ g ∧ Cells5 w'' g k p q s r ∧ Below w'.heap.size w' w'') := fun w' hb => list_one b c k p q s r w' (h.below hb)
  clear h
  go_enter Tryz.func63, Tryz.ntmps63
  go_wp2_with (first | (go_at_call 90; refine (HC.out _ ?_).mono ?_; (focus ((repeat' (first | (with_reducible exact Below.refl _ _) | (with_reducible assumption) | (with_reducible refine Below.alloc ?_ ?_ _) | (with_reducible refine below_drewN ?_ _) | (with_reducible refine Below.drew ?_) | (with_reducible refine Below.setCell ?_ ?_ _) | (with_reducible refine below_via (by assumption) ?_ ?_) | (with_reducible refine below_via (later_below _) ?_ ?_) | (with_reducible exact Nat.le_refl _) | omega | (simp; omega) | (simp; done))))); rintro e w9 ⟨g, cap, rfl, hg, hcl, hb⟩; (refine mem hb ?_; intro N hN hz hc hf; (try simp at hN); subst hN)))
  ((try simp only [Exit.inBlock, Exit.then]); refine bodyPost_ret (by first | (simp [results, Tryz.results63, go_sem, *]; done) | (simp [results, Tryz.results63, go_sem, *]; rfl) | (simp [results, Tryz.results63, go_sem, ↓IntWalk.iteOmega, *]; try rfl)) rfl ?_)
  have hg2 : w.heap.size + 1 ≤ g := by simpa using hg
  obtain ⟨g1, g2⟩ := up1 hg2
  refine ⟨act_mk rfl rfl g1 ?_, ?_⟩
  · repeat (with_reducible refine Cells5.set (by exact g2) ?_)
    exact hcl
  · (repeat' (first | (with_reducible exact Below.refl _ _) | (with_reducible assumption) | (with_reducible refine Below.alloc ?_ ?_ _) | (with_reducible refine below_drewN ?_ _) | (with_reducible refine Below.drew ?_) | (with_reducible refine Below.setCell ?_ ?_ _) | (with_reducible refine below_via (by assumption) ?_ ?_) | (with_reducible refine below_via (later_below _) ?_ ?_) | (with_reducible exact Nat.le_refl _) | omega | (simp; omega) | (simp; done)))

/-- What protocol.Error answers. -/
abbrev ErrSays (W0 : World) (text : ByteArray) : Prop := ∀ w, Below W0.heap.size W0 w → Calls Tryz.prog 37 #[.string text] w fun e w' => ActIs w.heap.size 2 1 3 0 0 text 0 e w' ∧ Below w.heap.size w w'

set_option maxHeartbeats 800000 in
set_option maxRecDepth 100000 in
theorem fail_one (k p q : Int) (s : ByteArray) (r : Int) (w : World) :
    Calls Tryz.prog 69 #[vV k p q s r, .int .i64 1] w fun e w' => ActIs w.heap.size 2 1 k p q s r e w' ∧ Below w.heap.size w w' := by
  have HC : Hid (∀ b c w', Cells5 w' b k p q s r → Calls Tryz.prog 90 #[.slice (some ⟨b, 0, none⟩) 1 c] w' fun e w'' => ∃ g cap : Nat, e = .returned (.slice (some ⟨g, 0, none⟩) 1 cap) ∧ w'.heap.size ≤ g ∧ Cells5 w'' g k p q s r ∧ Below w'.heap.size w' w'') := fun b c w' h => list_one b c k p q s r w' h
  go_enter Tryz.func69, Tryz.ntmps69
  go_wp2_with (first | (go_at_call 90; refine (HC.out _ _ _ (cells5_at _ _ _ _ _ _ _ _ ?_)).mono ?_; (focus (simp; done)); rintro e w9 ⟨g, cap, rfl, hg, hcl, hb⟩; (refine mem hb ?_; intro N hN hz hc hf; (try simp at hN); subst hN)))
  ((try simp only [Exit.inBlock, Exit.then]); refine bodyPost_ret (by first | (simp [results, Tryz.results69, go_sem, *]; done) | (simp [results, Tryz.results69, go_sem, *]; rfl) | (simp [results, Tryz.results69, go_sem, ↓IntWalk.iteOmega, *]; try rfl)) rfl ?_)
  have hg2 : w.heap.size + 3 ≤ g := by simpa using hg
  obtain ⟨g1, g2⟩ := up3 hg2
  refine ⟨act_mk rfl rfl g1 ?_, ?_⟩
  · repeat (with_reducible refine Cells5.set (by exact g2) ?_)
    exact hcl
  · (repeat' (first | (with_reducible exact Below.refl _ _) | (with_reducible assumption) | (with_reducible refine Below.alloc ?_ ?_ _) | (with_reducible refine below_drewN ?_ _) | (with_reducible refine Below.drew ?_) | (with_reducible refine Below.setCell ?_ ?_ _) | (with_reducible refine below_via (by assumption) ?_ ?_) | (with_reducible refine below_via (later_below _) ?_ ?_) | (with_reducible exact Nat.le_refl _) | omega | (simp; omega) | (simp; done)))
theorem extract_all (s : ByteArray) : s.extract 0 s.size = s := by simp
set_option maxHeartbeats 800000 in
set_option maxRecDepth 100000 in
theorem error_one (s : ByteArray) (w : World) (hs : s.size ≤ 4096) :
    Calls Tryz.prog 37 #[.string s] w fun e w' => ActIs w.heap.size 2 1 3 0 0 s 0 e w' ∧ Below w.heap.size w w' := by
  have HC : Hid (∀ w', Calls Tryz.prog 69 #[vV 3 0 0 s 0, .int .i64 1] w' fun e w'' => ActIs w'.heap.size 2 1 3 0 0 s 0 e w'' ∧ Below w'.heap.size w' w'') := fun w' => fail_one 3 0 0 s 0 w'
  have HS : Hid (∀ w', Calls Tryz.prog 64 #[.string s] w' fun e w'' => e = .returned (vV 3 0 0 s 0) ∧ Below w'.heap.size w' w'') := fun w' => ofstr_v s w'
  have hmin : min (s.size : Int) 4096 = s.size := by omega
  have hall := extract_all s
  go_enter Tryz.func37, Tryz.ntmps37
  go_wp2_with (first | (go_at_call 64; refine (HS.out _).mono ?_; rintro e w8 ⟨rfl, hb⟩; (refine mem hb ?_; intro N hN hz hc hf; (try simp at hN); subst hN)) | (go_at_call 69; refine (HC.out _).mono ?_; rintro e w9 ⟨⟨g, cap, rfl, hg, hcl⟩, hb⟩; (refine mem hb ?_; intro N hN hz hc hf; (try simp at hN); subst hN)))
  ((try simp only [Exit.inBlock, Exit.then]); refine bodyPost_ret (by first | (simp [results, Tryz.results37, go_sem, *]; done) | (simp [results, Tryz.results37, go_sem, *]; rfl) | (simp [results, Tryz.results37, go_sem, ↓IntWalk.iteOmega, *]; try rfl)) rfl ?_)
  obtain ⟨g1, g2⟩ : w.heap.size ≤ g ∧ w.heap.size ≠ g := up1 (Nat.le_trans (by assumption) hg)
  refine ⟨act_mk rfl rfl g1 ?_, ?_⟩
  · repeat (with_reducible refine Cells5.set (by exact g2) ?_)
    exact hcl
  · (repeat' (first | (with_reducible exact Below.refl _ _) | (with_reducible assumption) | (with_reducible refine Below.alloc ?_ ?_ _) | (with_reducible refine below_drewN ?_ _) | (with_reducible refine Below.drew ?_) | (with_reducible refine Below.setCell ?_ ?_ _) | (with_reducible refine below_via (by assumption) ?_ ?_) | (with_reducible refine below_via (later_below _) ?_ ?_) | (with_reducible exact Nat.le_refl _) | omega | (simp; omega) | (simp; done)))
end Go.Proofs.YtfclmnglckikbaaGreatDoor

/- Package protocol's Arg, and numlib's bad: what each call returns. -/
namespace Go.Proofs.YtfclmnglckikbaaGreatDoor
open Go.RowKit Go.Instr
set_option linter.unusedVariables false

/-- A value in memory: five cells from an offset on. -/
def CellsAt (w : World) (b o : Nat) (k p q : Int) (s : ByteArray) (r : Int) : Prop :=
  w.cell? ⟨b, o, none⟩ = some (.int .i64 k) ∧ w.cell? ⟨b, o + 1, none⟩ = some (.int .i64 p) ∧ w.cell? ⟨b, o + 2, none⟩ = some (.int .i64 q) ∧ w.cell? ⟨b, o + 3, none⟩ = some (.string s) ∧ w.cell? ⟨b, o + 4, none⟩ = some (.int .i64 r)
theorem CellsAt.below {W w : World} {b o : Nat} {k p q : Int} {s : ByteArray} {r : Int} (hb : Below W.heap.size W w) (h : CellsAt W b o k p q s r) : CellsAt w b o k p q s r :=
  ⟨(hb.cell (p := ⟨b, o, none⟩) (cell_lt h.1)).trans h.1, (hb.cell (p := ⟨b, o + 1, none⟩) (cell_lt h.2.1)).trans h.2.1, (hb.cell (p := ⟨b, o + 2, none⟩) (cell_lt h.2.2.1)).trans h.2.2.1, (hb.cell (p := ⟨b, o + 3, none⟩) (cell_lt h.2.2.2.1)).trans h.2.2.2.1, (hb.cell (p := ⟨b, o + 4, none⟩) (cell_lt h.2.2.2.2)).trans h.2.2.2.2⟩

set_option maxHeartbeats 800000 in
set_option maxRecDepth 100000 in
theorem arg_out (a : Option Addr) (n cap : Nat) (i : Int) (w : World) (hn : n ≤ 9223372036854775807) (h : i < 0 ∨ (0 ≤ i ∧ (n : Int) ≤ i)) :
    Calls Tryz.prog 65 #[.slice a n cap, .int .i64 i] w fun e w' => e = .returned (vV 0 0 0 ⟨#[]⟩ 0) ∧ Below w.heap.size w w' := by
  rcases h with h | ⟨h, h2⟩
  all_goals
    go_enter Tryz.func65, Tryz.ntmps65
    go_wp2_with fail
    ((try simp only [Exit.inBlock, Exit.then]); refine bodyPost_ret (by first | (simp [results, Tryz.results65, go_sem, *]; done) | (simp [results, Tryz.results65, go_sem, *]; rfl) | (simp [results, Tryz.results65, go_sem, ↓IntWalk.iteOmega, *]; try rfl)) rfl ?_)
    refine ⟨rfl, ?_⟩
    (repeat' (first | (with_reducible exact Below.refl _ _) | (with_reducible assumption) | (with_reducible refine Below.alloc ?_ ?_ _) | (with_reducible refine below_drewN ?_ _) | (with_reducible refine Below.drew ?_) | (with_reducible refine Below.setCell ?_ ?_ _) | (with_reducible refine below_via (by assumption) ?_ ?_) | (with_reducible refine below_via (later_below _) ?_ ?_) | (with_reducible exact Nat.le_refl _) | omega | (simp; omega) | (simp; done)))

set_option maxHeartbeats 800000 in
set_option maxRecDepth 100000 in
theorem arg_in (b o n cap : Nat) (i : Nat) (k p q : Int) (s : ByteArray) (r : Int) (w : World) (hn : n ≤ 9223372036854775807) (hi : i < n) (h : CellsAt w b (o + i * 5) k p q s r) :
    Calls Tryz.prog 65 #[.slice (some ⟨b, o, none⟩) n cap, .int .i64 i] w fun e w' => e = .returned (vV k p q s r) ∧ Below w.heap.size w w' := by
  have hb := cell_lt h.1
  obtain ⟨h0, h1, h2, h3, h4⟩ := h
  go_enter Tryz.func65, Tryz.ntmps65
  go_wp2_with fail
  ((try simp only [Exit.inBlock, Exit.then]); refine bodyPost_ret (by first | (simp [results, Tryz.results65, go_sem, *]; done) | (simp [results, Tryz.results65, go_sem, *]; rfl) | (simp [results, Tryz.results65, go_sem, ↓IntWalk.iteOmega, *]; try rfl)) rfl ?_)
  refine ⟨rfl, ?_⟩
  (repeat' (first | (with_reducible exact Below.refl _ _) | (with_reducible assumption) | (with_reducible refine Below.alloc ?_ ?_ _) | (with_reducible refine below_drewN ?_ _) | (with_reducible refine Below.drew ?_) | (with_reducible refine Below.setCell ?_ ?_ _) | (with_reducible refine below_via (by assumption) ?_ ?_) | (with_reducible refine below_via (later_below _) ?_ ?_) | (with_reducible exact Nat.le_refl _) | omega | (simp; omega) | (simp; done)))
end Go.Proofs.YtfclmnglckikbaaGreatDoor
