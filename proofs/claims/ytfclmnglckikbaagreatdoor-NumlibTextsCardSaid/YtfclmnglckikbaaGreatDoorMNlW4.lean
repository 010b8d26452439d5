/- Numlib's bad: what each call returns. -/
import Derived.Test.YtfclmnglckikbaaGreatDoorMNlA
namespace Go.Proofs.YtfclmnglckikbaaGreatDoor
open Go.RowKit Go.Instr
set_option linter.unusedVariables false

/-- The message about an argument. -/
def badS (word : ByteArray) (i : Int) (reason : ByteArray) : ByteArray :=
  ⟨#[98, 97, 100, 32, 97, 114, 103, 117, 109, 101, 110, 116, 32, 35]⟩ ++ mkS (Lib.itoa i) ++ ⟨#[32, 116, 111, 32, 39]⟩ ++ word ++ ⟨#[39, 32, 40]⟩ ++ reason ++ ⟨#[41]⟩
theorem badS_size (word : ByteArray) (i : Int) (reason : ByteArray) (h0 : -9223372036854775808 ≤ i) (h1 : i ≤ 9223372036854775807) : (badS word i reason).size ≤ word.size + reason.size + 60 := by
  have := Lib.itoa_length_le i h0 h1
  have e := mkS_size (Lib.itoa i)
  unfold badS
  simp only [ByteArray.size_append]
  have h1 : (⟨#[98, 97, 100, 32, 97, 114, 103, 117, 109, 101, 110, 116, 32, 35]⟩ : ByteArray).size = 14 := rfl
  have h2 : (⟨#[32, 116, 111, 32, 39]⟩ : ByteArray).size = 5 := rfl
  have h3 : (⟨#[39, 32, 40]⟩ : ByteArray).size = 3 := rfl
  have h4 : (⟨#[41]⟩ : ByteArray).size = 1 := rfl
  omega

theorem up2 {a b : Nat} (h : a + 2 ≤ b) : a ≤ b ∧ a + 1 ≠ b := by omega
set_option maxHeartbeats 1600000 in
set_option maxRecDepth 100000 in
theorem bad_one (word : ByteArray) (a : Option Addr) (n cap : Nat) (i : Int) (reason : ByteArray) (w : World) (hw : word.size ≤ 100) (hr : reason.size ≤ 100) (h0 : -9223372036854775808 ≤ i) (h1 : i ≤ 9223372036854775807) (hT : Tabs w) :
    Calls Tryz.prog 62 #[.agg #[.string word, .slice a n cap], .int .i64 i, .string reason] w fun e w' => ActIs w.heap.size 2 1 3 0 0 (badS word i reason) 0 e w' ∧ Below w.heap.size w w' := by
  have hsz := badS_size word i reason h0 h1
  have HE : Hid (∀ w', Calls Tryz.prog 37 #[.string (badS word i reason)] w' fun e w'' => ActIs w'.heap.size 2 1 3 0 0 (badS word i reason) 0 e w'' ∧ Below w'.heap.size w' w'') := fun w' => error_one _ w' (by omega)
  have HI := Lib.hid (itoa_says hT i h0 h1)
  have hI0 := Lib.itoa_length_le i h0 h1
  have hIs : (mkS (Lib.itoa i)).size ≤ 21 := by rw [mkS_size]; exact hI0
  unfold badS at HE ⊢
  obtain ⟨I, hI⟩ : ∃ I, mkS (Lib.itoa i) = I := ⟨_, rfl⟩
  rw [hI] at HE HI hIs ⊢
  clear hI hI0 hsz
  go_enter Tryz.func62, Tryz.ntmps62
  go_wp2_with fail
  go_region_with (first | (go_at_call 52; refine (HI.out _ ?_).mono ?_; (focus ((repeat' (first | (with_reducible exact Below.refl _ _) | (with_reducible assumption) | (with_reducible refine Below.alloc ?_ ?_ _) | (with_reducible refine below_drewN ?_ _) | (with_reducible refine Below.drew ?_) | (with_reducible refine Below.setCell ?_ ?_ _) | (with_reducible refine below_via (by assumption) ?_ ?_) | (with_reducible refine below_via (later_below _) ?_ ?_) | (with_reducible exact Nat.le_refl _) | omega | (simp; omega) | (simp; done))))); rintro e w8 ⟨rfl, hb⟩; (refine mem hb ?_; intro N hN hz hc hf; (try simp at hN); subst hN)) | (go_at_call 37; refine (HE.out _).mono ?_; rintro e w9 ⟨⟨g, cp, rfl, hg, hcl⟩, hb⟩; (refine mem hb ?_; intro N hN hz hc hf; (try simp at hN); subst hN)))
  all_goals
    go_wp2_with fail
    ((try simp only [Exit.inBlock, Exit.then]); refine bodyPost_ret (by first | (simp [results, Tryz.results62, go_sem, *]; done) | (simp [results, Tryz.results62, go_sem, *]; rfl) | (simp [results, Tryz.results62, go_sem, ↓IntWalk.iteOmega, *]; try rfl)) rfl ?_)
    have hg3 : w.heap.size + 2 ≤ g := Nat.le_trans (by assumption) hg
    obtain ⟨g1, g2⟩ := up2 hg3
    refine ⟨act_mk rfl rfl g1 ?_, ?_⟩
    · repeat (with_reducible refine Cells5.set (by exact g2) ?_)
      exact hcl
    · (repeat' (first | (with_reducible exact Below.refl _ _) | (with_reducible assumption) | (with_reducible refine Below.alloc ?_ ?_ _) | (with_reducible refine below_drewN ?_ _) | (with_reducible refine Below.drew ?_) | (with_reducible refine Below.setCell ?_ ?_ _) | (with_reducible refine below_via (by assumption) ?_ ?_) | (with_reducible refine below_via (later_below _) ?_ ?_) | (with_reducible exact Nat.le_refl _) | omega | (simp; omega) | (simp; done)))
end Go.Proofs.YtfclmnglckikbaaGreatDoor
