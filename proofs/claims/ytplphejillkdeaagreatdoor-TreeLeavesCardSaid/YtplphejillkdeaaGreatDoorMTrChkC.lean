/- The program's Check: the error of a chunk. -/
import Derived.Test.YtplphejillkdeaaGreatDoorMTrC1
import Derived.Test.YtplphejillkdeaaGreatDoorMTrDp
import Derived.Defers
import Derived.Recover
namespace Go.Proofs.YtplphejillkdeaaGreatDoor
open Go.RowKit Go.Instr
set_option linter.unusedVariables false

theorem run_fault (v : Value) (xT : TypeId) (w : World) : (Instr.typeAssert (.iface 75 v) xT 75 false).run Tryz.prog w = .ok v w := by
  simp [Instr.typeAssert, run_underlying Tryz.underlying75, go_sem, Result.andThen]
theorem run_field0 (e : Int) (w : World) : (Instr.field 75 (.agg #[.int .i64 e]) 0).run Tryz.prog w = .ok (.int .i64 e) w := by
  simp [Instr.field, run_underlying Tryz.underlying75, go_sem, asAgg, Result.andThen]
set_option maxRecDepth 100000 in
theorem catch_fault (n : Nat) (x e : Int) (w : World) (hc : w.cell? ⟨n, 0, none⟩ = some (.int .i64 x)) (hz : w.frozen? ⟨n, 0, none⟩ = false) :
    CallsD Tryz.prog 30 #[.pointer (some ⟨n, 0, none⟩)] (.panicking (faultP e)) w fun r u' w' =>
      r = .returned (.tuple #[]) ∧ u' = .panicking [{ v := .iface 75 (.agg #[.int .i64 e]), recovered := true }] ∧ w' = w.setCell ⟨n, 0, none⟩ (.int .i64 e) := by
  unfold faultP
  refine callsD_of_wpS Tryz.func30 rfl fun c₀ cs hu => ?_
  apply wpS_seq
  apply wpS_region
  simp [wpOpsS, go_sem, recoverD, hu, Tryz.ntmps30, Exit.thenS]
  refine wpS_of_wp ?_
  simp only [Array.replicate_succ, Array.replicate_zero, List.push_toArray, List.append_toArray, List.nil_append, List.cons_append, List.setIfInBounds_toArray, List.set_cons_succ, List.set_cons_zero]
  have hra := fun v xT w => run_fault v xT w
  have hrf := fun e w => run_field0 e w
  go_wp2
  cases c₀
  simp_all [bodyPostS, results, Tryz.results30]
theorem catch_none (n : Nat) (w : World) :
    CallsD Tryz.prog 30 #[.pointer (some ⟨n, 0, none⟩)] .returning w fun e u' w' => e = .returned (.tuple #[]) ∧ u' = .returning ∧ w' = w := by
  refine callsD_of_wpS Tryz.func30 rfl fun c₀ cs hu => ?_
  apply wpS_seq
  apply wpS_region
  simp [wpOpsS, go_sem, recoverD, hu, Tryz.ntmps30, Exit.thenS]
  refine wpS_of_wp ?_
  simp only [Array.replicate_succ, Array.replicate_zero, List.push_toArray, List.append_toArray, List.nil_append, List.cons_append, List.setIfInBounds_toArray, List.set_cons_succ, List.set_cons_zero]
  go_wp2
  cases c₀
  simp_all [bodyPostS, results, Tryz.results30]
/-- The error of a chunk: of its size, or of its first wrong part. -/
def chE (y : TB) (E : Int) : Int := if 65536 < wrap64 (szSs y.l) ∨ 64 < dpB y then 3 else E
set_option maxRecDepth 100000 in
theorem check_any (y : TB) (E : Int) (w : World) (hin : InB w w.heap.size y) (hcb : ∀ W, Below w.heap.size w W → Calls Tryz.prog 31 #[y.v] W (PE (.bool true) E W)) :
    Calls Tryz.prog 12 #[y.v] w fun e W' => e = .returned (.int .i64 (chE y E)) ∧ Below w.heap.size w W' := by
  have HC := Lib.hid hcb
  have HS : Hid (∀ W, Below w.heap.size w W → Calls Tryz.prog 13 #[y.v] W fun e w' => e = .returned (.int .i64 (wrap64 (szSs y.l))) ∧ Below W.heap.size W w') := fun W hW => size_any y W (hin.still (still_of hW (Nat.le_refl _)) hW.size)
  have HD : Hid (∀ W, Below w.heap.size w W → Calls Tryz.prog 14 #[y.v] W fun e w' => e = .returned (.int .i64 (dpB y)) ∧ Below W.heap.size W w') := fun W hW => depth_any y W (hin.still (still_of hW (Nat.le_refl _)) hW.size)
  unfold chE
  obtain ⟨n, hn⟩ : ∃ n, wrap64 (szSs y.l) = n := ⟨_, rfl⟩
  obtain ⟨d, hd⟩ : ∃ d, dpB y = d := ⟨_, rfl⟩
  rw [hn] at HS ⊢
  rw [hd] at HD ⊢
  clear hin hcb hn hd
  have hmf : ∀ (fn : Fn) (first cap : Array Value) (w : World), (Instr.makeFunc fn first cap).run Tryz.prog w = .ok (.func fn first cap) w := fun _ _ _ _ => rfl
  have HN : Hid (Nb w.heap.size 0 (w.alloc (.cells #[.int .i64 0] 23))) := ⟨by simp [cell_alloc_if], by simp⟩
  by_cases h1 : 65536 < n
  · rw [if_pos (.inl h1)]
    go_enter_defers Tryz.func12, Tryz.ntmps12
    go_wp2_with (first | (go_at_call 13; (with_reducible refine (HS.out _ ?_).mono ?_); (focus ((repeat' (first | (with_reducible exact Below.refl _ _) | (with_reducible assumption) | (with_reducible refine Below.alloc ?_ ?_ _) | (with_reducible refine below_drewN ?_ _) | (with_reducible refine Below.drew ?_) | (with_reducible refine Below.setCell ?_ ?_ _) | (with_reducible refine below_via (by assumption) ?_ ?_) | (with_reducible refine below_via (later_below _) ?_ ?_) | (with_reducible exact Nat.le_refl _) | omega | (simp; omega) | (simp; done))))); rintro e w1 ⟨rfl, hb⟩; have hbS := hb; (refine mem hb ?_; intro N hN hz hc hf; (try simp at hN); subst hN)) | (go_at_call 14; (with_reducible refine (HD.out _ ?_).mono ?_); (focus ((repeat' (first | (with_reducible exact Below.refl _ _) | (with_reducible assumption) | (with_reducible refine Below.alloc ?_ ?_ _) | (with_reducible refine below_drewN ?_ _) | (with_reducible refine Below.drew ?_) | (with_reducible refine Below.setCell ?_ ?_ _) | (with_reducible refine below_via (by assumption) ?_ ?_) | (with_reducible refine below_via (later_below _) ?_ ?_) | (with_reducible exact Nat.le_refl _) | omega | (simp; omega) | (simp; done))))); rintro e w1 ⟨rfl, hb⟩; have hbD := hb; (refine mem hb ?_; intro N hN hz hc hf; (try simp at hN); subst hN)))
    have hn2 := (HN.out.below hbS).set (u := 3)
    refine ⟨.int .i64 3, by simp [results, Tryz.results12, go_sem, hn2.1], rfl, ?_⟩
    show Below _ _ _
    (repeat' (first | (with_reducible exact Below.refl _ _) | (with_reducible assumption) | (with_reducible refine Below.alloc ?_ ?_ _) | (with_reducible refine below_drewN ?_ _) | (with_reducible refine Below.drew ?_) | (with_reducible refine Below.setCell ?_ ?_ _) | (with_reducible refine below_via (by assumption) ?_ ?_) | (with_reducible refine below_via (later_below _) ?_ ?_) | (with_reducible exact Nat.le_refl _) | omega | (simp; omega) | (simp; done)))
  · by_cases h2 : 64 < d
    · rw [if_pos (.inr h2)]
      go_enter_defers Tryz.func12, Tryz.ntmps12
      go_wp2_with (first | (go_at_call 13; (with_reducible refine (HS.out _ ?_).mono ?_); (focus ((repeat' (first | (with_reducible exact Below.refl _ _) | (with_reducible assumption) | (with_reducible refine Below.alloc ?_ ?_ _) | (with_reducible refine below_drewN ?_ _) | (with_reducible refine Below.drew ?_) | (with_reducible refine Below.setCell ?_ ?_ _) | (with_reducible refine below_via (by assumption) ?_ ?_) | (with_reducible refine below_via (later_below _) ?_ ?_) | (with_reducible exact Nat.le_refl _) | omega | (simp; omega) | (simp; done))))); rintro e w1 ⟨rfl, hb⟩; have hbS := hb; (refine mem hb ?_; intro N hN hz hc hf; (try simp at hN); subst hN)) | (go_at_call 14; (with_reducible refine (HD.out _ ?_).mono ?_); (focus ((repeat' (first | (with_reducible exact Below.refl _ _) | (with_reducible assumption) | (with_reducible refine Below.alloc ?_ ?_ _) | (with_reducible refine below_drewN ?_ _) | (with_reducible refine Below.drew ?_) | (with_reducible refine Below.setCell ?_ ?_ _) | (with_reducible refine below_via (by assumption) ?_ ?_) | (with_reducible refine below_via (later_below _) ?_ ?_) | (with_reducible exact Nat.le_refl _) | omega | (simp; omega) | (simp; done))))); rintro e w1 ⟨rfl, hb⟩; have hbD := hb; (refine mem hb ?_; intro N hN hz hc hf; (try simp at hN); subst hN)))
      have hn2 := ((HN.out.below hbS).below hbD).set (u := 3)
      refine ⟨.int .i64 3, by simp [results, Tryz.results12, go_sem, hn2.1], rfl, ?_⟩
      show Below _ _ _
      (repeat' (first | (with_reducible exact Below.refl _ _) | (with_reducible assumption) | (with_reducible refine Below.alloc ?_ ?_ _) | (with_reducible refine below_drewN ?_ _) | (with_reducible refine Below.drew ?_) | (with_reducible refine Below.setCell ?_ ?_ _) | (with_reducible refine below_via (by assumption) ?_ ?_) | (with_reducible refine below_via (later_below _) ?_ ?_) | (with_reducible exact Nat.le_refl _) | omega | (simp; omega) | (simp; done)))
    · rw [if_neg (by omega)]
      go_enter_defers Tryz.func12, Tryz.ntmps12
      go_wp2_with (first | (go_at_call 13; (with_reducible refine (HS.out _ ?_).mono ?_); (focus ((repeat' (first | (with_reducible exact Below.refl _ _) | (with_reducible assumption) | (with_reducible refine Below.alloc ?_ ?_ _) | (with_reducible refine below_drewN ?_ _) | (with_reducible refine Below.drew ?_) | (with_reducible refine Below.setCell ?_ ?_ _) | (with_reducible refine below_via (by assumption) ?_ ?_) | (with_reducible refine below_via (later_below _) ?_ ?_) | (with_reducible exact Nat.le_refl _) | omega | (simp; omega) | (simp; done))))); rintro e w1 ⟨rfl, hb⟩; have hbS := hb; (refine mem hb ?_; intro N hN hz hc hf; (try simp at hN); subst hN)) | (go_at_call 14; (with_reducible refine (HD.out _ ?_).mono ?_); (focus ((repeat' (first | (with_reducible exact Below.refl _ _) | (with_reducible assumption) | (with_reducible refine Below.alloc ?_ ?_ _) | (with_reducible refine below_drewN ?_ _) | (with_reducible refine Below.drew ?_) | (with_reducible refine Below.setCell ?_ ?_ _) | (with_reducible refine below_via (by assumption) ?_ ?_) | (with_reducible refine below_via (later_below _) ?_ ?_) | (with_reducible exact Nat.le_refl _) | omega | (simp; omega) | (simp; done))))); rintro e w1 ⟨rfl, hb⟩; have hbD := hb; (refine mem hb ?_; intro N hN hz hc hf; (try simp at hN); subst hN)) | (go_at_call 31; (with_reducible refine (HC.out _ ?_).mono ?_); (focus ((repeat' (first | (with_reducible exact Below.refl _ _) | (with_reducible assumption) | (with_reducible refine Below.alloc ?_ ?_ _) | (with_reducible refine below_drewN ?_ _) | (with_reducible refine Below.drew ?_) | (with_reducible refine Below.setCell ?_ ?_ _) | (with_reducible refine below_via (by assumption) ?_ ?_) | (with_reducible refine below_via (later_below _) ?_ ?_) | (with_reducible exact Nat.le_refl _) | omega | (simp; omega) | (simp; done))))); rintro e w1 ⟨⟨he0, rfl⟩ | ⟨he0, rfl⟩, hb⟩; all_goals have hbB := hb; focus (refine mem hb ?_; intro N hN hz hc hf; (try simp at hN); subst hN)))
      · subst he0
        have hn2 := (((HN.out.below hbS).below hbD).below hbB).set (u := 0)
        refine leaves_cons (f := 30) (args := #[.pointer (some ⟨w.heap.size, 0, none⟩)]) (by simp) (by simp [go_sem]) ?_
        refine (catch_none w.heap.size _).mono ?_
        rintro e u' w'' ⟨rfl, rfl, rfl⟩
        refine ⟨.int .i64 0, by simp [results, Tryz.results12, go_sem, hn2.1], rfl, ?_⟩
        show Below _ _ _
        (repeat' (first | (with_reducible exact Below.refl _ _) | (with_reducible assumption) | (with_reducible refine Below.alloc ?_ ?_ _) | (with_reducible refine below_drewN ?_ _) | (with_reducible refine Below.drew ?_) | (with_reducible refine Below.setCell ?_ ?_ _) | (with_reducible refine below_via (by assumption) ?_ ?_) | (with_reducible refine below_via (later_below _) ?_ ?_) | (with_reducible exact Nat.le_refl _) | omega | (simp; omega) | (simp; done)))
      · have hn2 := (((HN.out.below hbS).below hbD).below hbB)
        refine leaves_cons (f := 30) (args := #[.pointer (some ⟨w.heap.size, 0, none⟩)]) (by simp) (by simp [go_sem]) ?_
        refine (catch_fault w.heap.size 0 E _ hn2.1 hn2.2).mono ?_
        rintro e u' w'' ⟨rfl, rfl, rfl⟩
        have hn3 := hn2.set (u := E)
        refine ⟨.int .i64 E, by simp [results, Tryz.results12, go_sem, hn3.1], rfl, ?_⟩
        show Below _ _ _
        (repeat' (first | (with_reducible exact Below.refl _ _) | (with_reducible assumption) | (with_reducible refine Below.alloc ?_ ?_ _) | (with_reducible refine below_drewN ?_ _) | (with_reducible refine Below.drew ?_) | (with_reducible refine Below.setCell ?_ ?_ _) | (with_reducible refine below_via (by assumption) ?_ ?_) | (with_reducible refine below_via (later_below _) ?_ ?_) | (with_reducible exact Nat.le_refl _) | omega | (simp; omega) | (simp; done)))
end Go.Proofs.YtplphejillkdeaaGreatDoor
