/- The program's Size: what the visitor is shown, counted. -/
import Derived.Test.YtplphejillkdeaaGreatDoorMTrVis2
import Derived.Laws.EntriesVeiled
namespace Go.Proofs.YtplphejillkdeaaGreatDoor
open Go.RowKit Go.Instr
set_option linter.unusedVariables false

theorem zipP_sum (f : TX ⊕ TB → Nat) : ∀ (r : List TX) (b : List TB), ((zipP r b).map f).sum = (r.map fun x => f (.inl x)).sum + (b.map fun y => f (.inr y)).sum
  | [], b => by show ((b.map _).map f).sum = _; simp [List.map_map, Function.comp_def]
  | x :: r, [] => by show (((x :: r).map _).map f).sum = _; simp [List.map_map, Function.comp_def]
  | x :: r, y :: b => by
    show f (.inl x) + (f (.inr y) + ((zipP r b).map f).sum) = _
    rw [zipP_sum f r b]
    simp only [List.map_cons, List.sum_cons]
    omega
theorem partsS_sum (f : TX ⊕ TB → Nat) (s : TS) : ((partsS s).map f).sum = (s.left.map fun x => f (.inl x)).sum + (s.right.map fun x => f (.inl x)).sum + (s.blocks.map fun y => f (.inr y)).sum := by
  unfold partsS
  rw [List.map_append, List.sum_append, List.map_map]
  split
  · rw [List.map_append, List.sum_append, List.map_map, List.map_map]
    simp only [Function.comp_def]
    omega
  · split
    · rw [zipP_sum]
      simp only [Function.comp_def]
      omega
    · rw [List.map_append, List.sum_append, List.map_map, List.map_map]
      simp only [Function.comp_def]
      omega
theorem range_map {α β : Type} (l : List α) (g : Option α → β) : (List.range l.length).map (fun i => g l[i]?) = l.map fun x => g (some x) := by
  apply List.ext_getElem
  · simp
  · intro i h1 h2
    simp at h1
    simp [h1]
theorem szXs_sum : ∀ l : List TX, (l.map szX).sum = szXs l
  | [] => rfl
  | x :: l => by show szX x + (l.map szX).sum = szX x + szXs l; rw [szXs_sum l]
theorem szFs_sum : ∀ l : List TF, (l.map szF).sum = szFs l
  | [] => rfl
  | x :: l => by show szF x + (l.map szF).sum = szF x + szFs l; rw [szFs_sum l]
theorem szSs_sum : ∀ l : List TS, (l.map szS).sum = szSs l
  | [] => rfl
  | x :: l => by show szS x + (l.map szS).sum = szS x + szSs l; rw [szSs_sum l]
theorem szBs_sum : ∀ l : List TB, (l.map szB).sum = szBs l
  | [] => rfl
  | x :: l => by show szB x + (l.map szB).sum = szB x + szBs l; rw [szBs_sum l]
theorem sum_congr' {α : Type} {f g : α → Nat} : ∀ {l : List α}, (∀ x ∈ l, f x = g x) → (l.map f).sum = (l.map g).sum
  | [], _ => rfl
  | x :: l, h => by
    simp only [List.map_cons, List.sum_cons]
    rw [h x List.mem_cons_self, sum_congr' (fun y hy => h y (List.mem_cons_of_mem _ hy))]
/-- As much is shown as the tree has statements and expressions. -/
theorem ev_len : ∀ n, (∀ x par, rkX x < n → (evN true n (.inl x) par).length = szX x) ∧ (∀ y, rkB y < n → (evN true n (.inr y) 0).length = szB y)
  | 0 => ⟨fun _ _ h => by omega, fun _ h => by omega⟩
  | n + 1 => by
    obtain ⟨ihX, ihB⟩ := ev_len n
    refine ⟨fun x par h => ?_, fun y h => ?_⟩
    · show (Ev.ex x par :: (x.args.flatMap (fun y => evN true n (.inl y) x.k) ++ x.funcs.flatMap (fun f => evN true n (.inr ⟨f.bA, f.bC, f.body⟩) 0))).length = _
      rw [rkX_eq] at h
      rw [List.length_cons, List.length_append, List.length_flatMap, List.length_flatMap, szX_eq, ← szXs_sum, ← szFs_sum]
      rw [sum_congr' (g := szX) (fun y hy => ihX y _ (by have := rkXs_mem hy; omega)), sum_congr' (g := szF) (fun f hf => by rw [ihB _ (by have := rkFs_mem hf; rw [rkF_eq] at this; rw [rkB_eq]; dsimp only; omega), szF_eq]; rfl)]
      omega
    · show ((List.range y.l.length).flatMap fun i => (if true then [Ev.st y i] else []) ++ ((y.l[i]?.map partsS).getD []).flatMap (fun p => evN true n p 0)).length = _
      rw [rkB_eq] at h
      rw [List.length_flatMap, szB_eq, ← szSs_sum]
      have e : (List.range y.l.length).map (fun i => ((if true then [Ev.st y i] else []) ++ ((y.l[i]?.map partsS).getD []).flatMap (fun p => evN true n p 0)).length) = (List.range y.l.length).map (fun i => (fun o : Option TS => 1 + (((o.map partsS).getD []).map fun p => (evN true n p 0).length).sum) y.l[i]?) := by
        apply List.map_congr_left
        intro i _
        simp [List.length_flatMap]
        omega
      rw [e]
      refine (congrArg List.sum (range_map y.l (fun o : Option TS => 1 + (((o.map partsS).getD []).map fun p => (evN true n p 0).length).sum))).trans (sum_congr' fun s hs => ?_)
      show 1 + ((partsS s).map fun p => (evN true n p 0).length).sum = _
      have hr := rkSs_mem hs
      rw [rkS_eq] at hr
      rw [partsS_sum, szS_eq, ← szXs_sum, ← szXs_sum, ← szBs_sum]
      rw [sum_congr' (g := szX) (fun x hx => ihX x 0 (by have := rkXs_mem hx; omega)), sum_congr' (l := s.right) (g := szX) (fun x hx => ihX x 0 (by have := rkXs_mem hx; omega)), sum_congr' (g := szB) (fun b hb => ihB b (by have := rkBs_mem hb; omega))]
      omega

/-- The counter's box. -/
def Nb (n : Nat) (v : Int) (w : World) : Prop := w.cell? ⟨n, 0, none⟩ = some (.int .i64 v) ∧ w.frozen? ⟨n, 0, none⟩ = false
theorem Nb.below {n : Nat} {v : Int} {W W' : World} (h : Nb n v W) (k : Below W.heap.size W W') : Nb n v W' :=
  ⟨(k.cell (p := ⟨n, 0, none⟩) (cell_lt h.1)).trans h.1, (k.frozen (p := ⟨n, 0, none⟩) (cell_lt h.1)).trans h.2⟩
theorem Nb.set {n : Nat} {v u : Int} {W : World} (h : Nb n v W) : Nb n u (W.setCell ⟨n, 0, none⟩ (.int .i64 u)) :=
  ⟨World.cell?_setCell_same _ _ _ h.1, by rw [World.frozen?_setCell]; exact h.2⟩
theorem kept_set {a b n : Nat} (W : World) (v : Value) (h1 : a ≤ n) (h2 : n < b) : Kept a b W (W.setCell ⟨n, 0, none⟩ v) :=
  ⟨rfl, rfl, rfl, by simp [World.setCell], fun g hg => Below.heap_setCell _ _ _ _ (by show g ≠ n; omega), fun g c t f hg _ hc => (Below.heap_setCell _ _ _ _ (by show g ≠ n; omega)).trans hc⟩

theorem size1_any (a b n : Nat) (v : Int) (u1 u2 : Value) (w : World) (h : Nb n v w) (h1 : a ≤ n) (h2 : n < b) : Calls Tryz.prog 32 #[u1, u2, .pointer (some ⟨n, 0, none⟩)] w fun e w' => e = .returned (.bool true) ∧ Nb n (wrap64 (v + 1)) w' ∧ Kept a b w w' := by
  have hb := h
  obtain ⟨c1, c2⟩ := h
  go_enter Tryz.func32, Tryz.ntmps32
  go_wp2_with fail
  ((try simp only [Exit.inBlock, Exit.then]); refine bodyPost_ret (by first | (simp [results, Tryz.results32, go_sem, *]; done) | (simp [results, Tryz.results32, go_sem, *]; rfl) | (simp [results, Tryz.results32, go_sem, ↓IntWalk.iteOmega, *]; try rfl)) rfl ?_)
  exact ⟨rfl, hb.set, kept_set _ _ h1 h2⟩
theorem size2_any (a b n : Nat) (v : Int) (x : TX) (u2 : Value) (w : World) (h : Nb n v w) (h1 : a ≤ n) (h2 : n < b) : Calls Tryz.prog 33 #[x.v, u2, .pointer (some ⟨n, 0, none⟩)] w fun e w' => e = .returned (.bool true) ∧ Nb n (wrap64 (v + 1)) w' ∧ Kept a b w w' := by
  have hb := h
  obtain ⟨c1, c2⟩ := h
  have hn := cell_lt c1
  go_enter Tryz.func33, Tryz.ntmps33
  go_wp2_with fail
  ((try simp only [Exit.inBlock, Exit.then]); refine bodyPost_ret (by first | (simp [results, Tryz.results33, go_sem, *]; done) | (simp [results, Tryz.results33, go_sem, *]; rfl) | (simp [results, Tryz.results33, go_sem, ↓IntWalk.iteOmega, *]; try rfl)) rfl ?_)
  exact ⟨rfl, hb.set.below (by (repeat' (first | (with_reducible exact Below.refl _ _) | (with_reducible assumption) | (with_reducible refine Below.alloc ?_ ?_ _) | (with_reducible refine below_drewN ?_ _) | (with_reducible refine Below.drew ?_) | (with_reducible refine Below.setCell ?_ ?_ _) | (with_reducible refine below_via (by assumption) ?_ ?_) | (with_reducible refine below_via (later_below _) ?_ ?_) | (with_reducible exact Nat.le_refl _) | omega | (simp; omega) | (simp; done)))), (kept_set _ _ h1 h2).trans (kept_of (by (repeat' (first | (with_reducible exact Below.refl _ _) | (with_reducible assumption) | (with_reducible refine Below.alloc ?_ ?_ _) | (with_reducible refine below_drewN ?_ _) | (with_reducible refine Below.drew ?_) | (with_reducible refine Below.setCell ?_ ?_ _) | (with_reducible refine below_via (by assumption) ?_ ?_) | (with_reducible refine below_via (later_below _) ?_ ?_) | (with_reducible exact Nat.le_refl _) | omega | (simp; omega) | (simp; done)))) (by simp [World.setCell]; omega))⟩

set_option maxHeartbeats 1600000 in
/-- The program's Size. -/
theorem size_any (y : TB) (w : World) (hin : InB w w.heap.size y) : Calls Tryz.prog 13 #[y.v] w fun e w' => e = .returned (.int .i64 (wrap64 (szSs y.l))) ∧ Below w.heap.size w w' := by
  obtain ⟨ev, hev⟩ : ∃ ev, evN true (rkB y + 1) (.inr y) 0 = ev := ⟨_, rfl⟩
  have hlen : ev.length = szSs y.l := by rw [← hev, (ev_len _).2 y (by omega), szB_eq]
  have HB : Hid (∀ W, Below w.heap.size w W → w.heap.size + 2 ≤ W.heap.size → Nb w.heap.size 0 W → Calls Tryz.prog 29 #[.agg #[.func (.func 32) #[] #[.pointer (some ⟨w.heap.size, 0, none⟩)], .func (.func 33) #[] #[.pointer (some ⟨w.heap.size, 0, none⟩)]], y.v] W (RJ w.heap.size (w.heap.size + 2) (fun W' => Nb w.heap.size (wrap64 (szSs y.l)) W') (fun _ _ => False) W)) := by
    intro W hb hsz hn
    have st := (vis_all w.heap.size (w.heap.size + 2) true ev (fun j W' => Nb w.heap.size (wrap64 j) W') (fun _ _ => False) (.func (.func 32) #[] #[.pointer (some ⟨w.heap.size, 0, none⟩)]) (.func (.func 33) #[] #[.pointer (some ⟨w.heap.size, 0, none⟩)]) (by omega)
      ⟨_, _, _, rfl, enters_of Tryz.func33 (by kernel_rfl) rfl⟩ ⟨_, _, _, rfl, enters_of Tryz.func32 (by kernel_rfl) rfl⟩ (fun j W1 W2 h hb => h.below hb) ?_ (rkB y + 1)).2 y (by omega) 0 (by rw [hev]; intro i hi; rw [Nat.zero_add]) W (hin.still (still_of hb (Nat.le_refl _)) (Nat.le_refl _)) hsz (by show Nb w.heap.size (wrap64 ((0 : Nat) : Int)) W; rw [show wrap64 ((0 : Nat) : Int) = 0 by exact wrap0]; exact hn)
    · rw [hev, Nat.zero_add, hlen] at st
      exact st
    · intro q e he W1 hsz1 hJ1
      have fin : ∀ e' W2, (e' = .returned (.bool true) ∧ Nb w.heap.size (wrap64 (wrap64 (q : Int) + 1)) W2 ∧ Kept w.heap.size (w.heap.size + 2) W1 W2) → RJ w.heap.size (w.heap.size + 2) (fun W' => Nb w.heap.size (wrap64 ((q + 1 : Nat) : Int)) W') (fun _ _ => False) W1 e' W2 := fun e' W2 ⟨h1, h2, h3⟩ => by
        subst h1
        rw [wrap_add] at h2
        exact .inl ⟨rfl, h2, h3⟩
      cases e with
      | st u i => exact ⟨_, _, _, rfl, enters_of Tryz.func32 (by kernel_rfl) rfl, (size1_any _ _ _ _ _ _ W1 hJ1 (Nat.le_refl _) (by omega)).mono fin⟩
      | ex x par => exact ⟨_, _, _, rfl, enters_of Tryz.func33 (by kernel_rfl) rfl, (size2_any _ _ _ _ _ _ W1 hJ1 (Nat.le_refl _) (by omega)).mono fin⟩
  clear hin hlen hev
  go_enter Tryz.func13, Tryz.ntmps13
  go_wp2_with (go_at_call 29; (with_reducible refine (HB.out _ ?_ ?_ ?_).mono ?_); (focus ((repeat' (first | (with_reducible exact Below.refl _ _) | (with_reducible assumption) | (with_reducible refine Below.alloc ?_ ?_ _) | (with_reducible refine below_drewN ?_ _) | (with_reducible refine Below.drew ?_) | (with_reducible refine Below.setCell ?_ ?_ _) | (with_reducible refine below_via (by assumption) ?_ ?_) | (with_reducible refine below_via (later_below _) ?_ ?_) | (with_reducible exact Nat.le_refl _) | omega | (simp; omega) | (simp; done))))); (focus (simp)); (focus (exact ⟨by simp [cell_alloc_if], by simp⟩)); rintro e w1 (⟨rfl, ⟨hn1, hn2⟩, hk1⟩ | ⟨-, hX⟩))
  · go_returns
    refine ⟨rfl, ?_⟩
    have h0 := hk1.below
    (repeat' (first | (with_reducible exact Below.refl _ _) | (with_reducible assumption) | (with_reducible refine Below.alloc ?_ ?_ _) | (with_reducible refine below_drewN ?_ _) | (with_reducible refine Below.drew ?_) | (with_reducible refine Below.setCell ?_ ?_ _) | (with_reducible refine below_via (by assumption) ?_ ?_) | (with_reducible refine below_via (later_below _) ?_ ?_) | (with_reducible exact Nat.le_refl _) | omega | (simp; omega) | (simp; done)))
end Go.Proofs.YtplphejillkdeaaGreatDoor
