/- The depth of a tree (as the machine's integers count it), and the program's Depth. -/
import Derived.Test.YtplphejillkdeaaGreatDoorMTrSz2
import Derived.Deep.RegionHeld3
namespace Go.Proofs.YtplphejillkdeaaGreatDoor
open Go.RowKit Go.Instr
set_option linter.unusedVariables false

mutual
/-- Depths: of an expression, the greatest of a list; of a block (one more than the greatest of its statements). -/
def dpX : TX → Int
  | ⟨_, _, _, _, _, _, _, _, args, _, _, funcs⟩ => wrap64 (1 + max (mxXs args) (mxFs funcs))
def mxXs : List TX → Int
  | [] => 0
  | x :: l => max (dpX x) (mxXs l)
def dpF : TF → Int
  | ⟨_, _, _, _, _, _, _, body, _⟩ => wrap64 (1 + mxSs body)
def mxFs : List TF → Int
  | [] => 0
  | x :: l => max (dpF x) (mxFs l)
def dpS : TS → Int
  | ⟨_, _, _, _, _, _, _, left, _, _, right, _, _, blocks, _⟩ => max (mxXs left) (max (mxXs right) (mxBs blocks))
def mxSs : List TS → Int
  | [] => 0
  | x :: l => max (dpS x) (mxSs l)
def dpB : TB → Int
  | ⟨_, _, l⟩ => wrap64 (1 + mxSs l)
def mxBs : List TB → Int
  | [] => 0
  | x :: l => max (dpB x) (mxBs l)
end
theorem dpX_eq (x : TX) : dpX x = wrap64 (1 + max (mxXs x.args) (mxFs x.funcs)) := by cases x; rfl
theorem dpF_eq (x : TF) : dpF x = wrap64 (1 + mxSs x.body) := by cases x; rfl
theorem dpS_eq (x : TS) : dpS x = max (mxXs x.left) (max (mxXs x.right) (mxBs x.blocks)) := by cases x; rfl
theorem dpB_eq (x : TB) : dpB x = wrap64 (1 + mxSs x.l) := by cases x; rfl
/-- The greatest, from 0 on. -/
def mx {α : Type} (f : α → Int) (l : List α) : Int := l.foldr (fun x m => max (f x) m) 0
theorem mx_app {α : Type} (f : α → Int) : ∀ l r : List α, mx f (l ++ r) = max (mx f l) (mx f r)
  | [], r => by
    have h : 0 ≤ mx f r := by
      induction r with
      | nil => exact Int.le_refl _
      | cons x r ih => show 0 ≤ max (f x) (mx f r); omega
    show mx f r = max 0 (mx f r)
    omega
  | x :: l, r => by
    show max (f x) (mx f (l ++ r)) = max (max (f x) (mx f l)) (mx f r)
    rw [mx_app f l r]; omega
theorem mx_pos {α : Type} (f : α → Int) : ∀ l : List α, 0 ≤ mx f l
  | [] => Int.le_refl _
  | x :: l => by
    have h := mx_pos f l
    show 0 ≤ max (f x) (mx f l)
    omega
theorem mx_succ {α : Type} {f : α → Int} {l : List α} {k : Nat} (h : k < l.length) : mx f (l.take (k + 1)) = max (mx f (l.take k)) (f l[k]) := by
  rw [List.take_succ_eq_append_getElem h, mx_app]
  have h0 := mx_pos f (l.take k)
  show max _ (max (f l[k]) 0) = _
  omega
theorem mx_map {α β : Type} (f : β → Int) (g : α → β) : ∀ l : List α, mx f (l.map g) = mx (fun x => f (g x)) l
  | [] => rfl
  | x :: l => by
    show max (f (g x)) (mx f (l.map g)) = max (f (g x)) (mx (fun x => f (g x)) l)
    rw [mx_map f g l]
theorem mxXs_mx : ∀ l, mxXs l = mx dpX l
  | [] => rfl
  | x :: l => by show max (dpX x) (mxXs l) = max (dpX x) (mx dpX l); rw [mxXs_mx l]
theorem mxFs_mx : ∀ l, mxFs l = mx dpF l
  | [] => rfl
  | x :: l => by show max (dpF x) (mxFs l) = max (dpF x) (mx dpF l); rw [mxFs_mx l]
theorem mxSs_mx : ∀ l, mxSs l = mx dpS l
  | [] => rfl
  | x :: l => by show max (dpS x) (mxSs l) = max (dpS x) (mx dpS l); rw [mxSs_mx l]
theorem mxBs_mx : ∀ l, mxBs l = mx dpB l
  | [] => rfl
  | x :: l => by show max (dpB x) (mxBs l) = max (dpB x) (mx dpB l); rw [mxBs_mx l]
/-- A part's depth. -/
def dpP (x : TX ⊕ TB) : Int :=
  match x with
  | .inl x => dpX x
  | .inr y => dpB y
theorem zipP_mx : ∀ (r : List TX) (b : List TB), mx dpP (zipP r b) = max (mx dpX r) (mx dpB b)
  | [], b => by
    have h := mx_pos dpB b
    show mx dpP (b.map _) = max 0 _
    rw [mx_map]
    show mx dpB b = _
    omega
  | x :: r, [] => by
    have h := mx_pos dpX (x :: r)
    show mx dpP ((x :: r).map _) = max _ 0
    rw [mx_map]
    show mx dpX (x :: r) = _
    omega
  | x :: r, y :: b => by
    show max (dpX x) (max (dpB y) (mx dpP (zipP r b))) = max (max (dpX x) (mx dpX r)) (max (dpB y) (mx dpB b))
    rw [zipP_mx r b]
    omega
theorem partsS_mx (s : TS) : mx dpP (partsS s) = dpS s := by
  have e1 : ∀ l : List TX, mx dpP (l.map .inl) = mx dpX l := fun l => mx_map _ _ l
  have e2 : ∀ l : List TB, mx dpP (l.map .inr) = mx dpB l := fun l => mx_map _ _ l
  rw [dpS_eq, mxXs_mx, mxXs_mx, mxBs_mx]
  unfold partsS
  rw [mx_app, e1]
  split
  · rw [mx_app, e1, e2]; omega
  · split
    · rw [zipP_mx]
    · rw [mx_app, e1, e2]

/-- What depthExpr and Depth answer. -/
abbrev DepX (n : Nat) : Prop := ∀ (x : TX), rkX x < n → ∀ w, InX w w.heap.size x → Calls Tryz.prog 36 #[x.v] w fun e w' => e = .returned (.int .i64 (dpX x)) ∧ Below w.heap.size w w'
abbrev DepB (n : Nat) : Prop := ∀ (y : TB), rkB y < n → ∀ w, InB w w.heap.size y → Calls Tryz.prog 14 #[y.v] w fun e w' => e = .returned (.int .i64 (dpB y)) ∧ Below w.heap.size w w'

set_option maxHeartbeats 3200000 in
set_option maxRecDepth 100000 in
theorem dep1_any (n : Nat) (hX : DepX n) (x : TX) (hrk : rkX x < n) (a b nb : Nat) (v : Int) (w : World) (h : Nb nb v w) (h1 : a ≤ nb) (h2 : nb < b) (hin : InX w w.heap.size x) : Calls Tryz.prog 35 #[x.v, .pointer (some ⟨nb, 0, none⟩)] w fun e w' => e = .returned (.bool true) ∧ Nb nb (max v (dpX x)) w' ∧ Kept a b w w' := by
  have hb := h
  obtain ⟨c1, c2⟩ := h
  have hn := cell_lt c1
  obtain ⟨D, hD⟩ : ∃ D, dpX x = D := ⟨_, rfl⟩
  have HC : Hid (∀ W, Below w.heap.size w W → Calls Tryz.prog 36 #[x.v] W fun e w' => e = .returned (.int .i64 D) ∧ Below W.heap.size W w') := fun W hW => hD ▸ hX x hrk W (hin.still (still_of hW (Nat.le_refl _)) hW.size)
  rw [hD]
  clear hin hD
  by_cases hvd : v < D
  · rw [show max v D = D by omega]
    go_enter Tryz.func35, Tryz.ntmps35
    go_wp2_with fail
    go_region_with (first | (go_at_call 36; (with_reducible refine (HC.out _ ?_).mono ?_); (focus ((repeat' (first | (with_reducible exact Below.refl _ _) | (with_reducible assumption) | (with_reducible refine Below.alloc ?_ ?_ _) | (with_reducible refine below_drewN ?_ _) | (with_reducible refine Below.drew ?_) | (with_reducible refine Below.setCell ?_ ?_ _) | (with_reducible refine below_via (by assumption) ?_ ?_) | (with_reducible refine below_via (later_below _) ?_ ?_) | (with_reducible exact Nat.le_refl _) | omega | (simp; omega) | (simp; done))))); rintro e w2 ⟨rfl, hb2⟩; have hz2 := hb2.size; (try simp at hz2); have k1 := (hb2.cell (p := ⟨nb, 0, none⟩) (by simp; omega)); have k2 := (hb2.frozen (p := ⟨nb, 0, none⟩) (by simp; omega)); (try simp [cell_alloc_if] at k1 k2)))
    all_goals
      have HB2 : Below w.heap.size w w2 := by (repeat' (first | (with_reducible exact Below.refl _ _) | (with_reducible assumption) | (with_reducible refine Below.alloc ?_ ?_ _) | (with_reducible refine below_drewN ?_ _) | (with_reducible refine Below.drew ?_) | (with_reducible refine Below.setCell ?_ ?_ _) | (with_reducible refine below_via (by assumption) ?_ ?_) | (with_reducible refine below_via (later_below _) ?_ ?_) | (with_reducible exact Nat.le_refl _) | omega | (simp; omega) | (simp; done)))
      go_wp2_with fail
      ((try simp only [Exit.inBlock, Exit.then]); refine bodyPost_ret (by first | (simp [results, Tryz.results35, go_sem, *]; done) | (simp [results, Tryz.results35, go_sem, *]; rfl) | (simp [results, Tryz.results35, go_sem, ↓IntWalk.iteOmega, *]; try rfl)) rfl ?_)
      exact ⟨rfl, (hb.below HB2).set, (kept_of HB2 (by omega)).trans (kept_set _ _ h1 h2)⟩
  · rw [show max v D = v by omega]
    go_enter Tryz.func35, Tryz.ntmps35
    go_wp2_with fail
    go_region_with (first | (go_at_call 36; (with_reducible refine (HC.out _ ?_).mono ?_); (focus ((repeat' (first | (with_reducible exact Below.refl _ _) | (with_reducible assumption) | (with_reducible refine Below.alloc ?_ ?_ _) | (with_reducible refine below_drewN ?_ _) | (with_reducible refine Below.drew ?_) | (with_reducible refine Below.setCell ?_ ?_ _) | (with_reducible refine below_via (by assumption) ?_ ?_) | (with_reducible refine below_via (later_below _) ?_ ?_) | (with_reducible exact Nat.le_refl _) | omega | (simp; omega) | (simp; done))))); rintro e w2 ⟨rfl, hb2⟩; have hz2 := hb2.size; (try simp at hz2); have k1 := (hb2.cell (p := ⟨nb, 0, none⟩) (by simp; omega)); have k2 := (hb2.frozen (p := ⟨nb, 0, none⟩) (by simp; omega)); (try simp [cell_alloc_if] at k1 k2)))
    all_goals
      have HB2 : Below w.heap.size w w2 := by (repeat' (first | (with_reducible exact Below.refl _ _) | (with_reducible assumption) | (with_reducible refine Below.alloc ?_ ?_ _) | (with_reducible refine below_drewN ?_ _) | (with_reducible refine Below.drew ?_) | (with_reducible refine Below.setCell ?_ ?_ _) | (with_reducible refine below_via (by assumption) ?_ ?_) | (with_reducible refine below_via (later_below _) ?_ ?_) | (with_reducible exact Nat.le_refl _) | omega | (simp; omega) | (simp; done)))
      go_wp2_with fail
      ((try simp only [Exit.inBlock, Exit.then]); refine bodyPost_ret (by first | (simp [results, Tryz.results35, go_sem, *]; done) | (simp [results, Tryz.results35, go_sem, *]; rfl) | (simp [results, Tryz.results35, go_sem, ↓IntWalk.iteOmega, *]; try rfl)) rfl ?_)
      exact ⟨rfl, (hb.below HB2).set, (kept_of HB2 (by omega)).trans (kept_set _ _ h1 h2)⟩

set_option maxHeartbeats 3200000 in
set_option maxRecDepth 100000 in
theorem dep2_any (n : Nat) (hB : DepB n) (y : TB) (hrk : rkB y < n) (a b nb : Nat) (v : Int) (w : World) (h : Nb nb v w) (h1 : a ≤ nb) (h2 : nb < b) (hin : InB w w.heap.size y) : Calls Tryz.prog 37 #[y.v, .pointer (some ⟨nb, 0, none⟩)] w fun e w' => e = .returned (.bool true) ∧ Nb nb (max v (dpB y)) w' ∧ Kept a b w w' := by
  have hb := h
  obtain ⟨c1, c2⟩ := h
  have hn := cell_lt c1
  obtain ⟨D, hD⟩ : ∃ D, dpB y = D := ⟨_, rfl⟩
  have HC : Hid (∀ W, Below w.heap.size w W → Calls Tryz.prog 14 #[y.v] W fun e w' => e = .returned (.int .i64 D) ∧ Below W.heap.size W w') := fun W hW => hD ▸ hB y hrk W (hin.still (still_of hW (Nat.le_refl _)) hW.size)
  rw [hD]
  clear hin hD
  by_cases hvd : v < D
  · rw [show max v D = D by omega]
    go_enter Tryz.func37, Tryz.ntmps37
    go_wp2_with fail
    go_region_with (first | (go_at_call 14; (with_reducible refine (HC.out _ ?_).mono ?_); (focus ((repeat' (first | (with_reducible exact Below.refl _ _) | (with_reducible assumption) | (with_reducible refine Below.alloc ?_ ?_ _) | (with_reducible refine below_drewN ?_ _) | (with_reducible refine Below.drew ?_) | (with_reducible refine Below.setCell ?_ ?_ _) | (with_reducible refine below_via (by assumption) ?_ ?_) | (with_reducible refine below_via (later_below _) ?_ ?_) | (with_reducible exact Nat.le_refl _) | omega | (simp; omega) | (simp; done))))); rintro e w2 ⟨rfl, hb2⟩; have hz2 := hb2.size; (try simp at hz2); have k1 := (hb2.cell (p := ⟨nb, 0, none⟩) (by simp; omega)); have k2 := (hb2.frozen (p := ⟨nb, 0, none⟩) (by simp; omega)); (try simp at k1 k2)))
    all_goals
      have HB2 : Below w.heap.size w w2 := by (repeat' (first | (with_reducible exact Below.refl _ _) | (with_reducible assumption) | (with_reducible refine Below.alloc ?_ ?_ _) | (with_reducible refine below_drewN ?_ _) | (with_reducible refine Below.drew ?_) | (with_reducible refine Below.setCell ?_ ?_ _) | (with_reducible refine below_via (by assumption) ?_ ?_) | (with_reducible refine below_via (later_below _) ?_ ?_) | (with_reducible exact Nat.le_refl _) | omega | (simp; omega) | (simp; done)))
      go_wp2_with fail
      ((try simp only [Exit.inBlock, Exit.then]); refine bodyPost_ret (by first | (simp [results, Tryz.results37, go_sem, *]; done) | (simp [results, Tryz.results37, go_sem, *]; rfl) | (simp [results, Tryz.results37, go_sem, ↓IntWalk.iteOmega, *]; try rfl)) rfl ?_)
      exact ⟨rfl, (hb.below HB2).set, (kept_of HB2 (by omega)).trans (kept_set _ _ h1 h2)⟩
  · rw [show max v D = v by omega]
    go_enter Tryz.func37, Tryz.ntmps37
    go_wp2_with fail
    go_region_with (first | (go_at_call 14; (with_reducible refine (HC.out _ ?_).mono ?_); (focus ((repeat' (first | (with_reducible exact Below.refl _ _) | (with_reducible assumption) | (with_reducible refine Below.alloc ?_ ?_ _) | (with_reducible refine below_drewN ?_ _) | (with_reducible refine Below.drew ?_) | (with_reducible refine Below.setCell ?_ ?_ _) | (with_reducible refine below_via (by assumption) ?_ ?_) | (with_reducible refine below_via (later_below _) ?_ ?_) | (with_reducible exact Nat.le_refl _) | omega | (simp; omega) | (simp; done))))); rintro e w2 ⟨rfl, hb2⟩; have hz2 := hb2.size; (try simp at hz2); have k1 := (hb2.cell (p := ⟨nb, 0, none⟩) (by simp; omega)); have k2 := (hb2.frozen (p := ⟨nb, 0, none⟩) (by simp; omega)); (try simp at k1 k2)))
    all_goals
      have HB2 : Below w.heap.size w w2 := by (repeat' (first | (with_reducible exact Below.refl _ _) | (with_reducible assumption) | (with_reducible refine Below.alloc ?_ ?_ _) | (with_reducible refine below_drewN ?_ _) | (with_reducible refine Below.drew ?_) | (with_reducible refine Below.setCell ?_ ?_ _) | (with_reducible refine below_via (by assumption) ?_ ?_) | (with_reducible refine below_via (later_below _) ?_ ?_) | (with_reducible exact Nat.le_refl _) | omega | (simp; omega) | (simp; done)))
      go_wp2_with fail
      ((try simp only [Exit.inBlock, Exit.then]); refine bodyPost_ret (by first | (simp [results, Tryz.results37, go_sem, *]; done) | (simp [results, Tryz.results37, go_sem, *]; rfl) | (simp [results, Tryz.results37, go_sem, ↓IntWalk.iteOmega, *]; try rfl)) rfl ?_)
      exact ⟨rfl, (hb.below HB2).set, (kept_of HB2 (by omega)).trans (kept_set _ _ h1 h2)⟩
end Go.Proofs.YtplphejillkdeaaGreatDoor

/- The program's depthExpr and Depth. -/
namespace Go.Proofs.YtplphejillkdeaaGreatDoor
open Go.RowKit Go.Instr
set_option linter.unusedVariables false

theorem part_ok {a n : Nat} {W : World} {s : TS} (hin : InS W a s) (hrk : rkS s ≤ n) : ∀ (j : Nat) (x : TX ⊕ TB), (partsS s)[j]? = some x → PartOk a n W x := by
  intro j x hx
  have hm : x ∈ partsS s := List.mem_of_getElem? hx
  rw [rkS_eq] at hrk
  have hl := hin.lf.2.2
  have hr := hin.rt.2.2
  have hb := hin.bs.2.2
  have gx : ∀ y, y ∈ s.left ∨ y ∈ s.right → InX W a y ∧ rkX y < n := fun y hy => by
    rcases hy with hy | hy
    · exact ⟨(inXs_iff _).1 hl y hy, by have := rkXs_mem hy; omega⟩
    · exact ⟨(inXs_iff _).1 hr y hy, by have := rkXs_mem hy; omega⟩
  have gb : ∀ y, y ∈ s.blocks → InB W a y ∧ rkB y < n := fun y hy => ⟨(inBs_iff _).1 hb y hy, by have := rkBs_mem hy; omega⟩
  have hz : ∀ (r : List TX) (l : List TB) z, z ∈ zipP r l → (∃ y ∈ r, z = .inl y) ∨ ∃ y ∈ l, z = .inr y := by
    intro r
    induction r with
    | nil => intro l z hz; obtain ⟨y, hy, rfl⟩ := List.mem_map.1 hz; exact .inr ⟨y, hy, rfl⟩
    | cons u r ih =>
      intro l z hz
      cases l with
      | nil => obtain ⟨y, hy, rfl⟩ := List.mem_map.1 hz; exact .inl ⟨y, hy, rfl⟩
      | cons v l =>
        rcases List.mem_cons.1 hz with rfl | hz
        · exact .inl ⟨u, List.mem_cons_self, rfl⟩
        · rcases List.mem_cons.1 hz with rfl | hz
          · exact .inr ⟨v, List.mem_cons_self, rfl⟩
          · rcases ih l z hz with ⟨y, hy, e⟩ | ⟨y, hy, e⟩
            · exact .inl ⟨y, List.mem_cons_of_mem _ hy, e⟩
            · exact .inr ⟨y, List.mem_cons_of_mem _ hy, e⟩
  have all' : (∃ y, (y ∈ s.left ∨ y ∈ s.right) ∧ x = .inl y) ∨ ∃ y ∈ s.blocks, x = .inr y := by
    unfold partsS at hm
    rcases List.mem_append.1 hm with hm | hm
    · obtain ⟨y, hy, rfl⟩ := List.mem_map.1 hm; exact .inl ⟨y, .inl hy, rfl⟩
    · split at hm
      · rcases List.mem_append.1 hm with hm | hm
        · obtain ⟨y, hy, rfl⟩ := List.mem_map.1 hm; exact .inr ⟨y, hy, rfl⟩
        · obtain ⟨y, hy, rfl⟩ := List.mem_map.1 hm; exact .inl ⟨y, .inr hy, rfl⟩
      · split at hm
        · rcases hz _ _ _ hm with ⟨y, hy, rfl⟩ | ⟨y, hy, rfl⟩
          · exact .inl ⟨y, .inr hy, rfl⟩
          · exact .inr ⟨y, hy, rfl⟩
        · rcases List.mem_append.1 hm with hm | hm
          · obtain ⟨y, hy, rfl⟩ := List.mem_map.1 hm; exact .inl ⟨y, .inr hy, rfl⟩
          · obtain ⟨y, hy, rfl⟩ := List.mem_map.1 hm; exact .inr ⟨y, hy, rfl⟩
  rcases all' with ⟨y, hy, rfl⟩ | ⟨y, hy, rfl⟩
  · exact gx y hy
  · exact gb y hy
/-- An expression's cells in a block of its own. -/
def X8n (n : Nat) (x : TX) (W : World) : Prop := W.cell? ⟨n, 0, none⟩ = some (.int .i64 x.k) ∧ W.cell? ⟨n, 1, none⟩ = some (.int .i64 x.op) ∧ W.cell? ⟨n, 2, none⟩ = some (.int .i64 x.ln) ∧ W.cell? ⟨n, 3, none⟩ = some (.int .i64 x.p) ∧ W.cell? ⟨n, 4, none⟩ = some (.int .i64 x.q) ∧ W.cell? ⟨n, 5, none⟩ = some (.string x.s) ∧ W.cell? ⟨n, 6, none⟩ = some (.slice x.aA x.args.length x.aC) ∧ W.cell? ⟨n, 7, none⟩ = some (.slice x.fA x.funcs.length x.fC)
theorem X8n.kept {a b n : Nat} {x : TX} {W W' : World} (h : X8n n x W) (k : Kept a b W W') (hb : b ≤ n) : X8n n x W' := by
  obtain ⟨h0, h1, h2, h3, h4, h5, h6, h7⟩ := h
  exact ⟨k.cell h0 h0 hb, k.cell h0 h1 hb, k.cell h0 h2 hb, k.cell h0 h3 hb, k.cell h0 h4 hb, k.cell h0 h5 hb, k.cell h0 h6 hb, k.cell h0 h7 hb⟩
theorem X8n.new (x : TX) (w : World) (t1 : TypeId) : X8n w.heap.size x (w.alloc (.cells #[.int .i64 x.k, .int .i64 x.op, .int .i64 x.ln, .int .i64 x.p, .int .i64 x.q, .string x.s, .slice x.aA x.args.length x.aC, .slice x.fA x.funcs.length x.fC] t1)) := by
  unfold X8n
  simp [cell_alloc_if]

set_option maxHeartbeats 3200000 in
set_option maxRecDepth 100000 in
theorem depX_step (n : Nat) (hX : DepX n) (hB : DepB n) : DepX (n + 1) := by
  intro x hrk w hin
  rw [rkX_eq] at hrk
  have HIN := Lib.hid hin
  have HA : Hid (∀ k (h : k < x.args.length) W, Below w.heap.size w W → Calls Tryz.prog 36 #[(x.args[k]).v] W fun e w' => e = .returned (.int .i64 (dpX x.args[k])) ∧ Below W.heap.size W w') := fun k h W hW => hX _ (by have := rkXs_mem (List.getElem_mem h); omega) W (((inXs_iff _).1 hin.xs.2.2 _ (List.getElem_mem h)).still (still_of hW (Nat.le_refl _)) hW.size)
  have HF : Hid (∀ k (h : k < x.funcs.length) W, Below w.heap.size w W → Calls Tryz.prog 14 #[.slice (x.funcs[k]).bA (x.funcs[k]).body.length (x.funcs[k]).bC] W fun e w' => e = .returned (.int .i64 (dpF x.funcs[k])) ∧ Below W.heap.size W w') := fun k h W hW => by
    have hf := ((inFs_iff _).1 hin.fs.2.2 _ (List.getElem_mem h)).still (still_of hW (Nat.le_refl _)) hW.size
    have := hB ⟨(x.funcs[k]).bA, (x.funcs[k]).bC, (x.funcs[k]).body⟩ (by have := rkFs_mem (List.getElem_mem h); rw [rkF_eq] at this; rw [rkB_eq]; dsimp only; omega) W ((inB_iff _).2 ⟨⟨hf.ss.1, hf.ss.2.1⟩, hf.ss.2.2⟩)
    rw [dpB_eq] at this
    rw [dpF_eq]
    exact this
  obtain ⟨i1, i2, -⟩ := hin.xs.1
  obtain ⟨i3, i4, -⟩ := hin.fs.1
  have hnA : (x.args.length : Int) ≤ 9223372036854775807 := by omega
  have hnF : (x.funcs.length : Int) ≤ 9223372036854775807 := by omega
  have HD : Hid (dpX x = wrap64 (1 + max (mx dpX x.args) (mx dpF x.funcs))) := by show _ = _; rw [dpX_eq, mxXs_mx, mxFs_mx]
  obtain ⟨D, hD⟩ : ∃ D, dpX x = D := ⟨_, rfl⟩
  rw [hD] at HD ⊢
  clear hin hX hB hrk hD
  obtain ⟨uA, huA⟩ : ∃ v, x.aA = v := ⟨_, rfl⟩
  obtain ⟨uF, huF⟩ : ∃ v, x.fA = v := ⟨_, rfl⟩
  have HV0 := Lib.hid (X8n.new x w 30)
  go_enter Tryz.func36, Tryz.ntmps36
  go_wp2_with fail
  go_loopw [3, 11] (fun u i wr => ∃ (k : Nat) (m : Int), k ≤ x.args.length ∧ u = .int .i64 m ∧ i = .int .i64 k ∧ Hid (m = mx dpX (x.args.take k)) ∧ Hid (Below w.heap.size w wr) ∧ Hid (X8n w.heap.size x wr)) (fun _ i _ => x.args.length - (intOf i).toNat)
  case atStart => exact ⟨0, 0, Nat.zero_le _, rfl, rfl, rfl, by show Below _ _ _; (repeat' (first | (with_reducible exact Below.refl _ _) | (with_reducible assumption) | (with_reducible refine Below.alloc ?_ ?_ _) | (with_reducible refine below_drewN ?_ _) | (with_reducible refine Below.drew ?_) | (with_reducible refine Below.setCell ?_ ?_ _) | (with_reducible refine below_via (by assumption) ?_ ?_) | (with_reducible refine below_via (later_below _) ?_ ?_) | (with_reducible exact Nat.le_refl _) | omega | (simp; omega) | (simp; done))), (by rw [← huA, ← huF]; exact HV0.out)⟩
  case round =>
    obtain ⟨k, m, hk, rfl, rfl, HM, HE, HV⟩ := hrel
    obtain ⟨e0, e1, e2, e3, e4, e5, e6, e7⟩ := HV.out
    have hzr := cell_lt e7
    by_cases hlt : k < x.args.length
    · obtain ⟨b1, o, haA, hb, hc, -⟩ := (HIN.out.xs.still (still_of HE.out (Nat.le_refl _)) (Nat.le_refl _)).at_ hlt
      rw [huA] at haA
      subst haA
      rw [huA] at e6
      have hm := mx_succ (f := dpX) hlt
      obtain ⟨y, hy⟩ : ∃ y, x.args[k] = y := ⟨_, rfl⟩
      have HAk := Lib.hid (fun W => hy ▸ HA.out k hlt W)
      rw [hy] at hc hm
      obtain ⟨d, hd⟩ : ∃ d, dpX y = d := ⟨_, rfl⟩
      rw [hd] at HAk hm
      have HM1 := Lib.hid hm
      obtain ⟨c0, c1, c2, c3, c4, c5, c6, c7⟩ := hc
      have hbl := cell_lt c0
      clear hy hd hm
      by_cases hmd : m < d
      · go_wp2_with (go_at_call 36; (with_reducible refine (HAk.out _ ?_).mono ?_); (focus (have h0 := HE.out; (repeat' (first | (with_reducible exact Below.refl _ _) | (with_reducible assumption) | (with_reducible refine Below.alloc ?_ ?_ _) | (with_reducible refine below_drewN ?_ _) | (with_reducible refine Below.drew ?_) | (with_reducible refine Below.setCell ?_ ?_ _) | (with_reducible refine below_via (by assumption) ?_ ?_) | (with_reducible refine below_via (later_below _) ?_ ?_) | (with_reducible exact Nat.le_refl _) | omega | (simp; omega) | (simp; done))))); rintro e w2 ⟨rfl, hb2⟩)
        have hk3 : Kept 0 0 wr w2 := (kept_of (by (repeat' (first | (with_reducible exact Below.refl _ _) | (with_reducible assumption) | (with_reducible refine Below.alloc ?_ ?_ _) | (with_reducible refine below_drewN ?_ _) | (with_reducible refine Below.drew ?_) | (with_reducible refine Below.setCell ?_ ?_ _) | (with_reducible refine below_via (by assumption) ?_ ?_) | (with_reducible refine below_via (later_below _) ?_ ?_) | (with_reducible exact Nat.le_refl _) | omega | (simp; omega) | (simp; done)))) (Nat.zero_le _)).trans (kept_of hb2 (Nat.zero_le _))
        refine ⟨⟨k + 1, d, by omega, rfl, by go_num, ?_, ?_, HV.out.kept hk3 (Nat.zero_le _)⟩, by simp [intOf]; omega⟩
        · show d = _; have h1 := HM.out; rw [HM1.out, ← h1]; omega
        · show Below _ _ _; have h0 := HE.out; (repeat' (first | (with_reducible exact Below.refl _ _) | (with_reducible assumption) | (with_reducible refine Below.alloc ?_ ?_ _) | (with_reducible refine below_drewN ?_ _) | (with_reducible refine Below.drew ?_) | (with_reducible refine Below.setCell ?_ ?_ _) | (with_reducible refine below_via (by assumption) ?_ ?_) | (with_reducible refine below_via (later_below _) ?_ ?_) | (with_reducible exact Nat.le_refl _) | omega | (simp; omega) | (simp; done)))
      · go_wp2_with (go_at_call 36; (with_reducible refine (HAk.out _ ?_).mono ?_); (focus (have h0 := HE.out; (repeat' (first | (with_reducible exact Below.refl _ _) | (with_reducible assumption) | (with_reducible refine Below.alloc ?_ ?_ _) | (with_reducible refine below_drewN ?_ _) | (with_reducible refine Below.drew ?_) | (with_reducible refine Below.setCell ?_ ?_ _) | (with_reducible refine below_via (by assumption) ?_ ?_) | (with_reducible refine below_via (later_below _) ?_ ?_) | (with_reducible exact Nat.le_refl _) | omega | (simp; omega) | (simp; done))))); rintro e w2 ⟨rfl, hb2⟩)
        have hk3 : Kept 0 0 wr w2 := (kept_of (by (repeat' (first | (with_reducible exact Below.refl _ _) | (with_reducible assumption) | (with_reducible refine Below.alloc ?_ ?_ _) | (with_reducible refine below_drewN ?_ _) | (with_reducible refine Below.drew ?_) | (with_reducible refine Below.setCell ?_ ?_ _) | (with_reducible refine below_via (by assumption) ?_ ?_) | (with_reducible refine below_via (later_below _) ?_ ?_) | (with_reducible exact Nat.le_refl _) | omega | (simp; omega) | (simp; done)))) (Nat.zero_le _)).trans (kept_of hb2 (Nat.zero_le _))
        refine ⟨⟨k + 1, m, by omega, rfl, by go_num, ?_, ?_, HV.out.kept hk3 (Nat.zero_le _)⟩, by simp [intOf]; omega⟩
        · show m = _; have h1 := HM.out; rw [HM1.out, ← h1]; omega
        · show Below _ _ _; have h0 := HE.out; (repeat' (first | (with_reducible exact Below.refl _ _) | (with_reducible assumption) | (with_reducible refine Below.alloc ?_ ?_ _) | (with_reducible refine below_drewN ?_ _) | (with_reducible refine Below.drew ?_) | (with_reducible refine Below.setCell ?_ ?_ _) | (with_reducible refine below_via (by assumption) ?_ ?_) | (with_reducible refine below_via (later_below _) ?_ ?_) | (with_reducible exact Nat.le_refl _) | omega | (simp; omega) | (simp; done)))
    · obtain rfl : k = x.args.length := by omega
      rw [List.take_length] at HM
      go_wp2_with fail
      go_loopw [3, 23] (fun u i wr => ∃ (k : Nat) (m2 : Int), k ≤ x.funcs.length ∧ u = .int .i64 m2 ∧ i = .int .i64 k ∧ Hid (m2 = max m (mx dpF (x.funcs.take k))) ∧ Hid (Below w.heap.size w wr) ∧ Hid (X8n w.heap.size x wr)) (fun _ i _ => x.funcs.length - (intOf i).toNat)
      case atStart =>
        refine ⟨0, m, Nat.zero_le _, rfl, rfl, ?_, HE.out, HV.out⟩
        have h1 := HM.out
        have h2 := mx_pos dpX x.args
        show m = max m 0
        omega
      case round =>
        clear e0 e1 e2 e3 e4 e5 e6 e7 hzr
        obtain ⟨j, m2, hj, rfl, rfl, HM2, HE, HV⟩ := hrel
        obtain ⟨e0, e1, e2, e3, e4, e5, e6, e7⟩ := HV.out
        have hzr := cell_lt e7
        by_cases hlt : j < x.funcs.length
        · obtain ⟨b1, o, haF, hb, hc, -⟩ := (HIN.out.fs.still (still_of HE.out (Nat.le_refl _)) (Nat.le_refl _)).at_ hlt
          rw [huF] at haF
          subst haF
          rw [huF] at e7
          have hm := mx_succ (f := dpF) hlt
          obtain ⟨y, hy⟩ : ∃ y, x.funcs[j] = y := ⟨_, rfl⟩
          have HFk := Lib.hid (fun W => hy ▸ HF.out j hlt W)
          rw [hy] at hc hm
          obtain ⟨d, hd⟩ : ∃ d, dpF y = d := ⟨_, rfl⟩
          rw [hd] at HFk hm
          have HM1 := Lib.hid hm
          obtain ⟨c0, c1, c2, c3, c4⟩ := hc
          have hbl := cell_lt c0
          clear hy hd hm
          by_cases hmd : m2 < d
          · go_wp2_with (go_at_call 14; (with_reducible refine (HFk.out _ ?_).mono ?_); (focus (have h0 := HE.out; (repeat' (first | (with_reducible exact Below.refl _ _) | (with_reducible assumption) | (with_reducible refine Below.alloc ?_ ?_ _) | (with_reducible refine below_drewN ?_ _) | (with_reducible refine Below.drew ?_) | (with_reducible refine Below.setCell ?_ ?_ _) | (with_reducible refine below_via (by assumption) ?_ ?_) | (with_reducible refine below_via (later_below _) ?_ ?_) | (with_reducible exact Nat.le_refl _) | omega | (simp; omega) | (simp; done))))); rintro e w2 ⟨rfl, hb2⟩)
            have hk3 : Kept 0 0 wr w2 := (kept_of (by (repeat' (first | (with_reducible exact Below.refl _ _) | (with_reducible assumption) | (with_reducible refine Below.alloc ?_ ?_ _) | (with_reducible refine below_drewN ?_ _) | (with_reducible refine Below.drew ?_) | (with_reducible refine Below.setCell ?_ ?_ _) | (with_reducible refine below_via (by assumption) ?_ ?_) | (with_reducible refine below_via (later_below _) ?_ ?_) | (with_reducible exact Nat.le_refl _) | omega | (simp; omega) | (simp; done)))) (Nat.zero_le _)).trans (kept_of hb2 (Nat.zero_le _))
            refine ⟨⟨j + 1, d, by omega, rfl, by go_num, ?_, ?_, HV.out.kept hk3 (Nat.zero_le _)⟩, by simp [intOf]; omega⟩
            · show d = _; have h1 := HM2.out; rw [HM1.out]; omega
            · show Below _ _ _; have h0 := HE.out; (repeat' (first | (with_reducible exact Below.refl _ _) | (with_reducible assumption) | (with_reducible refine Below.alloc ?_ ?_ _) | (with_reducible refine below_drewN ?_ _) | (with_reducible refine Below.drew ?_) | (with_reducible refine Below.setCell ?_ ?_ _) | (with_reducible refine below_via (by assumption) ?_ ?_) | (with_reducible refine below_via (later_below _) ?_ ?_) | (with_reducible exact Nat.le_refl _) | omega | (simp; omega) | (simp; done)))
          · go_wp2_with (go_at_call 14; (with_reducible refine (HFk.out _ ?_).mono ?_); (focus (have h0 := HE.out; (repeat' (first | (with_reducible exact Below.refl _ _) | (with_reducible assumption) | (with_reducible refine Below.alloc ?_ ?_ _) | (with_reducible refine below_drewN ?_ _) | (with_reducible refine Below.drew ?_) | (with_reducible refine Below.setCell ?_ ?_ _) | (with_reducible refine below_via (by assumption) ?_ ?_) | (with_reducible refine below_via (later_below _) ?_ ?_) | (with_reducible exact Nat.le_refl _) | omega | (simp; omega) | (simp; done))))); rintro e w2 ⟨rfl, hb2⟩)
            have hk3 : Kept 0 0 wr w2 := (kept_of (by (repeat' (first | (with_reducible exact Below.refl _ _) | (with_reducible assumption) | (with_reducible refine Below.alloc ?_ ?_ _) | (with_reducible refine below_drewN ?_ _) | (with_reducible refine Below.drew ?_) | (with_reducible refine Below.setCell ?_ ?_ _) | (with_reducible refine below_via (by assumption) ?_ ?_) | (with_reducible refine below_via (later_below _) ?_ ?_) | (with_reducible exact Nat.le_refl _) | omega | (simp; omega) | (simp; done)))) (Nat.zero_le _)).trans (kept_of hb2 (Nat.zero_le _))
            refine ⟨⟨j + 1, m2, by omega, rfl, by go_num, ?_, ?_, HV.out.kept hk3 (Nat.zero_le _)⟩, by simp [intOf]; omega⟩
            · show m2 = _; have h1 := HM2.out; rw [HM1.out]; omega
            · show Below _ _ _; have h0 := HE.out; (repeat' (first | (with_reducible exact Below.refl _ _) | (with_reducible assumption) | (with_reducible refine Below.alloc ?_ ?_ _) | (with_reducible refine below_drewN ?_ _) | (with_reducible refine Below.drew ?_) | (with_reducible refine Below.setCell ?_ ?_ _) | (with_reducible refine below_via (by assumption) ?_ ?_) | (with_reducible refine below_via (later_below _) ?_ ?_) | (with_reducible exact Nat.le_refl _) | omega | (simp; omega) | (simp; done)))
        · obtain rfl : j = x.funcs.length := by omega
          rw [List.take_length] at HM2
          go_wp2_with fail
          go_returns
          refine ⟨?_, HE.out⟩
          have e : D = wrap64 (1 + m2) := by rw [HD.out, ← HM.out, ← HM2.out]
          rw [e]
          rfl

set_option maxHeartbeats 3200000 in
set_option maxRecDepth 100000 in
theorem depB_step (n : Nat) (hX : DepX n) (hB : DepB n) : DepB (n + 1) := by
  intro y hrk w hin
  rw [rkB_eq] at hrk
  have HIN := Lib.hid hin
  -- the parts of statement k, from a world in which the box holds v
  have HS : Hid (∀ k (h : k < y.l.length) (v : Int) W, 0 ≤ v → Below w.heap.size w W → Nb w.heap.size v W → Calls Tryz.prog 34 #[(y.l[k]).v, .func (.func 35) #[] #[.pointer (some ⟨w.heap.size, 0, none⟩)], .func (.func 37) #[] #[.pointer (some ⟨w.heap.size, 0, none⟩)]] W (RJ w.heap.size (w.heap.size + 1) (fun W' => Nb w.heap.size (max v (dpS y.l[k])) W') (fun _ _ => False) W)) := by
    intro k h v W hv hbW hn
    have hs := (inSs_iff _).1 hin.ss.2.2 _ (List.getElem_mem h)
    have hr : rkS y.l[k] ≤ n := by have := rkSs_mem (List.getElem_mem h); omega
    obtain ⟨s, hse⟩ : ∃ s, y.l[k] = s := ⟨_, rfl⟩
    rw [hse] at hs hr ⊢
    have hnl := cell_lt hn.1
    have key := stats_any w.heap.size (w.heap.size + 1) 0 (fun j W' => Nb w.heap.size (max v (mx dpP ((partsS s).take j))) W' ∧ Below w.heap.size w W' ∧ w.heap.size + 1 ≤ W'.heap.size) (fun _ _ => False) (.func (.func 35) #[] #[.pointer (some ⟨w.heap.size, 0, none⟩)]) (.func (.func 37) #[] #[.pointer (some ⟨w.heap.size, 0, none⟩)]) s W (hs.still (still_of hbW (Nat.le_refl _)) (Nat.le_refl _)) (by omega) (by omega)
      ⟨_, _, _, rfl, enters_of Tryz.func35 (by kernel_rfl) rfl⟩ ⟨_, _, _, rfl, enters_of Tryz.func37 (by kernel_rfl) rfl⟩
      (fun j W1 W2 h hb => ⟨h.1.below hb, h.2.1.trans (hb.mono h.2.1.size), Nat.le_trans h.2.2 hb.size⟩) ?_ ⟨by rw [List.take_zero]; show Nb _ (max v 0) W; rw [show max v 0 = v by omega]; exact hn, hbW, by omega⟩
    · refine key.mono fun e w' h => ?_
      rcases h with ⟨he, ⟨hT, -⟩, hk⟩ | h
      · refine .inl ⟨he, ?_, hk⟩
        rw [Nat.zero_add, List.take_length, partsS_mx] at hT
        exact hT
      · exact .inr h
    · intro j x hx W1 h1
      rw [Nat.zero_add] at h1 ⊢
      obtain ⟨hj1, hb1, hz1⟩ := h1
      have hlt : j < (partsS s).length := (List.getElem?_eq_some_iff.1 hx).1
      have hxe : (partsS s)[j] = x := (List.getElem?_eq_some_iff.1 hx).2
      have hm := mx_succ (f := dpP) hlt
      rw [hxe] at hm
      have hp := part_ok hs hr j x hx
      have fin : ∀ e W2, (e = .returned (.bool true) ∧ Nb w.heap.size (max (max v (mx dpP ((partsS s).take j))) (dpP x)) W2 ∧ Kept w.heap.size (w.heap.size + 1) W1 W2) → RJ w.heap.size (w.heap.size + 1) (fun W' => Nb w.heap.size (max v (mx dpP ((partsS s).take (j + 1)))) W' ∧ Below w.heap.size w W' ∧ w.heap.size + 1 ≤ W'.heap.size) (fun _ _ => False) W1 e W2 := fun e W2 ⟨h1, h2, h3⟩ => by
        refine .inl ⟨h1, ⟨?_, hb1.trans h3.below, Nat.le_trans hz1 h3.size⟩, h3⟩
        rw [hm, show max v (max (mx dpP ((partsS s).take j)) (dpP x)) = max (max v (mx dpP ((partsS s).take j))) (dpP x) by omega]
        exact h2
      cases x with
      | inl x => exact ⟨_, _, _, rfl, enters_of Tryz.func35 (by kernel_rfl) rfl, (dep1_any n hX x hp.2 _ _ _ _ W1 hj1 (Nat.le_refl _) (by omega) (hp.1.still (still_of hb1 (Nat.le_refl _)) hb1.size)).mono fin⟩
      | inr x => exact ⟨_, _, _, rfl, enters_of Tryz.func37 (by kernel_rfl) rfl, (dep2_any n hB x hp.2 _ _ _ _ W1 hj1 (Nat.le_refl _) (by omega) (hp.1.still (still_of hb1 (Nat.le_refl _)) hb1.size)).mono fin⟩
  obtain ⟨i1, i2, -⟩ := hin.ss.1
  have hnB : (y.l.length : Int) ≤ 9223372036854775807 := by omega
  have HD : Hid (dpB y = wrap64 (1 + mx dpS y.l)) := by show _ = _; rw [dpB_eq, mxSs_mx]
  obtain ⟨D, hD⟩ : ∃ D, dpB y = D := ⟨_, rfl⟩
  rw [hD] at HD ⊢
  clear hin hX hB hrk hD
  obtain ⟨uA, huA⟩ : ∃ v, y.a = v := ⟨_, rfl⟩
  show Calls Tryz.prog _ #[.slice y.a y.l.length y.c] w _
  rw [huA]
  go_enter Tryz.func14, Tryz.ntmps14
  go_wp2_with fail
  go_loopw [8] (fun i wr => ∃ (k : Nat) (m : Int), k ≤ y.l.length ∧ i = .int .i64 k ∧ Hid (m = mx dpS (y.l.take k)) ∧ Hid (Below w.heap.size w wr) ∧ Hid (Nb w.heap.size m wr)) (fun i _ => y.l.length - (intOf i).toNat)
  case atStart => exact ⟨0, 0, Nat.zero_le _, rfl, rfl, by show Below _ _ _; (repeat' (first | (with_reducible exact Below.refl _ _) | (with_reducible assumption) | (with_reducible refine Below.alloc ?_ ?_ _) | (with_reducible refine below_drewN ?_ _) | (with_reducible refine Below.drew ?_) | (with_reducible refine Below.setCell ?_ ?_ _) | (with_reducible refine below_via (by assumption) ?_ ?_) | (with_reducible refine below_via (later_below _) ?_ ?_) | (with_reducible exact Nat.le_refl _) | omega | (simp; omega) | (simp; done))), ⟨by simp [cell_alloc_if], by simp⟩⟩
  case round =>
    obtain ⟨k, m, hk, rfl, HM, HE, HN⟩ := hrel
    obtain ⟨n0, n1⟩ := HN.out
    have hzr := cell_lt n0
    by_cases hlt : k < y.l.length
    · obtain ⟨b1, o, haA, hb, hc, -⟩ := (HIN.out.ss.still (still_of HE.out (Nat.le_refl _)) (Nat.le_refl _)).at_ hlt
      rw [huA] at haA
      subst haA
      have hm := mx_succ (f := dpS) hlt
      have hm0 : 0 ≤ m := by rw [HM.out]; exact mx_pos _ _
      obtain ⟨s, hs⟩ : ∃ s, y.l[k] = s := ⟨_, rfl⟩
      have HSk := Lib.hid (fun v W => hs ▸ HS.out k hlt v W)
      rw [hs] at hc hm
      obtain ⟨d, hd⟩ : ∃ d, dpS s = d := ⟨_, rfl⟩
      rw [hd] at HSk hm
      have HM1 := Lib.hid hm
      obtain ⟨c0, c1, c2, c3, c4, c5, c6⟩ := hc
      have hbl := cell_lt c0
      clear hs hd hm
      go_wp2_with (go_at_call 34; (with_reducible refine (HSk.out m _ hm0 ?_ ?_).mono ?_); (focus (have h0 := HE.out; (repeat' (first | (with_reducible exact Below.refl _ _) | (with_reducible assumption) | (with_reducible refine Below.alloc ?_ ?_ _) | (with_reducible refine below_drewN ?_ _) | (with_reducible refine Below.drew ?_) | (with_reducible refine Below.setCell ?_ ?_ _) | (with_reducible refine below_via (by assumption) ?_ ?_) | (with_reducible refine below_via (later_below _) ?_ ?_) | (with_reducible exact Nat.le_refl _) | omega | (simp; omega) | (simp; done))))); (focus (exact HN.out.below (by (repeat' (first | (with_reducible exact Below.refl _ _) | (with_reducible assumption) | (with_reducible refine Below.alloc ?_ ?_ _) | (with_reducible refine below_drewN ?_ _) | (with_reducible refine Below.drew ?_) | (with_reducible refine Below.setCell ?_ ?_ _) | (with_reducible refine below_via (by assumption) ?_ ?_) | (with_reducible refine below_via (later_below _) ?_ ?_) | (with_reducible exact Nat.le_refl _) | omega | (simp; omega) | (simp; done)))))); rintro e w2 (⟨rfl, hT2, hk2⟩ | ⟨-, hX⟩))
      refine ⟨⟨k + 1, max m d, by omega, by go_num, ?_, ?_, hT2⟩, by simp [intOf]; omega⟩
      · show max m d = _; rw [HM1.out, ← HM.out]
      · show Below _ _ _; have h0 := HE.out; have h1 := hk2.below; (repeat' (first | (with_reducible exact Below.refl _ _) | (with_reducible assumption) | (with_reducible refine Below.alloc ?_ ?_ _) | (with_reducible refine below_drewN ?_ _) | (with_reducible refine Below.drew ?_) | (with_reducible refine Below.setCell ?_ ?_ _) | (with_reducible refine below_via (by assumption) ?_ ?_) | (with_reducible refine below_via (later_below _) ?_ ?_) | (with_reducible exact Nat.le_refl _) | omega | (simp; omega) | (simp; done)))
    · obtain rfl : k = y.l.length := by omega
      rw [List.take_length] at HM
      go_wp2_with fail
      go_returns
      refine ⟨?_, HE.out⟩
      have e : D = wrap64 (1 + m) := by rw [HD.out, ← HM.out]
      rw [e]
      rfl
theorem dep_all : ∀ n, DepX n ∧ DepB n
  | 0 => ⟨fun _ h => by omega, fun _ h => by omega⟩
  | n + 1 => have ih := dep_all n; ⟨depX_step n ih.1 ih.2, depB_step n ih.1 ih.2⟩
/-- The program's Depth. -/
theorem depth_any (y : TB) (w : World) (hin : InB w w.heap.size y) : Calls Tryz.prog 14 #[y.v] w fun e w' => e = .returned (.int .i64 (dpB y)) ∧ Below w.heap.size w w' := (dep_all (rkB y + 1)).2 y (by omega) w hin
end Go.Proofs.YtplphejillkdeaaGreatDoor
