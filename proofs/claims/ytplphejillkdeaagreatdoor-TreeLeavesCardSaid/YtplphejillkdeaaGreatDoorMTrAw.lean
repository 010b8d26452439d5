/- The trees of the chapter's examples. -/
import Derived.Test.YtplphejillkdeaaGreatDoorMTrFun
import Derived.Test.YtplphejillkdeaaGreatDoorMTrTi
import Derived.Test.YtplphejillkdeaaGreatDoorMTrChk5
namespace Go.Proofs.YtplphejillkdeaaGreatDoor
open Go.RowKit Go.Instr Go.Shelf
set_option linter.unusedVariables false

/-- A leaf. -/
abbrev lfX (k p q : Int) (s : ByteArray) : TX := ⟨k, 0, 0, p, q, s, none, 0, [], none, 0, []⟩
abbrev nmX (s : ByteArray) : TX := lfX 7 0 0 s
abbrev binX (N : Nat) : TX := ⟨16, 1, 0, 0, 0, ⟨#[]⟩, some ⟨N + 3, 0, none⟩, 2, [lfX 4 1 1 ⟨#[]⟩, lfX 4 2 1 ⟨#[]⟩], none, 0, []⟩
abbrev bS (N : Nat) : TS := ⟨1, 0, some ⟨N + 2, 0, none⟩, 1, [(⟨#[120]⟩, 0)], none, 0, [], some ⟨N + 4, 0, none⟩, 1, [binX N], none, 0, [], ⟨#[]⟩⟩
abbrev bT (N : Nat) : TB := ⟨some ⟨N + 5, 0, none⟩, 1, [bS N]⟩
abbrev calG (N : Nat) : TX := ⟨9, 0, 0, 0, 0, ⟨#[]⟩, some ⟨N + 10, 0, none⟩, 2, [nmX ⟨#[103]⟩, nmX ⟨#[98]⟩], none, 0, []⟩
abbrev calX (N : Nat) : TX := ⟨9, 0, 0, 0, 0, ⟨#[]⟩, some ⟨N + 11, 0, none⟩, 3, [nmX ⟨#[102]⟩, nmX ⟨#[97]⟩, calG N], none, 0, []⟩
abbrev cS (N : Nat) : TS := ⟨4, 0, none, 0, [], none, 0, [], some ⟨N + 13, 0, none⟩, 1, [calX N], none, 0, [], ⟨#[]⟩⟩
abbrev cT (N : Nat) : TB := ⟨some ⟨N + 14, 0, none⟩, 1, [cS N]⟩
/-- A statement of the kind SLocal that has no names. -/
abbrev s0 : TS := ⟨1, 0, none, 0, [], none, 0, [], none, 0, [], none, 0, [], ⟨#[]⟩⟩
abbrev eS (B : Nat) : TS := ⟨1, 0, some ⟨B, 0, none⟩, 1, [(⟨#[101, 110, 100]⟩, 0)], none, 0, [], none, 0, [], none, 0, [], ⟨#[]⟩⟩
abbrev dT (B : Nat) (s : TS) : TB := ⟨some ⟨B, 0, none⟩, 1, [s]⟩

theorem slc0 (a : Option Addr) : Slc a 0 0 := ⟨Nat.le_refl _, by omega, fun _ => rfl⟩
theorem slcS (b : Addr) (n : Nat) (h : n ≤ 100) : Slc (some b) n n := ⟨Nat.le_refl _, by omega, fun h => by cases h⟩
theorem i64s {n : Int} (h : 0 ≤ n ∧ n ≤ 100) : I64 n := by unfold I64; omega
section
variable {W : World} {M : Nat}
theorem inX_leaf {k p q : Int} {s : ByteArray} (hk : 0 ≤ k ∧ k ≤ 100) (hp : 0 ≤ p ∧ p ≤ 100) (hq : 0 ≤ q ∧ q ≤ 100) (hs : s.size ≤ 100) : InX W M (lfX k p q s) :=
  (inX_iff _).2 ⟨⟨i64s hk, i64s (n := 0) (by omega), i64s (n := 0) (by omega), i64s hp, i64s hq, by dsimp only; omega, slc0 _, slc0 _, .inl rfl, .inl rfl⟩, trivial, trivial⟩
theorem inX_node {k op : Int} {b : Nat} {l : List TX} (hk : 0 ≤ k ∧ k ≤ 100) (ho : 0 ≤ op ∧ op ≤ 100) (hl : l.length ≤ 100) (hb : b < M) (hc : ∀ i, (h : i < l.length) → X8 W b (0 + i * 8) l[i]) (ha : ∀ x ∈ l, InX W M x) :
    InX W M ⟨k, op, 0, 0, 0, ⟨#[]⟩, some ⟨b, 0, none⟩, l.length, l, none, 0, []⟩ :=
  (inX_iff _).2 ⟨⟨i64s hk, i64s ho, i64s (n := 0) (by omega), i64s (n := 0) (by omega), i64s (n := 0) (by omega), (by decide : (0 : Nat) ≤ 9223372036854775807), slcS _ _ hl, slc0 _, .inr ⟨b, 0, rfl, hb, hc⟩, .inl rfl⟩, (inXs_iff _).2 ha, trivial⟩
theorem inB_stat {b : Nat} {s : TS} (hb : b < M) (hc : S7 W b 0 s) (hs : InS W M s) : InB W M (dT b s) :=
  (inB_iff _).2 ⟨⟨slcS _ _ (by simp), .inr ⟨b, 0, rfl, hb, fun i hi => by
    obtain rfl : i = 0 := by simp at hi; omega
    rw [Nat.zero_mul, Nat.add_zero]; exact hc⟩⟩, hs, trivial⟩
end
theorem two_at {W : World} {b : Nat} {x y : TX} (h0 : X8 W b 0 x) (h1 : X8 W b 8 y) : ∀ i, (h : i < [x, y].length) → X8 W b (0 + i * 8) [x, y][i] := fun i hi => by
  match i, hi with
  | 0, _ => exact h0
  | 1, _ => exact h1
theorem three_at {W : World} {b : Nat} {x y z : TX} (h0 : X8 W b 0 x) (h1 : X8 W b 8 y) (h2 : X8 W b 16 z) : ∀ i, (h : i < [x, y, z].length) → X8 W b (0 + i * 8) [x, y, z][i] := fun i hi => by
  match i, hi with
  | 0, _ => exact h0
  | 1, _ => exact h1
  | 2, _ => exact h2
theorem okN_leaf (k p q : Int) (s : ByteArray) : ∀ n, okN n (.inl (lfX k p q s))
  | 0 => trivial
  | n + 1 => ⟨fun y h => (by cases h), fun f h => (by cases h)⟩
theorem okN_bin (N : Nat) : ∀ n, okN n (.inl (binX N))
  | 0 => trivial
  | n + 1 => ⟨fun y h => by
      rcases List.mem_cons.1 h with rfl | h
      · exact okN_leaf _ _ _ _ n
      · obtain rfl := List.mem_singleton.1 h; exact okN_leaf _ _ _ _ n, fun f h => (by cases h)⟩
theorem okN_bT (N : Nat) : ∀ n, okN n (.inr (bT N))
  | 0 => trivial
  | n + 1 => fun s hs => by
    obtain rfl : s = bS N := List.mem_singleton.1 hs
    refine ⟨titles_none _ (by show (1 : Int) ≠ 2; decide) (by show (1 : Int) ≠ 3; decide), fun p hp => ?_⟩
    obtain rfl : p = .inl (binX N) := by simpa [partsS] using hp
    exact okN_bin N n
theorem okN_s0 (B : Nat) : ∀ n, okN n (.inr (dT B s0))
  | 0 => trivial
  | n + 1 => fun s hs => by
    obtain rfl : s = s0 := List.mem_singleton.1 hs
    exact ⟨titles_none _ (by show (1 : Int) ≠ 2; decide) (by show (1 : Int) ≠ 3; decide), fun p hp => by simp [partsS] at hp⟩
theorem okN_eS (B C : Nat) : ∀ n, okN n (.inr (dT B (eS C)))
  | 0 => trivial
  | n + 1 => fun s hs => by
    obtain rfl : s = eS C := List.mem_singleton.1 hs
    exact ⟨titles_none _ (by show (1 : Int) ≠ 2; decide) (by show (1 : Int) ≠ 3; decide), fun p hp => by simp [partsS] at hp⟩
theorem size_bT (N : Nat) : wrap64 (szSs (bT N).l) = 4 := by
  show wrap64 ((4 : Nat) : Int) = 4
  decide +kernel
theorem depth_bT (N : Nat) : dpB (bT N) = 3 := by
  show dpB ⟨_, _, [⟨1, 0, _, _, _, _, _, [], _, _, [⟨16, 1, 0, 0, 0, ⟨#[]⟩, _, 2, [lfX 4 1 1 ⟨#[]⟩, lfX 4 2 1 ⟨#[]⟩], none, 0, []⟩], _, _, [], _⟩]⟩ = 3
  with_unfolding_all rfl
theorem check_bT (N : Nat) : chE (bT N) (cbE (bT N)) = 0 := by kernel_rfl
theorem check_s0 (B : Nat) : chE (dT B s0) (cbE (dT B s0)) = 4 := by kernel_rfl
theorem check_eS (B C : Nat) : chE (dT B (eS C)) (cbE (dT B (eS C))) = 9 := by kernel_rfl
theorem exs_bT (N : Nat) : exsB (bT N) = [binX N, lfX 4 1 1 ⟨#[]⟩, lfX 4 2 1 ⟨#[]⟩] := by with_unfolding_all rfl
theorem exs_cT (N : Nat) : exsB (cT N) = [calX N, nmX ⟨#[102]⟩, nmX ⟨#[97]⟩, calG N, nmX ⟨#[103]⟩, nmX ⟨#[98]⟩] := by with_unfolding_all rfl
end Go.Proofs.YtplphejillkdeaaGreatDoor

/- The examples of the chapter. -/
namespace Go.Proofs.YtplphejillkdeaaGreatDoor
open Go.RowKit Go.Instr Go.Shelf
set_option linter.unusedVariables false
attribute [local go_sem] Oper.semAt_some

theorem name_ex (s : ByteArray) (w : World) : Calls Tryz.prog 9 #[.string s] w fun e w' => e = .returned (.agg #[.int .i64 7, .int .i64 0, .int .i64 0, .int .i64 0, .int .i64 0, .string s, .slice none 0 0, .slice none 0 0]) ∧ w' = w.alloc (.cells #[.int .i64 7, .int .i64 0, .int .i64 0, .int .i64 0, .int .i64 0, .string s, .slice none 0 0, .slice none 0 0] 30) := by
  go_enter Tryz.func9, Tryz.ntmps9
  go_wp2_with fail
  ((try simp only [Exit.inBlock, Exit.then]); refine bodyPost_ret (by first | (simp [results, Tryz.results9, go_sem, *]; done) | (simp [results, Tryz.results9, go_sem, *]; rfl) | (simp [results, Tryz.results9, go_sem, ↓IntWalk.iteOmega, *]; try rfl)) rfl ?_)
  exact ⟨rfl, rfl⟩
theorem eql_fn {P : Program} {t : TypeId} {ps rs : Array TypeId} {vd : Bool} (h : P.underlying t = some (.func ps rs vd)) (fn : Fn) (fi cp : Array Value) (w : World) : (binOp .eql t (.func fn fi cp) .nilFunc).run P w = .ok (.bool false) w := by
  simp only [binOp]
  simp [eq_fn h]

set_option maxRecDepth 100000 in
set_option maxHeartbeats 8000000 in
theorem awake_any (w : World) : Calls Tryz.prog 4 #[] w fun e w' => e = .returned (.bool true) ∧ Below w.heap.size w w' := by
  have fr0 := fun i => frozen_out w (w.heap.size) i (by omega)
  have fr1 := fun i => frozen_out w (w.heap.size + 1) i (by omega)
  have fr12 := fun i => frozen_out w (w.heap.size + 1 + 1 + 1 + 1 + 1 + 1 + 1 + 1 + 1 + 1 + 1 + 1) i (by omega)
  have fr15 := fun i => frozen_out w (w.heap.size + 1 + 1 + 1 + 1 + 1 + 1 + 1 + 1 + 1 + 1 + 1 + 1 + 1 + 1 + 1) i (by omega)
  have heq := eql_fn Tryz.underlying45
  have HEa : Hid (∀ W, Calls Tryz.prog 10 #[.slice (some ⟨w.heap.size + 14, 0, none⟩) 1 1] W fun e w' => e = .returned (.func (.func 27) #[] #[.pointer (some ⟨W.heap.size, 0, none⟩)]) ∧ w' = W.alloc (.cells #[.slice (some ⟨w.heap.size + 14, 0, none⟩) 1 1] 42)) := fun W => each_any (cT w.heap.size) W
  refine (callsIn_wide (n := 6)).1 ?_
  refine callsIn_of_wp_marks Tryz.func4 rfl trivial ?_ rfl
  simp only [Tryz.ntmps4, List.size_toArray, List.length_nil, Nat.reduceSub, Array.replicate_succ, Array.replicate_zero, List.push_toArray, List.append_toArray, List.nil_append, List.cons_append]
  gi_wp2_with (first | (refine ⟨trivial, ?_⟩; gi_at_call 9; refine (callsIn_wide.2 (name_ex _ _)).mono ?_; rintro e w' ⟨rfl, rfl⟩) | (refine ⟨trivial, ?_⟩; gi_at_call 10; refine (callsIn_wide.2 (HEa.out _)).mono ?_; rintro e w' ⟨rfl, rfl⟩))
  generalize hW0 : World.alloc _ _ = W0
  have hs0 : W0.heap.size = w.heap.size + 17 := by rw [← hW0]; simp
  have hB0 : Below w.heap.size w W0 := by rw [← hW0]; (repeat' (first | (with_reducible exact Below.refl _ _) | (with_reducible assumption) | (with_reducible refine Below.alloc ?_ ?_ _) | (with_reducible refine below_drewN ?_ _) | (with_reducible refine Below.drew ?_) | (with_reducible refine Below.setCell ?_ ?_ _) | (with_reducible refine below_via (by assumption) ?_ ?_) | (with_reducible refine below_via (later_below _) ?_ ?_) | (with_reducible exact Nat.le_refl _) | omega | (simp; omega) | (simp; done)))
  have x30 : X8 W0 (w.heap.size + 3) 0 (lfX 4 1 1 ⟨#[]⟩) := by rw [← hW0]; unfold X8; simp [cell_alloc_if, Nat.add_assoc]
  have x38 : X8 W0 (w.heap.size + 3) 8 (lfX 4 2 1 ⟨#[]⟩) := by rw [← hW0]; unfold X8; simp [cell_alloc_if, Nat.add_assoc]
  have x40 : X8 W0 (w.heap.size + 4) 0 (binX w.heap.size) := by rw [← hW0]; unfold X8; simp [cell_alloc_if, Nat.add_assoc]
  have xg0 : X8 W0 (w.heap.size + 10) 0 (nmX ⟨#[103]⟩) := by rw [← hW0]; unfold X8; simp [cell_alloc_if, Nat.add_assoc]
  have xg8 : X8 W0 (w.heap.size + 10) 8 (nmX ⟨#[98]⟩) := by rw [← hW0]; unfold X8; simp [cell_alloc_if, Nat.add_assoc]
  have xf0 : X8 W0 (w.heap.size + 11) 0 (nmX ⟨#[102]⟩) := by rw [← hW0]; unfold X8; simp [cell_alloc_if, Nat.add_assoc]
  have xf8 : X8 W0 (w.heap.size + 11) 8 (nmX ⟨#[97]⟩) := by rw [← hW0]; unfold X8; simp [cell_alloc_if, Nat.add_assoc]
  have xf16 : X8 W0 (w.heap.size + 11) 16 (calG w.heap.size) := by rw [← hW0]; unfold X8; simp [cell_alloc_if, Nat.add_assoc]
  have xc0 : X8 W0 (w.heap.size + 13) 0 (calX w.heap.size) := by rw [← hW0]; unfold X8; simp [cell_alloc_if, Nat.add_assoc]
  have xb0 : X8 W0 (w.heap.size + 12) 0 (calX w.heap.size) := by rw [← hW0]; unfold X8; simp [cell_alloc_if, Nat.add_assoc]
  have s50 : S7 W0 (w.heap.size + 5) 0 (bS w.heap.size) := by rw [← hW0]; unfold S7; simp [cell_alloc_if, Nat.add_assoc]
  have s140 : S7 W0 (w.heap.size + 14) 0 (cS w.heap.size) := by rw [← hW0]; unfold S7; simp [cell_alloc_if, Nat.add_assoc]
  have l2 : L2 W0 (w.heap.size + 2) 0 (⟨#[120]⟩, 0) := by rw [← hW0]; unfold L2; simp [cell_alloc_if, Nat.add_assoc]
  have n0 : W0.cell? ⟨w.heap.size + 15, 0, none⟩ = some (.int .i64 0) := by rw [← hW0]; simp [cell_alloc_if, Nat.add_assoc]
  have n1 : W0.frozen? ⟨w.heap.size + 15, 0, none⟩ = false := by rw [← hW0]; simp [frozen_alloc, fr15]
  have e0 : W0.cell? ⟨w.heap.size + 16, 0, none⟩ = some (cT w.heap.size).v := by rw [← hW0]; simp [cell_alloc_if, Nat.add_assoc]
  have ib : InB W0 (w.heap.size + 15) (bT w.heap.size) := inB_stat (by omega) s50 ((inS_iff _).2 ⟨⟨i64s (n := 1) (by omega), i64s (n := 0) (by omega), slcS _ 1 (by omega), fun s h => (by obtain rfl := List.mem_singleton.1 h; exact ⟨(by decide : (1 : Nat) ≤ 9223372036854775807), i64s (n := 0) (by omega)⟩), slc0 _, slcS _ 1 (by omega), slc0 _, (by decide : (0 : Nat) ≤ 9223372036854775807),
      .inr ⟨_, 0, rfl, by omega, fun i hi => by obtain rfl : i = 0 := by simp at hi; omega
                                                rw [Nat.zero_mul, Nat.add_zero]; exact l2⟩, .inl rfl,
      .inr ⟨_, 0, rfl, by omega, fun i hi => by obtain rfl : i = 0 := by simp at hi; omega
                                                rw [Nat.zero_mul, Nat.add_zero]; exact x40⟩, .inl rfl⟩, trivial,
      ⟨inX_node (by omega) (by omega) (by simp) (by omega) (two_at x30 x38) (fun x h => by
        rcases List.mem_cons.1 h with rfl | h
        · exact inX_leaf (by omega) (by omega) (by omega) (by decide)
        · obtain rfl := List.mem_singleton.1 h; exact inX_leaf (by omega) (by omega) (by omega) (by decide)), trivial⟩, trivial⟩)
  have ig : InX W0 (w.heap.size + 15) (calG w.heap.size) := inX_node (by omega) (by omega) (by simp) (by omega) (two_at xg0 xg8) (fun x h => by
        rcases List.mem_cons.1 h with rfl | h
        · exact inX_leaf (by omega) (by omega) (by omega) (by decide)
        · obtain rfl := List.mem_singleton.1 h; exact inX_leaf (by omega) (by omega) (by omega) (by decide))
  have ix : InX W0 (w.heap.size + 15) (calX w.heap.size) := inX_node (by omega) (by omega) (by simp) (by omega) (three_at xf0 xf8 xf16) (fun x h => by
        rcases List.mem_cons.1 h with rfl | h
        · exact inX_leaf (by omega) (by omega) (by omega) (by decide)
        · rcases List.mem_cons.1 h with rfl | h
          · exact inX_leaf (by omega) (by omega) (by omega) (by decide)
          · obtain rfl := List.mem_singleton.1 h; exact ig)
  have ic : InB W0 (w.heap.size + 15) (cT w.heap.size) := inB_stat (by omega) s140 ((inS_iff _).2 ⟨⟨i64s (n := 4) (by omega), i64s (n := 0) (by omega), slc0 _, fun s h => (by cases h), slc0 _, slcS _ 1 (by omega), slc0 _, (by decide : (0 : Nat) ≤ 9223372036854775807), .inl rfl, .inl rfl,
      .inr ⟨_, 0, rfl, by omega, fun i hi => by obtain rfl : i = 0 := by simp at hi; omega
                                                rw [Nat.zero_mul, Nat.add_zero]; exact xc0⟩, .inl rfl⟩, trivial, ⟨ix, trivial⟩, trivial⟩)
  obtain ⟨ys, hys⟩ : ∃ ys : List {x : TX // True}, ys.map (fun x => x.1) = exsB (cT w.heap.size) := ⟨(exsB (cT w.heap.size)).map fun x => ⟨x, trivial⟩, by rw [List.map_map]; exact List.map_id _⟩
  have hyl : ys.length = 6 := by have := congrArg List.length hys; rw [List.length_map, exs_cT] at this; exact this
  clear hW0 x30 x38 x40 xg0 xg8 xf0 xf8 xf16 xc0 s50 s140 l2 HEa heq fr0 fr1 fr12 fr15 ig ix
  refine wpIn_rangeFunc_ownG rfl (by decide) (gf := 27) (lb := #[.pointer (some ⟨w.heap.size + 16, 0, none⟩)]) rfl trivial (enters_of Tryz.func27 (by kernel_rfl) rfl)
    (each_stops 5 (w.heap.size + 15) (w.heap.size + 17) (w.heap.size + 16) (cT w.heap.size) ys hys (by omega) W0 ic (by omega) e0) keptK_t (keptK_b (by omega)) (Below.refl _ _) (fun _ => rfl)
    (fun pre W => (W.cell? ⟨w.heap.size + 15, 0, none⟩ = some (.int .i64 pre.length) ∧ W.frozen? ⟨w.heap.size + 15, 0, none⟩ = false) ∧ Below (w.heap.size + 15) W0 W)
    (fun _ _ _ => False)
    (OwnFrom.and (Own.from (fun s A B row hs hg hr => ⟨cell_kept hs.1 hg hr, (frozen_kept hs.1 hg hr).trans hs.2⟩) _) (ownFrom_below (by omega) (by omega)))
    (fun _ _ _ _ _ hs _ _ => hs)
    ⟨⟨n0, n1⟩, Below.refl _ _⟩ ?_ ?assign ?body ?done ?stop
  case assign =>
    intro l x W K hK
    gi_wp2
    exact hK
  case body =>
    rintro l pre x W ⟨⟨hc, hf⟩, hB⟩ hlt
    gi_wp2
    refine ⟨(KeepsOthers.setCell _ _ _).from _, kept_set _ _ (by omega) (by omega), ⟨?_, by rw [World.frozen?_setCell]; exact hf⟩, hB.setCell (p := ⟨w.heap.size + 15, 0, none⟩) (by simp) _⟩
    rw [List.length_append, Int.natCast_add]
    exact World.cell?_setCell_same _ _ _ hc
  case done =>
    rintro D xs W hD rfl ⟨⟨hc, hf⟩, hB⟩ hK
    have ibW : InB W W.heap.size (bT w.heap.size) := ib.still (still_of hB (by omega)) (by have := hB.size; omega)
    rw [hyl] at hc
    obtain ⟨v0, v1, v2, v3, v4, v5, v6, v7⟩ := x8_still (still_of hB (Nat.le_refl _)) _ _ _ (by omega) xb0
    have hBw : Below w.heap.size w W := hB0.trans (hB.mono (by omega))
    have hzW := hB.size
    have HFn : Hid (∀ W1, Below W.heap.size W W1 → Calls Tryz.prog 11 #[.slice (some ⟨w.heap.size + 5, 0, none⟩) 1 1] W1 fun e W' => ∃ B, e = .returned (.slice (some ⟨B, 0, none⟩) 1 1) ∧ W1.heap.size ≤ B ∧ W'.cell? ⟨B, 0, none⟩ = some (.string ⟨#[109, 97, 105, 110]⟩) ∧ Below W1.heap.size W1 W') := fun W1 h1 => funcs_none (bT w.heap.size) W1 (ibW.still (still_of h1 (Nat.le_refl _)) h1.size) (fun x hx => by
      rw [exs_bT] at hx
      rcases List.mem_cons.1 hx with rfl | hx
      · rfl
      · rcases List.mem_cons.1 hx with rfl | hx
        · rfl
        · obtain rfl := List.mem_singleton.1 hx; rfl)
    have HC1 : Hid (∀ W1, Below W.heap.size W W1 → Calls Tryz.prog 12 #[.slice (some ⟨w.heap.size + 5, 0, none⟩) 1 1] W1 fun e W' => e = .returned (.int .i64 0) ∧ Below W1.heap.size W1 W') := fun W1 h1 => by
      have h := check_ok (bT w.heap.size) W1 (okN_bT _ _) (ibW.still (still_of h1 (Nat.le_refl _)) h1.size)
      rw [check_bT] at h
      exact h
    have HC2 : Hid (∀ W1 B, Below W.heap.size W W1 → S7 W1 B 0 s0 → Calls Tryz.prog 12 #[.slice (some ⟨B, 0, none⟩) 1 1] W1 fun e W' => e = .returned (.int .i64 4) ∧ Below W1.heap.size W1 W') := fun W1 B h1 hs => by
      have h := check_ok (dT B s0) W1 (okN_s0 _ _) (inB_stat (cell_lt hs.1) hs ((inS_iff _).2 ⟨⟨i64s (n := 1) (by omega), i64s (n := 0) (by omega), slc0 _, fun s h => (by cases h), slc0 _, slc0 _, slc0 _, (by decide : (0 : Nat) ≤ 9223372036854775807), .inl rfl, .inl rfl, .inl rfl, .inl rfl⟩, trivial, trivial, trivial⟩))
      rw [check_s0] at h
      exact h
    have HC3 : Hid (∀ W1 C, Below W.heap.size W W1 → L2 W1 C 0 (⟨#[101, 110, 100]⟩, 0) → S7 W1 (C + 1) 0 (eS C) → Calls Tryz.prog 12 #[.slice (some ⟨C + 1, 0, none⟩) 1 1] W1 fun e W' => e = .returned (.int .i64 9) ∧ Below W1.heap.size W1 W') := fun W1 C h1 hl hs => by
      have h := check_ok (dT (C + 1) (eS C)) W1 (okN_eS _ _ _) (inB_stat (cell_lt hs.1) hs ((inS_iff _).2 ⟨⟨i64s (n := 1) (by omega), i64s (n := 0) (by omega), slcS _ 1 (by omega), fun s h => (by obtain rfl := List.mem_singleton.1 h; exact ⟨(by decide : (3 : Nat) ≤ 9223372036854775807), i64s (n := 0) (by omega)⟩), slc0 _, slc0 _, slc0 _, (by decide : (0 : Nat) ≤ 9223372036854775807), .inr ⟨_, 0, rfl, cell_lt hl.1, fun i hi => by
        obtain rfl : i = 0 := by simp at hi; omega
        rw [Nat.zero_mul, Nat.add_zero]; exact hl⟩, .inl rfl, .inl rfl, .inl rfl⟩, trivial, trivial, trivial⟩))
      rw [check_eS] at h
      exact h
    have HSz : Hid (∀ W1, Below W.heap.size W W1 → Calls Tryz.prog 13 #[.slice (some ⟨w.heap.size + 5, 0, none⟩) 1 1] W1 fun e W' => e = .returned (.int .i64 4) ∧ Below W1.heap.size W1 W') := fun W1 h1 => by
      have h := size_any (bT w.heap.size) W1 (ibW.still (still_of h1 (Nat.le_refl _)) h1.size)
      rw [size_bT] at h
      exact h
    have HDp : Hid (∀ W1, Below W.heap.size W W1 → Calls Tryz.prog 14 #[.slice (some ⟨w.heap.size + 5, 0, none⟩) 1 1] W1 fun e W' => e = .returned (.int .i64 3) ∧ Below W1.heap.size W1 W') := fun W1 h1 => by
      have h := depth_any (bT w.heap.size) W1 (ibW.still (still_of h1 (Nat.le_refl _)) h1.size)
      rw [depth_bT] at h
      exact h
    have HMu : Hid (∀ W1, Calls Tryz.prog 15 #[.agg #[.int .i64 9, .int .i64 0, .int .i64 0, .int .i64 0, .int .i64 0, .string ⟨#[]⟩, .slice (some ⟨w.heap.size + 11, 0, none⟩) 3 3, .slice none 0 0]] W1 fun e W' => e = .returned (.bool true) ∧ Below W1.heap.size W1 W') := fun W1 => multi_any (calX w.heap.size) W1
    clear ib ibW ic n0 n1 e0 xb0 hys hyl hB
    gi_wp2_with (first | (refine ⟨trivial, ?_⟩; gi_at_call 11; (with_reducible refine (callsIn_wide.2 (HFn.out _ ?_)).mono ?_); (focus ((repeat' (first | (with_reducible exact Below.refl _ _) | (with_reducible assumption) | (with_reducible refine Below.alloc ?_ ?_ _) | (with_reducible refine below_drewN ?_ _) | (with_reducible refine Below.drew ?_) | (with_reducible refine Below.setCell ?_ ?_ _) | (with_reducible refine below_via (by assumption) ?_ ?_) | (with_reducible refine below_via (later_below _) ?_ ?_) | (with_reducible exact Nat.le_refl _) | omega | (simp; omega) | (simp; done))))); rintro e w1 ⟨B, rfl, hB1, hB2, hb⟩; have hB3 := cell_lt hB2; (refine mem hb ?_; intro N hN hz hc hf; (try simp at hN); subst hN)) | (refine ⟨trivial, ?_⟩; gi_at_call 12; (with_reducible refine (callsIn_wide.2 (HC1.out _ ?_)).mono ?_); (focus ((repeat' (first | (with_reducible exact Below.refl _ _) | (with_reducible assumption) | (with_reducible refine Below.alloc ?_ ?_ _) | (with_reducible refine below_drewN ?_ _) | (with_reducible refine Below.drew ?_) | (with_reducible refine Below.setCell ?_ ?_ _) | (with_reducible refine below_via (by assumption) ?_ ?_) | (with_reducible refine below_via (later_below _) ?_ ?_) | (with_reducible exact Nat.le_refl _) | omega | (simp; omega) | (simp; done))))); rintro e w1 ⟨rfl, hb⟩; clear HC1; (refine mem hb ?_; intro N hN hz hc hf; (try simp at hN); subst hN)) | (refine ⟨trivial, ?_⟩; gi_at_call 12; (with_reducible refine (callsIn_wide.2 (HC2.out _ _ ?_ ?_)).mono ?_); (focus ((repeat' (first | (with_reducible exact Below.refl _ _) | (with_reducible assumption) | (with_reducible refine Below.alloc ?_ ?_ _) | (with_reducible refine below_drewN ?_ _) | (with_reducible refine Below.drew ?_) | (with_reducible refine Below.setCell ?_ ?_ _) | (with_reducible refine below_via (by assumption) ?_ ?_) | (with_reducible refine below_via (later_below _) ?_ ?_) | (with_reducible exact Nat.le_refl _) | omega | (simp; omega) | (simp; done))))); (focus (unfold S7; simp [cell_alloc_if])); rintro e w1 ⟨rfl, hb⟩; clear HC2; (refine mem hb ?_; intro N hN hz hc hf; (try simp at hN); subst hN)) | (refine ⟨trivial, ?_⟩; gi_at_call 12; (with_reducible refine (callsIn_wide.2 (HC3.out _ _ ?_ ?_ ?_)).mono ?_); (focus ((repeat' (first | (with_reducible exact Below.refl _ _) | (with_reducible assumption) | (with_reducible refine Below.alloc ?_ ?_ _) | (with_reducible refine below_drewN ?_ _) | (with_reducible refine Below.drew ?_) | (with_reducible refine Below.setCell ?_ ?_ _) | (with_reducible refine below_via (by assumption) ?_ ?_) | (with_reducible refine below_via (later_below _) ?_ ?_) | (with_reducible exact Nat.le_refl _) | omega | (simp; omega) | (simp; done))))); (focus (unfold L2; simp [cell_alloc_if])); (focus (unfold S7; simp [cell_alloc_if])); rintro e w1 ⟨rfl, hb⟩; clear HC3; (refine mem hb ?_; intro N hN hz hc hf; (try simp at hN); subst hN)) | (refine ⟨trivial, ?_⟩; gi_at_call 13; (with_reducible refine (callsIn_wide.2 (HSz.out _ ?_)).mono ?_); (focus ((repeat' (first | (with_reducible exact Below.refl _ _) | (with_reducible assumption) | (with_reducible refine Below.alloc ?_ ?_ _) | (with_reducible refine below_drewN ?_ _) | (with_reducible refine Below.drew ?_) | (with_reducible refine Below.setCell ?_ ?_ _) | (with_reducible refine below_via (by assumption) ?_ ?_) | (with_reducible refine below_via (later_below _) ?_ ?_) | (with_reducible exact Nat.le_refl _) | omega | (simp; omega) | (simp; done))))); rintro e w1 ⟨rfl, hb⟩; (refine mem hb ?_; intro N hN hz hc hf; (try simp at hN); subst hN)) | (refine ⟨trivial, ?_⟩; gi_at_call 14; (with_reducible refine (callsIn_wide.2 (HDp.out _ ?_)).mono ?_); (focus ((repeat' (first | (with_reducible exact Below.refl _ _) | (with_reducible assumption) | (with_reducible refine Below.alloc ?_ ?_ _) | (with_reducible refine below_drewN ?_ _) | (with_reducible refine Below.drew ?_) | (with_reducible refine Below.setCell ?_ ?_ _) | (with_reducible refine below_via (by assumption) ?_ ?_) | (with_reducible refine below_via (later_below _) ?_ ?_) | (with_reducible exact Nat.le_refl _) | omega | (simp; omega) | (simp; done))))); rintro e w1 ⟨rfl, hb⟩; (refine mem hb ?_; intro N hN hz hc hf; (try simp at hN); subst hN)) | (refine ⟨trivial, ?_⟩; gi_at_call 15; (with_reducible refine (callsIn_wide.2 (HMu.out _)).mono ?_);  rintro e w1 ⟨rfl, hb⟩; (refine mem hb ?_; intro N hN hz hc hf; (try simp at hN); subst hN)))
    have hbl : Below W.heap.size W w1 := by (repeat' (first | (with_reducible exact Below.refl _ _) | (with_reducible assumption) | (with_reducible refine Below.alloc ?_ ?_ _) | (with_reducible refine below_drewN ?_ _) | (with_reducible refine Below.drew ?_) | (with_reducible refine Below.setCell ?_ ?_ _) | (with_reducible refine below_via (by assumption) ?_ ?_) | (with_reducible refine below_via (later_below _) ?_ ?_) | (with_reducible exact Nat.le_refl _) | omega | (simp; omega) | (simp; done)))
    have hK9 := (hbl.block D (Array.getElem?_eq_some_iff.1 hK).1).trans hK
    refine ⟨by simp, .inl ⟨_, _, rfl, run_takeDeferred hK9, ?_⟩⟩
    exact ⟨_, results_tmp rfl _ _ _, rfl, (hBw.trans (hbl.mono hBw.size)).trans (belowK_b (w := w) (Nat.le_refl _) w1 D _ _ (by omega) hK9 rfl rfl)⟩
  case stop =>
    rintro D c pre W hD _ h _
    exact h.elim
end Go.Proofs.YtplphejillkdeaaGreatDoor
