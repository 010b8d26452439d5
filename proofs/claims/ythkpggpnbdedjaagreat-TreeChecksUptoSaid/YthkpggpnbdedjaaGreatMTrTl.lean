/- titles for every statement: the names that a function in a statement may have. -/
import Derived.Test.YthkpggpnbdedjaaGreatMTrTi
import Derived.Test.YthkpggpnbdedjaaGreatMTrPa
import Derived.Test.YthkpggpnbdedjaaGreatShelf2
import Derived.Lib.Join
import Derived.Deep.DeepCutAuto
import Derived.RegionTactic
namespace Go.Proofs.YthkpggpnbdedjaaGreat
open Go.RowKit Go.Instr Go.Shelf
set_option linter.unusedVariables false

theorem extraP : Builder.Extra Tryz.prog Tryz.lays156_ren where
  sizeBuilder := by kernel_rfl
  liesBuilder := by kernel_rfl
  t5 := Tryz.underlying5
  a5 := Tryz.isAgg5
  z5 := Tryz.sizeOf5
  v5 := Tryz.zeroValue5
  infoByte := by kernel_rfl
  cellsByte := by kernel_rfl
  sizeByte := by kernel_rfl
  neB5 := by decide
theorem join_cons2 (sep a b : List UInt8) (l : List (List UInt8)) : Lib.join (a :: b :: l) sep = a ++ sep ++ Lib.join (b :: l) sep := by
  unfold Lib.join
  simp [List.intercalate]
theorem joinB_list (c : UInt8) : ∀ l : List ByteArray, (joinB c l).data.toList = Lib.join (l.map fun s => s.data.toList) [c]
  | [] => rfl
  | [a] => by
    show a.data.toList = _
    unfold Lib.join
    simp [List.intercalate]
  | a :: b :: l => by
    show ((a ++ ⟨#[c]⟩) ++ joinB c (b :: l)).data.toList = _
    rw [List.map_cons, List.map_cons, join_cons2]
    have h := joinB_list c (b :: l)
    rw [List.map_cons] at h
    rw [← h]
    simp
theorem join_len (c : UInt8) : ∀ l : List ByteArray, (Lib.join (l.map fun s => s.data.toList) [c]).length ≤ (l.map rkP).sum
  | [] => Nat.zero_le _
  | [a] => by
    unfold Lib.join rkP
    simp [List.intercalate]
  | a :: b :: l => by
    rw [List.map_cons, List.map_cons, join_cons2]
    have h := join_len c (b :: l)
    rw [List.map_cons] at h
    rw [List.length_append, List.length_append, List.map_cons, List.sum_cons]
    have e : a.data.toList.length = a.size := by simp
    have e2 : rkP a = a.size + 1 := rfl
    simp only [List.length_cons, List.length_nil]
    omega
theorem pthN_sz : ∀ n x, ((pthN n x).1.map rkP).sum ≤ rkX x
  | 0, _ => Nat.zero_le _
  | n + 1, x => by
    rw [rkX_eq]
    unfold pthN
    split
    · simp [rkP]; omega
    · split
      · rename_i a b _ h
        split
        · have := pthN_sz n a
          rw [List.map_append, List.sum_append]
          have hx : rkXs [a, b] = rkX a + (rkX b + 0) := rfl
          have hb := rkX_eq b
          rw [h]
          simp [rkP]
          omega
        · simp
      · simp
theorem pthN_ne : ∀ n x, (pthN n x).2 = true → (pthN n x).1 ≠ []
  | 0, _, h => by cases h
  | n + 1, x, h => by
    unfold pthN at h ⊢
    split
    · simp
    · rename_i h7
      rw [if_neg h7] at h
      split
      · rename_i a b h8 hx
        split
        · simp
        · rename_i hn
          simp only [h8, hx, if_neg hn] at h
          cases h
      · rename_i hx
        exfalso
        split at h
        · rename_i a b h8 h9
          exact hx a b h8 h9
        · cases h
theorem rk_len : ∀ l : List ByteArray, l.length ≤ (l.map rkP).sum
  | [] => Nat.zero_le _
  | a :: l => by
    have h := rk_len l
    rw [List.length_cons, List.map_cons, List.sum_cons]
    have : rkP a = a.size + 1 := rfl
    omega
/-- strings.Join of words at an address. -/
theorem joinP_any (l : List ByteArray) (W : World) (g c : Nat) (hg : g < W.heap.size) (hc : l.length ≤ c) (hs : (l.map rkP).sum ≤ 1048576) (hcells : ∀ j (hj : j < l.length), W.cell? ⟨g, j, none⟩ = some (.string l[j])) :
    Calls Tryz.prog 46 #[.slice (some ⟨g, 0, none⟩) l.length c, .string ⟨#[46]⟩] W fun e w' => e = .returned (.string (joinB 46 l)) ∧ Below W.heap.size W w' := by
  have hlen := rk_len l
  have hj := join_len 46 l
  have h := Any.strings_Join Tryz.lays156 extraP g 0 c l ⟨#[46]⟩ W (fun j x hj => by
    obtain ⟨h1, h2⟩ := List.getElem?_eq_some_iff.1 hj
    rw [Nat.zero_add, hcells j h1, h2]) hg (by omega) hc (by show (Lib.join _ [46]).length ≤ _; omega)
  rw [show (⟨(Lib.join (l.map (·.data.toList)) (⟨#[46]⟩ : ByteArray).data.toList).toArray⟩ : ByteArray) = joinB 46 l by
    have e := joinB_list 46 l
    have e2 := mkS_of (joinB 46 l)
    rw [e] at e2
    exact e2] at h
  exact h

set_option maxRecDepth 100000 in
theorem titles_f1 (s : TS) (h2 : s.k = 2) (hl : s.names.length = 1) : TIc s := by
  intro w hin
  obtain ⟨x, hx⟩ : ∃ x, s.names = [x] := by
    match h : s.names with
    | [x] => exact ⟨x, rfl⟩
    | [] => rw [h] at hl; cases hl
    | _ :: _ :: _ => rw [h] at hl; simp at hl
  have ht : (tiP s).names = [x.1] ∧ (tiP s).m = ⟨#[]⟩ := by
    unfold tiP
    rw [if_pos ⟨h2, hl⟩, hx]
    exact ⟨rfl, rfl⟩
  rw [ht.1, ht.2]
  have d2 : (s.k == 2) = true := by simpa using h2
  have dl : (s.names.length : Int) = 1 := by omega
  have hS := ((inS_iff s).1 hin).1
  obtain ⟨b, o, ha, hb, hc⟩ := hS.nAt.resolve_left (by omega)
  have hc0 := hc 0 (by omega)
  rw [Nat.zero_mul, Nat.add_zero, show s.names[0] = x by simp [hx]] at hc0
  obtain ⟨c0, c1⟩ := hc0
  clear hin ht h2 hS hc hx
  have fr1 := fun i => frozen_out w (w.heap.size + 1) i (by omega)
  have fr3 := fun i => frozen_out w (w.heap.size + 1 + 1 + 1) i (by omega)
  go_enter Tryz.func33, Tryz.ntmps33
  go_wp2_with fail
  ((try simp only [Exit.inBlock, Exit.then]); refine bodyPost_ret (by first | (simp [results, Tryz.results33, go_sem, *]; done) | (simp [results, Tryz.results33, go_sem, *]; rfl) | (simp [results, Tryz.results33, go_sem, ↓IntWalk.iteOmega, *]; try rfl)) rfl ?_)
  refine ⟨⟨some ⟨w.heap.size + 1 + 1 + 1 + 1, 0, none⟩, 1, [x.1], ⟨#[]⟩⟩, rfl, rfl, rfl, ⟨⟨Nat.le_refl _, (by decide : (1 : Nat) ≤ 9223372036854775807), fun h => by cases h⟩, .inr ⟨_, 0, rfl, ?_, fun i hi => ?_⟩⟩, ?_⟩
  · simp
  · obtain rfl : i = 0 := by simp at hi; omega
    show World.cell? _ _ = _
    simp [cell_alloc_if]
  · (repeat' (first | (with_reducible exact Below.refl _ _) | (with_reducible assumption) | (with_reducible refine Below.alloc ?_ ?_ _) | (with_reducible refine below_drewN ?_ _) | (with_reducible refine Below.drew ?_) | (with_reducible refine Below.setCell ?_ ?_ _) | (with_reducible refine below_via (by assumption) ?_ ?_) | (with_reducible refine below_via (later_below _) ?_ ?_) | (with_reducible exact Nat.le_refl _) | omega | (simp; omega) | (simp; done)))
set_option maxRecDepth 100000 in
theorem titles_f2 (s : TS) (h2 : s.k = 2) (hl : s.names.length ≠ 1) : TIc s := by
  intro w hin
  have ht : (tiP s).names = [⟨#[]⟩] ∧ (tiP s).m = ⟨#[]⟩ := by
    unfold tiP
    rw [if_neg (fun h => hl h.2), show (s.k == 3) = false by rw [h2]; rfl]
    exact ⟨rfl, rfl⟩
  rw [ht.1, ht.2]
  have d2 : (s.k == 2) = true := by simpa using h2
  have d3 : (s.k == 3) = false := by rw [h2]; rfl
  have dl : ((s.names.length : Int) == 1) = false := by simp; omega
  have hS := ((inS_iff s).1 hin).1.ni
  obtain ⟨n1, n2, -⟩ := hS
  clear hin ht h2
  have fr1 := fun i => frozen_out w (w.heap.size + 1) i (by omega)
  have fr3 := fun i => frozen_out w (w.heap.size + 1 + 1 + 1) i (by omega)
  go_enter Tryz.func33, Tryz.ntmps33
  go_wp2_with fail
  ((try simp only [Exit.inBlock, Exit.then]); refine bodyPost_ret (by first | (simp [results, Tryz.results33, go_sem, *]; done) | (simp [results, Tryz.results33, go_sem, *]; rfl) | (simp [results, Tryz.results33, go_sem, ↓IntWalk.iteOmega, *]; try rfl)) rfl ?_)
  refine ⟨⟨some ⟨w.heap.size + 1 + 1, 0, none⟩, 1, [⟨#[]⟩], ⟨#[]⟩⟩, rfl, rfl, rfl, ⟨⟨Nat.le_refl _, (by decide : (1 : Nat) ≤ 9223372036854775807), fun h => by cases h⟩, .inr ⟨_, 0, rfl, ?_, fun i hi => ?_⟩⟩, ?_⟩
  · simp
  · obtain rfl : i = 0 := by simp at hi; omega
    show World.cell? _ _ = _
    simp [cell_alloc_if]
  · (repeat' (first | (with_reducible exact Below.refl _ _) | (with_reducible assumption) | (with_reducible refine Below.alloc ?_ ?_ _) | (with_reducible refine below_drewN ?_ _) | (with_reducible refine Below.drew ?_) | (with_reducible refine Below.setCell ?_ ?_ _) | (with_reducible refine below_via (by assumption) ?_ ?_) | (with_reducible refine below_via (later_below _) ?_ ?_) | (with_reducible exact Nat.le_refl _) | omega | (simp; omega) | (simp; done)))
set_option maxRecDepth 100000 in
theorem titles_a0 (s : TS) (h3 : s.k = 3) (hl : s.left.length ≠ 1 ∨ s.right.length ≠ 1) : TIc s := by
  intro w hin
  have ht : (tiP s).names = [⟨#[]⟩] ∧ (tiP s).m = ⟨#[]⟩ := by
    unfold tiP
    rw [if_neg (fun h => by omega)]
    split
    · rename_i x _ hx hr
      exfalso
      rw [hx, hr] at hl
      simp at hl
    · exact ⟨rfl, rfl⟩
  rw [ht.1, ht.2]
  have d2 : (s.k == 2) = false := by rw [h3]; rfl
  have d3 : (s.k == 3) = true := by simpa using h3
  have hS := ((inS_iff s).1 hin).1
  obtain ⟨n1, n2, -⟩ := hS.li
  obtain ⟨n3, n4, -⟩ := hS.ri
  clear hin ht h3 hS
  have fr1 := fun i => frozen_out w (w.heap.size + 1) i (by omega)
  have fr3 := fun i => frozen_out w (w.heap.size + 1 + 1 + 1) i (by omega)
  by_cases h1 : s.left.length = 1
  · have dr : ((s.right.length : Int) == 1) = false := by simp; omega
    have dl : (s.left.length : Int) = 1 := by omega
    clear hl
    go_enter Tryz.func33, Tryz.ntmps33
    go_wp2_with fail
    ((try simp only [Exit.inBlock, Exit.then]); refine bodyPost_ret (by first | (simp [results, Tryz.results33, go_sem, *]; done) | (simp [results, Tryz.results33, go_sem, *]; rfl) | (simp [results, Tryz.results33, go_sem, ↓IntWalk.iteOmega, *]; try rfl)) rfl ?_)
    refine ⟨⟨some ⟨w.heap.size + 1 + 1, 0, none⟩, 1, [⟨#[]⟩], ⟨#[]⟩⟩, rfl, rfl, rfl, ⟨⟨Nat.le_refl _, (by decide : (1 : Nat) ≤ 9223372036854775807), fun h => by cases h⟩, .inr ⟨_, 0, rfl, ?_, fun i hi => ?_⟩⟩, ?_⟩
    · simp
    · obtain rfl : i = 0 := by simp at hi; omega
      show World.cell? _ _ = _
      simp [cell_alloc_if]
    · (repeat' (first | (with_reducible exact Below.refl _ _) | (with_reducible assumption) | (with_reducible refine Below.alloc ?_ ?_ _) | (with_reducible refine below_drewN ?_ _) | (with_reducible refine Below.drew ?_) | (with_reducible refine Below.setCell ?_ ?_ _) | (with_reducible refine below_via (by assumption) ?_ ?_) | (with_reducible refine below_via (later_below _) ?_ ?_) | (with_reducible exact Nat.le_refl _) | omega | (simp; omega) | (simp; done)))
  · have dl : ((s.left.length : Int) == 1) = false := by simp; omega
    clear hl
    go_enter Tryz.func33, Tryz.ntmps33
    go_wp2_with fail
    ((try simp only [Exit.inBlock, Exit.then]); refine bodyPost_ret (by first | (simp [results, Tryz.results33, go_sem, *]; done) | (simp [results, Tryz.results33, go_sem, *]; rfl) | (simp [results, Tryz.results33, go_sem, ↓IntWalk.iteOmega, *]; try rfl)) rfl ?_)
    refine ⟨⟨some ⟨w.heap.size + 1 + 1, 0, none⟩, 1, [⟨#[]⟩], ⟨#[]⟩⟩, rfl, rfl, rfl, ⟨⟨Nat.le_refl _, (by decide : (1 : Nat) ≤ 9223372036854775807), fun h => by cases h⟩, .inr ⟨_, 0, rfl, ?_, fun i hi => ?_⟩⟩, ?_⟩
    · simp
    · obtain rfl : i = 0 := by simp at hi; omega
      show World.cell? _ _ = _
      simp [cell_alloc_if]
    · (repeat' (first | (with_reducible exact Below.refl _ _) | (with_reducible assumption) | (with_reducible refine Below.alloc ?_ ?_ _) | (with_reducible refine below_drewN ?_ _) | (with_reducible refine Below.drew ?_) | (with_reducible refine Below.setCell ?_ ?_ _) | (with_reducible refine below_via (by assumption) ?_ ?_) | (with_reducible refine below_via (later_below _) ?_ ?_) | (with_reducible exact Nat.le_refl _) | omega | (simp; omega) | (simp; done)))
end Go.Proofs.YthkpggpnbdedjaaGreat

/- titles at an assignment of one function to one side. -/
namespace Go.Proofs.YthkpggpnbdedjaaGreat
open Go.RowKit Go.Instr Go.Shelf
set_option linter.unusedVariables false

theorem cut2 (t : Nat) (e : TypeId) : 2 ≤ (Question.appendCap 2 1 e).cut t ∧ (Question.appendCap 2 1 e).cut t ≤ 9223372036854775807 := by
  show 2 ≤ 2 + t % (2 ^ 63 - 2) ∧ 2 + t % (2 ^ 63 - 2) ≤ 9223372036854775807
  omega
theorem two_0 (a b : Value) (Z : Array Value) : (#[a, b] ++ Z)[0]? = some a := by rw [Array.getElem?_append_left (by simp)]; rfl
theorem two_1 (a b : Value) (Z : Array Value) : (#[a, b] ++ Z)[1]? = some b := by rw [Array.getElem?_append_left (by simp)]; rfl
/-- What titles knows of its own memory (n: the heap's size at its start) and of the words of the left side. -/
structure TSt (n g : Nat) (L : List ByteArray) (W : World) : Prop where
  t0 : W.cell? ⟨n + 1 + 1 + 1, 0, none⟩ = some (.slice (some ⟨n + 1 + 1, 0, none⟩) 1 1)
  t1 : W.cell? ⟨n + 1 + 1 + 1, 1, none⟩ = some (.string ⟨#[]⟩)
  tf0 : W.frozen? ⟨n + 1 + 1 + 1, 0, none⟩ = false
  tf1 : W.frozen? ⟨n + 1 + 1 + 1, 1, none⟩ = false
  r0 : W.cell? ⟨n + 1, 0, none⟩ = some (.slice none 0 0)
  r1 : W.cell? ⟨n + 1, 1, none⟩ = some (.string ⟨#[]⟩)
  rf0 : W.frozen? ⟨n + 1, 0, none⟩ = false
  rf1 : W.frozen? ⟨n + 1, 1, none⟩ = false
  row : ∀ j, (hj : j < L.length) → W.cell? ⟨g, j, none⟩ = some (.string L[j])
  n0 : W.cell? ⟨n + 1 + 1, 0, none⟩ = some (.string ⟨#[]⟩)
  gl : g < W.heap.size
  gn : n + 1 + 1 + 1 < g
theorem TSt.later {n g : Nat} {L : List ByteArray} {W W' : World} (h : TSt n g L W) (hg : Below W.heap.size W W') : TSt n g L W' := by
  have e3 := hg.block (n + 1 + 1 + 1) (cell_lt h.t0)
  have e1 := hg.block (n + 1) (cell_lt h.r0)
  have e2 := hg.block (n + 1 + 1) (cell_lt h.n0)
  have eg := hg.block g h.gl
  exact ⟨(World.cell?_of_block (a := ⟨_, _, none⟩) e3).trans h.t0, (World.cell?_of_block (a := ⟨_, _, none⟩) e3).trans h.t1, (World.frozen?_of_block (a := ⟨_, _, none⟩) e3).trans h.tf0, (World.frozen?_of_block (a := ⟨_, _, none⟩) e3).trans h.tf1,
    (World.cell?_of_block (a := ⟨_, _, none⟩) e1).trans h.r0, (World.cell?_of_block (a := ⟨_, _, none⟩) e1).trans h.r1, (World.frozen?_of_block (a := ⟨_, _, none⟩) e1).trans h.rf0, (World.frozen?_of_block (a := ⟨_, _, none⟩) e1).trans h.rf1,
    fun j hj => (World.cell?_of_block (a := ⟨_, _, none⟩) eg).trans (h.row j hj), (World.cell?_of_block (a := ⟨_, _, none⟩) e2).trans h.n0, Nat.lt_of_lt_of_le h.gl hg.size, h.gn⟩

/-- The same behind the first names: the title holds the names at block B and this method. -/
structure RSt (n g : Nat) (L : List ByteArray) (J m : ByteArray) (B c : Nat) (W : World) : Prop where
  q0 : W.cell? ⟨n + 1 + 1 + 1, 0, none⟩ = some (.slice (some ⟨B, 0, none⟩) 2 c)
  q1 : W.cell? ⟨n + 1 + 1 + 1, 1, none⟩ = some (.string m)
  qf0 : W.frozen? ⟨n + 1 + 1 + 1, 0, none⟩ = false
  qf1 : W.frozen? ⟨n + 1 + 1 + 1, 1, none⟩ = false
  p0 : W.cell? ⟨n + 1, 0, none⟩ = some (.slice none 0 0)
  p1 : W.cell? ⟨n + 1, 1, none⟩ = some (.string ⟨#[]⟩)
  pf0 : W.frozen? ⟨n + 1, 0, none⟩ = false
  pf1 : W.frozen? ⟨n + 1, 1, none⟩ = false
  row : ∀ j, (hj : j < L.length) → W.cell? ⟨g, j, none⟩ = some (.string L[j])
  b0 : W.cell? ⟨B, 0, none⟩ = some (.string ⟨#[]⟩)
  b1 : W.cell? ⟨B, 1, none⟩ = some (.string J)
  c2 : 2 ≤ c
  cm : c ≤ 9223372036854775807
  gl : g < W.heap.size
  gn : n + 1 + 1 + 1 < g
  bn : n + 1 + 1 + 1 < B
theorem RSt.later {n g B c : Nat} {L : List ByteArray} {J m : ByteArray} {W W' : World} (h : RSt n g L J m B c W) (hg : Below W.heap.size W W') : RSt n g L J m B c W' := by
  have e3 := hg.block (n + 1 + 1 + 1) (cell_lt h.q0)
  have e1 := hg.block (n + 1) (cell_lt h.p0)
  have eb := hg.block B (cell_lt h.b0)
  have eg := hg.block g h.gl
  exact ⟨(World.cell?_of_block (a := ⟨_, _, none⟩) e3).trans h.q0, (World.cell?_of_block (a := ⟨_, _, none⟩) e3).trans h.q1, (World.frozen?_of_block (a := ⟨_, _, none⟩) e3).trans h.qf0, (World.frozen?_of_block (a := ⟨_, _, none⟩) e3).trans h.qf1,
    (World.cell?_of_block (a := ⟨_, _, none⟩) e1).trans h.p0, (World.cell?_of_block (a := ⟨_, _, none⟩) e1).trans h.p1, (World.frozen?_of_block (a := ⟨_, _, none⟩) e1).trans h.pf0, (World.frozen?_of_block (a := ⟨_, _, none⟩) e1).trans h.pf1,
    fun j hj => (World.cell?_of_block (a := ⟨_, _, none⟩) eg).trans (h.row j hj), (World.cell?_of_block (a := ⟨_, _, none⟩) eb).trans h.b0, (World.cell?_of_block (a := ⟨_, _, none⟩) eb).trans h.b1, h.c2, h.cm, Nat.lt_of_lt_of_le h.gl hg.size, h.gn, h.bn⟩
theorem RSt.set {n g B c : Nat} {L : List ByteArray} {J m : ByteArray} {W : World} (h : RSt n g L J m B c W) (u : ByteArray) : RSt n g L J u B c (W.setCell ⟨n + 1 + 1 + 1, 1, none⟩ (.string u)) := by
  have hg := h.gn
  have hb := h.bn
  exact ⟨(World.cell?_setCell_other _ _ _ _ (fun e => by injection e with e1 e2; cases e2)).trans h.q0, World.cell?_setCell_same _ _ _ h.q1, (World.frozen?_setCell _ _ _ _).trans h.qf0, (World.frozen?_setCell _ _ _ _).trans h.qf1,
    (World.cell?_setCell_other _ _ _ _ (fun e => by injection e with e1 e2; omega)).trans h.p0, (World.cell?_setCell_other _ _ _ _ (fun e => by injection e with e1 e2; omega)).trans h.p1, (World.frozen?_setCell _ _ _ _).trans h.pf0, (World.frozen?_setCell _ _ _ _).trans h.pf1,
    fun j hj => (World.cell?_setCell_other _ _ _ _ (fun e => by injection e with e1 e2; omega)).trans (h.row j hj), (World.cell?_setCell_other _ _ _ _ (fun e => by injection e with e1 e2; omega)).trans h.b0, (World.cell?_setCell_other _ _ _ _ (fun e => by injection e with e1 e2; omega)).trans h.b1, h.c2, h.cm, by have := h.gl; simpa [World.setCell] using this, h.gn, h.bn⟩
/-- Behind the append and the store of the names. -/
theorem TSt.names {n g c : Nat} {L : List ByteArray} {J : ByteArray} {W : World} {Z : Array Value} {T : TypeId} (h : TSt n g L W) (hn : n + 1 + 1 + 1 < W.heap.size) (h2 : 2 ≤ c) (hm : c ≤ 9223372036854775807) :
    RSt n g L J ⟨#[]⟩ (W.heap.size + 1) c (((W.alloc (.cells #[.string J] T)).alloc (.cells (#[.string ⟨#[]⟩, .string J] ++ Z) T)).setCell ⟨n + 1 + 1 + 1, 0, none⟩ (.slice (some ⟨W.heap.size + 1, 0, none⟩) 2 c)) := by
  have hS := h.later (W' := (W.alloc (.cells #[.string J] T)).alloc (.cells (#[.string ⟨#[]⟩, .string J] ++ Z) T)) (((Below.refl _ _).alloc (Nat.le_refl _) _).alloc (by simp) _)
  have hg := h.gn
  exact ⟨World.cell?_setCell_same _ _ _ hS.t0, (World.cell?_setCell_other _ _ _ _ (fun e => by injection e with e1 e2; cases e2)).trans hS.t1, (World.frozen?_setCell _ _ _ _).trans hS.tf0, (World.frozen?_setCell _ _ _ _).trans hS.tf1,
    (World.cell?_setCell_other _ _ _ _ (fun e => by injection e with e1 e2; omega)).trans hS.r0, (World.cell?_setCell_other _ _ _ _ (fun e => by injection e with e1 e2; omega)).trans hS.r1, (World.frozen?_setCell _ _ _ _).trans hS.rf0, (World.frozen?_setCell _ _ _ _).trans hS.rf1,
    fun j hj => (World.cell?_setCell_other _ _ _ _ (fun e => by injection e with e1 e2; omega)).trans (hS.row j hj), (World.cell?_setCell_other _ _ _ _ (fun e => by injection e with e1 e2; omega)).trans (by simp [cell_alloc_if, two_0]), (World.cell?_setCell_other _ _ _ _ (fun e => by injection e with e1 e2; omega)).trans (by simp [cell_alloc_if, two_1]), h2, hm, by have := hS.gl; simpa [World.setCell] using this, h.gn, by omega⟩

set_option maxRecDepth 100000 in
set_option maxHeartbeats 8000000 in
theorem titles_a1 (s : TS) (h3 : s.k = 3) (hl : s.left.length = 1) (hr : s.right.length = 1) (hrk : rkS s ≤ 1048576) : TIc s := by
  intro w hin
  obtain ⟨i0, hi1, hz0, hz1, hz2⟩ := info_parts str_inf
  obtain ⟨x, hx⟩ : ∃ x, s.left = [x] := by
    match h : s.left with
    | [x] => exact ⟨x, rfl⟩
    | [] => rw [h] at hl; cases hl
    | _ :: _ :: _ => rw [h] at hl; simp at hl
  obtain ⟨L, hL⟩ : ∃ L, (pthN (rkX x + 1) x).1 = L := ⟨_, rfl⟩
  obtain ⟨ok, hok⟩ : ∃ L, (pthN (rkX x + 1) x).2 = L := ⟨_, rfl⟩
  have ht : tiP s = if ok = true then ⟨none, 2, [⟨#[]⟩, joinB 46 L], if 1 < L.length then joinB 46 L.dropLast ++ ⟨#[58]⟩ ++ (L.getLast?.getD ⟨#[]⟩) else ⟨#[]⟩⟩ else T0 := by
    unfold tiP
    rw [if_neg (fun h => by omega), show (s.k == 3) = true by simpa using h3, hx, hr]
    show (if (pthN (rkX x + 1) x).2 = true then _ else _) = _
    rw [hL, hok]
  have hLs : (L.map rkP).sum ≤ 1048576 := by
    have h1 := pthN_sz (rkX x + 1) x
    rw [hL] at h1
    rw [rkS_eq, hx] at hrk
    have h2 : rkXs [x] = rkX x + 0 := rfl
    omega
  have hLne : ok = true → L ≠ [] := fun h => by rw [← hL]; exact pthN_ne _ _ (by rw [hok]; exact h)
  have hrx : rkX x ≤ 1048576 := by
    rw [rkS_eq, hx] at hrk
    have h2 : rkXs [x] = rkX x + 0 := rfl
    omega
  have HP : Hid (∀ W, Below w.heap.size w W → Calls Tryz.prog 45 #[x.v] W fun e w' => ∃ v, e = .returned (.tuple #[v, .bool ok]) ∧ Buf W W.heap.size 9 v (strsV L) w') := fun W hW => by
    rw [← hL, ← hok]
    exact path_all (rkX x + 1) (by omega) x W (by omega) (((inXs_iff _).1 hin.lf.2.2 x (by rw [hx]; exact List.mem_cons_self)).still (still_of hW (Nat.le_refl _)) hW.size)
  rw [ht]
  have d2 : (s.k == 2) = false := by rw [h3]; rfl
  have d3 : (s.k == 3) = true := by simpa using h3
  have hS := ((inS_iff s).1 hin).1
  obtain ⟨n1, n2, -⟩ := hS.li
  obtain ⟨n3, n4, -⟩ := hS.ri
  obtain ⟨b, o, ha, hb0, hc⟩ := hS.lAt.resolve_left (by omega)
  have hc0 := hc 0 (by omega)
  rw [Nat.zero_mul, Nat.add_zero, show s.left[0] = x by simp [hx]] at hc0
  obtain ⟨c0, c1, c2, c3, c4, c5, c6, c7⟩ := hc0
  have dl : (s.left.length : Int) = 1 := by omega
  have dr : (s.right.length : Int) = 1 := by omega
  have fr1 := fun i => frozen_out w (w.heap.size + 1) i (by omega)
  have fr3 := fun i => frozen_out w (w.heap.size + 1 + 1 + 1) i (by omega)
  clear hin ht h3 hS hx hL hok hc hrk hrx
  cases ok with
  | false =>
    rw [if_neg (by simp)]
    show Calls _ _ _ _ fun e W' => ∃ t : TT, e = .returned t.v ∧ t.names = [⟨#[]⟩] ∧ t.m = ⟨#[]⟩ ∧ TtOk W' W'.heap.size t ∧ Below w.heap.size w W'
    clear hLne hLs
    go_enter Tryz.func33, Tryz.ntmps33
    go_wp2_with (go_at_call 45; (with_reducible refine (HP.out _ ?_).mono ?_); (focus ((repeat' (first | (with_reducible exact Below.refl _ _) | (with_reducible assumption) | (with_reducible refine Below.alloc ?_ ?_ _) | (with_reducible refine below_drewN ?_ _) | (with_reducible refine Below.drew ?_) | (with_reducible refine Below.setCell ?_ ?_ _) | (with_reducible refine below_via (by assumption) ?_ ?_) | (with_reducible refine below_via (later_below _) ?_ ?_) | (with_reducible exact Nat.le_refl _) | omega | (simp; omega) | (simp; done))))); rintro e w4 ⟨v, rfl, hbf⟩; have hb := hbf.2.1; have hb4 := hb; obtain ⟨a4, q4, rfl⟩ := hbf.form; clear hbf; (refine mem hb ?_; intro N hN hz hc hf; (try simp at hN); subst hN))
    ((try simp only [Exit.inBlock, Exit.then]); refine bodyPost_ret (by first | (simp [results, Tryz.results33, go_sem, *]; done) | (simp [results, Tryz.results33, go_sem, *]; rfl) | (simp [results, Tryz.results33, go_sem, ↓IntWalk.iteOmega, *]; try rfl)) rfl ?_)
    have k0 : w4.cell? ⟨w.heap.size + 1 + 1, 0, none⟩ = some (.string ⟨#[]⟩) := (hb4.cell (p := ⟨w.heap.size + 1 + 1, 0, none⟩) (by simp)).trans (by simp [cell_alloc_if])
    have hlt := cell_lt k0
    refine ⟨⟨some ⟨w.heap.size + 1 + 1, 0, none⟩, 1, [⟨#[]⟩], ⟨#[]⟩⟩, rfl, rfl, rfl, ⟨⟨Nat.le_refl _, (by decide : (1 : Nat) ≤ 9223372036854775807), fun h => by cases h⟩, .inr ⟨_, 0, rfl, by simpa using hlt, fun i hi => ?_⟩⟩, ?_⟩
    · obtain rfl : i = 0 := by simp at hi; omega
      exact (World.cell?_setCell_other _ _ _ _ (fun e => by injection e with e; omega)).trans ((World.cell?_setCell_other _ _ _ _ (fun e => by injection e with e; omega)).trans k0)
    · (repeat' (first | (with_reducible exact Below.refl _ _) | (with_reducible assumption) | (with_reducible refine Below.alloc ?_ ?_ _) | (with_reducible refine below_drewN ?_ _) | (with_reducible refine Below.drew ?_) | (with_reducible refine Below.setCell ?_ ?_ _) | (with_reducible refine below_via (by assumption) ?_ ?_) | (with_reducible refine below_via (later_below _) ?_ ?_) | (with_reducible exact Nat.le_refl _) | omega | (simp; omega) | (simp; done)))
  | true =>
    rw [if_pos rfl]
    show Calls _ _ _ _ fun e W' => ∃ t : TT, e = .returned t.v ∧ t.names = [⟨#[]⟩, joinB 46 L] ∧ t.m = (if 1 < L.length then joinB 46 L.dropLast ++ ⟨#[58]⟩ ++ (L.getLast?.getD ⟨#[]⟩) else ⟨#[]⟩) ∧ TtOk W' W'.heap.size t ∧ Below w.heap.size w W'
    obtain ⟨mm, hmm⟩ : ∃ mm, (if 1 < L.length then joinB 46 L.dropLast ++ ⟨#[58]⟩ ++ (L.getLast?.getD ⟨#[]⟩) else ⟨#[]⟩) = mm := ⟨_, rfl⟩
    rw [hmm]
    have HMM := Lib.hid hmm
    clear hmm
    obtain ⟨M, hM⟩ : ∃ M, L.length = M + 1 := by
      have h := hLne rfl
      cases L with
      | nil => exact absurd rfl h
      | cons a l => exact ⟨l.length, rfl⟩
    obtain ⟨J, hJ⟩ : ∃ J, joinB 46 L = J := ⟨_, rfl⟩
    have HJ : Hid (∀ W g c, TSt w.heap.size g L W → M + 1 ≤ c → Calls Tryz.prog 46 #[.slice (some ⟨g, 0, none⟩) (M + 1) c, .string ⟨#[46]⟩] W fun e w' => e = .returned (.string J) ∧ Below W.heap.size W w') := fun W g c h hc => by
      have := joinP_any L W g c h.gl (by omega) hLs h.row
      rw [hJ, hM] at this
      exact this
    have HRES : Hid (∀ (b9 c9 : Nat) (W : World), 2 ≤ c9 → c9 ≤ 9223372036854775807 → b9 < W.heap.size → W.cell? ⟨b9, 0, none⟩ = some (.string ⟨#[]⟩) → W.cell? ⟨b9, 1, none⟩ = some (.string J) → Below w.heap.size w W →
        ∃ t : TT, Ending.returned (.agg #[.slice (some ⟨b9, 0, none⟩) 2 c9, .string mm]) = .returned t.v ∧ t.names = [⟨#[]⟩, joinB 46 L] ∧ t.m = mm ∧ TtOk W W.heap.size t ∧ Below w.heap.size w W) := fun b9 c9 W h2 h3 h4 h5 h6 h7 => by
      refine ⟨⟨some ⟨b9, 0, none⟩, c9, [⟨#[]⟩, J], mm⟩, rfl, by rw [hJ], rfl, ⟨⟨h2, h3, fun h => by cases h⟩, .inr ⟨_, 0, rfl, h4, fun i hi => ?_⟩⟩, h7⟩
      have : i = 0 ∨ i = 1 := by simp at hi; omega
      rcases this with rfl | rfl
      · exact h5
      · exact h6
    clear hLne hJ
    go_enter Tryz.func33, Tryz.ntmps33
    go_upto_region 8 with (go_at_call 45; (with_reducible refine (HP.out _ ?_).mono ?_); (focus ((repeat' (first | (with_reducible exact Below.refl _ _) | (with_reducible assumption) | (with_reducible refine Below.alloc ?_ ?_ _) | (with_reducible refine below_drewN ?_ _) | (with_reducible refine Below.drew ?_) | (with_reducible refine Below.setCell ?_ ?_ _) | (with_reducible refine below_via (by assumption) ?_ ?_) | (with_reducible refine below_via (later_below _) ?_ ?_) | (with_reducible exact Nat.le_refl _) | omega | (simp; omega) | (simp; done))))); rintro e w4 ⟨v, rfl, hbf⟩; have hb := hbf.2.1; have hb4 := hb; have hst : ∃ g c, v = .slice (some ⟨g, 0, none⟩) (M + 1) c ∧ M + 1 ≤ c ∧ TSt w.heap.size g L w4 := ?pathst; obtain ⟨g, q4, rfl, hq4, hst⟩ := hst; have HST := Lib.hid hst; obtain ⟨t0, t1, tf0, tf1, r0, r1, rf0, rf1, -, e0, gl, gn⟩ := hst; clear hbf)
    case pathst =>
      obtain ⟨g, c, hv, hg1, hg2, hg3, hcell⟩ := own_cell hbf.1 (by rw [strsV_len]; omega)
      rw [strsV_len, hM] at hv hg3
      have hgn : w.heap.size + 1 + 1 + 1 < g := by have h := hg1; simp at h; omega
      refine ⟨g, c, hv, hg3, ⟨?_, ?_, ?_, ?_, ?_, ?_, ?_, ?_, fun j hj => ?_, ?_, hg2, hgn⟩⟩
      · exact (hb4.cell (p := ⟨w.heap.size + 1 + 1 + 1, 0, none⟩) (by simp)).trans (by simp [cell_alloc_if])
      · exact (hb4.cell (p := ⟨w.heap.size + 1 + 1 + 1, 1, none⟩) (by simp)).trans (by simp [cell_alloc_if])
      · exact (hb4.frozen (p := ⟨w.heap.size + 1 + 1 + 1, 0, none⟩) (by simp)).trans (by simp [frozen_alloc, fr3])
      · exact (hb4.frozen (p := ⟨w.heap.size + 1 + 1 + 1, 1, none⟩) (by simp)).trans (by simp [frozen_alloc, fr3])
      · exact (hb4.cell (p := ⟨w.heap.size + 1, 0, none⟩) (by simp)).trans (by simp [cell_alloc_if])
      · exact (hb4.cell (p := ⟨w.heap.size + 1, 1, none⟩) (by simp)).trans (by simp [cell_alloc_if])
      · exact (hb4.frozen (p := ⟨w.heap.size + 1, 0, none⟩) (by simp)).trans (by simp [frozen_alloc, fr1])
      · exact (hb4.frozen (p := ⟨w.heap.size + 1, 1, none⟩) (by simp)).trans (by simp [frozen_alloc, fr1])
      · rw [hcell j (by rw [strsV_len]; exact hj)]
        unfold strsV
        rw [List.getElem?_map, List.getElem?_eq_getElem hj]
        rfl
      · exact (hb4.cell (p := ⟨w.heap.size + 1 + 1, 0, none⟩) (by simp)).trans (by simp [cell_alloc_if])
    have hz4 : w.heap.size + 1 + 1 + 1 + 1 ≤ w4.heap.size := by have := hb4.size; simpa using this
    have HB4 : Hid (Below w.heap.size w w4) := by show Below _ _ _; (repeat' (first | (with_reducible exact Below.refl _ _) | (with_reducible assumption) | (with_reducible refine Below.alloc ?_ ?_ _) | (with_reducible refine below_drewN ?_ _) | (with_reducible refine Below.drew ?_) | (with_reducible refine Below.setCell ?_ ?_ _) | (with_reducible refine below_via (by assumption) ?_ ?_) | (with_reducible refine below_via (later_below _) ?_ ?_) | (with_reducible exact Nat.le_refl _) | omega | (simp; omega) | (simp; done)))
    clear hb4
    have hns : Builtin.nextslicecap 2 1 = 2 := by kernel_rfl
    have hby9 : Tryz.t9.bytes = 16 := by kernel_rfl
    go_cut [] (fun wx => ∃ B c, RSt w.heap.size g L J ⟨#[]⟩ B c wx ∧ Below w.heap.size w wx)
    case first =>
      go_region_with (first | (go_at_call 46; (with_reducible refine (HJ.out _ g q4 (HST.out.later ?_) hq4).mono ?_); (focus ((repeat' (first | (with_reducible exact Below.refl _ _) | (with_reducible assumption) | (with_reducible refine Below.alloc ?_ ?_ _) | (with_reducible refine below_drewN ?_ _) | (with_reducible refine Below.drew ?_) | (with_reducible refine Below.setCell ?_ ?_ _) | (with_reducible refine below_via (by assumption) ?_ ?_) | (with_reducible refine below_via (later_below _) ?_ ?_) | (with_reducible exact Nat.le_refl _) | omega | (simp; omega) | (simp; done))))); rintro e w5 ⟨rfl, hb⟩; have hz5 : w4.heap.size ≤ w5.heap.size := hb.size; have hb9 : Below w4.heap.size w4 w5 := (by (repeat' (first | (with_reducible exact Below.refl _ _) | (with_reducible assumption) | (with_reducible refine Below.alloc ?_ ?_ _) | (with_reducible refine below_drewN ?_ _) | (with_reducible refine Below.drew ?_) | (with_reducible refine Below.setCell ?_ ?_ _) | (with_reducible refine below_via (by assumption) ?_ ?_) | (with_reducible refine below_via (later_below _) ?_ ?_) | (with_reducible exact Nat.le_refl _) | omega | (simp; omega) | (simp; done)))); have HST5 := Lib.hid (HST.out.later hb9); have HB5 := Lib.hid (HB4.out.trans (hb9.mono (by omega))); obtain ⟨t0, t1, tf0, tf1, r0, r1, rf0, rf1, -, e0, gl, gn⟩ := HST5.out))
      all_goals
        have hcc := cut2 (w5.tape w5.drawn (Question.appendCap 2 1 9)) 9
        generalize (Question.appendCap 2 1 9).cut (w5.tape w5.drawn (Question.appendCap 2 1 9)) = c9 at hcc ⊢
        generalize Builtin.zeroCells #[Value.string ⟨#[]⟩] (c9 - 2) = Z
        have hRR := HST5.out.names (J := J) (Z := Z) (T := 9) (by omega) hcc.1 hcc.2
        have hRB : Below w.heap.size w (((w5.alloc (.cells #[.string J] 9)).alloc (.cells (#[.string ⟨#[]⟩, .string J] ++ Z) 9)).setCell ⟨w.heap.size + 1 + 1 + 1, 0, none⟩ (.slice (some ⟨w5.heap.size + 1, 0, none⟩) 2 c9)) := ((HB5.out.alloc (by omega) _).alloc (by simp; omega) _).setCell (p := ⟨w.heap.size + 1 + 1 + 1, 0, none⟩) (by show w.heap.size ≤ w.heap.size + 1 + 1 + 1; omega) _
        go_wp2_with fail
        go_meet
        first | exact ⟨_, _, hRR, hRB⟩ | exact ⟨_, _, hRR.later ((Below.refl _ _).drew), hRB.drew⟩
    case rest =>
      obtain ⟨b9, c9, hR, hRB⟩ := hcut
      have HR := Lib.hid hR
      have HRB := Lib.hid hRB
      obtain ⟨q0, q1, qf0, qf1, p0, p1, pf0, pf1, -, nb0, nb1, hc2, hc63, gl6, hgn, hb9n⟩ := hR
      clear hRB t0 t1 tf0 tf1 r0 r1 rf0 rf1 e0 gl HST
      have hm5 : M + 1 ≤ 1048576 := by
        have h1 : L.length ≤ (L.map rkP).sum := rk_len L
        omega
      have hb9l := cell_lt nb0
      rcases Nat.eq_zero_or_pos M with hM0 | hM0
      · obtain rfl : mm = ⟨#[]⟩ := by rw [← HMM.out, if_neg (by omega)]
        subst hM0
        go_wp2_with fail
        ((try simp only [Exit.inBlock, Exit.then]); refine bodyPost_ret (by first | (simp [results, Tryz.results33, go_sem, *]; done) | (simp [results, Tryz.results33, go_sem, *]; rfl) | (simp [results, Tryz.results33, go_sem, ↓IntWalk.iteOmega, *]; try rfl)) rfl ?_)
        refine HRES.out b9 c9 _ hc2 hc63 (by simpa using hb9l) ?_ ?_ ?_
        · exact (World.cell?_setCell_other _ _ _ _ (fun e => by injection e with e1 e2; omega)).trans ((World.cell?_setCell_other _ _ _ _ (fun e => by injection e with e1 e2; omega)).trans nb0)
        · exact (World.cell?_setCell_other _ _ _ _ (fun e => by injection e with e1 e2; omega)).trans ((World.cell?_setCell_other _ _ _ _ (fun e => by injection e with e1 e2; omega)).trans nb1)
        · exact (HRB.out.setCell (p := ⟨w.heap.size + 1, 0, none⟩) (by show w.heap.size ≤ w.heap.size + 1; omega) _).setCell (p := ⟨w.heap.size + 1, 1, none⟩) (by show w.heap.size ≤ w.heap.size + 1; omega) _
      · obtain ⟨q, hq⟩ : ∃ q, L[M]'(by omega) = q := ⟨_, rfl⟩
        obtain ⟨K, hK⟩ : ∃ K, joinB 46 (L.take M) = K := ⟨_, rfl⟩
        have rowM : wc.cell? ⟨g, M, none⟩ = some (.string q) := by rw [← hq]; exact HR.out.row M (by omega)
        have HJ2 : Hid (∀ W, Below wc.heap.size wc W → Calls Tryz.prog 46 #[.slice (some ⟨g, 0, none⟩) M q4, .string ⟨#[46]⟩] W fun e w' => e = .returned (.string K) ∧ Below W.heap.size W w') := fun W hW => by
          have hlm : (L.take M).length = M := by rw [List.length_take]; omega
          have hsm : ((L.take M).map rkP).sum ≤ 1048576 := by
            have e : L = L.take M ++ L.drop M := (List.take_append_drop M L).symm
            have h := hLs
            rw [e, List.map_append, List.sum_append] at h
            omega
          have := joinP_any (L.take M) W g q4 (by have := hW.size; omega) (by omega) hsm (fun j hj => by
            rw [List.getElem_take]
            exact (hW.cell (p := ⟨g, j, none⟩) gl6).trans (HR.out.row j (by omega)))
          rw [hlm, hK] at this
          exact this
        obtain rfl : mm = K ++ ⟨#[58]⟩ ++ q := by
          rw [← HMM.out, if_pos (by omega), ← hK, ← hq]
          have e1 : L.dropLast = L.take M := by rw [List.dropLast_eq_take, hM]; rfl
          have e3 : L.length - 1 = M := by omega
          have e2 : L.getLast? = some (L[M]'(by omega)) := by rw [List.getLast?_eq_getElem?, e3]; exact List.getElem?_eq_getElem _
          rw [e1, e2]
          rfl
        have hKs : K.size ≤ 1048576 := by
          have h1 := join_len 46 (L.take M)
          rw [← joinB_list, hK] at h1
          have e : L = L.take M ++ L.drop M := (List.take_append_drop M L).symm
          have h := hLs
          rw [e, List.map_append, List.sum_append] at h
          have h2 : K.data.toList.length = K.size := by simp
          omega
        have hqs : q.size ≤ 1048576 := by
          have h1 : ∀ l : List ByteArray, q ∈ l → rkP q ≤ (l.map rkP).sum := by
            intro l
            induction l with
            | nil => intro h; cases h
            | cons a l ih =>
              intro h
              rw [List.map_cons, List.sum_cons]
              rcases List.mem_cons.1 h with rfl | h
              · omega
              · have := ih h; omega
          have h2 := h1 L (by rw [← hq]; exact List.getElem_mem _)
          have h3 : rkP q = q.size + 1 := rfl
          omega
        clear hq hK
        go_wp2_with fail
        go_region_with (go_at_call 46; (with_reducible refine (HJ2.out _ ?_).mono ?_); (focus ((repeat' (first | (with_reducible exact Below.refl _ _) | (with_reducible assumption) | (with_reducible refine Below.alloc ?_ ?_ _) | (with_reducible refine below_drewN ?_ _) | (with_reducible refine Below.drew ?_) | (with_reducible refine Below.setCell ?_ ?_ _) | (with_reducible refine below_via (by assumption) ?_ ?_) | (with_reducible refine below_via (later_below _) ?_ ?_) | (with_reducible exact Nat.le_refl _) | omega | (simp; omega) | (simp; done))))); rintro e w7 ⟨rfl, hb⟩; have hz7 : wc.heap.size ≤ w7.heap.size := hb.size; have hb7 : Below wc.heap.size wc w7 := (by (repeat' (first | (with_reducible exact Below.refl _ _) | (with_reducible assumption) | (with_reducible refine Below.alloc ?_ ?_ _) | (with_reducible refine below_drewN ?_ _) | (with_reducible refine Below.drew ?_) | (with_reducible refine Below.setCell ?_ ?_ _) | (with_reducible refine below_via (by assumption) ?_ ?_) | (with_reducible refine below_via (later_below _) ?_ ?_) | (with_reducible exact Nat.le_refl _) | omega | (simp; omega) | (simp; done)))); have hR2 := Lib.hid (HR.out.later hb7); obtain ⟨u0, u1, uf0, uf1, v0, v1, vf0, vf1, -, mb0, mb1, -, -, -, -, -⟩ := hR2.out; have um : w7.cell? ⟨g, M, none⟩ = some (.string q) := (hb7.cell (p := ⟨g, M, none⟩) gl6).trans rowM)
        all_goals
          clear q0 q1 qf0 qf1 p0 p1 pf0 pf1 nb0 nb1 rowM um
          have hb9k := cell_lt mb0
          have hRB2 := Lib.hid (HRB.out.trans (hb7.mono (by omega)))
          go_wp2_with fail
          ((try simp only [Exit.inBlock, Exit.then]); refine bodyPost_ret (by first | (simp [results, Tryz.results33, go_sem, *]; done) | (simp [results, Tryz.results33, go_sem, *]; rfl) | (simp [results, Tryz.results33, go_sem, ↓IntWalk.iteOmega, *]; try rfl)) rfl ?_)
          refine HRES.out b9 c9 _ hc2 hc63 (by simpa using hb9k) ?_ ?_ ?_
          · exact (World.cell?_setCell_other _ _ _ _ (fun e => by injection e with e1 e2; omega)).trans ((World.cell?_setCell_other _ _ _ _ (fun e => by injection e with e1 e2; omega)).trans ((World.cell?_setCell_other _ _ _ _ (fun e => by injection e with e1 e2; omega)).trans mb0))
          · exact (World.cell?_setCell_other _ _ _ _ (fun e => by injection e with e1 e2; omega)).trans ((World.cell?_setCell_other _ _ _ _ (fun e => by injection e with e1 e2; omega)).trans ((World.cell?_setCell_other _ _ _ _ (fun e => by injection e with e1 e2; omega)).trans mb1))
          · exact ((hRB2.out.setCell (p := ⟨w.heap.size + 1 + 1 + 1, 1, none⟩) (by show w.heap.size ≤ w.heap.size + 1 + 1 + 1; omega) _).setCell (p := ⟨w.heap.size + 1, 0, none⟩) (by show w.heap.size ≤ w.heap.size + 1; omega) _).setCell (p := ⟨w.heap.size + 1, 1, none⟩) (by show w.heap.size ≤ w.heap.size + 1; omega) _
end Go.Proofs.YthkpggpnbdedjaaGreat
