/- A tree among the arguments of a law, opened: where its nodes lie, and that it is no larger than what was read. -/
import Derived.Test.YthkpggpnbdedjaaGreatMTrData
import Derived.Test.YthkpggpnbdedjaaGreatRows
import Derived.Deep.Slices
namespace Go.Proofs.YthkpggpnbdedjaaGreat
open Go.ChangeShapes Go.WideShapes Go.ChangeAt Go.RowKit Go.Deep
set_option linter.unusedVariables false

theorem bulk_append {H : Type} : ∀ l r : List (DataW H), Rows.uptoBulkAll (l ++ r) = Rows.uptoBulkAll l + Rows.uptoBulkAll r
  | [], r => by simp [Rows.uptoBulkAll]
  | x :: l, r => by simp only [List.cons_append, Rows.uptoBulkAll, bulk_append l r]; omega
theorem bulk_mem {H : Type} {d : DataW H} : ∀ {l : List (DataW H)}, d ∈ l → Rows.uptoBulk d ≤ Rows.uptoBulkAll l
  | x :: l, h => by
    simp only [Rows.uptoBulkAll]
    rcases List.mem_cons.1 h with h | h
    · subst h; omega
    · have := bulk_mem h; omega
section
variable {H : Type} {enc : TypeId × Value → H} {w : World} {base : Nat} {spare : Nat → Bool} {held : Bool}
theorem wf_i64 {n : Int} (h : (Lit.int .i64 n).wf = true) : I64 n := bounds_i64 h
set_option maxRecDepth 100000 in
/-- A slice of elements of C cells each. -/
theorem open_elems {α : Type} {t e : TypeId} {C fuel : Nat} {cs : List Value} {y : DataW H × List MemPlace} (cells : α → List Value) (OK : α → Prop) (bk : α → Nat) (ht : Tryz.prog.underlying t = some (.slice e)) (hC : Tryz.prog.cellsOf e = C) (h0 : 0 < C)
    (elem : ∀ n, n < fuel → ∀ cs y, cs.length = C → DataW.trod enc Tryz.prog w base spare held n e cs = some y → ∃ v, cs = cells v ∧ OK v ∧ bk v ≤ Rows.uptoBulk y.1)
    (hlen : ∀ v, (cells v).length = C)
    (h : DataW.trod enc Tryz.prog w base spare held fuel t cs = some y) :
    ∃ (a : Option Addr) (c : Nat) (l : List α), cs = [.slice a l.length c] ∧ Slc a l.length c ∧ (∀ v ∈ l, OK v) ∧ At w.heap.size C (fun b o v => ∀ j, j < C → w.cell? ⟨b, o + j, none⟩ = (cells v)[j]?) a l ∧ (l.map bk).sum + 1 ≤ Rows.uptoBulk y.1 := by
  rcases DataW.trod_slice ht h with ⟨rfl, rfl⟩ | ⟨a, len, cap, elems, rest, n, hfu, rfl, hy, hb, hl, hm, hel, hi, -, -⟩
  · exact ⟨none, 0, [], rfl, ⟨Nat.le_refl _, by omega, fun _ => rfl⟩, (fun v hv => by cases hv), .inl rfl, by simp [Rows.uptoBulk]⟩
  · rw [hC] at hi
    have each : ∀ i, (him : i < len) → ∃ v : α, ∃ y', elems[i]? = some y' ∧ OK v ∧ bk v ≤ Rows.uptoBulk y'.1 ∧ a.spot.isSome = false ∧ a.block < w.heap.size ∧ ∀ j, j < C → w.cell? ⟨a.block, a.off + i * C + j, none⟩ = (cells v)[j]? := by
      intro i him
      have hi' := hi i him
      have hei : i < elems.length := by omega
      rw [List.getElem?_eq_getElem hei] at hi'
      cases hc : w.cells? base (a.add (i * C)) C with
      | none => rw [hc] at hi'; cases hi'
      | some cs' =>
        rw [hc] at hi'
        obtain ⟨_, hcl, hat⟩ := World.cells?_some hc
        obtain ⟨v, hv, hok, hbk⟩ := elem n (by omega) cs' _ hcl hi'
        subst hv
        have hadd : ∀ j, w.cell? ((a.add (i * C)).add j) = w.cell? ⟨a.block, a.off + i * C + j, if i * C = 0 ∧ j = 0 then a.spot else none⟩ := by
          intro j
          unfold Addr.add
          by_cases h1 : i * C = 0
          · rw [if_pos h1]
            by_cases h2 : j = 0
            · rw [if_pos h2, if_pos ⟨h1, h2⟩, h1, h2]; rfl
            · rw [if_neg h2, if_neg (fun h => h2 h.2), h1]; rfl
          · rw [if_neg h1]
            by_cases h2 : j = 0
            · rw [if_pos h2, if_neg (fun h => h1 h.1), h2]; rfl
            · rw [if_neg h2, if_neg (fun h => h1 h.1)]
        have hsp : a.spot.isSome = false := by
          have hi0 := hi 0 (by omega)
          rw [List.getElem?_eq_getElem (by omega)] at hi0
          cases hc0 : w.cells? base (a.add (0 * C)) C with
          | none => rw [hc0] at hi0; cases hi0
          | some cs0 =>
            rw [hc0] at hi0
            obtain ⟨_, hcl0, hat0⟩ := World.cells?_some hc0
            have h0' := hat0 0 h0
            have ha0 : (a.add (0 * C)).add 0 = a := by simp [Addr.add]
            rw [ha0, List.getElem?_eq_getElem (by omega)] at h0'
            cases hs : a.spot.isSome with
            | false => rfl
            | true =>
              exfalso
              unfold World.cell? at h0'
              rw [hs] at h0'
              split at h0' <;> simp at h0'
        have hnone : ∀ j, (if i * C = 0 ∧ j = 0 then a.spot else none) = none := by
          intro j
          split
          · simpa using hsp
          · rfl
        have g : ∀ j, j < C → w.cell? ⟨a.block, a.off + i * C + j, none⟩ = (cells v)[j]? := by
          intro j hj
          have := hat j hj
          rw [hadd j, hnone j] at this
          exact this
        refine ⟨v, _, List.getElem?_eq_getElem hei, hok, hbk, hsp, ?_, g⟩
        have g0 := g 0 h0
        rw [List.getElem?_eq_getElem (by rw [hlen]; exact h0)] at g0
        exact cell_lt g0
    have all : ∀ k, k ≤ len → ∃ l : List α, l.length = k ∧ (∀ v ∈ l, OK v) ∧ (l.map bk).sum ≤ Rows.uptoBulkAll ((elems.take k).map (·.1)) ∧ ∀ i, (hi : i < l.length) → ∀ j, j < C → w.cell? ⟨a.block, a.off + i * C + j, none⟩ = (cells l[i])[j]? := by
      intro k
      induction k with
      | zero => exact fun _ => ⟨[], rfl, (fun x hx => by cases hx), by simp [Rows.uptoBulkAll], fun i hi => by cases hi⟩
      | succ k ih =>
        intro hk
        obtain ⟨l, h1, h2, h3, h4⟩ := ih (by omega)
        obtain ⟨v, y', he, hok, hbk, -, -, hc⟩ := each k (by omega)
        refine ⟨l ++ [v], by simp [h1], fun x hx => ?_, ?_, fun i hi => ?_⟩
        · rcases List.mem_append.1 hx with hx | hx
          · exact h2 x hx
          · simp at hx; rw [hx]; exact hok
        · have hlt : k < elems.length := by omega
          rw [List.getElem?_eq_getElem hlt] at he
          injection he with he
          rw [List.take_succ_eq_append_getElem hlt, List.map_append, List.map_append, bulk_append, List.sum_append]
          rw [he]
          simp only [List.map_cons, List.map_nil, List.sum_cons, List.sum_nil, Rows.uptoBulkAll]
          omega
        · by_cases hik : i < l.length
          · rw [List.getElem_append_left hik]; exact h4 i hik
          · obtain rfl : i = k := by simp [h1] at hi hik; omega
            rw [List.getElem_append_right (by omega)]
            simp [h1]; exact hc
    obtain ⟨l, h1, h2, h3, h4⟩ := all len (Nat.le_refl _)
    refine ⟨some a, cap, l, by rw [h1], ⟨by omega, by unfold maxLen at hm; omega, fun h => by cases h⟩, h2, ?_, ?_⟩
    · by_cases hin : 0 < len
      · obtain ⟨v, _, -, -, -, hsp, hbl, -⟩ := each 0 hin
        have ha : a = ⟨a.block, a.off, none⟩ := by
          obtain ⟨b, o, s⟩ := a
          simp at hsp
          rw [hsp]
        exact .inr ⟨a.block, a.off, by rw [← ha], hbl, h4⟩
      · exact .inl (by omega)
    · rw [hy]
      simp only [Rows.uptoBulk]
      rw [List.take_of_length_le (by omega)] at h3
      omega

/-- The cells of the nodes. -/
def TX.cells (x : TX) : List Value := [.int .i64 x.k, .int .i64 x.op, .int .i64 x.ln, .int .i64 x.p, .int .i64 x.q, .string x.s, .slice x.aA x.args.length x.aC, .slice x.fA x.funcs.length x.fC]
def TF.cells (x : TF) : List Value := [.string x.name, .slice x.pA x.params.length x.pC, .bool x.va, .slice x.bA x.body.length x.bC, .int .i64 x.ln]
def TS.cells (x : TS) : List Value := [.int .i64 x.k, .int .i64 x.ln, .slice x.nA x.names.length x.nC, .slice x.lA x.left.length x.lC, .slice x.rA x.right.length x.rC, .slice x.bA x.blocks.length x.bC, .string x.label]
def TB.cells (x : TB) : List Value := [.slice x.a x.l.length x.c]
def cellsL (x : ByteArray × Int) : List Value := [.string x.1, .int .i64 x.2]
def cellsP (x : ByteArray) : List Value := [.string x]
theorem at_of {α : Type} {N C : Nat} {D E : Nat → Nat → α → Prop} {a : Option Addr} {l : List α} (h : At N C D a l) (hDE : ∀ b o v, D b o v → E b o v) : At N C E a l := h.still (fun b o x _ => hDE b o x) (Nat.le_refl _)
theorem x8_of {w : World} (b o : Nat) (x : TX) (h : ∀ j, j < 8 → w.cell? ⟨b, o + j, none⟩ = x.cells[j]?) : X8 w b o x := ⟨h 0 (by omega), h 1 (by omega), h 2 (by omega), h 3 (by omega), h 4 (by omega), h 5 (by omega), h 6 (by omega), h 7 (by omega)⟩
theorem f5_of {w : World} (b o : Nat) (x : TF) (h : ∀ j, j < 5 → w.cell? ⟨b, o + j, none⟩ = x.cells[j]?) : F5 w b o x := ⟨h 0 (by omega), h 1 (by omega), h 2 (by omega), h 3 (by omega), h 4 (by omega)⟩
theorem s7_of {w : World} (b o : Nat) (x : TS) (h : ∀ j, j < 7 → w.cell? ⟨b, o + j, none⟩ = x.cells[j]?) : S7 w b o x := ⟨h 0 (by omega), h 1 (by omega), h 2 (by omega), h 3 (by omega), h 4 (by omega), h 5 (by omega), h 6 (by omega)⟩
theorem b1_of {w : World} (b o : Nat) (x : TB) (h : ∀ j, j < 1 → w.cell? ⟨b, o + j, none⟩ = x.cells[j]?) : B1 w b o x := h 0 (by omega)
theorem l2_of {w : World} (b o : Nat) (x : ByteArray × Int) (h : ∀ j, j < 2 → w.cell? ⟨b, o + j, none⟩ = (cellsL x)[j]?) : L2 w b o x := ⟨h 0 (by omega), h 1 (by omega)⟩
theorem p1_of {w : World} (b o : Nat) (x : ByteArray) (h : ∀ j, j < 1 → w.cell? ⟨b, o + j, none⟩ = (cellsP x)[j]?) : P1 w b o x := h 0 (by omega)
theorem data_size (s : ByteArray) : s.data.toList.length = s.size := by simp
theorem elem_P {n : Nat} {cs : List Value} {y : DataW H × List MemPlace} (hf : DataW.trod enc Tryz.prog w base spare held n 9 cs = some y) : ∃ v : ByteArray, cs = cellsP v ∧ v.size ≤ 9223372036854775807 ∧ rkP v ≤ Rows.uptoBulk y.1 := by
  obtain ⟨s, rfl, rfl, hs⟩ := DataW.trod_string Tryz.underlying9 hf
  exact ⟨s, rfl, hs, by simp [Rows.uptoBulk, rkP]⟩
set_option maxRecDepth 100000 in
theorem elem_L {n : Nat} {cs : List Value} {y : DataW H × List MemPlace} (hsz : cs.length = 2) (hf : DataW.trod enc Tryz.prog w base spare held n 42 cs = some y) : ∃ v : ByteArray × Int, cs = cellsL v ∧ (v.1.size ≤ 9223372036854775807 ∧ I64 v.2) ∧ rkL v ≤ Rows.uptoBulk y.1 := by
  match cs, hsz with
  | [c0, c1], _ =>
    obtain ⟨xs, m, hfu, hy, -, hlen, hF⟩ := DataW.trod_struct Tryz.underlying42 hf
    have hlenN : xs.length = 2 := hlen
    have f0 := hF 0 _ rfl
    have f1 := hF 1 _ rfl
    rw [List.getElem?_eq_getElem (by omega)] at f0 f1
    change DataW.trod enc _ w base spare held m 9 (List.take (Tryz.prog.cellsOf 9) (List.drop 0 [c0, c1])) = _ at f0
    rw [show Tryz.prog.cellsOf 9 = 1 by kernel_rfl] at f0
    change DataW.trod enc _ w base spare held m 3 (List.take (Tryz.prog.cellsOf 3) (List.drop 1 [c0, c1])) = _ at f1
    rw [show Tryz.prog.cellsOf 3 = 1 by kernel_rfl] at f1
    obtain ⟨s, e0, d0, w0⟩ := DataW.trod_string Tryz.underlying9 f0
    obtain ⟨k, e1, -, w1⟩ := DataW.trod_int Tryz.underlying3 f1
    simp at e0 e1
    subst e0 e1
    refine ⟨(s, k), rfl, ⟨w0, wf_i64 w1⟩, ?_⟩
    have hb := bulk_mem (List.mem_map_of_mem (f := (·.1)) (List.getElem_mem (l := xs) (n := 0) (by omega)))
    rw [d0] at hb
    rw [hy]
    simp only [Rows.uptoBulk, rkL, data_size] at hb ⊢
    omega
/-- What reads as a node is one. -/
structure Opens (enc : TypeId × Value → H) (w : World) (base : Nat) (spare : Nat → Bool) (held : Bool) (n : Nat) : Prop where
  x : ∀ cs y, cs.length = 8 → DataW.trod enc Tryz.prog w base spare held n 28 cs = some y → ∃ v : TX, cs = v.cells ∧ InX w w.heap.size v ∧ rkX v ≤ Rows.uptoBulk y.1
  f : ∀ cs y, cs.length = 5 → DataW.trod enc Tryz.prog w base spare held n 50 cs = some y → ∃ v : TF, cs = v.cells ∧ InF w w.heap.size v ∧ rkF v ≤ Rows.uptoBulk y.1
  s : ∀ cs y, cs.length = 7 → DataW.trod enc Tryz.prog w base spare held n 40 cs = some y → ∃ v : TS, cs = v.cells ∧ InS w w.heap.size v ∧ rkS v ≤ Rows.uptoBulk y.1
  b : ∀ cs y, cs.length = 1 → DataW.trod enc Tryz.prog w base spare held n 22 cs = some y → ∃ v : TB, cs = v.cells ∧ InB w w.heap.size v ∧ rkB v ≤ Rows.uptoBulk y.1
section
variable {fuel : Nat} (ih : ∀ n, n < fuel → Opens enc w base spare held n)
include ih
set_option maxRecDepth 100000 in
set_option maxHeartbeats 1600000 in
theorem elem_X {cs : List Value} {y : DataW H × List MemPlace} (hsz : cs.length = 8) (hf : DataW.trod enc Tryz.prog w base spare held fuel 28 cs = some y) : ∃ v : TX, cs = v.cells ∧ InX w w.heap.size v ∧ rkX v ≤ Rows.uptoBulk y.1 := by
  match cs, hsz with
  | [c0, c1, c2, c3, c4, c5, c6, c7], _ =>
    obtain ⟨xs, m, hfu, hy, -, hlen, hF⟩ := DataW.trod_struct Tryz.underlying28 hf
    have hlenN : xs.length = 7 := hlen
    have f0 := hF 0 _ rfl
    have f1 := hF 1 _ rfl
    have f2 := hF 2 _ rfl
    have f3 := hF 3 _ rfl
    have f4 := hF 4 _ rfl
    have f5 := hF 5 _ rfl
    have f6 := hF 6 _ rfl
    rw [List.getElem?_eq_getElem (by omega)] at f0 f1 f2 f3 f4 f5 f6
    change DataW.trod enc _ w base spare held m 3 (List.take (Tryz.prog.cellsOf 3) (List.drop 0 [c0, c1, c2, c3, c4, c5, c6, c7])) = _ at f0
    rw [show Tryz.prog.cellsOf 3 = 1 by kernel_rfl] at f0
    change DataW.trod enc _ w base spare held m 3 (List.take (Tryz.prog.cellsOf 3) (List.drop 1 [c0, c1, c2, c3, c4, c5, c6, c7])) = _ at f1
    rw [show Tryz.prog.cellsOf 3 = 1 by kernel_rfl] at f1
    change DataW.trod enc _ w base spare held m 3 (List.take (Tryz.prog.cellsOf 3) (List.drop 2 [c0, c1, c2, c3, c4, c5, c6, c7])) = _ at f2
    rw [show Tryz.prog.cellsOf 3 = 1 by kernel_rfl] at f2
    change DataW.trod enc _ w base spare held m 24 (List.take (Tryz.prog.cellsOf 24) (List.drop 3 [c0, c1, c2, c3, c4, c5, c6, c7])) = _ at f3
    rw [show Tryz.prog.cellsOf 24 = 2 by kernel_rfl] at f3
    change DataW.trod enc _ w base spare held m 9 (List.take (Tryz.prog.cellsOf 9) (List.drop 5 [c0, c1, c2, c3, c4, c5, c6, c7])) = _ at f4
    rw [show Tryz.prog.cellsOf 9 = 1 by kernel_rfl] at f4
    change DataW.trod enc _ w base spare held m 25 (List.take (Tryz.prog.cellsOf 25) (List.drop 6 [c0, c1, c2, c3, c4, c5, c6, c7])) = _ at f5
    rw [show Tryz.prog.cellsOf 25 = 1 by kernel_rfl] at f5
    change DataW.trod enc _ w base spare held m 26 (List.take (Tryz.prog.cellsOf 26) (List.drop 7 [c0, c1, c2, c3, c4, c5, c6, c7])) = _ at f6
    rw [show Tryz.prog.cellsOf 26 = 1 by kernel_rfl] at f6
    obtain ⟨k, e0, -, w0⟩ := DataW.trod_int Tryz.underlying3 f0
    obtain ⟨op, e1, -, w1⟩ := DataW.trod_int Tryz.underlying3 f1
    obtain ⟨ln, e2, -, w2⟩ := DataW.trod_int Tryz.underlying3 f2
    obtain ⟨ys, m', -, -, -, hlen2, hG⟩ := DataW.trod_struct Tryz.underlying24 f3
    have hlen22 : ys.length = 2 := hlen2
    have g0 := hG 0 _ rfl
    have g1 := hG 1 _ rfl
    rw [List.getElem?_eq_getElem (by omega)] at g0 g1
    change DataW.trod enc _ w base spare held m' 3 (List.take (Tryz.prog.cellsOf 3) (List.drop 0 [c3, c4])) = _ at g0
    change DataW.trod enc _ w base spare held m' 3 (List.take (Tryz.prog.cellsOf 3) (List.drop 1 [c3, c4])) = _ at g1
    rw [show Tryz.prog.cellsOf 3 = 1 by kernel_rfl] at g0 g1
    obtain ⟨P, e7, -, w7⟩ := DataW.trod_int Tryz.underlying3 g0
    obtain ⟨Q, e8, -, w8⟩ := DataW.trod_int Tryz.underlying3 g1
    obtain ⟨s, e4, d4, w4⟩ := DataW.trod_string Tryz.underlying9 f4
    obtain ⟨a5, n5, l5, e5, s5, o5, t5, b5⟩ := open_elems (C := 8) TX.cells (InX w w.heap.size) rkX Tryz.underlying25 (by kernel_rfl) (by omega) (fun n hn cs y => (ih n (by omega)).x cs y) (fun _ => rfl) f5
    obtain ⟨a6, n6, l6, e6, s6, o6, t6, b6⟩ := open_elems (C := 5) TF.cells (InF w w.heap.size) rkF Tryz.underlying26 (by kernel_rfl) (by omega) (fun n hn cs y => (ih n (by omega)).f cs y) (fun _ => rfl) f6
    simp at e0 e1 e2 e4 e5 e6 e7 e8
    subst e0 e1 e2 e4 e5 e6 e7 e8
    refine ⟨⟨k, op, ln, P, Q, s, a5, n5, l5, a6, n6, l6⟩, rfl, (inX_iff _).2 ⟨⟨wf_i64 w0, wf_i64 w1, wf_i64 w2, wf_i64 w7, wf_i64 w8, w4, s5, s6, at_of t5 x8_of, at_of t6 f5_of⟩, (inXs_iff _).2 o5, (inFs_iff _).2 o6⟩, ?_⟩
    rw [rkXs_sum] at b5
    rw [rkFs_sum] at b6
    rw [hy]
    have hx : xs = [xs[0], xs[1], xs[2], xs[3], xs[4], xs[5], xs[6]] := by
      apply List.ext_getElem
      · simp [hlenN]
      · intro i h1 h2
        match i, h2 with
        | 0, _ | 1, _ | 2, _ | 3, _ | 4, _ | 5, _ | 6, _ => rfl
    rw [hx]
    simp only [List.map_cons, List.map_nil, Rows.uptoBulk, Rows.uptoBulkAll, d4, rkX_eq, data_size]
    omega
set_option maxRecDepth 100000 in
set_option maxHeartbeats 1600000 in
theorem elem_F {cs : List Value} {y : DataW H × List MemPlace} (hsz : cs.length = 5) (hf : DataW.trod enc Tryz.prog w base spare held fuel 50 cs = some y) : ∃ v : TF, cs = v.cells ∧ InF w w.heap.size v ∧ rkF v ≤ Rows.uptoBulk y.1 := by
  match cs, hsz with
  | [c0, c1, c2, c3, c4], _ =>
    obtain ⟨xs, m, hfu, hy, -, hlen, hF⟩ := DataW.trod_struct Tryz.underlying50 hf
    have hlenN : xs.length = 5 := hlen
    have f0 := hF 0 _ rfl
    have f1 := hF 1 _ rfl
    have f2 := hF 2 _ rfl
    have f3 := hF 3 _ rfl
    have f4 := hF 4 _ rfl
    rw [List.getElem?_eq_getElem (by omega)] at f0 f1 f2 f3 f4
    change DataW.trod enc _ w base spare held m 9 (List.take (Tryz.prog.cellsOf 9) (List.drop 0 [c0, c1, c2, c3, c4])) = _ at f0
    rw [show Tryz.prog.cellsOf 9 = 1 by kernel_rfl] at f0
    change DataW.trod enc _ w base spare held m 48 (List.take (Tryz.prog.cellsOf 48) (List.drop 1 [c0, c1, c2, c3, c4])) = _ at f1
    rw [show Tryz.prog.cellsOf 48 = 1 by kernel_rfl] at f1
    change DataW.trod enc _ w base spare held m 4 (List.take (Tryz.prog.cellsOf 4) (List.drop 2 [c0, c1, c2, c3, c4])) = _ at f2
    rw [show Tryz.prog.cellsOf 4 = 1 by kernel_rfl] at f2
    change DataW.trod enc _ w base spare held m 22 (List.take (Tryz.prog.cellsOf 22) (List.drop 3 [c0, c1, c2, c3, c4])) = _ at f3
    rw [show Tryz.prog.cellsOf 22 = 1 by kernel_rfl] at f3
    change DataW.trod enc _ w base spare held m 3 (List.take (Tryz.prog.cellsOf 3) (List.drop 4 [c0, c1, c2, c3, c4])) = _ at f4
    rw [show Tryz.prog.cellsOf 3 = 1 by kernel_rfl] at f4
    obtain ⟨nm, e0, d0, w0⟩ := DataW.trod_string Tryz.underlying9 f0
    obtain ⟨a1, n1, l1, e1, s1, o1, t1, b1⟩ := open_elems (C := 1) cellsP (fun v => v.size ≤ 9223372036854775807) rkP Tryz.underlying48 (by kernel_rfl) (by omega) (fun n hn cs y _ h => elem_P h) (fun _ => rfl) f1
    obtain ⟨va, e2, -⟩ := DataW.trod_bool Tryz.underlying4 f2
    obtain ⟨a3, n3, l3, e3, s3, o3, t3, b3⟩ := open_elems (C := 7) TS.cells (InS w w.heap.size) rkS Tryz.underlying22 (by kernel_rfl) (by omega) (fun n hn cs y => (ih n (by omega)).s cs y) (fun _ => rfl) f3
    obtain ⟨ln, e4, -, w4⟩ := DataW.trod_int Tryz.underlying3 f4
    simp at e0 e1 e2 e3 e4
    subst e0 e1 e2 e3 e4
    refine ⟨⟨nm, a1, n1, l1, va, a3, n3, l3, ln⟩, rfl, (inF_iff _).2 ⟨⟨w0, s1, o1, s3, wf_i64 w4, at_of t1 p1_of, at_of t3 s7_of⟩, (inSs_iff _).2 o3⟩, ?_⟩
    rw [rkSs_sum] at b3
    rw [hy]
    have hx : xs = [xs[0], xs[1], xs[2], xs[3], xs[4]] := by
      apply List.ext_getElem
      · simp [hlenN]
      · intro i h1 h2
        match i, h2 with
        | 0, _ | 1, _ | 2, _ | 3, _ | 4, _ => rfl
    rw [hx]
    simp only [List.map_cons, List.map_nil, Rows.uptoBulk, Rows.uptoBulkAll, d0, rkF_eq, data_size]
    omega
set_option maxRecDepth 100000 in
set_option maxHeartbeats 1600000 in
theorem elem_S {cs : List Value} {y : DataW H × List MemPlace} (hsz : cs.length = 7) (hf : DataW.trod enc Tryz.prog w base spare held fuel 40 cs = some y) : ∃ v : TS, cs = v.cells ∧ InS w w.heap.size v ∧ rkS v ≤ Rows.uptoBulk y.1 := by
  match cs, hsz with
  | [c0, c1, c2, c3, c4, c5, c6], _ =>
    obtain ⟨xs, m, hfu, hy, -, hlen, hF⟩ := DataW.trod_struct Tryz.underlying40 hf
    have hlenN : xs.length = 7 := hlen
    have f0 := hF 0 _ rfl
    have f1 := hF 1 _ rfl
    have f2 := hF 2 _ rfl
    have f3 := hF 3 _ rfl
    have f4 := hF 4 _ rfl
    have f5 := hF 5 _ rfl
    have f6 := hF 6 _ rfl
    rw [List.getElem?_eq_getElem (by omega)] at f0 f1 f2 f3 f4 f5 f6
    change DataW.trod enc _ w base spare held m 3 (List.take (Tryz.prog.cellsOf 3) (List.drop 0 [c0, c1, c2, c3, c4, c5, c6])) = _ at f0
    rw [show Tryz.prog.cellsOf 3 = 1 by kernel_rfl] at f0
    change DataW.trod enc _ w base spare held m 3 (List.take (Tryz.prog.cellsOf 3) (List.drop 1 [c0, c1, c2, c3, c4, c5, c6])) = _ at f1
    rw [show Tryz.prog.cellsOf 3 = 1 by kernel_rfl] at f1
    change DataW.trod enc _ w base spare held m 37 (List.take (Tryz.prog.cellsOf 37) (List.drop 2 [c0, c1, c2, c3, c4, c5, c6])) = _ at f2
    rw [show Tryz.prog.cellsOf 37 = 1 by kernel_rfl] at f2
    change DataW.trod enc _ w base spare held m 25 (List.take (Tryz.prog.cellsOf 25) (List.drop 3 [c0, c1, c2, c3, c4, c5, c6])) = _ at f3
    rw [show Tryz.prog.cellsOf 25 = 1 by kernel_rfl] at f3
    change DataW.trod enc _ w base spare held m 25 (List.take (Tryz.prog.cellsOf 25) (List.drop 4 [c0, c1, c2, c3, c4, c5, c6])) = _ at f4
    rw [show Tryz.prog.cellsOf 25 = 1 by kernel_rfl] at f4
    change DataW.trod enc _ w base spare held m 38 (List.take (Tryz.prog.cellsOf 38) (List.drop 5 [c0, c1, c2, c3, c4, c5, c6])) = _ at f5
    rw [show Tryz.prog.cellsOf 38 = 1 by kernel_rfl] at f5
    change DataW.trod enc _ w base spare held m 9 (List.take (Tryz.prog.cellsOf 9) (List.drop 6 [c0, c1, c2, c3, c4, c5, c6])) = _ at f6
    rw [show Tryz.prog.cellsOf 9 = 1 by kernel_rfl] at f6
    obtain ⟨k, e0, -, w0⟩ := DataW.trod_int Tryz.underlying3 f0
    obtain ⟨ln, e1, -, w1⟩ := DataW.trod_int Tryz.underlying3 f1
    obtain ⟨a2, n2, l2, e2, s2, o2, t2, b2⟩ := open_elems (C := 2) cellsL (fun v => v.1.size ≤ 9223372036854775807 ∧ I64 v.2) rkL Tryz.underlying37 (by kernel_rfl) (by omega) (fun n hn cs y hc h => elem_L hc h) (fun _ => rfl) f2
    obtain ⟨a3, n3, l3, e3, s3, o3, t3, b3⟩ := open_elems (C := 8) TX.cells (InX w w.heap.size) rkX Tryz.underlying25 (by kernel_rfl) (by omega) (fun n hn cs y => (ih n (by omega)).x cs y) (fun _ => rfl) f3
    obtain ⟨a4, n4, l4, e4, s4, o4, t4, b4⟩ := open_elems (C := 8) TX.cells (InX w w.heap.size) rkX Tryz.underlying25 (by kernel_rfl) (by omega) (fun n hn cs y => (ih n (by omega)).x cs y) (fun _ => rfl) f4
    obtain ⟨a5, n5, l5, e5, s5, o5, t5, b5⟩ := open_elems (C := 1) TB.cells (InB w w.heap.size) rkB Tryz.underlying38 (by kernel_rfl) (by omega) (fun n hn cs y => (ih n (by omega)).b cs y) (fun _ => rfl) f5
    obtain ⟨lb, e6, d6, w6⟩ := DataW.trod_string Tryz.underlying9 f6
    simp at e0 e1 e2 e3 e4 e5 e6
    subst e0 e1 e2 e3 e4 e5 e6
    refine ⟨⟨k, ln, a2, n2, l2, a3, n3, l3, a4, n4, l4, a5, n5, l5, lb⟩, rfl, (inS_iff _).2 ⟨⟨wf_i64 w0, wf_i64 w1, s2, o2, s3, s4, s5, w6, at_of t2 l2_of, at_of t3 x8_of, at_of t4 x8_of, at_of t5 b1_of⟩, (inXs_iff _).2 o3, (inXs_iff _).2 o4, (inBs_iff _).2 o5⟩, ?_⟩
    rw [rkXs_sum] at b3 b4
    rw [rkBs_sum] at b5
    rw [hy]
    have hx : xs = [xs[0], xs[1], xs[2], xs[3], xs[4], xs[5], xs[6]] := by
      apply List.ext_getElem
      · simp [hlenN]
      · intro i h1 h2
        match i, h2 with
        | 0, _ | 1, _ | 2, _ | 3, _ | 4, _ | 5, _ | 6, _ => rfl
    rw [hx]
    simp only [List.map_cons, List.map_nil, Rows.uptoBulk, Rows.uptoBulkAll, d6, rkS_eq, data_size]
    omega
theorem elem_B {cs : List Value} {y : DataW H × List MemPlace} (f0 : DataW.trod enc Tryz.prog w base spare held fuel 22 cs = some y) : ∃ v : TB, cs = v.cells ∧ InB w w.heap.size v ∧ rkB v ≤ Rows.uptoBulk y.1 := by
  obtain ⟨a0, n0, l0, e0, s0, o0, t0, b0⟩ := open_elems (C := 7) TS.cells (InS w w.heap.size) rkS Tryz.underlying22 (by kernel_rfl) (by omega) (fun n hn cs y => (ih n (by omega)).s cs y) (fun _ => rfl) f0
  rw [rkSs_sum] at b0
  subst e0
  exact ⟨⟨a0, n0, l0⟩, rfl, (inB_iff _).2 ⟨⟨s0, at_of t0 s7_of⟩, (inSs_iff _).2 o0⟩, by rw [rkB_eq]; dsimp only; omega⟩
end
theorem opens_all : ∀ n, Opens enc w base spare held n := by
  intro n
  induction n using Nat.strongRecOn with
  | ind n ih => exact ⟨fun _ _ h hf => elem_X ih h hf, fun _ _ h hf => elem_F ih h hf, fun _ _ h hf => elem_S ih h hf, fun _ _ _ hf => elem_B ih hf⟩
/-- A block among the arguments. -/
theorem open_blk {v : Value} {d : DataW H} {p : List MemPlace} (h : DataW.Trod enc Tryz.prog w base spare held 22 v d p) (hc : v.cells.toList = [v]) : ∃ b : TB, v = b.v ∧ InB w w.heap.size b ∧ rkB b ≤ Rows.uptoBulk d := by
  obtain ⟨fuel, hf⟩ := h
  rw [hc] at hf
  obtain ⟨b, hb, h1, h2⟩ := elem_B (fun n _ => opens_all n) hf
  simp [TB.cells] at hb
  exact ⟨b, hb, h1, h2⟩
end
end Go.Proofs.YthkpggpnbdedjaaGreat
