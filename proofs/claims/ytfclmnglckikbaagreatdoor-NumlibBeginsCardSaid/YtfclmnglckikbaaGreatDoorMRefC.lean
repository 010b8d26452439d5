/- A slice of one-cell elements that the call itself appends to and writes to: as module Own, with all its cells writable. No program. -/
import Derived.Test.YtfclmnglckikbaaGreatDoorMOwn
import Derived.Test.YtfclmnglckikbaaGreatDoorMPlainC
import Derived.Test.YtfclmnglckikbaaGreatDoorMNumW14
namespace Go.Proofs.YtfclmnglckikbaaGreatDoor
open Go.RowKit
set_option linter.unusedVariables false

/-- The slice v holds just the cells xs, in a block from base on; all its cells may be written. -/
def OwnF (w : World) (base : Nat) (v : Value) (xs : List Value) : Prop :=
  (v = .slice none 0 0 ∧ xs = []) ∨ ∃ g cap, v = .slice (some ⟨g, 0, none⟩) xs.length cap ∧ base ≤ g ∧ g < w.heap.size ∧ xs.length ≤ cap ∧
    (∀ (j : Nat) u, xs[j]? = some u → w.cell? ⟨g, j, none⟩ = some u) ∧ (∀ j, j < cap → (w.cell? ⟨g, j, none⟩).isSome = true ∧ w.frozen? ⟨g, j, none⟩ = false)

theorem OwnF.own {w : World} {base : Nat} {v : Value} {xs : List Value} (h : OwnF w base v xs) : Own w base v xs := by
  rcases h with h | ⟨g, cap, h1, h2, h3, h4, h5, h6⟩
  · exact .inl h
  · exact .inr ⟨g, cap, h1, h2, h3, h4, h5, fun j _ hj => h6 j hj⟩
theorem OwnF.empty (w : World) (base g : Nat) (h : base ≤ g) (h2 : g < w.heap.size) : OwnF w base (.slice (some ⟨g, 0, none⟩) 0 0) [] :=
  .inr ⟨g, 0, rfl, h, h2, Nat.le_refl _, fun j u h => by simp at h, fun j h => by omega⟩
theorem OwnF.of_row {w : World} {base : Nat} {e : TypeId} {v : Value} {n : Nat} {xs : List Value} (h : w.ownsRow base e 1 v n xs) : OwnF w base v xs := by
  have hn : xs.length = n := by simpa using h.1
  rcases h.2 with ⟨h1, h2⟩ | ⟨g, cap, cur, hv, hb, hg, hnc, _, hs, ht⟩
  · left
    subst h2
    exact ⟨h1, List.eq_nil_of_length_eq_zero hn⟩
  · right
    have hlt : g < w.heap.size := (Array.getElem?_eq_some_iff.1 hg).1
    refine ⟨g, cap, by rw [hv, hn], hb, hlt, by omega, ?_, ?_⟩
    · intro j u hj
      rw [cell_of_row w g j cur e (0, 0) hg]
      rw [← ht, List.getElem?_take] at hj
      split at hj
      · simpa using hj
      · cases hj
    · intro j hj
      constructor
      · rw [cell_of_row w g j cur e (0, 0) hg, Array.getElem?_eq_getElem (by omega)]; rfl
      · simp [World.frozen?, hg]
theorem OwnF.keep {w w' : World} {base : Nat} {v : Value} {xs : List Value} (h : OwnF w base v xs) (hs : w.heap.size ≤ w'.heap.size) (hk : ∀ g, base ≤ g → g < w.heap.size → w'.heap[g]? = w.heap[g]?) : OwnF w' base v xs := by
  rcases h with h | ⟨g, cap, hv, hb, hlt, hnc, hc, hf⟩
  · exact .inl h
  · right
    have hg := hk g hb hlt
    have hcell : ∀ j, w'.cell? ⟨g, j, none⟩ = w.cell? ⟨g, j, none⟩ := fun j => World.cell?_of_block hg
    have hfro : ∀ j, w'.frozen? ⟨g, j, none⟩ = w.frozen? ⟨g, j, none⟩ := fun j => World.frozen?_of_block hg
    refine ⟨g, cap, hv, hb, by omega, hnc, fun j u hj => by rw [hcell]; exact hc j u hj, fun j h2 => ?_⟩
    rw [hcell, hfro]; exact hf j h2
theorem OwnF.below {w w' : World} {base : Nat} {v : Value} {xs : List Value} (h : OwnF w base v xs) (hb : Below w.heap.size w w') : OwnF w' base v xs :=
  h.keep hb.size fun g _ hg => hb.block g hg
theorem OwnF.alloc {w : World} {base : Nat} {v : Value} {xs : List Value} (h : OwnF w base v xs) (o : Obj) : OwnF (w.alloc o) base v xs := h.below ((Below.refl _ _).alloc (Nat.le_refl _) o)
theorem ownF_eq {w : World} {base : Nat} {v : Value} {xs ys : List Value} (h : OwnF w base v xs) (e : xs = ys) : OwnF w base v ys := by rw [← e]; exact h
theorem OwnF.form {w : World} {base : Nat} {v : Value} {xs : List Value} (h : OwnF w base v xs) (hne : xs ≠ []) :
    ∃ g cap, v = .slice (some ⟨g, 0, none⟩) xs.length cap ∧ base ≤ g ∧ g < w.heap.size ∧ xs.length ≤ cap ∧ (∀ (j : Nat) u, xs[j]? = some u → w.cell? ⟨g, j, none⟩ = some u) ∧ (∀ j, j < cap → w.frozen? ⟨g, j, none⟩ = false) := by
  rcases h with ⟨_, h⟩ | ⟨g, cap, h1, h2, h3, h4, h5, h6⟩
  · exact absurd h hne
  · exact ⟨g, cap, h1, h2, h3, h4, h5, fun j hj => (h6 j hj).2⟩
theorem OwnF.shape {w : World} {base : Nat} {v : Value} {xs : List Value} (h : OwnF w base v xs) : ∃ a cap, v = .slice a xs.length cap := by
  rcases h with ⟨h1, h2⟩ | ⟨g, cap, h1, _⟩
  · exact ⟨none, 0, by rw [h1, h2]; rfl⟩
  · exact ⟨_, _, h1⟩
/-- A cell within the slice is written. -/
theorem OwnF.put {w : World} {base g cap : Nat} {xs : List Value} (h : OwnF w base (.slice (some ⟨g, 0, none⟩) xs.length cap) xs) (j : Nat) (hj : j < xs.length) (u : Value) : OwnF (w.setCell ⟨g, j, none⟩ u) base (.slice (some ⟨g, 0, none⟩) xs.length cap) (xs.set j u) := by
  rcases h with ⟨h1, h2⟩ | ⟨g', cap', h1, h2, h3, h4, h5, h6⟩
  · cases h1
  · simp only [Value.slice.injEq, Option.some.injEq, Addr.mk.injEq, and_true, true_and] at h1
    obtain ⟨rfl, rfl⟩ := h1
    have hlen : (xs.set j u).length = xs.length := by simp
    refine .inr ⟨g, cap, by rw [hlen], h2, by rw [size_setCell_eq]; exact h3, by rw [hlen]; exact h4, ?_, ?_⟩
    · intro k y hk
      rw [cell_set_if]
      by_cases hjk : j = k
      · subst hjk
        rw [if_pos ⟨rfl, rfl⟩]
        obtain ⟨y0, hy0⟩ := Option.isSome_iff_exists.1 (h6 j (by omega)).1
        rw [hy0]
        rw [List.getElem?_set_self hj] at hk
        exact hk
      · rw [if_neg (fun h => hjk h.2)]
        rw [List.getElem?_set_ne hjk] at hk
        exact h5 k y hk
    · intro k hk
      rw [World.frozen?_setCell, cell_set_if]
      have := h6 k hk
      refine ⟨?_, this.2⟩
      split
      · obtain ⟨y0, hy0⟩ := Option.isSome_iff_exists.1 this.1
        rw [hy0]; rfl
      · exact this.1

theorem wp_pushF {P : Program} {w : World} {ops : Array Oper} {rest : List Oper} {o : Oper} {a : Act} {Q : Exit → Act → World → Prop}
    (hg : o.guard = none) (s x : Operand) (t : TypeId) (hop : o.op = Op.call { callee := Callee.builtin Builtin.append, args := #[s, x], argTypes := #[t, t] })
    (e : TypeId) (i : TypeInfo) (z : Value) (bytes : Nat) (h1 : P.underlying t = some (.slice e)) (h2 : P.info? e = some i) (h3 : i.zero = some z) (h4 : i.size = 1) (h5 : i.bytes = bytes) (h6 : z.cells.size = 1)
    (base : Nat) (v : Value) (xs : List Value) (hown : OwnF w base v xs) (hs : a.eval s = v) (ad : Addr) (c : Nat) (u : Value) (hx : a.eval x = .slice (some ad) 1 c) (hc : w.cell? ad = some u) (h1c : u.oneCell' = true)
    (hbase : base ≤ w.heap.size) (b1 : xs.length + 1 ≤ maxLen) (b2 : (xs.length + 1) * bytes ≤ 140737488355328)
    (hK : ∀ v' w', OwnF w' base v' (xs ++ [u]) → Below base w w' → wpList P ops Q rest (a.put o.dst v') w') : wpList P ops Q (o :: rest) a w := by
  have hnew : ∀ (j : Nat) y, [u][j]? = some y → w.cell? (ad.add j) = some y := by
    intro j y hj
    cases j with
    | zero => simp at hj; subst hj; simpa [Addr.add] using hc
    | succ j => simp at hj
  have hgrow : ∀ v' w', w'.ownsRow w.heap.size e 1 v' (xs.length + 1) (xs ++ [u]) → w.grownBy w' none → wpList P ops Q rest (a.put o.dst v') w' := by
    intro v' w' ho hgr
    refine hK v' w' ?_ (((Below.refl w.heap.size w).grown hgr (Nat.le_refl _) (fun k h => by cases h)).mono hbase)
    rcases OwnF.of_row ho with h | ⟨g, cap, h1, h2, h3, h4, h5, h6⟩
    · exact .inl h
    · exact .inr ⟨g, cap, h1, by omega, h3, h4, h5, h6⟩
  rcases hown with ⟨rfl, rfl⟩ | ⟨g, cap, rfl, hb, hlt, hnc, hcell, hspare⟩
  · refine wpList_append_grows w hg s x t hop e i z 1 bytes h1 h2 h3 h4 h5 h6 (by omega) none 0 0 [] hs (fun _ => ⟨rfl, rfl⟩) rfl (fun b h => by cases h) ad 1 c [u] hx rfl hnew (by simpa using h1c) (by omega) b1 b2 ?_
    exact hgrow
  · refine wpList_append_arg w hg s x t hop e i z 1 bytes h1 h2 h3 h4 h5 h6 (by omega) g 0 xs.length cap xs hs (by simp) (fun j y hj => by rw [Nat.zero_add]; exact hcell j y hj) ad 1 c [u] hx rfl hnew (by simpa using h1c) ?_ b1 b2 ?_ ?_
    · intro hr j hj
      have : j = 0 := by simp at hj; omega
      subst this
      have := hspare xs.length (by omega)
      simpa using this
    · intro hr
      have hs2 := hspare xs.length (by omega)
      have hw : w.setCells g (0 + xs.length * 1) [u] = w.setCell ⟨g, xs.length, none⟩ u := by simp [World.setCells]
      rw [hw]
      have hlen : (xs ++ [u]).length = xs.length + 1 := by simp
      refine hK _ _ (.inr ⟨g, cap, by rw [hlen], hb, by rw [size_setCell_eq]; exact hlt, by rw [hlen]; exact hr, ?_, ?_⟩) ((Below.refl _ _).setCell hb u)
      · intro j y hj
        rw [cell_set_if]
        by_cases hjx : xs.length = j
        · subst hjx
          rw [if_pos ⟨rfl, rfl⟩]
          simp at hj
          obtain ⟨y0, hy0⟩ := Option.isSome_iff_exists.1 hs2.1
          rw [hy0, hj]; rfl
        · rw [if_neg (fun h => hjx h.2)]
          rw [List.getElem?_append] at hj
          split at hj
          · exact hcell j y hj
          · rename_i h
            have : j - xs.length ≥ 1 := by omega
            rw [List.getElem?_eq_none (by simpa using this)] at hj
            cases hj
      · intro j hj2
        have hs3 := hspare j hj2
        rw [World.frozen?_setCell, cell_set_if]
        refine ⟨?_, hs3.2⟩
        split
        · obtain ⟨y0, hy0⟩ := Option.isSome_iff_exists.1 hs3.1
          rw [hy0]; rfl
        · exact hs3.1
    · intro _ v' w' ho hgr
      exact hgrow v' w' ho hgr
end Go.Proofs.YtfclmnglckikbaaGreatDoor

/- The reference's increased and zeros: what each call returns. -/
namespace Go.Proofs.YtfclmnglckikbaaGreatDoor
open Go.RowKit
set_option linter.unusedVariables false

/-- Decimal digits as bytes. -/
def dV (d : Nat) : Value := .int .u8 ((48 + d : Nat) : Int)

theorem inc_rest (ds : List Nat) : incL ds = ((incL (ds.take ds.length)).1 ++ List.replicate (ds.length - ds.length) 0, (incL (ds.take ds.length)).2) := by simp
theorem inc_nine {ds : List Nat} {j : Nat} (hj : j < ds.length) (h9 : ds[j] = 9) (h : incL ds = ((incL (ds.take (j + 1))).1 ++ List.replicate (ds.length - (j + 1)) 0, (incL (ds.take (j + 1))).2)) :
    incL ds = ((incL (ds.take j)).1 ++ List.replicate (ds.length - j) 0, (incL (ds.take j)).2) := by
  rw [h, List.take_succ_eq_append_getElem hj, h9, incL_snoc9]
  simp only [Prod.mk.injEq, and_true]
  rw [List.append_assoc]
  congr 1
  obtain ⟨m, hm⟩ : ∃ m, ds.length - j = m + 1 := ⟨ds.length - j - 1, by omega⟩
  rw [hm, show ds.length - (j + 1) = m by omega, List.replicate_succ]
  rfl
theorem inc_stop {ds : List Nat} {j : Nat} (hj : j < ds.length) (h9 : ds[j] ≠ 9) (h : incL ds = ((incL (ds.take (j + 1))).1 ++ List.replicate (ds.length - (j + 1)) 0, (incL (ds.take (j + 1))).2)) :
    incL ds = (ds.take j ++ [ds[j] + 1] ++ List.replicate (ds.length - (j + 1)) 0, false) := by
  rw [h, List.take_succ_eq_append_getElem hj, incL_snoc h9]

/-- The digits with zeros from an index on. -/
def zfrom (ds : List Nat) (j : Nat) : List Nat := ds.take j ++ List.replicate (ds.length - j) 0
theorem zfrom_len (ds : List Nat) (j : Nat) (h : j ≤ ds.length) : (zfrom ds j).length = ds.length := by simp [zfrom]; omega
theorem zfrom_all (ds : List Nat) : zfrom ds ds.length = ds := by simp [zfrom]
theorem zfrom_at (ds : List Nat) (j : Nat) (h : j < ds.length) : (zfrom ds (j + 1))[j]? = some ds[j] := by
  unfold zfrom
  rw [List.getElem?_append_left (by simp; omega), List.getElem?_take, if_pos (by omega), List.getElem?_eq_getElem h]
theorem zfrom_set (ds : List Nat) (j x : Nat) (h : j < ds.length) : (zfrom ds (j + 1)).set j x = ds.take j ++ [x] ++ List.replicate (ds.length - (j + 1)) 0 := by
  unfold zfrom
  rw [List.take_succ_eq_append_getElem h, List.append_assoc, List.set_append_right _ _ (by rw [List.length_take]; omega), List.append_assoc]
  congr 1
  have : j - (List.take j ds).length = 0 := by simp; omega
  rw [this]
  rfl
theorem zfrom_zero (ds : List Nat) (j : Nat) (h : j < ds.length) : (zfrom ds (j + 1)).set j 0 = zfrom ds j := by
  rw [zfrom_set ds j 0 h]
  unfold zfrom
  obtain ⟨m, hm⟩ : ∃ m, ds.length - j = m + 1 := ⟨ds.length - j - 1, by omega⟩
  rw [hm, show ds.length - (j + 1) = m by omega, List.replicate_succ, List.append_assoc]
  rfl
theorem dV_set (l : List Nat) (j x : Nat) : (l.map dV).set j (dV x) = (l.set j x).map dV := by rw [List.map_set]

set_option maxHeartbeats 4000000 in
set_option maxRecDepth 100000 in
theorem rinc_any (ds : List Nat) (hd : ∀ d ∈ ds, d < 10) (hn : ds.length ≤ 12) (base : Nat) (v : Value) (w : World) (hO : OwnF w base v (ds.map dV)) :
    Calls Tryz.prog 96 #[v] w fun e w' => e = .returned (.tuple #[v, .bool (incL ds).2]) ∧ OwnF w' base v ((incL ds).1.map dV) ∧ Below base w w' := by
  rcases List.eq_nil_or_concat ds with h0 | ⟨dd, x, h0⟩
  · subst h0
    obtain ⟨a, cap, hsh⟩ := hO.shape
    simp only [List.map_nil, List.length_nil] at hsh
    subst hsh
    have HO := Lib.hid hO
    clear hO
    go_enter Tryz.func96, Tryz.ntmps96
    go_wp2
    go_loop [4] (fun u => u = .int .i64 (-1)) (fun u => 0)
    case atStart => rfl
    case round =>
      subst hrel
      go_wp2
      go_returns
      exact ⟨rfl, HO.out, Below.refl _ _⟩
  · have hne : ds ≠ [] := by rw [h0]; simp
    clear h0
    have hpos : 0 < ds.length := List.length_pos_iff.2 hne
    obtain ⟨g, cap, hsh, hbg, hgl, hcp, -, -⟩ := hO.form (by simpa using hne)
    rw [List.length_map] at hsh hcp
    subst hsh
    have HO := Lib.hid hO
    have HD := Lib.hid hd
    clear hO hd hne
    go_enter Tryz.func96, Tryz.ntmps96
    go_wp2_with fail
    go_loopw [4] (fun at_ wr => ∃ j : Nat, j ≤ ds.length ∧ at_ = .int .i64 ((j : Int) - 1) ∧ OwnF wr base (.slice (some ⟨g, 0, none⟩) ds.length cap) ((zfrom ds j).map dV) ∧ Below base w wr ∧ Hid (incL ds = ((incL (ds.take j)).1 ++ List.replicate (ds.length - j) 0, (incL (ds.take j)).2))) (fun at_ _ => (intOf at_ + 1).toNat)
    case atStart => exact ⟨ds.length, Nat.le_refl _, by go_num, by rw [zfrom_all]; exact HO.out, Below.refl _ _, inc_rest ds⟩
    case round =>
      obtain ⟨j, hj, rfl, hown, hbel, hinc⟩ := hrel
      rcases Nat.eq_zero_or_pos j with hj0 | hj0
      · subst hj0
        have hi := hinc.out
        simp only [List.take_zero, incL, List.nil_append, Nat.sub_zero] at hi
        have hz : zfrom ds 0 = List.replicate ds.length 0 := by simp [zfrom]
        rw [hz] at hown
        have HI := Lib.hid hi
        have HO2 := Lib.hid hown
        have HB := Lib.hid hbel
        clear hown hbel hi hz hinc
        go_wp2
        go_returns
        rw [HI.out]
        exact ⟨rfl, HO2.out, HB.out⟩
      · obtain ⟨i, rfl⟩ : ∃ i, j = i + 1 := ⟨j - 1, by omega⟩
        have hlt : i < ds.length := by omega
        have hlen := zfrom_len ds (i + 1) hj
        have hown2 : OwnF wr base (.slice (some ⟨g, 0, none⟩) ((zfrom ds (i + 1)).map dV).length cap) ((zfrom ds (i + 1)).map dV) := by rw [List.length_map, hlen]; exact hown
        obtain ⟨g2, cap2, he, -, hgl2, -, hcell, hfro⟩ := hown2.form (by intro h; have := congrArg List.length h; rw [List.length_map, hlen, List.length_nil] at this; omega)
        simp only [Value.slice.injEq, Option.some.injEq, Addr.mk.injEq, and_true, true_and] at he
        obtain ⟨rfl, rfl⟩ := he
        have hc := hcell i (dV ds[i]) (by rw [List.getElem?_map, zfrom_at ds i hlt]; rfl)
        have hf := hfro i (by omega)
        have hd10 := HD.out (ds[i]) (List.getElem_mem hlt)
        have hput := fun x => hown2.put i (by rw [List.length_map, hlen]; exact hlt) (dV x)
        simp only [dV_set, List.length_map, hlen] at hput
        have HPUT := Lib.hid hput
        have HB := Lib.hid hbel
        have hn9 : ¬ ds[i] = 9 → incL ds = _ := fun h => inc_stop hlt h hinc.out
        have hi9 : ds[i] = 9 → incL ds = _ := fun h => inc_nine hlt h hinc.out
        have HN9 := Lib.hid hn9
        have HI9 := Lib.hid hi9
        clear hcell hfro hput hown hown2 hbel hinc hlen hn9 hi9
        unfold dV at hc
        obtain ⟨x, hx⟩ : ∃ x, ds[i] = x := ⟨_, rfl⟩
        rw [hx] at hc hd10
        have HX := Lib.hid hx
        clear hx
        by_cases h9 : x = 9
        · subst h9
          go_wp2
          refine ⟨⟨i, by omega, by go_num, ?_, ?_, HI9.out HX.out⟩, by simp [intOf] <;> omega⟩
          · have := HPUT.out 0
            rw [zfrom_zero ds i hlt] at this
            exact this
          · exact HB.out.setCell hbg _
        · have hres := HN9.out (by rw [HX.out]; exact h9)
          have HRES := Lib.hid hres
          clear hres
          go_wp2
          go_returns
          rw [HRES.out]
          refine ⟨rfl, ?_, ?_⟩
          · have := HPUT.out (x + 1)
            rw [zfrom_set ds i (x + 1) hlt] at this
            rw [HX.out]
            exact this
          · exact HB.out.setCell hbg _

set_option maxHeartbeats 4000000 in
set_option maxRecDepth 100000 in
theorem rzeros_any (ds : List Nat) (hd : ∀ d ∈ ds, d < 10) (hn : ds.length ≤ 12) (base : Nat) (v : Value) (w : World) (hO : OwnF w base v (ds.map dV)) :
    Calls Tryz.prog 98 #[v] w fun e w' => e = .returned (.bool (ds.all fun d => d == 0)) ∧ w = w' := by
  obtain ⟨a, cap, hsh⟩ := hO.shape
  rw [List.length_map] at hsh
  have HC : Hid (∀ i, (h : i < ds.length) → ∃ g, a = some ⟨g, 0, none⟩ ∧ w.cell? ⟨g, i, none⟩ = some (.int .u8 ((48 + ds[i] : Nat) : Int))) := by
    intro i h
    obtain ⟨g, cap2, h1, h2, h3, h4, h5, h6⟩ := hO.form (by intro e; have := congrArg List.length e; rw [List.length_map, List.length_nil] at this; omega)
    rw [hsh] at h1
    simp only [Value.slice.injEq] at h1
    exact ⟨g, h1.1, h5 i _ (by rw [List.getElem?_map, List.getElem?_eq_getElem h]; rfl)⟩
  subst hsh
  have HD := Lib.hid hd
  clear hO hd
  go_enter Tryz.func98, Tryz.ntmps98
  go_wp2
  go_loop [3] (fun u => ∃ k : Nat, k ≤ ds.length ∧ u = .int .i64 k ∧ Hid ((ds.all fun d => d == 0) = ((ds.drop k).all fun d => d == 0))) (fun u => ds.length - (intOf u).toNat)
  case atStart => exact ⟨0, Nat.zero_le _, rfl, by show _ = _; simp⟩
  case round =>
    obtain ⟨k, hk, rfl, hall⟩ := hrel
    by_cases hlt : k < ds.length
    · obtain ⟨g, rfl, hc⟩ := HC.out k hlt
      have hd10 := HD.out (ds[k]) (List.getElem_mem hlt)
      have hdrop := List.drop_eq_getElem_cons hlt
      obtain ⟨x, hx⟩ : ∃ x, ds[k] = x := ⟨_, rfl⟩
      rw [hx] at hc hd10 hdrop
      have HDR := Lib.hid hdrop
      clear hdrop hx
      by_cases h0 : x = 0
      · subst h0
        go_wp2
        refine ⟨⟨k + 1, hlt, by go_num, ?_⟩, by simp [intOf]; omega⟩
        show _ = _
        rw [hall.out, HDR.out]; simp
      · have hres : (ds.all fun d => d == 0) = false := by rw [hall.out, HDR.out]; simp [h0]
        have HR := Lib.hid hres
        clear hres
        go_wp2
        go_returns
        exact ⟨by rw [HR.out]; rfl, rfl⟩
    · obtain rfl : k = ds.length := by omega
      have hres : (ds.all fun d => d == 0) = true := by rw [hall.out]; simp
      have HR := Lib.hid hres
      clear hres
      go_wp2
      go_returns
      exact ⟨by rw [HR.out]; rfl, rfl⟩
end Go.Proofs.YtfclmnglckikbaaGreatDoor
