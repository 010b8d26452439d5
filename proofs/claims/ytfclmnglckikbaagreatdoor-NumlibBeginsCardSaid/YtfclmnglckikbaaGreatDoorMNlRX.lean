/- The reference's Arg, Fail, Error: what each call returns. -/
import Derived.Test.YtfclmnglckikbaaGreatDoorMNlB
import Derived.Test.YtfclmnglckikbaaGreatDoorMLxBuf
import Derived.Laws.OwnMore
import Derived.Laws.AppendOwnNone
namespace Go.Proofs.YtfclmnglckikbaaGreatDoor
open Go.RowKit Go.Instr
set_option linter.unusedVariables false

set_option maxHeartbeats 800000 in
set_option maxRecDepth 100000 in
theorem rarg_out (a : Option Addr) (n cap : Nat) (i : Int) (w : World) (hn : n ≤ 9223372036854775807) (h : i < 0 ∨ (0 ≤ i ∧ (n : Int) ≤ i)) :
    Calls Tryz.prog 43 #[.slice a n cap, .int .i64 i] w fun e w' => e = .returned (vV 0 0 0 ⟨#[]⟩ 0) ∧ Below w.heap.size w w' := by
  rcases h with h | ⟨h, h2⟩
  all_goals
    go_enter Tryz.func43, Tryz.ntmps43
    go_wp2_with fail
    ((try simp only [Exit.inBlock, Exit.then]); refine bodyPost_ret (by first | (simp [results, Tryz.results43, go_sem, *]; done) | (simp [results, Tryz.results43, go_sem, *]; rfl) | (simp [results, Tryz.results43, go_sem, ↓IntWalk.iteOmega, *]; try rfl)) rfl ?_)
    refine ⟨rfl, ?_⟩
    (repeat' (first | (with_reducible exact Below.refl _ _) | (with_reducible assumption) | (with_reducible refine Below.alloc ?_ ?_ _) | (with_reducible refine below_drewN ?_ _) | (with_reducible refine Below.drew ?_) | (with_reducible refine Below.setCell ?_ ?_ _) | (with_reducible refine below_via (by assumption) ?_ ?_) | (with_reducible refine below_via (later_below _) ?_ ?_) | (with_reducible exact Nat.le_refl _) | omega | (simp; omega) | (simp; done)))
set_option maxHeartbeats 800000 in
set_option maxRecDepth 100000 in
theorem rarg_in (b o n cap : Nat) (i : Nat) (k p q : Int) (s : ByteArray) (r : Int) (w : World) (hn : n ≤ 9223372036854775807) (hi : i < n) (h : CellsAt w b (o + i * 5) k p q s r) :
    Calls Tryz.prog 43 #[.slice (some ⟨b, o, none⟩) n cap, .int .i64 i] w fun e w' => e = .returned (vV k p q s r) ∧ Below w.heap.size w w' := by
  have hb := cell_lt h.1
  obtain ⟨h0, h1, h2, h3, h4⟩ := h
  go_enter Tryz.func43, Tryz.ntmps43
  go_wp2_with fail
  ((try simp only [Exit.inBlock, Exit.then]); refine bodyPost_ret (by first | (simp [results, Tryz.results43, go_sem, *]; done) | (simp [results, Tryz.results43, go_sem, *]; rfl) | (simp [results, Tryz.results43, go_sem, ↓IntWalk.iteOmega, *]; try rfl)) rfl ?_)
  refine ⟨rfl, ?_⟩
  (repeat' (first | (with_reducible exact Below.refl _ _) | (with_reducible assumption) | (with_reducible refine Below.alloc ?_ ?_ _) | (with_reducible refine below_drewN ?_ _) | (with_reducible refine Below.drew ?_) | (with_reducible refine Below.setCell ?_ ?_ _) | (with_reducible refine below_via (by assumption) ?_ ?_) | (with_reducible refine below_via (later_below _) ?_ ?_) | (with_reducible exact Nat.le_refl _) | omega | (simp; omega) | (simp; done)))
abbrev RArgSays (W : World) (a : Option Addr) (n cap : Nat) (i k p q : Int) (s : ByteArray) (r : Int) : Prop := ∀ w, Below W.heap.size W w → Calls Tryz.prog 43 #[.slice a n cap, .int .i64 i] w fun e w' => e = .returned (vV k p q s r) ∧ Below w.heap.size w w'
theorem rarg_is {W : World} {a : Option Addr} {n : Nat} {i k p q : Int} {s : ByteArray} {r : Int} (h : ArgIs W a n i k p q s r) (cap : Nat) (hn : n ≤ 9223372036854775807) : RArgSays W a n cap i k p q s r := by
  intro w hb
  rcases h with ⟨h, rfl, rfl, rfl, rfl, rfl⟩ | ⟨b, o, j, rfl, rfl, hj, hc⟩
  · exact rarg_out a n cap i w hn h
  · exact rarg_in b o n cap j k p q s r w hn hj (hc.below hb)

theorem cell5_at (w : World) (k p q : Int) (s : ByteArray) (r : Int) (t : TypeId) : Cells5 (w.alloc (.cells #[.int .i64 k, .int .i64 p, .int .i64 q, .string s, .int .i64 r] t)) w.heap.size k p q s r := cells5_at w k p q s r t _ rfl
set_option maxHeartbeats 800000 in
set_option maxRecDepth 100000 in
theorem rfail_one (k p q : Int) (s : ByteArray) (r : Int) (w : World) :
    Calls Tryz.prog 70 #[vV k p q s r, .int .i64 1] w fun e w' => ActIs w.heap.size 2 1 k p q s r e w' ∧ Below w.heap.size w w' := by
  have fr0 := fun i => frozen_out w (w.heap.size) i (by omega)
  have fr1 := fun i => frozen_out w (w.heap.size + 1) i (by omega)
  go_enter Tryz.func70, Tryz.ntmps70
  go_wp2_with fail
  ((try simp only [Exit.inBlock, Exit.then]); refine bodyPost_ret (by first | (simp [results, Tryz.results70, go_sem, *]; done) | (simp [results, Tryz.results70, go_sem, *]; rfl) | (simp [results, Tryz.results70, go_sem, ↓IntWalk.iteOmega, *]; try rfl)) rfl ?_)
  refine ⟨act_mk (g := w.heap.size + 1 + 1) rfl rfl (by omega) ?_, ?_⟩
  · repeat (with_reducible refine Cells5.set (by simp) ?_)
    exact cells5_at _ _ _ _ _ _ _ _ (by simp)
  · (repeat' (first | (with_reducible exact Below.refl _ _) | (with_reducible assumption) | (with_reducible refine Below.alloc ?_ ?_ _) | (with_reducible refine below_drewN ?_ _) | (with_reducible refine Below.drew ?_) | (with_reducible refine Below.setCell ?_ ?_ _) | (with_reducible refine below_via (by assumption) ?_ ?_) | (with_reducible refine below_via (later_below _) ?_ ?_) | (with_reducible exact Nat.le_refl _) | omega | (simp; omega) | (simp; done)))
set_option maxHeartbeats 800000 in
set_option maxRecDepth 100000 in
theorem rerror_one (s : ByteArray) (w : World) (hs : s.size ≤ 4096) :
    Calls Tryz.prog 39 #[.string s] w fun e w' => ActIs w.heap.size 2 1 3 0 0 s 0 e w' ∧ Below w.heap.size w w' := by
  have HC : Hid (∀ w', Calls Tryz.prog 70 #[vV 3 0 0 s 0, .int .i64 1] w' fun e w'' => ActIs w'.heap.size 2 1 3 0 0 s 0 e w'' ∧ Below w'.heap.size w' w'') := fun w' => rfail_one 3 0 0 s 0 w'
  have fr0 := fun i => frozen_out w (w.heap.size) i (by omega)
  go_enter Tryz.func39, Tryz.ntmps39
  go_wp2_with (first | (go_at_call 70; refine (HC.out _).mono ?_; rintro e w9 ⟨⟨g, cap, rfl, hg, hcl⟩, hb⟩; (refine mem hb ?_; intro N hN hz hc hf; (try simp at hN); subst hN)))
  ((try simp only [Exit.inBlock, Exit.then]); refine bodyPost_ret (by first | (simp [results, Tryz.results39, go_sem, *]; done) | (simp [results, Tryz.results39, go_sem, *]; rfl) | (simp [results, Tryz.results39, go_sem, ↓IntWalk.iteOmega, *]; try rfl)) rfl ?_)
  obtain ⟨g1, g2⟩ : w.heap.size ≤ g ∧ w.heap.size ≠ g := up1 (by simpa using hg)
  refine ⟨act_mk rfl rfl g1 ?_, ?_⟩
  · repeat (with_reducible refine Cells5.set (by exact g2) ?_)
    exact hcl
  · (repeat' (first | (with_reducible exact Below.refl _ _) | (with_reducible assumption) | (with_reducible refine Below.alloc ?_ ?_ _) | (with_reducible refine below_drewN ?_ _) | (with_reducible refine Below.drew ?_) | (with_reducible refine Below.setCell ?_ ?_ _) | (with_reducible refine below_via (by assumption) ?_ ?_) | (with_reducible refine below_via (later_below _) ?_ ?_) | (with_reducible exact Nat.le_refl _) | omega | (simp; omega) | (simp; done)))

end Go.Proofs.YtfclmnglckikbaaGreatDoor

/- Lists of values that a call puts together; the reference's Return of one value. -/
namespace Go.Proofs.YtfclmnglckikbaaGreatDoor
open Go.RowKit Go.Instr
set_option linter.unusedVariables false

def VAt (w : World) (b o : Nat) (v : VV) : Prop := w.cell? ⟨b, o, none⟩ = some (.int .i64 v.k) ∧ w.cell? ⟨b, o + 1, none⟩ = some (.int .i64 v.p) ∧ w.cell? ⟨b, o + 2, none⟩ = some (.int .i64 v.q) ∧ w.cell? ⟨b, o + 3, none⟩ = some (.string v.s) ∧ w.cell? ⟨b, o + 4, none⟩ = some (.int .i64 v.r)
def VsAt (w : World) (a : Option Addr) (l : List VV) : Prop := l.length = 0 ∨ ∃ b o, a = some ⟨b, o, none⟩ ∧ ∀ i, (h : i < l.length) → VAt w b (o + i * 5) l[i]
theorem aval_info : (Tryz.prog.info? 32).map (fun i => (i.zero, i.size, i.bytes)) = some (some (vV 0 0 0 ⟨#[]⟩ 0), 5, 48) := by kernel_rfl
/-- Values as cells. -/
def vC (v : VV) : List Value := [.int .i64 v.k, .int .i64 v.p, .int .i64 v.q, .string v.s, .int .i64 v.r]
def valsC (l : List VV) : List Value := l.flatMap vC
theorem valsC_app (l m : List VV) : valsC (l ++ m) = valsC l ++ valsC m := by unfold valsC; simp
theorem valsC_len : ∀ l : List VV, (valsC l).length = l.length * 5
  | [] => rfl
  | v :: l => by
    show (vC v ++ valsC l).length = _
    rw [List.length_append, valsC_len l]
    simp [vC]; omega
theorem valsC_get : ∀ (l : List VV) (i : Nat) (h : i < l.length) (j : Nat), j < 5 → (valsC l)[i * 5 + j]? = (vC l[i])[j]?
  | [], i, h, _, _ => by cases h
  | x :: l, 0, _, j, hj => by
    show (vC x ++ valsC l)[0 * 5 + j]? = _
    rw [Nat.zero_mul, Nat.zero_add, List.getElem?_append_left (by simpa [vC] using hj)]; rfl
  | x :: l, i + 1, h, j, hj => by
    show (vC x ++ valsC l)[(i + 1) * 5 + j]? = _
    rw [List.getElem?_append_right (by simp [vC]; omega), show (i + 1) * 5 + j - (vC x).length = i * 5 + j by simp [vC]; omega]
    exact valsC_get l i (by simpa using h) j hj
theorem valsC_one (l : List VV) : ∀ u ∈ valsC l, u.oneCell' = true := by
  intro u hu
  unfold valsC at hu
  obtain ⟨v, -, h⟩ := List.mem_flatMap.1 hu
  unfold vC at h
  simp at h
  rcases h with rfl | rfl | rfl | rfl | rfl <;> rfl
theorem vC_at {w : World} {b o : Nat} {v : VV} (h : VAt w b o v) (j : Nat) (hj : j < 5) : w.cell? ⟨b, o + j, none⟩ = (vC v)[j]? := by
  obtain ⟨h0, h1, h2, h3, h4⟩ := h
  have : j = 0 ∨ j = 1 ∨ j = 2 ∨ j = 3 ∨ j = 4 := by omega
  rcases this with rfl | rfl | rfl | rfl | rfl
  · exact h0
  · exact h1
  · exact h2
  · exact h3
  · exact h4
/-- The values at an address, cell by cell. -/
theorem vals_news {w : World} {b o : Nat} {l : List VV} (h : VsAt w (some ⟨b, o, none⟩) l) : ∀ (j : Nat) u, (valsC l)[j]? = some u → w.cell? ((⟨b, o, none⟩ : Addr).add j) = some u := by
  intro j u hj
  have hlt : j < (valsC l).length := (List.getElem?_eq_some_iff.1 hj).1
  rw [valsC_len] at hlt
  have hadd : (⟨b, o, none⟩ : Addr).add j = ⟨b, o + j, none⟩ := by unfold Addr.add; split <;> simp_all
  rw [hadd]
  rcases h with h | ⟨b2, o2, h1, h2⟩
  · omega
  · injection h1 with h1
    injection h1 with hb ho
    subst hb ho
    have hi : j / 5 < l.length := by omega
    have := vC_at (h2 (j / 5) hi) (j % 5) (by omega)
    rw [show o + j / 5 * 5 + j % 5 = o + j by omega] at this
    rw [this, ← hj, ← valsC_get l (j / 5) hi (j % 5) (by omega), show j / 5 * 5 + j % 5 = j by omega]
/-- A row of values of the call's own. -/
theorem own_vals {w : World} {base : Nat} {e : TypeId} {v : Value} {l : List VV} (h : w.ownsRow base e 5 v l.length (valsC l)) : ∃ a cap, v = .slice a l.length cap ∧ VsAt w a l := by
  rcases Nat.eq_zero_or_pos l.length with h0 | h0
  · rcases h.2 with ⟨hv, hn⟩ | ⟨g, cap, cur, hv, _⟩
    · exact ⟨none, 0, by rw [hv, hn], .inl h0⟩
    · exact ⟨_, cap, hv, .inl h0⟩
  · obtain ⟨g, cap, hv, hb, hg, hc, hcell⟩ := own_cell h h0
    refine ⟨_, cap, hv, .inr ⟨g, 0, rfl, fun i hi => ?_⟩⟩
    have hl := valsC_len l
    have c : ∀ j, j < 5 → w.cell? ⟨g, 0 + i * 5 + j, none⟩ = (vC l[i])[j]? := fun j hj => by
      rw [hcell _ (by omega), show 0 + i * 5 + j = i * 5 + j by omega, valsC_get l i hi j hj]
    exact ⟨c 0 (by omega), c 1 (by omega), c 2 (by omega), c 3 (by omega), c 4 (by omega)⟩
theorem VsAt.take {w : World} {a : Option Addr} {l : List VV} (h : VsAt w a l) (k : Nat) : VsAt w a (l.take k) := by
  rcases h with h | ⟨b, o, h1, h2⟩
  · exact .inl (by rw [List.length_take]; omega)
  · refine .inr ⟨b, o, h1, fun i hi => ?_⟩
    rw [List.getElem_take]
    exact h2 i (by rw [List.length_take] at hi; omega)
/-- A slice literal without elements. -/
theorem own_lit0 (w : World) (base : Nat) (e : TypeId) (h : base ≤ w.heap.size) (g : Nat) (hg : w.heap.size = g) : (w.alloc (.cells #[] e)).ownsRow base e 5 (.slice (some ⟨g, 0, none⟩) 0 0) 0 (valsC []) := by
  subst hg
  exact ⟨rfl, .inr ⟨w.heap.size, 0, #[], rfl, h, heap_alloc_new w _, Nat.le_refl _, by unfold maxLen; omega, rfl, rfl⟩⟩
/-- A row of values that a call puts together; what lay below base in W0 lies as it lay. -/
def AV (W0 : World) (base : Nat) (v : Value) (l : List VV) (w : World) : Prop := w.ownsRow base 32 5 v l.length (valsC l) ∧ Below base W0 w ∧ base ≤ w.heap.size
theorem AV.lit (w : World) (g : Nat) (hg : w.heap.size = g) : AV w w.heap.size (.slice (some ⟨g, 0, none⟩) 0 0) [] (w.alloc (.cells #[] 32)) :=
  ⟨own_lit0 w _ _ (Nat.le_refl _) g hg, (Below.refl _ _).alloc (Nat.le_refl _) _, by simp⟩
/-- 'append(v, m...)', m anywhere, nil or not. -/
theorem wp_vals {w : World} {ops : Array Oper} {rest : List Oper} {o : Oper} {a : Act} {Q : Exit → Act → World → Prop}
    (hg : o.guard = none) (s x : Operand) (hop : o.op = Op.call { callee := Callee.builtin Builtin.append, args := #[s, x], argTypes := #[22, 22] })
    (W0 : World) (base : Nat) (v : Value) (l : List VV) (hb : AV W0 base v l w) (hs : a.eval s = v) (A : Option Addr) (n C : Nat) (m : List VV) (hx : a.eval x = .slice A n C) (hn : m.length = n) (hC : A = none → C = 0) (hA : VsAt w A m)
    (hl : l.length + m.length ≤ 1000000) (hK : ∀ v' w', AV W0 base v' (l ++ m) w' → wpList Tryz.prog ops Q rest (a.put o.dst v') w') : wpList Tryz.prog ops Q (o :: rest) a w := by
  obtain ⟨i0, hi0, hz0, hz1, hz2⟩ := info_parts aval_info
  subst hn
  have own : ∀ (ad : Addr), a.eval x = .slice (some ad) m.length C → (∀ (j : Nat) u, (valsC m)[j]? = some u → w.cell? (ad.add j) = some u) → wpList Tryz.prog ops Q (o :: rest) a w := by
    intro ad hx2 hnews
    refine wpList_append_own _ hg s x _ hop base 32 i0 _ 5 48 Tryz.underlying22 hi0 hz0 hz1 hz2 rfl (by omega) v l.length (valsC l) hs hb.1 ad m.length C (valsC m) hx2 (valsC_len m) hnews (valsC_one m) (by unfold maxLen; omega) (by omega) hb.2.2 ?_
    intro v' w' ho hgr _
    refine hK v' w' ⟨by rw [List.length_append, valsC_app]; exact ho, hb.2.1.grown hgr hb.2.2 (fun k hk => (hb.1.lt k hk).1), Nat.le_trans hb.2.2 hgr.size⟩
  cases A with
  | none =>
    have hm : m = [] := by
      rcases hA with h | ⟨b, o2, h, -⟩
      · exact List.eq_nil_of_length_eq_zero h
      · cases h
    subst hm
    obtain rfl := hC rfl
    refine wpList_append_own_none hg s x _ hop base 32 i0 5 Tryz.underlying22 hi0 v l.length (valsC l) hs hb.1 hx ?_
    have := hK v w (by rw [List.append_nil]; exact hb)
    exact this
  | some ad =>
    rcases hA with h | ⟨b, o2, h1, h2⟩
    · have hm : m = [] := List.eq_nil_of_length_eq_zero h
      subst hm
      exact own ad hx (fun j u hj => by simp [valsC] at hj)
    · have hv := vals_news (w := w) (b := b) (o := o2) (l := m) (.inr ⟨b, o2, rfl, h2⟩)
      injection h1 with h1
      subst h1
      exact own _ hx hv
theorem AV.vals {W0 w : World} {base : Nat} {v : Value} {l : List VV} (h : AV W0 base v l w) : ∃ a cap, v = .slice a l.length cap ∧ VsAt w a l := own_vals h.1

theorem AV.alloc {W0 w : World} {base : Nat} {v : Value} {l : List VV} (h : AV W0 base v l w) (o : Obj) : AV W0 base v l (w.alloc o) := ⟨h.1.alloc o, h.2.1.alloc h.2.2 o, by simp; have := h.2.2; omega⟩
theorem vs_one {w : World} {v : VV} {t : TypeId} {g : Nat} (hg : w.heap.size = g) : VsAt (w.alloc (.cells #[.int .i64 v.k, .int .i64 v.p, .int .i64 v.q, .string v.s, .int .i64 v.r] t)) (some ⟨g, 0, none⟩) [v] := by
  subst hg
  refine .inr ⟨w.heap.size, 0, rfl, fun i hi => ?_⟩
  obtain rfl : i = 0 := by simp at hi; omega
  have h := cells5_at w v.k v.p v.q v.s v.r t _ rfl
  exact h
set_option maxHeartbeats 3200000 in
set_option maxRecDepth 100000 in
theorem copied_one (b c : Nat) (v : VV) (w : World) (h : Cells5 w b v.k v.p v.q v.s v.r) :
    Calls Tryz.prog 77 #[.slice (some ⟨b, 0, none⟩) 1 c] w fun e w' => (∃ g cap : Nat, e = .returned (.slice (some ⟨g, 0, none⟩) 1 cap) ∧ w.heap.size ≤ g ∧ Cells5 w' g v.k v.p v.q v.s v.r) ∧ Below w.heap.size w w' := by
  have HC := Lib.hid h
  clear h
  go_enter Tryz.func77, Tryz.ntmps77
  go_wp2_with fail
  go_loopw [3, 4] (fun ov iv wr => ∃ j : Nat, j ≤ 1 ∧ iv = .int .i64 j ∧ Hid (AV w w.heap.size ov ([v].take j) wr)) (fun _ i _ => 1 - (intOf i).toNat)
  case atStart => exact ⟨0, Nat.zero_le _, rfl, AV.lit w _ rfl⟩
  case round =>
    obtain ⟨j, hj, rfl, HV⟩ := hrel
    have hzr := HV.out.2.2
    by_cases h0 : j = 0
    · subst h0
      obtain ⟨c0, c1, c2, c3, c4⟩ := Cells5.below HV.out.2.1 HC.out
      go_wp2_with (at_builtin; refine wp_vals rfl _ _ rfl w w.heap.size _ [] (HV.out.alloc _) rfl _ 1 1 [v] rfl rfl (fun h => by cases h) (vs_one rfl) (by simp) ?_; intro v' w' hv')
      exact ⟨⟨1, by omega, by go_num, hv'⟩, by simp [intOf]⟩
    · obtain rfl : j = 1 := by omega
      obtain ⟨g, cap, hv, hg1, hg2, hg3, hcell⟩ := own_cell HV.out.1 (by simp)
      subst hv
      have hbw := HV.out.2.1
      have hc5 : Cells5 wr g v.k v.p v.q v.s v.r := ⟨hcell 0 (by simp [valsC, vC]), hcell 1 (by simp [valsC, vC]), hcell 2 (by simp [valsC, vC]), hcell 3 (by simp [valsC, vC]), hcell 4 (by simp [valsC, vC])⟩
      clear HV
      go_wp2_with fail
      go_returns
      exact ⟨⟨g, cap, rfl, hg1, hc5⟩, hbw⟩
set_option maxHeartbeats 800000 in
set_option maxRecDepth 100000 in
theorem rreturn_one (b c : Nat) (v : VV) (w : World) (h : Cells5 w b v.k v.p v.q v.s v.r) :
    Calls Tryz.prog 44 #[.slice (some ⟨b, 0, none⟩) 1 c] w fun e w' => ActIs w.heap.size 1 0 v.k v.p v.q v.s v.r e w' ∧ Below w.heap.size w w' := by
  have HC : Hid (∀ W, Below w.heap.size w W → Calls Tryz.prog 77 #[.slice (some ⟨b, 0, none⟩) 1 c] W fun e w' => (∃ g cap : Nat, e = .returned (.slice (some ⟨g, 0, none⟩) 1 cap) ∧ W.heap.size ≤ g ∧ Cells5 w' g v.k v.p v.q v.s v.r) ∧ Below W.heap.size W w') := fun W hW => copied_one b c v W (Cells5.below hW h)
  have fr0 := fun i => frozen_out w (w.heap.size) i (by omega)
  clear h
  go_enter Tryz.func44, Tryz.ntmps44
  go_wp2_with (first | (go_at_call 77; (with_reducible refine (HC.out _ ?_).mono ?_); (focus ((repeat' (first | (with_reducible exact Below.refl _ _) | (with_reducible assumption) | (with_reducible refine Below.alloc ?_ ?_ _) | (with_reducible refine below_drewN ?_ _) | (with_reducible refine Below.drew ?_) | (with_reducible refine Below.setCell ?_ ?_ _) | (with_reducible refine below_via (by assumption) ?_ ?_) | (with_reducible refine below_via (later_below _) ?_ ?_) | (with_reducible exact Nat.le_refl _) | omega | (simp; omega) | (simp; done))))); rintro e w9 ⟨⟨g, cap, rfl, hg, hcl⟩, hb⟩; (refine mem hb ?_; intro N hN hz hc hf; (try simp at hN); subst hN)))
  ((try simp only [Exit.inBlock, Exit.then]); refine bodyPost_ret (by first | (simp [results, Tryz.results44, go_sem, *]; done) | (simp [results, Tryz.results44, go_sem, *]; rfl) | (simp [results, Tryz.results44, go_sem, ↓IntWalk.iteOmega, *]; try rfl)) rfl ?_)
  obtain ⟨g1, g2⟩ : w.heap.size ≤ g ∧ w.heap.size ≠ g := up1 (by simpa using hg)
  refine ⟨act_mk rfl rfl g1 ?_, ?_⟩
  · repeat (with_reducible refine Cells5.set (by exact g2) ?_)
    exact hcl
  · (repeat' (first | (with_reducible exact Below.refl _ _) | (with_reducible assumption) | (with_reducible refine Below.alloc ?_ ?_ _) | (with_reducible refine below_drewN ?_ _) | (with_reducible refine Below.drew ?_) | (with_reducible refine Below.setCell ?_ ?_ _) | (with_reducible refine below_via (by assumption) ?_ ?_) | (with_reducible refine below_via (later_below _) ?_ ?_) | (with_reducible exact Nat.le_refl _) | omega | (simp; omega) | (simp; done)))
end Go.Proofs.YtfclmnglckikbaaGreatDoor

/- The reference's List and Same at actions of one value: what each call returns. -/
namespace Go.Proofs.YtfclmnglckikbaaGreatDoor
open Go.RowKit Go.Instr
set_option linter.unusedVariables false

set_option maxHeartbeats 3200000 in
set_option maxRecDepth 100000 in
theorem rlist_one (g1 c1 g2 c2 : Nat) (k p q : Int) (s : ByteArray) (r : Int) (w : World) (h1 : Cells5 w g1 k p q s r) (h2 : Cells5 w g2 k p q s r) :
    Calls Tryz.prog 31 #[.slice (some ⟨g1, 0, none⟩) 1 c1, .slice (some ⟨g2, 0, none⟩) 1 c2] w fun e w' => e = .returned (.bool true) ∧ Below w.heap.size w w' := by
  have H1 := Lib.hid h1
  have H2 := Lib.hid h2
  clear h1 h2
  go_enter Tryz.func31, Tryz.ntmps31
  go_wp2_with fail
  go_loopw [5] (fun u wr => ∃ i : Nat, i ≤ 1 ∧ u = .int .i64 i ∧ Hid (Below w.heap.size w wr)) (fun u _ => 1 - (intOf u).toNat)
  case atStart => exact ⟨0, Nat.zero_le _, rfl, Below.refl _ _⟩
  case round =>
    obtain ⟨i, hi, rfl, HB⟩ := hrel
    have hc : i = 0 ∨ i = 1 := by omega
    rcases hc with rfl | rfl
    · obtain ⟨a0, a1, a2, a3, a4⟩ := H1.out.below HB.out
      obtain ⟨b0, b1, b2, b3, b4⟩ := H2.out.below HB.out
      have l1 := cell_lt a0
      have l2 := cell_lt b0
      go_wp2_with fail
      go_quiet (fail)
      go_wp2_with fail
      refine ⟨⟨1, by omega, by go_num, ?_⟩, by simp [intOf]⟩
      have hbel := HB.out
      have hs := hbel.size
      show Below _ _ _
      (repeat' (first | (with_reducible exact Below.refl _ _) | (with_reducible assumption) | (with_reducible refine Below.alloc ?_ ?_ _) | (with_reducible refine below_drewN ?_ _) | (with_reducible refine Below.drew ?_) | (with_reducible refine Below.setCell ?_ ?_ _) | (with_reducible refine below_via (by assumption) ?_ ?_) | (with_reducible refine below_via (later_below _) ?_ ?_) | (with_reducible exact Nat.le_refl _) | omega | (simp; omega) | (simp; done)))
    · go_wp2_with fail
      go_returns
      exact ⟨rfl, HB.out⟩
set_option maxHeartbeats 3200000 in
set_option maxRecDepth 100000 in
theorem rlist_nil (w : World) : Calls Tryz.prog 31 #[.slice none 0 0, .slice none 0 0] w fun e w' => e = .returned (.bool true) ∧ Below w.heap.size w w' := by
  go_enter Tryz.func31, Tryz.ntmps31
  go_wp2_with fail
  go_loopw [5] (fun u wr => u = .int .i64 0 ∧ Hid (Below w.heap.size w wr)) (fun u _ => 0)
  case atStart => exact ⟨rfl, Below.refl _ _⟩
  case round =>
    obtain ⟨rfl, HB⟩ := hrel
    go_wp2_with fail
    go_returns
    exact ⟨rfl, HB.out⟩
set_option maxHeartbeats 8000000 in
set_option maxRecDepth 100000 in
theorem rsame_act (kind level g1 c1 g2 c2 : Nat) (k p q : Int) (s : ByteArray) (r : Int) (w : World) (h1 : Cells5 w g1 k p q s r) (h2 : Cells5 w g2 k p q s r) :
    Calls Tryz.prog 14 #[actV kind g1 c1 level, actV kind g2 c2 level] w fun e w' => e = .returned (.bool true) ∧ Below w.heap.size w w' := by
  have HL : Hid (∀ w', Below w.heap.size w w' → Calls Tryz.prog 31 #[.slice (some ⟨g1, 0, none⟩) 1 c1, .slice (some ⟨g2, 0, none⟩) 1 c2] w' fun e w'' => e = .returned (.bool true) ∧ Below w'.heap.size w' w'') := fun w' hb => rlist_one g1 c1 g2 c2 k p q s r w' (h1.below hb) (h2.below hb)
  have HL0 : Hid (∀ w', Calls Tryz.prog 31 #[.slice none 0 0, .slice none 0 0] w' fun e w'' => e = .returned (.bool true) ∧ Below w'.heap.size w' w'') := fun w' => rlist_nil w'
  clear h1 h2
  go_enter Tryz.func14, Tryz.ntmps14
  go_wp2_with (first | (go_at_call 31; (with_reducible refine (HL0.out _).mono ?_); rintro e w9 ⟨rfl, hb⟩; (refine mem hb ?_; intro N hN hz hc hf; (try simp at hN); subst hN)) | (go_at_call 31; (with_reducible refine (HL.out _ ?_).mono ?_); (focus ((repeat' (first | (with_reducible exact Below.refl _ _) | (with_reducible assumption) | (with_reducible refine Below.alloc ?_ ?_ _) | (with_reducible refine below_drewN ?_ _) | (with_reducible refine Below.drew ?_) | (with_reducible refine Below.setCell ?_ ?_ _) | (with_reducible refine below_via (by assumption) ?_ ?_) | (with_reducible refine below_via (later_below _) ?_ ?_) | (with_reducible exact Nat.le_refl _) | omega | (simp; omega) | (simp; done))))); rintro e w8 ⟨rfl, hb⟩; (refine mem hb ?_; intro N hN hz hc hf; (try simp at hN); subst hN)))
  go_returns
  refine ⟨rfl, ?_⟩
  (repeat' (first | (with_reducible exact Below.refl _ _) | (with_reducible assumption) | (with_reducible refine Below.alloc ?_ ?_ _) | (with_reducible refine below_drewN ?_ _) | (with_reducible refine Below.drew ?_) | (with_reducible refine Below.setCell ?_ ?_ _) | (with_reducible refine below_via (by assumption) ?_ ?_) | (with_reducible refine below_via (later_below _) ?_ ?_) | (with_reducible exact Nat.le_refl _) | omega | (simp; omega) | (simp; done)))

end Go.Proofs.YtfclmnglckikbaaGreatDoor
