/- The program's visitor: block; and what visit and block answer for every tree. -/
import Derived.Test.YtplphejillkdeaaGreatDoorMTrVis
import Derived.Test.YtplphejillkdeaaGreatDoorMTrStats2
namespace Go.Proofs.YtplphejillkdeaaGreatDoor
open Go.RowKit Go.Instr
set_option linter.unusedVariables false

theorem stats_any (a b p : Nat) (J : Nat → World → Prop) (X : Ending → World → Prop) (fe fb : Value) (s : TS) (w : World) (hin : InS w a s) (hab : a ≤ b) (hbw : b ≤ w.heap.size) (hfe : IsFn fe) (hfb : IsFn fb)
    (hJ : ∀ j W W', J j W → Below W.heap.size W W' → J j W') (H : ∀ j x, (partsS s)[j]? = some x → ∀ W, J (p + j) W → CBp fe fb x W (RJ a b (J (p + (j + 1))) X W)) (h0 : J p w) :
    Calls Tryz.prog 34 #[s.v, fe, fb] w (RJ a b (J (p + (partsS s).length)) X w) := by
  by_cases h7 : s.k = 7
  · exact stats_rep a b p J X fe fb s w hin hab hbw hfe hfb hJ H h7 h0
  · by_cases h8 : s.k = 8
    · by_cases hl : s.right.length < s.blocks.length
      · exact stats_if1 a b p J X fe fb s w hin hab hbw hfe hfb hJ H h8 hl h0
      · exact stats_if2 a b p J X fe fb s w hin hab hbw hfe hfb hJ H h8 (by omega) h0
    · exact stats_els a b p J X fe fb s w hin hab hbw hfe hfb hJ H h7 h8 h0

/-- The visitor's box. -/
def Wb (n b : Nat) (fs fe : Value) (W : World) : Prop := W.cell? ⟨n, 0, none⟩ = some fs ∧ W.cell? ⟨n, 1, none⟩ = some fe ∧ b ≤ W.heap.size
theorem Wb.kept {a b n : Nat} {fs fe : Value} {W W' : World} (h : Wb n b fs fe W) (k : Kept a b W W') (hb : b ≤ n) (g1 : ∀ s, fs ≠ .string s := by intro s e; cases e) : Wb n b fs fe W' := ⟨k.cell h.1 h.1 hb g1, k.cell h.1 h.2.1 hb g1, Nat.le_trans h.2.2 k.size⟩
theorem Wb.below {b n : Nat} {fs fe : Value} {W W' : World} (h : Wb n b fs fe W) (k : Below W.heap.size W W') : Wb n b fs fe W' :=
  ⟨(k.cell (p := ⟨n, 0, none⟩) (cell_lt h.1)).trans h.1, (k.cell (p := ⟨n, 1, none⟩) (cell_lt h.2.1)).trans h.2.1, Nat.le_trans h.2.2 k.size⟩

set_option maxRecDepth 100000 in
theorem block1_any (a b : Nat) (T : World → Prop) (X : Ending → World → Prop) (fs fe : Value) (x : TX) (n : Nat) (w : World) (ha : a ≤ w.heap.size) (h0 : w.cell? ⟨n, 0, none⟩ = some fs) (h1 : w.cell? ⟨n, 1, none⟩ = some fe)
    (hc : ∀ W, Below w.heap.size w W → Calls Tryz.prog 51 #[.agg #[fs, fe], x.v, .int .i64 0] W (RJ a b T X W)) : Calls Tryz.prog 50 #[x.v, .pointer (some ⟨n, 0, none⟩)] w (RJ a b T X w) := by
  have HC := Lib.hid hc
  have hn := cell_lt h0
  clear hc
  go_enter Tryz.func50, Tryz.ntmps50
  go_wp2_with (go_at_call 51; (with_reducible refine (HC.out _ ?_).mono ?_); (focus ((repeat' (first | (with_reducible exact Below.refl _ _) | (with_reducible assumption) | (with_reducible refine Below.alloc ?_ ?_ _) | (with_reducible refine below_drewN ?_ _) | (with_reducible refine Below.drew ?_) | (with_reducible refine Below.setCell ?_ ?_ _) | (with_reducible refine below_via (by assumption) ?_ ?_) | (with_reducible refine below_via (later_below _) ?_ ?_) | (with_reducible exact Nat.le_refl _) | omega | (simp; omega) | (simp; done))))); rintro e w1 (⟨rfl, hT, hk1⟩ | ⟨rfl | ⟨ch, rfl⟩, hX⟩))
  · go_returns
    exact .inl ⟨rfl, hT, (kept_of (by (repeat' (first | (with_reducible exact Below.refl _ _) | (with_reducible assumption) | (with_reducible refine Below.alloc ?_ ?_ _) | (with_reducible refine below_drewN ?_ _) | (with_reducible refine Below.drew ?_) | (with_reducible refine Below.setCell ?_ ?_ _) | (with_reducible refine below_via (by assumption) ?_ ?_) | (with_reducible refine below_via (later_below _) ?_ ?_) | (with_reducible exact Nat.le_refl _) | omega | (simp; omega) | (simp; done)))) ha).trans hk1⟩
  · go_returns
    exact .inr ⟨.inl rfl, hX⟩
  · exact ⟨rfl, .inr ⟨.inr ⟨ch, rfl⟩, hX⟩⟩

/-- What is known of a part: it lies below block a, its rank is less than n. -/
def PartOk (a n : Nat) (W : World) (x : TX ⊕ TB) : Prop :=
  match x with
  | .inl x => InX W a x ∧ rkX x < n
  | .inr y => InB W a y ∧ rkB y < n
/-- The cells of a statement in a block of its own. -/
def S7n (n : Nat) (s : TS) (w : World) : Prop := w.cell? ⟨n, 0, none⟩ = some (.int .i64 s.k) ∧ w.cell? ⟨n, 1, none⟩ = some (.int .i64 s.ln) ∧ w.cell? ⟨n, 2, none⟩ = some (.slice s.nA s.names.length s.nC) ∧ w.cell? ⟨n, 3, none⟩ = some (.slice s.lA s.left.length s.lC) ∧ w.cell? ⟨n, 4, none⟩ = some (.slice s.rA s.right.length s.rC) ∧ w.cell? ⟨n, 5, none⟩ = some (.slice s.bA s.blocks.length s.bC) ∧ w.cell? ⟨n, 6, none⟩ = some (.string s.label)
theorem S7n.kept {a b n : Nat} {s : TS} {W W' : World} (h : S7n n s W) (k : Kept a b W W') (hb : b ≤ n) : S7n n s W' := by
  obtain ⟨h0, h1, h2, h3, h4, h5, h6⟩ := h
  exact ⟨k.cell h0 h0 hb, k.cell h0 h1 hb, k.cell h0 h2 hb, k.cell h0 h3 hb, k.cell h0 h4 hb, k.cell h0 h5 hb, k.cell h0 h6 hb⟩
theorem S7n.new (s : TS) (w : World) (t1 : TypeId) : S7n w.heap.size s (w.alloc (.cells #[.int .i64 s.k, .int .i64 s.ln, .slice s.nA s.names.length s.nC, .slice s.lA s.left.length s.lC, .slice s.rA s.right.length s.rC, .slice s.bA s.blocks.length s.bC, .string s.label] t1)) := by
  unfold S7n
  simp [cell_alloc_if]
section
variable (a b : Nat) (ws : Bool) (all : List Ev) (J : Nat → World → Prop) (X : Ending → World → Prop) (fs fe : Value)
variable (hab : a ≤ b) (hfe : IsFn fe) (hfs : StF ws fs) (hJ : ∀ j W W', J j W → Below W.heap.size W W' → J j W')
  (H : ∀ q e, all[q]? = some e → ∀ W, b ≤ W.heap.size → J q W → CBe fs fe e W (RJ a b (J (q + 1)) X W))
include hab hfe hfs hJ H

omit hfe H in
/-- The statement's parts, shown one after the other. -/
theorem block_stat (n : Nat) (hX : VisX a b ws all J X fs fe n) (hB : VisB a b ws all J X fs fe n) (s : TS) (hrk : rkS s < n) (q : Nat) (hseg : Seg all q ((partsS s).flatMap fun p => evN ws n p 0)) (vb : Nat) (hvb : b ≤ vb) :
    Hid (∀ W, InS W a s → Wb vb b fs fe W → J q W → Calls Tryz.prog 34 #[s.v, .func (.func 50) #[] #[.pointer (some ⟨vb, 0, none⟩)], .func (.func 29) #[.agg #[fs, fe]] #[]] W (RJ a b (J (q + ((partsS s).flatMap fun p => evN ws n p 0).length)) X W)) := by
  intro W hin hwb h0
  have hpart : ∀ (j : Nat) (x : TX ⊕ TB), (partsS s)[j]? = some x → PartOk a n W x := by
    intro j x hx
    have hm : x ∈ partsS s := List.mem_of_getElem? hx
    rw [rkS_eq] at hrk
    have hl := hin.lf.2.2
    have hr := hin.rt.2.2
    have hb := hin.bs.2.2
    have gx : ∀ y, y ∈ s.left ∨ y ∈ s.right → InX W a y ∧ rkX y < n := fun y hy => by
      rcases hy with hy | hy
      · exact ⟨(inXs_iff _).1 hl y hy, by have := rkXs_mem hy; omega⟩
      · exact ⟨(inXs_iff _).1 hr y hy, by have := rkXs_mem hy; omega⟩
    have gb : ∀ y, y ∈ s.blocks → InB W a y ∧ rkB y < n := fun y hy => ⟨(inBs_iff _).1 hb y hy, by have := rkBs_mem hy; omega⟩
    have hz : ∀ (r : List TX) (l : List TB) z, z ∈ zipP r l → (∃ y ∈ r, z = .inl y) ∨ ∃ y ∈ l, z = .inr y := by
      intro r
      induction r with
      | nil => intro l z hz; obtain ⟨y, hy, rfl⟩ := List.mem_map.1 hz; exact .inr ⟨y, hy, rfl⟩
      | cons u r ih =>
        intro l z hz
        cases l with
        | nil => obtain ⟨y, hy, rfl⟩ := List.mem_map.1 hz; exact .inl ⟨y, hy, rfl⟩
        | cons v l =>
          rcases List.mem_cons.1 hz with rfl | hz
          · exact .inl ⟨u, List.mem_cons_self, rfl⟩
          · rcases List.mem_cons.1 hz with rfl | hz
            · exact .inr ⟨v, List.mem_cons_self, rfl⟩
            · rcases ih l z hz with ⟨y, hy, e⟩ | ⟨y, hy, e⟩
              · exact .inl ⟨y, List.mem_cons_of_mem _ hy, e⟩
              · exact .inr ⟨y, List.mem_cons_of_mem _ hy, e⟩
    have all' : (∃ y, (y ∈ s.left ∨ y ∈ s.right) ∧ x = .inl y) ∨ ∃ y ∈ s.blocks, x = .inr y := by
      unfold partsS at hm
      rcases List.mem_append.1 hm with hm | hm
      · obtain ⟨y, hy, rfl⟩ := List.mem_map.1 hm; exact .inl ⟨y, .inl hy, rfl⟩
      · split at hm
        · rcases List.mem_append.1 hm with hm | hm
          · obtain ⟨y, hy, rfl⟩ := List.mem_map.1 hm; exact .inr ⟨y, hy, rfl⟩
          · obtain ⟨y, hy, rfl⟩ := List.mem_map.1 hm; exact .inl ⟨y, .inr hy, rfl⟩
        · split at hm
          · rcases hz _ _ _ hm with ⟨y, hy, rfl⟩ | ⟨y, hy, rfl⟩
            · exact .inl ⟨y, .inr hy, rfl⟩
            · exact .inr ⟨y, hy, rfl⟩
          · rcases List.mem_append.1 hm with hm | hm
            · obtain ⟨y, hy, rfl⟩ := List.mem_map.1 hm; exact .inl ⟨y, .inr hy, rfl⟩
            · obtain ⟨y, hy, rfl⟩ := List.mem_map.1 hm; exact .inr ⟨y, hy, rfl⟩
    rcases all' with ⟨y, hy, rfl⟩ | ⟨y, hy, rfl⟩
    · exact gx y hy
    · exact gb y hy
  obtain ⟨f, hf⟩ : ∃ f : TX ⊕ TB → List Ev, (fun p => evN ws n p 0) = f := ⟨_, rfl⟩
  have hfx : ∀ p, f p = evN ws n p 0 := fun p => by rw [← hf]
  rw [hf] at hseg ⊢
  have key := stats_any a b 0 (fun j W' => J (q + (((partsS s).take j).flatMap f).length) W' ∧ Wb vb b fs fe W' ∧ Still a W W') X (.func (.func 50) #[] #[.pointer (some ⟨vb, 0, none⟩)]) (.func (.func 29) #[.agg #[fs, fe]] #[]) s W hin hab hwb.2.2
    ⟨_, _, _, rfl, enters_of Tryz.func50 (by kernel_rfl) rfl⟩ ⟨_, _, _, rfl, enters_of Tryz.func29 (by kernel_rfl) rfl⟩
    (fun j W1 W2 h hb => ⟨hJ _ _ _ h.1 hb, h.2.1.below hb, h.2.2.trans (still_of hb (by have := h.2.1.2.2; omega))⟩) ?_ ⟨by simpa using h0, hwb, Still.refl _ _⟩
  · refine key.mono fun e w' h => ?_
    rcases h with ⟨he, ⟨hT, -, -⟩, hk⟩ | h
    · refine .inl ⟨he, ?_, hk⟩
      rw [Nat.zero_add, List.take_length] at hT
      exact hT
    · exact .inr h
  · intro j x hx W1 h1
    rw [Nat.zero_add] at h1 ⊢
    obtain ⟨hj1, hw1, hs1⟩ := h1
    have hlt : j < (partsS s).length := (List.getElem?_eq_some_iff.1 hx).1
    have hxe : (partsS s)[j] = x := (List.getElem?_eq_some_iff.1 hx).2
    have hsj := seg_flat hseg hlt
    rw [hxe] at hsj
    have hlen := seg_flat_len (f := f) hlt
    rw [hxe] at hlen
    have fin : ∀ e W2, RJ a b (J (q + (((partsS s).take j).flatMap f).length + (f x).length)) X W1 e W2 → RJ a b (fun W' => J (q + (((partsS s).take (j + 1)).flatMap f).length) W' ∧ Wb vb b fs fe W' ∧ Still a W W') X W1 e W2 := fun e W2 h => by
      rcases h with ⟨he, hT, hk⟩ | h
      · exact .inl ⟨he, ⟨by rw [hlen, ← Nat.add_assoc]; exact hT, hw1.kept hk hvb (stF_ns hfs), hs1.trans (hk.still (Nat.le_refl _))⟩, hk⟩
      · exact .inr h
    have hp := hpart j x hx
    cases x with
    | inl x =>
      obtain ⟨hin1, hrk1⟩ := hp
      refine ⟨_, _, _, rfl, enters_of Tryz.func50 (by kernel_rfl) rfl, ?_⟩
      refine (block1_any a b _ X fs fe x vb W1 (by have := hw1.2.2; omega) hw1.1 hw1.2.1 fun W2 hb2 => ?_).mono (fun e W2 h => fin e W2 h)
      have hsz := hb2.size
      have := hX x 0 hrk1 _ (by rw [hfx] at hsj; exact hsj) W2 ((hin1.still hs1 (Nat.le_refl _)).still (still_of hb2 (by have := hw1.2.2; omega)) (Nat.le_refl _)) (by have := hw1.2.2; omega) (hJ _ _ _ hj1 hb2)
      rw [hfx]
      exact this
    | inr y =>
      obtain ⟨hin1, hrk1⟩ := hp
      refine ⟨_, _, _, rfl, enters_of Tryz.func29 (by kernel_rfl) rfl, ?_⟩
      have := hB y hrk1 _ (by rw [hfx] at hsj; exact hsj) W1 (hin1.still hs1 (Nat.le_refl _)) hw1.2.2 hj1
      rw [← hfx] at this
      exact this.mono (fun e W2 h => fin e W2 h)

set_option maxHeartbeats 3200000 in
set_option maxRecDepth 100000 in
theorem block_step (n : Nat) (hX : VisX a b ws all J X fs fe n) (hB : VisB a b ws all J X fs fe n) : VisB a b ws all J X fs fe (n + 1) := by
  intro y hrk q hseg w hin hbw h0
  obtain ⟨gE, hgE⟩ : ∃ g : Nat → List Ev, (fun i => (if ws then [Ev.st y i] else []) ++ ((y.l[i]?.map partsS).getD []).flatMap (fun p => evN ws n p 0)) = g := ⟨_, rfl⟩
  have hev : evN ws (n + 1) (.inr y) 0 = (List.range y.l.length).flatMap gE := by rw [← hgE]; rfl
  rw [hev] at hseg ⊢
  rw [rkB_eq] at hrk
  obtain ⟨pS, hpS⟩ : ∃ p : Nat → Nat, p = fun k => (((List.range y.l.length).take k).flatMap gE).length := ⟨_, rfl⟩
  have eS0 : pS 0 = 0 := by rw [hpS]; rfl
  have eS1 : ((List.range y.l.length).flatMap gE).length = pS y.l.length := by rw [hpS]; show _ = (((List.range y.l.length).take y.l.length).flatMap gE).length; rw [List.take_of_length_le (by simp)]
  -- at statement k: the callback (where there is one), then the parts
  have hstep : ∀ k (h : k < y.l.length), pS (k + 1) = pS k + (gE k).length ∧ Seg all (q + pS k) (gE k) ∧ gE k = (if ws then [Ev.st y k] else []) ++ (partsS y.l[k]).flatMap (fun p => evN ws n p 0) := by
    intro k h
    have hr : k < (List.range y.l.length).length := by simpa using h
    have h1 := seg_flat hseg hr
    have h2 := seg_flat_len (f := gE) hr
    rw [List.getElem_range] at h1 h2
    refine ⟨by rw [hpS]; exact h2, by rw [hpS]; exact h1, ?_⟩
    rw [← hgE]
    simp only [List.getElem?_eq_getElem h, Option.map_some, Option.getD_some]
  have HS : Hid (∀ k (h : k < y.l.length) W, Still a w W → Wb w.heap.size b fs fe W → J (q + pS k + (if ws then 1 else 0)) W → Calls Tryz.prog 34 #[(y.l[k]).v, .func (.func 50) #[] #[.pointer (some ⟨w.heap.size, 0, none⟩)], .func (.func 29) #[.agg #[fs, fe]] #[]] W (RJ a b (J (q + pS (k + 1))) X W)) := by
    intro k h W hst hwb hjW
    obtain ⟨h1, h2, h3⟩ := hstep k h
    rw [h3] at h2
    have h4 := (seg_app h2).2
    have hl : (if ws then [Ev.st y k] else []).length = if ws then 1 else 0 := by cases ws <;> rfl
    rw [hl] at h4
    have hb := block_stat a b ws all J X fs fe hab hfs hJ n hX hB y.l[k] (by have := rkSs_mem (List.getElem_mem h); omega) _ h4 w.heap.size hbw W (((inSs_iff _).1 hin.ss.2.2 _ (List.getElem_mem h)).still hst (Nat.le_refl _)) hwb hjW
    rw [h1, h3, List.length_append, hl, ← Nat.add_assoc, ← Nat.add_assoc]
    exact hb
  have HC : Hid (ws = true → ∀ k (h : k < y.l.length) W, b ≤ W.heap.size → J (q + pS k) W → CB fs #[y.v, .int .i64 k] W (RJ a b (J (q + pS k + 1)) X W)) := by
    intro hw k h W hbW hjW
    obtain ⟨h1, h2, h3⟩ := hstep k h
    rw [h3, hw, if_pos rfl] at h2
    exact H _ _ (seg_cons h2).1 W hbW hjW
  rw [eS1]
  have HJ := Lib.hid hJ
  have H0 := Lib.hid h0
  have HIN := Lib.hid hin
  obtain ⟨i1, i2, -⟩ := hin.ss.1
  have hnB : (y.l.length : Int) ≤ 9223372036854775807 := by omega
  obtain ⟨uA, huA⟩ : ∃ v, y.a = v := ⟨_, rfl⟩
  clear H hseg hX hB hJ h0 hin hgE hev eS1 hstep hrk hpS
  obtain ⟨g, fi, cp, rfl, hg⟩ := hfe
  have hnn := @neq_nil Tryz.prog 70 _ _ _ Tryz.underlying70
  have hnf := @neq_fn Tryz.prog 70 _ _ _ Tryz.underlying70
  show Calls Tryz.prog _ #[_, .slice y.a y.l.length y.c] w _
  rw [huA]
  cases ws with
  | false =>
    have hfs' : fs = .nilFunc := hfs
    clear hfs
    subst hfs'
    clear HC hnf
    go_enter Tryz.func29, Tryz.ntmps29
    go_wp2_with fail
    go_loopw [9] (fun i wr => ∃ k : Nat, k ≤ y.l.length ∧ i = .int .i64 k ∧ Hid (J (q + pS k) wr) ∧ Hid (Kept a b w wr) ∧ Hid (Wb w.heap.size b .nilFunc (.func (.func g) fi cp) wr)) (fun i _ => y.l.length - (intOf i).toNat)
    case atStart =>
      refine ⟨0, Nat.zero_le _, rfl, (by rw [eS0]; exact HJ.out _ w _ H0.out (by (repeat' (first | (with_reducible exact Below.refl _ _) | (with_reducible assumption) | (with_reducible refine Below.alloc ?_ ?_ _) | (with_reducible refine below_drewN ?_ _) | (with_reducible refine Below.drew ?_) | (with_reducible refine Below.setCell ?_ ?_ _) | (with_reducible refine below_via (by assumption) ?_ ?_) | (with_reducible refine below_via (later_below _) ?_ ?_) | (with_reducible exact Nat.le_refl _) | omega | (simp; omega) | (simp; done))))), kept_of (by (repeat' (first | (with_reducible exact Below.refl _ _) | (with_reducible assumption) | (with_reducible refine Below.alloc ?_ ?_ _) | (with_reducible refine below_drewN ?_ _) | (with_reducible refine Below.drew ?_) | (with_reducible refine Below.setCell ?_ ?_ _) | (with_reducible refine below_via (by assumption) ?_ ?_) | (with_reducible refine below_via (later_below _) ?_ ?_) | (with_reducible exact Nat.le_refl _) | omega | (simp; omega) | (simp; done)))) (by omega), ?_⟩
      refine ⟨?_, ?_, ?_⟩
      · simp [cell_alloc_if]
      · simp [cell_alloc_if]
      · simp; omega
    case round =>
      obtain ⟨k, hk, rfl, HK, HE, HV⟩ := hrel
      obtain ⟨v0, v1, v2⟩ := HV.out
      have hzr := cell_lt v0
      by_cases hlt : k < y.l.length
      · obtain ⟨b1, o, haA, hb, hc, -⟩ := (HIN.out.ss.still (HE.out.still (Nat.le_refl _)) (Nat.le_refl _)).at_ hlt
        rw [huA] at haA
        subst haA
        obtain ⟨s, hs⟩ : ∃ s, y.l[k] = s := ⟨_, rfl⟩
        have HSk : Hid (∀ W, Still a w W → Wb w.heap.size b .nilFunc (.func (.func g) fi cp) W → J (q + pS k) W → Calls Tryz.prog 34 #[s.v, .func (.func 50) #[] #[.pointer (some ⟨w.heap.size, 0, none⟩)], .func (.func 29) #[.agg #[.nilFunc, .func (.func g) fi cp]] #[]] W (RJ a b (J (q + pS (k + 1))) X W)) := by have h := HS.out k hlt; rw [hs] at h; exact h
        rw [hs] at hc
        obtain ⟨c0, c1, c2, c3, c4, c5, c6⟩ := hc
        have hbl := cell_lt c0
        have HST : Hid (Still a w wr) := HE.out.still (Nat.le_refl _)
        have hsz := HE.out.size
        clear hs
        go_wp2_with (go_at_call 34; (with_reducible refine (HSk.out _ ?_ ?_ (HJ.out _ wr _ HK.out ?_)).mono ?_); (focus (exact HST.out.trans (still_of (B := wr.heap.size) (by (repeat' (first | (with_reducible exact Below.refl _ _) | (with_reducible assumption) | (with_reducible refine Below.alloc ?_ ?_ _) | (with_reducible refine below_drewN ?_ _) | (with_reducible refine Below.drew ?_) | (with_reducible refine Below.setCell ?_ ?_ _) | (with_reducible refine below_via (by assumption) ?_ ?_) | (with_reducible refine below_via (later_below _) ?_ ?_) | (with_reducible exact Nat.le_refl _) | omega | (simp; omega) | (simp; done)))) (by omega)))); (focus (exact HV.out.below (by (repeat' (first | (with_reducible exact Below.refl _ _) | (with_reducible assumption) | (with_reducible refine Below.alloc ?_ ?_ _) | (with_reducible refine below_drewN ?_ _) | (with_reducible refine Below.drew ?_) | (with_reducible refine Below.setCell ?_ ?_ _) | (with_reducible refine below_via (by assumption) ?_ ?_) | (with_reducible refine below_via (later_below _) ?_ ?_) | (with_reducible exact Nat.le_refl _) | omega | (simp; omega) | (simp; done)))))); (focus ((repeat' (first | (with_reducible exact Below.refl _ _) | (with_reducible assumption) | (with_reducible refine Below.alloc ?_ ?_ _) | (with_reducible refine below_drewN ?_ _) | (with_reducible refine Below.drew ?_) | (with_reducible refine Below.setCell ?_ ?_ _) | (with_reducible refine below_via (by assumption) ?_ ?_) | (with_reducible refine below_via (later_below _) ?_ ?_) | (with_reducible exact Nat.le_refl _) | omega | (simp; omega) | (simp; done))))); rintro e w2 (⟨rfl, hT2, hk2⟩ | ⟨rfl | ⟨ch, rfl⟩, hX⟩))
        · have hk3 : Kept a b wr w2 := (kept_of (by (repeat' (first | (with_reducible exact Below.refl _ _) | (with_reducible assumption) | (with_reducible refine Below.alloc ?_ ?_ _) | (with_reducible refine below_drewN ?_ _) | (with_reducible refine Below.drew ?_) | (with_reducible refine Below.setCell ?_ ?_ _) | (with_reducible refine below_via (by assumption) ?_ ?_) | (with_reducible refine below_via (later_below _) ?_ ?_) | (with_reducible exact Nat.le_refl _) | omega | (simp; omega) | (simp; done)))) (by omega)).trans hk2
          exact ⟨⟨k + 1, by omega, by go_num, hT2, HE.out.trans hk3, HV.out.kept hk3 hbw⟩, by simp [intOf]; omega⟩
        · go_returns
          exact .inr ⟨.inl rfl, hX⟩
        · exact ⟨rfl, .inr ⟨.inr ⟨ch, rfl⟩, hX⟩⟩
      · obtain rfl : k = y.l.length := by omega
        go_wp2_with fail
        go_returns
        exact .inl ⟨rfl, HK.out, HE.out⟩
  | true =>
    obtain ⟨g2, fi2, cp2, rfl, hg2⟩ : IsFn fs := hfs
    clear hnn
    go_enter Tryz.func29, Tryz.ntmps29
    go_wp2_with fail
    go_loopw [9] (fun i wr => ∃ k : Nat, k ≤ y.l.length ∧ i = .int .i64 k ∧ Hid (J (q + pS k) wr) ∧ Hid (Kept a b w wr) ∧ Hid (Wb w.heap.size b (.func (.func g2) fi2 cp2) (.func (.func g) fi cp) wr)) (fun i _ => y.l.length - (intOf i).toNat)
    case atStart =>
      refine ⟨0, Nat.zero_le _, rfl, (by rw [eS0]; exact HJ.out _ w _ H0.out (by (repeat' (first | (with_reducible exact Below.refl _ _) | (with_reducible assumption) | (with_reducible refine Below.alloc ?_ ?_ _) | (with_reducible refine below_drewN ?_ _) | (with_reducible refine Below.drew ?_) | (with_reducible refine Below.setCell ?_ ?_ _) | (with_reducible refine below_via (by assumption) ?_ ?_) | (with_reducible refine below_via (later_below _) ?_ ?_) | (with_reducible exact Nat.le_refl _) | omega | (simp; omega) | (simp; done))))), kept_of (by (repeat' (first | (with_reducible exact Below.refl _ _) | (with_reducible assumption) | (with_reducible refine Below.alloc ?_ ?_ _) | (with_reducible refine below_drewN ?_ _) | (with_reducible refine Below.drew ?_) | (with_reducible refine Below.setCell ?_ ?_ _) | (with_reducible refine below_via (by assumption) ?_ ?_) | (with_reducible refine below_via (later_below _) ?_ ?_) | (with_reducible exact Nat.le_refl _) | omega | (simp; omega) | (simp; done)))) (by omega), ?_⟩
      refine ⟨?_, ?_, ?_⟩
      · simp [cell_alloc_if]
      · simp [cell_alloc_if]
      · simp; omega
    case round =>
      obtain ⟨k, hk, rfl, HK, HE, HV⟩ := hrel
      obtain ⟨v0, v1, v2⟩ := HV.out
      have hzr := cell_lt v0
      by_cases hlt : k < y.l.length
      · obtain ⟨b1, o, haA, hb, hc, -⟩ := (HIN.out.ss.still (HE.out.still (Nat.le_refl _)) (Nat.le_refl _)).at_ hlt
        rw [huA] at haA
        have huA' := huA.trans haA
        subst haA
        obtain ⟨s, hs⟩ : ∃ s, y.l[k] = s := ⟨_, rfl⟩
        have HSk : Hid (∀ W, Still a w W → Wb w.heap.size b (.func (.func g2) fi2 cp2) (.func (.func g) fi cp) W → J (q + pS k + 1) W → Calls Tryz.prog 34 #[s.v, .func (.func 50) #[] #[.pointer (some ⟨w.heap.size, 0, none⟩)], .func (.func 29) #[.agg #[(.func (.func g2) fi2 cp2), .func (.func g) fi cp]] #[]] W (RJ a b (J (q + pS (k + 1))) X W)) := by have h := HS.out k hlt; rw [hs] at h; exact h
        rw [hs] at hc
        obtain ⟨c0, c1, c2, c3, c4, c5, c6⟩ := hc
        have hbl := cell_lt c0
        have HST : Hid (Still a w wr) := HE.out.still (Nat.le_refl _)
        have hsz := HE.out.size
        clear hs
        go_wp2_with fail
        go_at_fn g2
        rw [← huA']
        with_reducible refine (HC.out (by trivial) k hlt _ ?_ (HJ.out _ wr _ HK.out ?_)).two.mono ?_
        · simp; omega
        · (repeat' (first | (with_reducible exact Below.refl _ _) | (with_reducible assumption) | (with_reducible refine Below.alloc ?_ ?_ _) | (with_reducible refine below_drewN ?_ _) | (with_reducible refine Below.drew ?_) | (with_reducible refine Below.setCell ?_ ?_ _) | (with_reducible refine below_via (by assumption) ?_ ?_) | (with_reducible refine below_via (later_below _) ?_ ?_) | (with_reducible exact Nat.le_refl _) | omega | (simp; omega) | (simp; done)))
        rintro e w3 (⟨rfl, hT3, hk3⟩ | ⟨rfl | ⟨ch, rfl⟩, hX⟩)
        · have hkA : Kept a b wr w3 := (kept_of (by (repeat' (first | (with_reducible exact Below.refl _ _) | (with_reducible assumption) | (with_reducible refine Below.alloc ?_ ?_ _) | (with_reducible refine below_drewN ?_ _) | (with_reducible refine Below.drew ?_) | (with_reducible refine Below.setCell ?_ ?_ _) | (with_reducible refine below_via (by assumption) ?_ ?_) | (with_reducible refine below_via (later_below _) ?_ ?_) | (with_reducible exact Nat.le_refl _) | omega | (simp; omega) | (simp; done)))) (by omega)).trans hk3
          have hwb3 := HV.out.kept hkA hbw
          obtain ⟨v0, v1, v2⟩ := hwb3
          have hq0 := S7n.new s wr 41
          have hq1 := hq0.kept hk3 (by omega)
          obtain ⟨q0, q1, q2, q3, q4, q5, q6⟩ := hq1
          have hz3 := cell_lt q6
          have HW3 : Hid (Wb w.heap.size b (.func (.func g2) fi2 cp2) (.func (.func g) fi cp) w3) := ⟨v0, v1, v2⟩
          have HKA := Lib.hid hkA
          have HT3 := Lib.hid hT3
          clear hk3 hkA hq0 hT3
          go_wp2_with (go_at_call 34; (with_reducible refine (HSk.out _ ?_ ?_ ?_).mono ?_); (focus (exact HST.out.trans (HKA.out.still (Nat.le_refl _)))); (focus (exact HW3.out)); (focus (exact HT3.out)); rintro e w2 (⟨rfl, hT2, hk2⟩ | ⟨rfl | ⟨ch, rfl⟩, hX⟩))
          · have hk4 : Kept a b wr w2 := HKA.out.trans hk2
            exact ⟨⟨k + 1, by omega, by go_num, hT2, HE.out.trans hk4, HV.out.kept hk4 hbw⟩, by simp [intOf]; omega⟩
          · go_returns
            exact .inr ⟨.inl rfl, hX⟩
          · exact ⟨rfl, .inr ⟨.inr ⟨ch, rfl⟩, hX⟩⟩
        · go_wp2_with fail
          go_returns
          exact .inr ⟨.inl rfl, hX⟩
        · exact ⟨rfl, .inr ⟨.inr ⟨ch, rfl⟩, hX⟩⟩
      · obtain rfl : k = y.l.length := by omega
        go_wp2_with fail
        go_returns
        exact .inl ⟨rfl, HK.out, HE.out⟩
/-- What visit and block answer, for every tree. -/
theorem vis_all : ∀ n, VisX a b ws all J X fs fe n ∧ VisB a b ws all J X fs fe n
  | 0 => ⟨fun _ _ h => by omega, fun _ h => by omega⟩
  | n + 1 => have ih := vis_all n; ⟨visit_step a b ws all J X fs fe hab hfe hfs hJ H n ih.1 ih.2, block_step a b ws all J X fs fe hab hfe hfs hJ H n ih.1 ih.2⟩
end
end Go.Proofs.YtplphejillkdeaaGreatDoor
