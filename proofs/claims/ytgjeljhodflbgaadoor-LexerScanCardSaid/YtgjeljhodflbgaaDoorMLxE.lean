/- The chapter's small case, read; lists of tokens in memory. -/
import Derived.Test.YtgjeljhodflbgaaDoorMLxD
import Derived.Test.YtgjeljhodflbgaaDoorMOwn
import Derived.Test.YtgjeljhodflbgaaDoorMLaid
namespace Go.Proofs.YtgjeljhodflbgaaDoor
open Go.RowKit Go.Instr
set_option linter.unusedVariables false

def lvT : List UInt8 := [97, 32, 61, 32, 48, 120, 49, 70, 32, 45, 45, 32, 98]
theorem lv_scan0 : (scanL [48, 120, 49, 70] 0).2.2.2 = 0 ∧ (scanL [48, 120, 49, 70] 0).2.2.1 = 4 := by decide +kernel
theorem lv_read : scanA lvT 0 1 = ([⟨1, [97], 1, 0⟩, ⟨5, [61], 1, 2⟩, ⟨3, [48, 120, 49, 70], 1, 4⟩], 0, 0) := by
  have r1 : Reads 1 [97] := reads_word (w := [97]) (c := 97) (t := []) rfl (by decide) (by decide) (by decide)
  have r2 : Reads 5 [61] := reads_symbol (by decide)
  have r3 : Reads 3 [48, 120, 49, 70] := by
    have := reads_number (l := [48, 120, 49, 70]) (c := 48) (t := [120, 49, 70]) rfl (by decide) (by decide) lv_scan0.1
    rw [lv_scan0.2] at this
    exact this
  have e1 : rendT 1 [97] = [97] := rfl
  have e2 : rendT 5 [61] = [61] := rfl
  have e3 : rendT 3 [48, 120, 49, 70] = [48, 120, 49, 70] := rfl
  have h1 := scan_join1 r1 (32 :: [61, 32, 48, 120, 49, 70, 32, 45, 45, 32, 98]) (.inr ⟨_, rfl⟩) 0 1
  have h2 := scan_join1 r2 (32 :: [48, 120, 49, 70, 32, 45, 45, 32, 98]) (.inr ⟨_, rfl⟩) 2 1
  have h3 := scan_join1 r3 (32 :: [45, 45, 32, 98]) (.inr ⟨_, rfl⟩) 4 1
  have hg : gapN [45, 45, 32, 98] = (4, 0) := by
    rw [gapN_rem (by rfl) (by rfl)]
    have : spanN notNl [45, 32, 98] = 3 := by decide
    rw [this, show ([45, 32, 98] : List UInt8).drop 3 = [] from rfl, gapN_nil]
  have h4 : scanA [45, 45, 32, 98] 9 1 = ([], 0, 0) := scanA_nil (by rw [hg]; rfl)
  rw [e1] at h1
  rw [e2] at h2
  rw [e3] at h3
  have e : scanA lvT 0 1 = scP ⟨1, [97], 1, 0⟩ (scP ⟨5, [61], 1, 2⟩ (scP ⟨3, [48, 120, 49, 70], 1, 4⟩ ([], 0, 0))) :=
    h1.trans (congrArg (scP _) ((scan_blank _ _ _).trans (h2.trans (congrArg (scP _) ((scan_blank _ _ _).trans (h3.trans (congrArg (scP _) ((scan_blank _ _ _).trans h4))))))))
  rw [e]
  rfl

set_option maxHeartbeats 4000000 in
set_option maxRecDepth 100000 in
theorem lives_any (w : World) (hT : Tabs w) : Calls Tryd.prog 11 #[] w fun e w' => e = .returned (.bool true) ∧ Below w.heap.size w w' := by
  have h := scan_prog ⟨#[97, 32, 61, 32, 48, 120, 49, 70, 32, 45, 45, 32, 98]⟩ w (by decide) hT
  rw [show scanA (⟨#[97, 32, 61, 32, 48, 120, 49, 70, 32, 45, 45, 32, 98]⟩ : ByteArray).data.toList 0 1 = _ from lv_read] at h
  have HS := Lib.hid h
  clear h hT
  go_enter Tryd.func11, Tryd.ntmps11
  go_wp2_with fail
  refine HS.out.mono ?_
  rintro e w1 ⟨⟨v, rfl, hown⟩, hb⟩
  obtain ⟨g, cap, rfl, -, hg, hcap, hc⟩ := own_cell hown (by decide)
  have k0 := hc 0 (by decide)
  have k1 := hc 1 (by decide)
  have k2 := hc 2 (by decide)
  have k3 := hc 3 (by decide)
  have k4 := hc 4 (by decide)
  have k5 := hc 5 (by decide)
  have k6 := hc 6 (by decide)
  have k7 := hc 7 (by decide)
  have k8 := hc 8 (by decide)
  have k9 := hc 9 (by decide)
  have k10 := hc 10 (by decide)
  have k11 := hc 11 (by decide)
  simp [flatTk, mkS] at k0 k1 k2 k3 k4 k5 k6 k7 k8 k9 k10 k11
  have HB := Lib.hid hb
  clear hown hc hb HS
  go_wp2_with fail
  go_returns
  exact ⟨rfl, HB.out⟩
end Go.Proofs.YtgjeljhodflbgaaDoor

/- Plain facts for the laws on the lexer. -/
namespace Go.Proofs.YtgjeljhodflbgaaDoor
open Go.RowKit Go.Instr
set_option linter.unusedVariables false

theorem n0 : (0 : Int) ≠ 1 := by decide
theorem n3 : (3 : Int) ≠ 1 := by decide
theorem n4 : (4 : Int) ≠ 1 := by decide
theorem n6 : (6 : Int) ≠ 1 := by decide
theorem n7 : (7 : Int) ≠ 1 := by decide
theorem makeT_ne1 (p q : Int) : (makeT p q).2.2 ≠ 1 := by
  unfold makeT
  split
  · (first | exact n0 | exact n3 | exact n4 | exact n6 | exact n7)
  · split
    · unfold redT rE
      simp only []
      split <;> (first | exact n0 | exact n3 | exact n4 | exact n6 | exact n7)
    · (first | exact n0 | exact n3 | exact n4 | exact n6 | exact n7)
theorem numT_ne1 (l : List UInt8) (f : Find) : (numT l f).2.2 ≠ 1 := by
  have h : ∀ (o : Option Nat) (u : Nat), (ofNum o u).2.2 ≠ 1 := by
    intro o u
    unfold ofNum
    split
    · (first | exact n0 | exact n3 | exact n4 | exact n6 | exact n7)
    · exact makeT_ne1 _ _
  unfold numT
  repeat' split
  all_goals first | exact h _ _ | (first | exact n0 | exact n3 | exact n4 | exact n6 | exact n7)
theorem scanL_ne1 (l : List UInt8) : (scanL l 0).2.2.2 ≠ 1 := by
  unfold scanL
  rw [if_neg (by simp)]
  cases findL l (0 : Int).toNat with
  | none => (first | exact n0 | exact n3 | exact n4 | exact n6 | exact n7)
  | some f =>
    simp only []
    split
    · (first | exact n0 | exact n3 | exact n4 | exact n6 | exact n7)
    · exact numT_ne1 _ _
theorem escT_ne1 (t : List UInt8) : (escT t).1 ≠ 1 := by
  unfold escT
  repeat' split
  all_goals (first | exact n0 | exact n3 | exact n4 | exact n6 | exact n7)
theorem litT_ne1 (q : UInt8) (m : Nat) : ∀ (l : List UInt8) (n : Nat), l.length ≤ m → (litT q l n).1 ≠ 1 := by
  have hP : ∀ (c : UInt8) (k : Nat) (x : Int × List UInt8 × Nat), x.1 ≠ 1 → (litP c k x).1 ≠ 1 := by
    intro c k x hx
    unfold litP
    split
    · (first | exact n0 | exact n3 | exact n4 | exact n6 | exact n7)
    · exact hx
  induction m with
  | zero =>
    intro l n h
    obtain rfl : l = [] := List.eq_nil_of_length_eq_zero (by omega)
    rw [litT_nil]; (first | exact n0 | exact n3 | exact n4 | exact n6 | exact n7)
  | succ m ih =>
    intro l n h
    cases l with
    | nil => rw [litT_nil]; (first | exact n0 | exact n3 | exact n4 | exact n6 | exact n7)
    | cons c t =>
      simp only [List.length_cons] at h
      by_cases h0 : c.toNat = 10
      · rw [litT_nl h0]; (first | exact n0 | exact n3 | exact n4 | exact n6 | exact n7)
      · by_cases hq : c = q
        · subst hq; rw [litT_end h0]; (first | exact n0 | exact n3 | exact n4 | exact n6 | exact n7)
        · by_cases h92 : c.toNat = 92
          · rw [litT_esc h92 hq]
            split
            · split
              · (first | exact n0 | exact n3 | exact n4 | exact n6 | exact n7)
              · exact hP _ _ _ (ih _ _ (by simp; omega))
            · exact escT_ne1 t
          · rw [litT_any h0 hq h92]
            split
            · (first | exact n0 | exact n3 | exact n4 | exact n6 | exact n7)
            · exact hP _ _ _ (ih _ _ (by omega))
theorem tokT_ne1 (r : List UInt8) : (tokT r).e ≠ 1 := by
  cases r with
  | nil => (first | exact n0 | exact n3 | exact n4 | exact n6 | exact n7)
  | cons c t =>
    unfold tokT
    simp only []
    split
    · unfold wordT
      split <;> (first | exact n0 | exact n3 | exact n4 | exact n6 | exact n7)
    · split
      · unfold numberT
        split
        · split <;> (first | exact n0 | exact n3 | exact n4 | exact n6 | exact n7)
        · exact scanL_ne1 _
      · split
        · unfold stringT
          split
          · (first | exact n0 | exact n3 | exact n4 | exact n6 | exact n7)
          · exact litT_ne1 c t.length t 0 (Nat.le_refl _)
        · unfold symbolT
          split <;> (first | exact n0 | exact n3 | exact n4 | exact n6 | exact n7)
theorem scanA_ne1 (m : Nat) : ∀ (r : List UInt8) (i ln : Nat), r.length ≤ m → (scanA r i ln).2.2 ≠ 1 := by
  induction m with
  | zero =>
    intro r i ln h
    obtain rfl : r = [] := List.eq_nil_of_length_eq_zero (by omega)
    rw [scan_nil]; (first | exact n0 | exact n3 | exact n4 | exact n6 | exact n7)
  | succ m ih =>
    intro r i ln h
    by_cases h0 : r.drop (gapN r).1 = []
    · rw [scanA_nil h0]; (first | exact n0 | exact n3 | exact n4 | exact n6 | exact n7)
    · by_cases he : (tokT (r.drop (gapN r).1)).e = 0
      · have hl := drop_len (gapN r).1 (tokT (r.drop (gapN r).1)).n h0 (tokT_ok he).1
        rw [scanA_tok h0 he]
        unfold scP
        split
        · (first | exact n0 | exact n3 | exact n4 | exact n6 | exact n7)
        · exact ih _ _ _ (by omega)
      · rw [scanA_err h0 he]; exact tokT_ne1 _
theorem flatTk_cons (t : Tk) (l : List Tk) : flatTk (t :: l) = [.int .i64 t.k, .string (mkS t.x), .int .i64 t.ln, .int .i64 t.at_] ++ flatTk l := by unfold flatTk; simp
theorem flatTk_len (l : List Tk) : (flatTk l).length = l.length * 4 := by
  induction l with
  | nil => rfl
  | cons t l ih => rw [flatTk_cons, List.length_append, ih]; simp; omega
theorem flatTk_get : ∀ (l : List Tk) (i : Nat) (h : i < l.length) (j : Nat), j < 4 → (flatTk l)[i * 4 + j]? = [Value.int .i64 (l[i]).k, .string (mkS (l[i]).x), .int .i64 (l[i]).ln, .int .i64 (l[i]).at_][j]?
  | [], i, h, _, _ => by cases h
  | x :: l, 0, _, j, hj => by
    rw [flatTk_cons, Nat.zero_mul, Nat.zero_add, List.getElem?_append_left (by simpa using hj)]
    rfl
  | x :: l, i + 1, h, j, hj => by
    rw [flatTk_cons, List.getElem?_append_right (by simp; omega)]
    have := flatTk_get l i (by simpa using h) j hj
    rw [← show (i + 1) * 4 + j - 4 = i * 4 + j by omega] at this
    simpa using this
/-- The cells of token k of a list. -/
def TkAt (w : World) (g k : Nat) (t : Tk) : Prop := w.cell? ⟨g, k * 4, none⟩ = some (.int .i64 t.k) ∧ w.cell? ⟨g, k * 4 + 1, none⟩ = some (.string (mkS t.x)) ∧ w.cell? ⟨g, k * 4 + 2, none⟩ = some (.int .i64 t.ln) ∧ w.cell? ⟨g, k * 4 + 3, none⟩ = some (.int .i64 t.at_)
theorem TkAt.below {W w : World} (hb : Below W.heap.size W w) {g k : Nat} {t : Tk} (h : TkAt W g k t) : TkAt w g k t :=
  ⟨(hb.cell (p := ⟨g, _, none⟩) (cell_lt h.1)).trans h.1, (hb.cell (p := ⟨g, _, none⟩) (cell_lt h.1)).trans h.2.1, (hb.cell (p := ⟨g, _, none⟩) (cell_lt h.1)).trans h.2.2.1, (hb.cell (p := ⟨g, _, none⟩) (cell_lt h.1)).trans h.2.2.2⟩
theorem own_toks {w : World} {base : Nat} {e : TypeId} {v : Value} {l : List Tk} (h : w.ownsRow base e 4 v l.length (flatTk l)) :
    ∃ a cap, v = .slice a l.length cap ∧ l.length ≤ cap ∧ (l.length = 0 ∨ ∃ g, a = some ⟨g, 0, none⟩ ∧ base ≤ g ∧ g < w.heap.size ∧ ∀ k, (hk : k < l.length) → TkAt w g k l[k]) := by
  by_cases hn : 0 < l.length
  · obtain ⟨g, cap, hv, h1, h2, h3, h4⟩ := own_cell h hn
    refine ⟨_, cap, hv, h3, .inr ⟨g, rfl, h1, h2, fun k hk => ?_⟩⟩
    have hl := flatTk_len l
    have c := fun j (hj : j < 4) => (h4 (k * 4 + j) (by omega)).trans (flatTk_get l k hk j hj)
    exact ⟨c 0 (by omega), c 1 (by omega), c 2 (by omega), c 3 (by omega)⟩
  · obtain ⟨h1, h2 | ⟨g, cap, cur, hv, hg, hh, hnc, hcm, hs, ht⟩⟩ := h
    · exact ⟨none, 0, by rw [h2.1, h2.2], by omega, .inl (by omega)⟩
    · exact ⟨_, cap, hv, hnc, .inl (by omega)⟩
end Go.Proofs.YtgjeljhodflbgaaDoor

/- Two lists of the same tokens are equal. -/
namespace Go.Proofs.YtgjeljhodflbgaaDoor
open Go.RowKit Go.Instr
set_option linter.unusedVariables false

/-- Tokens at a slice's address. -/
def ToksAt (w : World) (a : Option Addr) (l : List Tk) : Prop := l.length = 0 ∨ ∃ g, a = some ⟨g, 0, none⟩ ∧ ∀ k, (hk : k < l.length) → TkAt w g k l[k]
theorem ToksAt.later {w W : World} {a : Option Addr} {l : List Tk} (h : ToksAt w a l) (hb : Below w.heap.size w W) : ToksAt W a l := by
  rcases h with h | ⟨g, h1, h2⟩
  · exact .inl h
  · exact .inr ⟨g, h1, fun k hk => (h2 k hk).below hb⟩
theorem own_toksAt {w : World} {base : Nat} {e : TypeId} {v : Value} {l : List Tk} (h : w.ownsRow base e 4 v l.length (flatTk l)) : ∃ a cap, v = .slice a l.length cap ∧ l.length ≤ cap ∧ ToksAt w a l := by
  obtain ⟨a, cap, h1, h2, h3⟩ := own_toks h
  refine ⟨a, cap, h1, h2, ?_⟩
  rcases h3 with h3 | ⟨g, h3, -, -, h4⟩
  · exact .inl h3
  · exact .inr ⟨g, h3, h4⟩
theorem ToksAt.left {w : World} {a : Option Addr} {l m : List Tk} (h : ToksAt w a (l ++ m)) : ToksAt w a l := by
  rcases h with h | ⟨g, h1, h2⟩
  · rw [List.length_append] at h
    exact .inl (by omega)
  · refine .inr ⟨g, h1, fun k hk => ?_⟩
    have := h2 k (by rw [List.length_append]; omega)
    rw [List.getElem_append_left hk] at this
    exact this
theorem eqIn_tok (K L at_ : Int) (x : ByteArray) (u : World) : (Op.equalIn 10000 30 (.agg #[.int .i64 K, .string x, .int .i64 L, .int .i64 at_]) (.agg #[.int .i64 K, .string x, .int .i64 L, .int .i64 at_])).run Tryd.prog u = .ok true u := by
  simp [go_sem]
theorem neq_tok (K L at_ : Int) (x : ByteArray) (u : World) : (binOp .neq 30 (.agg #[.int .i64 K, .string x, .int .i64 L, .int .i64 at_]) (.agg #[.int .i64 K, .string x, .int .i64 L, .int .i64 at_])).run Tryd.prog u = .ok (.bool false) u := by
  rw [run_neq_struct, eqIn_tok]
  rfl

theorem scanA_ln (m : Nat) : ∀ (r : List UInt8) (i ln : Nat), r.length ≤ m → (scanA r i ln).2.1 ≤ ln + r.length := by
  induction m with
  | zero =>
    intro r i ln h
    obtain rfl : r = [] := List.eq_nil_of_length_eq_zero (by omega)
    rw [scan_nil]; exact Nat.zero_le _
  | succ m ih =>
    intro r i ln h
    have hg1 := gap_cnt r
    have hg2 := gapN_le r.length r (Nat.le_refl _)
    by_cases h0 : r.drop (gapN r).1 = []
    · rw [scanA_nil h0]; exact Nat.zero_le _
    · by_cases he : (tokT (r.drop (gapN r).1)).e = 0
      · have hok := tokT_ok he
        have hl := drop_len (gapN r).1 (tokT (r.drop (gapN r).1)).n h0 hok.1
        have hi := ih ((r.drop (gapN r).1).drop (tokT (r.drop (gapN r).1)).n) (i + (gapN r).1 + (tokT (r.drop (gapN r).1)).n) (ln + (gapN r).2) (by omega)
        have e3 : ((r.drop (gapN r).1).drop (tokT (r.drop (gapN r).1)).n).length = r.length - (gapN r).1 - (tokT (r.drop (gapN r).1)).n := by rw [List.length_drop, List.length_drop]
        rw [scanA_tok h0 he]
        unfold scP
        split
        · exact Nat.zero_le _
        · show (scanA _ _ _).2.1 ≤ _
          omega
      · rw [scanA_err h0 he]
        show ln + (gapN r).2 ≤ _
        omega
/-- The tokens of two texts one below the other. -/
theorem scan_both (a b : List UInt8) : scanA (a ++ 10 :: b) 0 1 = apR (scanA a 0 1) (shR (a.length + 1) (nlN a + 1) (scanA b 0 1)) := by
  have h := scanA_app b a.length a 0 1 (Nat.le_refl _)
  have h2 := scanA_shift (a.length + 1) (nlN a + 1) b.length b 0 1 (Nat.le_refl _)
  rw [h, ← h2]
  congr 2 <;> omega
set_option maxHeartbeats 4000000 in
set_option maxRecDepth 100000 in
theorem same_yes (l : List Tk) (a b : Option Addr) (ca cb : Nat) (w : World) (hn : l.length ≤ 100000) (ha : ToksAt w a l) (hb : ToksAt w b l) :
    Calls Tryd.prog 14 #[.slice a l.length ca, .slice b l.length cb] w fun e w' => e = .returned (.bool true) ∧ Below w.heap.size w w' := by
  have HA := Lib.hid ha
  have HB := Lib.hid hb
  clear ha hb
  go_enter Tryd.func14, Tryd.ntmps14
  go_wp2_with fail
  go_loopw [5] (fun i wr => ∃ k : Nat, k ≤ l.length ∧ i = .int .i64 k ∧ Hid (Below w.heap.size w wr)) (fun i _ => l.length - (intOf i).toNat)
  case atStart => exact ⟨0, Nat.zero_le _, rfl, Below.refl _ _⟩
  case round =>
    obtain ⟨k, hk, rfl, HBk⟩ := hrel
    by_cases hlt : k < l.length
    · obtain ⟨g1, rfl, h1⟩ := HA.out.resolve_left (by omega)
      obtain ⟨g2, rfl, h2⟩ := HB.out.resolve_left (by omega)
      have t1 := (h1 k hlt).below HBk.out
      have t2 := (h2 k hlt).below HBk.out
      obtain ⟨t, ht⟩ : ∃ t, l[k] = t := ⟨_, rfl⟩
      rw [ht] at t1 t2
      clear h1 h2 ht
      obtain ⟨K, x, L, at_⟩ := t
      obtain ⟨q0, q1, q2, q3⟩ := t1
      obtain ⟨r0, r1, r2, r3⟩ := t2
      dsimp only at q0 q1 q2 q3 r0 r1 r2 r3
      have e1 := eqIn_tok K L at_ (mkS x)
      have e2 := neq_tok K L at_ (mkS x)
      go_wp2_with fail
      go_quiet (fail)
      go_wp2_with fail
      refine ⟨⟨k + 1, by omega, by go_num, ?_⟩, by simp [intOf]; omega⟩
      have h0 := HBk.out
      show Below _ _ _
      (repeat' (first | (with_reducible exact Below.refl _ _) | (with_reducible assumption) | (with_reducible refine Below.alloc ?_ ?_ _) | (with_reducible refine Go.below_drewN ?_ _) | (with_reducible refine Below.drew ?_) | (with_reducible refine Below.setCell ?_ ?_ _) | (with_reducible refine below_via (by assumption) ?_ ?_) | (with_reducible refine below_via (later_below _) ?_ ?_) | (with_reducible exact Nat.le_refl _) | omega | (simp; omega) | (simp; done)))
    · obtain rfl : k = l.length := by omega
      go_wp2_with fail
      go_returns
      exact ⟨rfl, HBk.out⟩
end Go.Proofs.YtgjeljhodflbgaaDoor
