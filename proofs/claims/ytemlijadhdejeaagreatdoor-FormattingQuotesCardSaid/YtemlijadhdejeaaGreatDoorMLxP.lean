/- The tokens of a text, in plain Lean: no program in sight. -/
import Derived.Test.YtemlijadhdejeaaGreatDoorMPlainC
namespace Go.Proofs.YtemlijadhdejeaaGreatDoor
set_option linter.unusedVariables false

def digB (c : UInt8) : Bool := decide (48 ≤ c.toNat) && decide (c.toNat ≤ 57)
def lowB (c : UInt8) : Bool := decide (97 ≤ c.toNat) && decide (c.toNat ≤ 122)
def uppB (c : UInt8) : Bool := decide (65 ≤ c.toNat) && decide (c.toNat ≤ 90)
def afB (c : UInt8) : Bool := decide (97 ≤ c.toNat) && decide (c.toNat ≤ 102)
def aFB (c : UInt8) : Bool := decide (65 ≤ c.toNat) && decide (c.toNat ≤ 70)
/-- The first byte of a name. -/
def letB (c : UInt8) : Bool := lowB c || (uppB c || decide (c.toNat = 95))
/-- A byte of a name. -/
def wordB (c : UInt8) : Bool := letB c || digB c
def hexB (c : UInt8) : Bool := digB c || (afB c || aFB c)
def blkB (c : UInt8) : Bool := decide (c.toNat = 32) || (decide (c.toNat = 9) || decide (c.toNat = 13))
def notNl (c : UInt8) : Bool := !decide (c.toNat = 10)

/-- How many bytes ahead satisfy a test. -/
def spanN (p : UInt8 → Bool) (l : List UInt8) : Nat := (l.takeWhile p).length
theorem spanN_nil (p : UInt8 → Bool) : spanN p [] = 0 := rfl
theorem spanN_yes {p : UInt8 → Bool} {c : UInt8} {l : List UInt8} (h : p c = true) : spanN p (c :: l) = spanN p l + 1 := by
  unfold spanN; rw [List.takeWhile_cons_of_pos h]; rfl
theorem spanN_no {p : UInt8 → Bool} {c : UInt8} {l : List UInt8} (h : p c = false) : spanN p (c :: l) = 0 := by
  unfold spanN; rw [List.takeWhile_cons_of_neg (by rw [h]; simp)]; rfl
theorem spanN_le (p : UInt8 → Bool) (l : List UInt8) : spanN p l ≤ l.length := (List.takeWhile_sublist p (l := l)).length_le
theorem take_span (p : UInt8 → Bool) (l : List UInt8) : l.take (spanN p l) = l.takeWhile p := ((List.prefix_iff_eq_take).1 (List.takeWhile_prefix p)).symm

/-- The blanks and remarks ahead: how many bytes, how many line feeds. -/
def gapN (l : List UInt8) : Nat × Nat :=
  match l with
  | [] => (0, 0)
  | c :: t =>
    if c.toNat = 10 then ((gapN t).1 + 1, (gapN t).2 + 1)
    else if blkB c then ((gapN t).1 + 1, (gapN t).2)
    else if c.toNat = 45 ∧ (t.head?.map UInt8.toNat) = some 45 then ((gapN (t.drop (spanN notNl t))).1 + (1 + spanN notNl t), (gapN (t.drop (spanN notNl t))).2)
    else (0, 0)
termination_by l.length
decreasing_by all_goals (simp; try omega)
theorem gapN_nil : gapN [] = (0, 0) := by rw [gapN]
theorem gapN_nl {c : UInt8} {t : List UInt8} (h : c.toNat = 10) : gapN (c :: t) = ((gapN t).1 + 1, (gapN t).2 + 1) := by rw [gapN, if_pos h]
theorem gapN_blank {c : UInt8} {t : List UInt8} (h0 : c.toNat ≠ 10) (h : blkB c = true) : gapN (c :: t) = ((gapN t).1 + 1, (gapN t).2) := by rw [gapN, if_neg h0, if_pos h]
theorem gapN_rem {c : UInt8} {t : List UInt8} (h : c.toNat = 45) (h2 : (t.head?.map UInt8.toNat) = some 45) : gapN (c :: t) = ((gapN (t.drop (spanN notNl t))).1 + (1 + spanN notNl t), (gapN (t.drop (spanN notNl t))).2) := by
  have hb : blkB c = false := by unfold blkB; simp; omega
  rw [gapN, if_neg (by omega), if_neg (by rw [hb]; simp), if_pos ⟨h, h2⟩]
theorem gapN_stop {c : UInt8} {t : List UInt8} (h0 : c.toNat ≠ 10) (h1 : blkB c = false) (h2 : ¬ (c.toNat = 45 ∧ (t.head?.map UInt8.toNat) = some 45)) : gapN (c :: t) = (0, 0) := by
  rw [gapN, if_neg h0, if_neg (by rw [h1]; simp), if_neg h2]

/-- The value of a hexadecimal digit. -/
def hexV (c : UInt8) : Nat := if c.toNat < 65 then c.toNat - 48 else if c.toNat < 97 then c.toNat - 65 + 10 else c.toNat - 97 + 10
def valN (b : Nat) (l : List UInt8) : Nat := l.foldl (fun n c => n * b + hexV c) 0

/-- The escape behind a backslash: error, byte, how many bytes. -/
def escT (t : List UInt8) : Int × Nat × Nat :=
  match t with
  | [] => (4, 0, 0)
  | c :: u =>
    if c.toNat = 110 then (0, 10, 1)
    else if c.toNat = 116 then (0, 9, 1)
    else if c.toNat = 92 ∨ c.toNat = 39 ∨ c.toNat = 34 then (0, c.toNat, 1)
    else if c.toNat = 120 then (if 2 ≤ spanN hexB u then (0, valN 16 (u.take 2), 3) else (4, 0, 0))
    else if digB c then (if 255 < valN 10 (t.take (min (spanN digB t) 3)) then (6, 0, 0) else (0, valN 10 (t.take (min (spanN digB t) 3)), min (spanN digB t) 3))
    else (4, 0, 0)

/-- The literal behind its first quote q: error, string, how many bytes with the last quote; n bytes are read. -/
def litT (q : UInt8) (l : List UInt8) (n : Nat) : Int × List UInt8 × Nat :=
  match l with
  | [] => (4, [], 0)
  | c :: t =>
    if c.toNat = 10 then (4, [], 0)
    else if c = q then (0, [], 1)
    else if c.toNat = 92 then
      (if (escT t).1 = 0 then
        (if n = 4096 then (3, [], 0)
        else if (litT q (t.drop (escT t).2.2) (n + 1)).1 = 0 then (0, UInt8.ofNat (escT t).2.1 :: (litT q (t.drop (escT t).2.2) (n + 1)).2.1, (litT q (t.drop (escT t).2.2) (n + 1)).2.2 + (1 + (escT t).2.2))
        else ((litT q (t.drop (escT t).2.2) (n + 1)).1, [], 0))
      else ((escT t).1, [], 0))
    else if n = 4096 then (3, [], 0)
    else if (litT q t (n + 1)).1 = 0 then (0, c :: (litT q t (n + 1)).2.1, (litT q t (n + 1)).2.2 + 1)
    else ((litT q t (n + 1)).1, [], 0)
termination_by l.length
decreasing_by all_goals (simp; try omega)

/-- The symbols, in the order in which they are tried. -/
def syms : List (List UInt8) := [ [46, 46, 46], [47, 47], [60, 60], [62, 62], [61, 61], [126, 61], [60, 61], [62, 61], [58, 58], [46, 46], [43], [45], [42], [47], [37], [94], [35], [38], [124], [126], [60], [62], [61], [40], [41], [123], [125], [91], [93], [59], [58], [44], [46] ]
/-- The keywords. -/
def keys : List (List UInt8) := [ [97, 110, 100], [98, 114, 101, 97, 107], [100, 111], [101, 108, 115, 101], [101, 108, 115, 101, 105, 102], [101, 110, 100], [102, 97, 108, 115, 101], [102, 111, 114], [102, 117, 110, 99, 116, 105, 111, 110], [103, 111, 116, 111], [105, 102], [105, 110], [108, 111, 99, 97, 108], [110, 105, 108], [110, 111, 116], [111, 114], [114, 101, 112, 101, 97, 116], [114, 101, 116, 117, 114, 110], [116, 104, 101, 110], [116, 114, 117, 101], [117, 110, 116, 105, 108], [119, 104, 105, 108, 101] ]
def keyB (w : List UInt8) : Bool := keys.contains w

/-- A token ahead: error, kind, text, how many bytes. -/
structure TokR where
  e : Int
  k : Int
  x : List UInt8
  n : Nat
def errR (e : Int) : TokR := ⟨e, 0, [], 0⟩
def wordT (r : List UInt8) : TokR := if 40 < spanN wordB r then errR 3 else ⟨0, if keyB (r.take (spanN wordB r)) then 2 else 1, r.take (spanN wordB r), spanN wordB r⟩
/-- Whether a byte of a name stands at an index. -/
def wordAt (r : List UInt8) (i : Nat) : Bool := match r[i]? with | none => false | some c => wordB c
def numberT (r : List UInt8) : TokR :=
  if (scanL r 0).2.2.2 = 0 then (if wordAt r (scanL r 0).2.2.1.toNat then errR 4 else ⟨0, 3, r.take (scanL r 0).2.2.1.toNat, (scanL r 0).2.2.1.toNat⟩) else errR (scanL r 0).2.2.2
def stringT (c : UInt8) (t : List UInt8) : TokR := if (litT c t 0).1 = 0 then ⟨0, 4, (litT c t 0).2.1, (litT c t 0).2.2 + 1⟩ else errR (litT c t 0).1
def symbolT (r : List UInt8) : TokR := match syms.find? (fun s => s.isPrefixOf r) with | some s => ⟨0, 5, s, s.length⟩ | none => errR 4
def tokT (r : List UInt8) : TokR :=
  match r with
  | [] => errR 4
  | c :: t => if letB c then wordT r else if digB c then numberT r else if c.toNat = 39 ∨ c.toNat = 34 then stringT c t else symbolT r

/-- A token. -/
structure Tk where
  k : Int
  x : List UInt8
  ln : Nat
  at_ : Nat
/-- The tokens of a text that begins at an index and in a line; or the line and the error. -/
def scanA (r : List UInt8) (i ln : Nat) : List Tk × Nat × Int :=
  if h : r.drop (gapN r).1 = [] then ([], 0, 0)
  else if (tokT (r.drop (gapN r).1)).e = 0 then
    (if (scanA ((r.drop (gapN r).1).drop (max 1 (tokT (r.drop (gapN r).1)).n)) (i + (gapN r).1 + (tokT (r.drop (gapN r).1)).n) (ln + (gapN r).2)).2.2 = 0 then
      (⟨(tokT (r.drop (gapN r).1)).k, (tokT (r.drop (gapN r).1)).x, ln + (gapN r).2, i + (gapN r).1⟩ :: (scanA ((r.drop (gapN r).1).drop (max 1 (tokT (r.drop (gapN r).1)).n)) (i + (gapN r).1 + (tokT (r.drop (gapN r).1)).n) (ln + (gapN r).2)).1, 0, 0)
    else ([], (scanA ((r.drop (gapN r).1).drop (max 1 (tokT (r.drop (gapN r).1)).n)) (i + (gapN r).1 + (tokT (r.drop (gapN r).1)).n) (ln + (gapN r).2)).2.1, (scanA ((r.drop (gapN r).1).drop (max 1 (tokT (r.drop (gapN r).1)).n)) (i + (gapN r).1 + (tokT (r.drop (gapN r).1)).n) (ln + (gapN r).2)).2.2))
  else ([], ln + (gapN r).2, (tokT (r.drop (gapN r).1)).e)
termination_by r.length
decreasing_by all_goals (have := List.length_pos_iff.2 h; simp at this ⊢; omega)
end Go.Proofs.YtemlijadhdejeaaGreatDoor

/- The tokens of a text do not depend on what stands behind a line feed: plain facts, no program in sight. -/
namespace Go.Proofs.YtemlijadhdejeaaGreatDoor
set_option linter.unusedVariables false

theorem nl_word : wordB 10 = false := by decide
theorem nl_hex : hexB 10 = false := by decide
theorem nl_dig : digB 10 = false := by decide
theorem spanN_app {p : UInt8 → Bool} {c : UInt8} (hc : p c = false) (l b : List UInt8) : spanN p (l ++ c :: b) = spanN p l := by
  induction l with
  | nil => rw [List.nil_append, spanN_no hc]; rfl
  | cons d l ih =>
    rw [List.cons_append]
    cases hd : p d
    · rw [spanN_no hd, spanN_no hd]
    · rw [spanN_yes hd, spanN_yes hd, ih]
theorem take_app {l b : List UInt8} {k : Nat} (h : k ≤ l.length) : (l ++ b).take k = l.take k := List.take_append_of_le_length h
theorem drop_app {l b : List UInt8} {k : Nat} (h : k ≤ l.length) : (l ++ b).drop k = l.drop k ++ b := List.drop_append_of_le_length h

theorem escT_le (t : List UInt8) : (escT t).2.2 ≤ t.length := by
  unfold escT
  split
  · exact Nat.zero_le _
  · rename_i c u
    have h1 := spanN_le hexB u
    have h2 := spanN_le digB (c :: u)
    simp only [List.length_cons] at h2 ⊢
    repeat' split
    all_goals first | omega | (simp only []; omega)
theorem escT_app (t b : List UInt8) : escT (t ++ 10 :: b) = escT t := by
  cases t with
  | nil => rfl
  | cons c u =>
    have h1 := spanN_app nl_hex u b
    have h2 := spanN_app nl_dig (c :: u) b
    have h3 := spanN_le hexB u
    have h4 := spanN_le digB (c :: u)
    rw [List.cons_append] at h2
    unfold escT
    rw [List.cons_append]
    simp only []
    rw [h1, h2]
    have e1 : (c :: (u ++ 10 :: b)).take (min (spanN digB (c :: u)) 3) = (c :: u).take (min (spanN digB (c :: u)) 3) := by
      rw [← List.cons_append]; exact take_app (by omega)
    rw [e1]
    by_cases h : 2 ≤ spanN hexB u
    · rw [take_app (l := u) (by omega)]
    · rw [if_neg h, if_neg h]

theorem litT_nil (q : UInt8) (n : Nat) : litT q [] n = (4, [], 0) := by rw [litT]
theorem litT_nl {q c : UInt8} {t : List UInt8} {n : Nat} (h : c.toNat = 10) : litT q (c :: t) n = (4, [], 0) := by rw [litT, if_pos h]
theorem litT_end {q : UInt8} {t : List UInt8} {n : Nat} (h : q.toNat ≠ 10) : litT q (q :: t) n = (0, [], 1) := by rw [litT, if_neg h, if_pos rfl]
/-- One step of a literal that goes on. -/
def litP (c : UInt8) (k : Nat) (x : Int × List UInt8 × Nat) : Int × List UInt8 × Nat := if x.1 = 0 then (0, c :: x.2.1, x.2.2 + k) else (x.1, [], 0)
theorem litT_esc {q c : UInt8} {t : List UInt8} {n : Nat} (h : c.toNat = 92) (hq : c ≠ q) : litT q (c :: t) n = if (escT t).1 = 0 then (if n = 4096 then (3, [], 0) else litP (UInt8.ofNat (escT t).2.1) (1 + (escT t).2.2) (litT q (t.drop (escT t).2.2) (n + 1))) else ((escT t).1, [], 0) := by
  rw [litT, if_neg (by omega), if_neg hq, if_pos h]; rfl
theorem litT_any {q c : UInt8} {t : List UInt8} {n : Nat} (h0 : c.toNat ≠ 10) (hq : c ≠ q) (h : c.toNat ≠ 92) : litT q (c :: t) n = if n = 4096 then (3, [], 0) else litP c 1 (litT q t (n + 1)) := by
  rw [litT, if_neg h0, if_neg hq, if_neg h]; rfl
theorem litT_app (q : UInt8) (b : List UInt8) : ∀ (m : Nat) (l : List UInt8) (n : Nat), l.length ≤ m → litT q (l ++ 10 :: b) n = litT q l n := by
  intro m
  induction m with
  | zero =>
    intro l n h
    obtain rfl : l = [] := List.eq_nil_of_length_eq_zero (by omega)
    rw [List.nil_append, litT_nl (by rfl), litT_nil]
  | succ m ih =>
    intro l n h
    cases l with
    | nil => rw [List.nil_append, litT_nl (by rfl), litT_nil]
    | cons c t =>
      simp only [List.length_cons] at h
      rw [List.cons_append]
      by_cases h0 : c.toNat = 10
      · rw [litT_nl h0, litT_nl h0]
      · by_cases hq : c = q
        · subst hq; rw [litT_end h0, litT_end h0]
        · by_cases h92 : c.toNat = 92
          · have hk := escT_le t
            rw [litT_esc h92 hq, litT_esc h92 hq, escT_app, drop_app hk, ih _ _ (by simp; omega)]
          · rw [litT_any h0 hq h92, litT_any h0 hq h92, ih _ _ (by omega)]

theorem runL_app {c : UInt8} {b : Nat} (hc : ¬ dvN c.toNat < b) (l r : List UInt8) {i : Nat} (h : i ≤ l.length) : runL (l ++ c :: r) b i = runL l b i := by
  have e := spanN_app (p := fun c : UInt8 => decide (dvN c.toNat < b)) (c := c) (by simpa using hc) (l.drop i) r
  unfold spanN at e
  unfold runL
  rw [drop_app h, e]
theorem bat_app {l r : List UInt8} {i : Nat} (h : i < l.length) : bat (l ++ r) i = bat l i := by
  unfold bat
  simp [List.getD, List.getElem?_append_left h]
theorem slice_app {l r : List UInt8} {i j : Nat} (h : j ≤ l.length) (hi : i ≤ l.length) : sliceL (l ++ r) i j = sliceL l i j := by
  unfold sliceL
  rw [drop_app hi, take_app (by simp; omega)]
theorem bat_at {l r : List UInt8} {c : UInt8} : bat (l ++ c :: r) l.length = c.toNat := by
  unfold bat
  simp [List.getD]
/-- A byte that does not go on with a numeral. -/
def stopN (c : UInt8) : Prop := ¬ dvN c.toNat < 16 ∧ c.toNat ≠ 120 ∧ c.toNat ≠ 88 ∧ c.toNat ≠ 46
theorem find_app {c : UInt8} (hc : stopN c) (l r : List UInt8) : findL (l ++ c :: r) 0 = findL l 0 := by
  obtain ⟨c1, c2, c3, c4⟩ := hc
  have e1 := runL_app (c := c) (b := 10) (by omega) l r (Nat.zero_le _)
  have g1 := runL_le l 10 0 (Nat.zero_le _)
  unfold findL
  simp only []
  rw [e1]
  generalize runL l 10 0 = e at *
  by_cases h0 : e = 0
  · rw [if_pos h0, if_pos h0]
  · rw [if_neg h0, if_neg h0]
    by_cases he : e < l.length
    · have e2 := runL_app (c := c) (b := 16) c1 l r (i := e + 1) (by omega)
      have e3 := runL_app (c := c) (b := 10) (by omega) l r (i := e + 1) (by omega)
      rw [e2, e3, bat_app he, bat_app (i := 0) (by omega)]
      have a1 : e < (l ++ c :: r).length := by simp; omega
      by_cases hx : e = 0 + 1 ∧ bat l 0 = 48 ∧ e < l.length ∧ (bat l e = 120 ∨ bat l e = 88) ∧ e + 1 < runL l 16 (e + 1)
      · rw [if_pos hx, if_pos ⟨hx.1, hx.2.1, a1, hx.2.2.2⟩]
      · rw [if_neg hx, if_neg (fun h => hx ⟨h.1, h.2.1, he, h.2.2.2⟩)]
        by_cases hp : e < l.length ∧ bat l e = 46 ∧ e + 1 < runL l 10 (e + 1)
        · rw [if_pos hp, if_pos ⟨a1, hp.2⟩]
        · rw [if_neg hp, if_neg (fun h => hp ⟨he, h.2⟩)]
    · obtain rfl : e = l.length := by omega
      rw [bat_at, if_neg (by omega), if_neg (by omega), if_neg (by omega), if_neg (by omega)]
theorem num_app {l r : List UInt8} {f : Find} (hf : findL l 0 = some f) : numT (l ++ r) f = numT l f := by
  have hk := find_kind (Nat.zero_le _) hf
  cases hk with
  | hex q h1 h2 h3 h4 h5 =>
    unfold numT
    simp only [if_true]
    rw [slice_app h2 (by omega)]
  | point d q h1 h2 h3 h4 h5 h6 =>
    have s1 : sliceL (l ++ r) ((d : Int).toNat + 1) q = sliceL l ((d : Int).toNat + 1) q := slice_app h3 (by omega)
    have s2 : sliceL (l ++ r) 0 (d : Int).toNat = sliceL l 0 (d : Int).toNat := slice_app (by omega) (Nat.zero_le _)
    have s3 : sliceL (l ++ r) 0 q = sliceL l 0 q := slice_app h3 (Nat.zero_le _)
    unfold numT
    simp only [Bool.false_eq_true, if_false, s1, s2, s3]
  | whole q h1 h2 h3 =>
    have s3 : sliceL (l ++ r) 0 q = sliceL l 0 q := slice_app h2 (Nat.zero_le _)
    unfold numT
    simp only [Bool.false_eq_true, if_false]
    rw [if_pos (show (-1 : Int) < 0 by decide), if_pos (show (-1 : Int) < 0 by decide), s3]
theorem scanL_app {c : UInt8} (hc : stopN c) (l r : List UInt8) : scanL (l ++ c :: r) 0 = scanL l 0 := by
  unfold scanL
  rw [if_neg (by simp; omega), if_neg (by simp), Int.toNat_zero, find_app hc]
  cases hf : findL l 0 with
  | none => rfl
  | some f => simp only []; rw [num_app hf]
theorem wordAt_app {c : UInt8} (hc : wordB c = false) {l r : List UInt8} {i : Nat} (h : i ≤ l.length) : wordAt (l ++ c :: r) i = wordAt l i := by
  unfold wordAt
  by_cases hi : i < l.length
  · rw [List.getElem?_append_left hi]
  · obtain rfl : i = l.length := by omega
    simp [hc]
theorem numberT_app {c : UInt8} (hs : stopN c) (hw : wordB c = false) (l r : List UInt8) : numberT (l ++ c :: r) = numberT l := by
  have hb := scan_bd l
  unfold numberT
  rw [scanL_app hs, wordAt_app hw (by omega), take_app (by omega)]
theorem wordT_app {c : UInt8} (hw : wordB c = false) (l r : List UInt8) : wordT (l ++ c :: r) = wordT l := by
  have h := spanN_le wordB l
  unfold wordT
  rw [spanN_app hw, take_app h]
theorem pref_app {c : UInt8} {s : List UInt8} (hc : c ∉ s) : ∀ (l r : List UInt8), s.isPrefixOf (l ++ c :: r) = s.isPrefixOf l := by
  induction s with
  | nil => intro l r; simp
  | cons d s ih =>
    intro l r
    cases l with
    | nil =>
      have : (d == c) = false := by
        simp only [List.mem_cons, not_or] at hc
        simpa using fun e => hc.1 e.symm
      simp [List.isPrefixOf, this]
    | cons e l =>
      have := ih (fun h => hc (List.mem_cons_of_mem _ h)) l r
      simp [List.isPrefixOf, this]
theorem find_congr {α : Type} {p q : α → Bool} {l : List α} (h : ∀ a ∈ l, p a = q a) : l.find? p = l.find? q := by
  induction l with
  | nil => rfl
  | cons a l ih =>
    rw [List.find?_cons, List.find?_cons, h a (List.mem_cons_self), ih (fun b hb => h b (List.mem_cons_of_mem _ hb))]
theorem symbolT_app {c : UInt8} (hc : ∀ s ∈ syms, c ∉ s) (l r : List UInt8) : symbolT (l ++ c :: r) = symbolT l := by
  unfold symbolT
  rw [find_congr (fun s hs => pref_app (hc s hs) l r)]
theorem nl_syms : ∀ s ∈ syms, (10 : UInt8) ∉ s := by decide
theorem nl_stop : stopN 10 := by unfold stopN; decide
theorem tokT_app {l b : List UInt8} (h : l ≠ []) : tokT (l ++ 10 :: b) = tokT l := by
  cases l with
  | nil => exact absurd rfl h
  | cons c t =>
    have h1 := wordT_app nl_word (c :: t) b
    have h2 := numberT_app nl_stop nl_word (c :: t) b
    have h3 := symbolT_app nl_syms (c :: t) b
    have h4 := litT_app c b t.length t 0 (Nat.le_refl _)
    rw [List.cons_append] at h1 h2 h3 ⊢
    unfold tokT stringT
    simp only []
    rw [h1, h2, h3, h4]

theorem gapN_le (m : Nat) : ∀ l : List UInt8, l.length ≤ m → (gapN l).1 ≤ l.length := by
  induction m with
  | zero =>
    intro l h
    obtain rfl : l = [] := List.eq_nil_of_length_eq_zero (by omega)
    rw [gapN_nil]; exact Nat.zero_le _
  | succ m ih =>
    intro l h
    cases l with
    | nil => rw [gapN_nil]; exact Nat.zero_le _
    | cons c t =>
      simp only [List.length_cons] at h ⊢
      by_cases h0 : c.toNat = 10
      · rw [gapN_nl h0]; have := ih t (by omega); simp only []; omega
      · cases hb : blkB c
        · by_cases h2 : c.toNat = 45 ∧ (t.head?.map UInt8.toNat) = some 45
          · rw [gapN_rem h2.1 h2.2]
            have hk := spanN_le notNl t
            have := ih (t.drop (spanN notNl t)) (by simp; omega)
            simp at this
            simp only []; omega
          · rw [gapN_stop h0 hb h2]; exact Nat.zero_le _
        · rw [gapN_blank h0 hb]; have := ih t (by omega); simp only []; omega
/-- A gap, with a line feed and another text behind it. -/
theorem gapN_app (b : List UInt8) (m : Nat) : ∀ l : List UInt8, l.length ≤ m →
    gapN (l ++ 10 :: b) = if l.drop (gapN l).1 = [] then ((gapN b).1 + 1 + l.length, (gapN b).2 + 1 + (gapN l).2) else gapN l := by
  induction m with
  | zero =>
    intro l h
    obtain rfl : l = [] := List.eq_nil_of_length_eq_zero (by omega)
    rw [List.nil_append, gapN_nl (by rfl), if_pos (by simp), gapN_nil]; rfl
  | succ m ih =>
    intro l h
    cases l with
    | nil => rw [List.nil_append, gapN_nl (by rfl), if_pos (by simp), gapN_nil]; rfl
    | cons c t =>
      simp only [List.length_cons] at h ⊢
      rw [List.cons_append]
      by_cases h0 : c.toNat = 10
      · rw [gapN_nl h0, gapN_nl h0, ih t (by omega)]
        simp only [List.drop_succ_cons]
        split
        · refine Prod.ext ?_ ?_ <;> first | (simp only []; omega) | (simp only []; done) | rfl
        · rfl
      · cases hb : blkB c
        · by_cases h2 : c.toNat = 45 ∧ (t.head?.map UInt8.toNat) = some 45
          · have h2' : ((t ++ 10 :: b).head?.map UInt8.toNat) = some 45 := by
              cases t with
              | nil => simp at h2
              | cons d u => exact h2.2
            have hk := spanN_le notNl t
            rw [gapN_rem h2.1 h2.2, gapN_rem h2.1 h2', spanN_app (by decide), drop_app hk, ih _ (by simp; omega)]
            have e : (c :: t).drop ((gapN (t.drop (spanN notNl t))).1 + (1 + spanN notNl t)) = (t.drop (spanN notNl t)).drop (gapN (t.drop (spanN notNl t))).1 := by
              rw [show (gapN (t.drop (spanN notNl t))).1 + (1 + spanN notNl t) = (spanN notNl t + (gapN (t.drop (spanN notNl t))).1) + 1 by omega, List.drop_succ_cons, List.drop_drop]
            simp only [e]
            split
            · simp only [Prod.mk.injEq, List.length_drop, and_true]; omega
            · rfl
          · have h2' : ¬ (c.toNat = 45 ∧ ((t ++ 10 :: b).head?.map UInt8.toNat) = some 45) := by
              rintro ⟨a1, a2⟩
              cases t with
              | nil => simp at a2
              | cons d u => exact h2 ⟨a1, a2⟩
            rw [gapN_stop h0 hb h2, gapN_stop h0 hb h2']
            simp
        · rw [gapN_blank h0 hb, gapN_blank h0 hb, ih t (by omega)]
          simp only [List.drop_succ_cons]
          split
          · refine Prod.ext ?_ ?_ <;> first | (simp only []; omega) | (simp only []; done) | rfl
          · rfl
end Go.Proofs.YtemlijadhdejeaaGreatDoor

/- The tokens of two texts one below the other; where tokens stand: plain facts, no program in sight. -/
namespace Go.Proofs.YtemlijadhdejeaaGreatDoor
set_option linter.unusedVariables false

/-- How many line feeds. -/
def nlN (l : List UInt8) : Nat := l.count 10
theorem nlN_nil : nlN [] = 0 := rfl
theorem nlN_app (a b : List UInt8) : nlN (a ++ b) = nlN a + nlN b := List.count_append
theorem nlN_none {l : List UInt8} (h : ∀ c ∈ l, c.toNat ≠ 10) : nlN l = 0 := by
  unfold nlN
  rw [List.count_eq_zero]
  intro hm
  exact h 10 hm rfl
theorem nlN_yes {c : UInt8} {l : List UInt8} (h : c.toNat = 10) : nlN (c :: l) = nlN l + 1 := by
  have : c = 10 := UInt8.toNat_inj.1 h
  subst this
  unfold nlN
  rw [List.count_cons_self]
theorem nlN_no {c : UInt8} {l : List UInt8} (h : c.toNat ≠ 10) : nlN (c :: l) = nlN l := by
  unfold nlN
  rw [List.count_cons_of_ne]
  rintro rfl
  exact h rfl
theorem span_all {p : UInt8 → Bool} {l : List UInt8} {k : Nat} (h : k ≤ spanN p l) : ∀ c ∈ l.take k, p c = true := by
  intro c hc
  have h1 := take_span p l
  have h2 : l.take k = (l.takeWhile p).take k := by rw [← h1, List.take_take]; congr 1; omega
  rw [h2] at hc
  exact mem_takeWhile (List.mem_of_mem_take hc)

theorem gapN_count (m : Nat) : ∀ l : List UInt8, l.length ≤ m → nlN (l.take (gapN l).1) = (gapN l).2 := by
  induction m with
  | zero =>
    intro l h
    obtain rfl : l = [] := List.eq_nil_of_length_eq_zero (by omega)
    rw [gapN_nil]; rfl
  | succ m ih =>
    intro l h
    cases l with
    | nil => rw [gapN_nil]; rfl
    | cons c t =>
      simp only [List.length_cons] at h
      by_cases h0 : c.toNat = 10
      · rw [gapN_nl h0]
        simp only [List.take_succ_cons]
        rw [nlN_yes h0, ih t (by omega)]
      · cases hb : blkB c
        · by_cases h2 : c.toNat = 45 ∧ (t.head?.map UInt8.toNat) = some 45
          · rw [gapN_rem h2.1 h2.2]
            simp only []
            rw [show (gapN (t.drop (spanN notNl t))).1 + (1 + spanN notNl t) = (spanN notNl t + (gapN (t.drop (spanN notNl t))).1) + 1 by omega, List.take_succ_cons, nlN_no h0, List.take_add, nlN_app, ih _ (by simp; omega), nlN_none, Nat.zero_add]
            intro d hd
            have := span_all (Nat.le_refl _) d hd
            unfold notNl at this
            simpa using this
          · rw [gapN_stop h0 hb h2]; rfl
        · rw [gapN_blank h0 hb]
          simp only [List.take_succ_cons]
          rw [nlN_no h0, ih t (by omega)]

theorem hex_not10 {c : UInt8} (h : hexB c = true) : c.toNat ≠ 10 := by
  intro e; have : c = 10 := UInt8.toNat_inj.1 e; subst this; exact absurd h (by decide)
theorem dig_not10 {c : UInt8} (h : digB c = true) : c.toNat ≠ 10 := by
  intro e; have : c = 10 := UInt8.toNat_inj.1 e; subst this; exact absurd h (by decide)
theorem word_not10 {c : UInt8} (h : wordB c = true) : c.toNat ≠ 10 := by
  intro e; have : c = 10 := UInt8.toNat_inj.1 e; subst this; exact absurd h (by decide)
theorem escT_not10 {t : List UInt8} (he : (escT t).1 = 0) : ∀ c ∈ t.take (escT t).2.2, c.toNat ≠ 10 := by
  revert he
  unfold escT
  split
  · intro he; cases he
  · rename_i c u
    split
    · intro _ d hd; simp at hd; subst hd; omega
    · split
      · intro _ d hd; simp at hd; subst hd; omega
      · split
        · intro _ d hd; simp at hd; subst hd; omega
        · split
          · rename_i hx
            split
            · rename_i h2
              intro _ d hd
              simp only [List.take_succ_cons] at hd
              rcases List.mem_cons.1 hd with rfl | hd
              · omega
              · exact hex_not10 (span_all h2 d hd)
            · intro he; cases he
          · split
            · split
              · intro he; cases he
              · intro _ d hd
                exact dig_not10 (span_all (Nat.min_le_left _ _) d hd)
            · intro he; cases he

/-- A literal that is read: how many bytes, how long the string, no line feed. -/
theorem litT_ok (q : UInt8) (hq : q.toNat ≠ 10) : ∀ (m : Nat) (l : List UInt8) (n : Nat), l.length ≤ m → n ≤ 4096 → (litT q l n).1 = 0 →
    1 ≤ (litT q l n).2.2 ∧ (litT q l n).2.2 ≤ l.length ∧ (litT q l n).2.1.length + 1 ≤ (litT q l n).2.2 ∧ n + (litT q l n).2.1.length ≤ 4096 ∧ ∀ c ∈ l.take (litT q l n).2.2, c.toNat ≠ 10 := by
  intro m
  induction m with
  | zero =>
    intro l n h hn he
    obtain rfl : l = [] := List.eq_nil_of_length_eq_zero (by omega)
    rw [litT_nil] at he; cases he
  | succ m ih =>
    intro l n h hn he
    cases l with
    | nil => rw [litT_nil] at he; cases he
    | cons c t =>
      simp only [List.length_cons] at h
      by_cases h0 : c.toNat = 10
      · rw [litT_nl h0] at he; cases he
      · by_cases hcq : c = q
        · subst hcq
          rw [litT_end h0]
          refine ⟨Nat.le_refl _, by simp, Nat.le_refl _, by simpa using hn, ?_⟩
          intro d hd; simp at hd; subst hd; exact h0
        · by_cases h92 : c.toNat = 92
          · have hk := escT_le t
            rw [litT_esc h92 hcq] at he ⊢
            by_cases h1 : (escT t).1 = 0
            · rw [if_pos h1] at he ⊢
              by_cases h2 : n = 4096
              · rw [if_pos h2] at he; cases he
              · rw [if_neg h2] at he ⊢
                unfold litP at he ⊢
                by_cases h3 : (litT q (t.drop (escT t).2.2) (n + 1)).1 = 0
                · rw [if_pos h3] at he ⊢
                  obtain ⟨a1, a2, a3, a4, a5⟩ := ih _ _ (by simp; omega) (by omega) h3
                  simp only [List.length_drop] at a2
                  simp only [List.length_cons]
                  refine ⟨by omega, by omega, by omega, by omega, ?_⟩
                  intro d hd
                  rw [show (litT q (t.drop (escT t).2.2) (n + 1)).2.2 + (1 + (escT t).2.2) = ((escT t).2.2 + (litT q (t.drop (escT t).2.2) (n + 1)).2.2) + 1 by omega, List.take_succ_cons, List.take_add] at hd
                  rcases List.mem_cons.1 hd with rfl | hd
                  · exact h0
                  · rcases List.mem_append.1 hd with hd | hd
                    · exact escT_not10 h1 d hd
                    · exact a5 d hd
                · rw [if_neg h3] at he; exact absurd he h3
            · rw [if_neg h1] at he; exact absurd he h1
          · rw [litT_any h0 hcq h92] at he ⊢
            by_cases h2 : n = 4096
            · rw [if_pos h2] at he; cases he
            · rw [if_neg h2] at he ⊢
              unfold litP at he ⊢
              by_cases h3 : (litT q t (n + 1)).1 = 0
              · rw [if_pos h3] at he ⊢
                obtain ⟨a1, a2, a3, a4, a5⟩ := ih _ _ (by omega) (by omega) h3
                simp only [List.length_cons]
                refine ⟨by omega, by omega, by omega, by omega, ?_⟩
                intro d hd
                rw [List.take_succ_cons] at hd
                rcases List.mem_cons.1 hd with rfl | hd
                · exact h0
                · exact a5 d hd
              · rw [if_neg h3] at he; exact absurd he h3

theorem numByte_not10 {c : UInt8} (h : numByte c) : c.toNat ≠ 10 := by
  intro e
  have : c = 10 := UInt8.toNat_inj.1 e
  subst this
  rcases h with h | h | h | h
  · revert h; decide
  all_goals (revert h; decide)
/-- The part of a text that is a numeral: the same numeral. -/
theorem tw_take {p : UInt8 → Bool} : ∀ (l : List UInt8) (m : Nat), ((l.take m).takeWhile p).length = min (l.takeWhile p).length m
  | [], m => by simp
  | c :: l, 0 => by simp
  | c :: l, m + 1 => by
    rw [List.take_succ_cons]
    by_cases h : p c = true
    · rw [List.takeWhile_cons_of_pos h, List.takeWhile_cons_of_pos h, List.length_cons, List.length_cons, tw_take l m]; omega
    · rw [List.takeWhile_cons_of_neg h, List.takeWhile_cons_of_neg h]; simp
theorem runL_take (l : List UInt8) (b i m : Nat) (h : i ≤ m) : runL (l.take m) b i = min (runL l b i) m := by
  unfold runL
  rw [List.drop_take, tw_take]
  omega
theorem bat_take (l : List UInt8) (i m : Nat) (h : i < m) : bat (l.take m) i = bat l i := by
  unfold bat
  simp [List.getD, h]
theorem find_take {l : List UInt8} {f : Find} (hf : findL l 0 = some f) : findL (l.take f.end_) 0 = some f := by
  have hk := kind_end (find_kind (Nat.zero_le _) hf)
  have g2 := runL_ge l 10 0
  have g1 := runL_le l 10 0 (Nat.zero_le _)
  have r0 : ∀ m, runL (l.take m) 10 0 = min (runL l 10 0) m := fun m => runL_take l 10 0 m (Nat.zero_le _)
  unfold findL at hf ⊢
  simp only [] at hf ⊢
  rw [r0]
  split at hf
  · cases hf
  · rename_i hne
    split at hf
    · rename_i hx
      obtain ⟨h1, h2, h3, h4, h5⟩ := hx
      cases hf
      simp only [] at hk ⊢
      have e1 : min (runL l 10 0) (runL l 16 (runL l 10 0 + 1)) = runL l 10 0 := by omega
      rw [e1, runL_take _ _ _ _ (by omega), bat_take _ _ _ (by omega), bat_take _ _ _ (by omega), if_neg hne, if_pos ⟨h1, h2, by simp; omega, h4, by omega⟩]
      simp
    · rename_i hx
      split at hf
      · rename_i hp
        obtain ⟨h1, h2, h3⟩ := hp
        cases hf
        simp only [] at hk ⊢
        have e1 : min (runL l 10 0) (runL l 10 (runL l 10 0 + 1)) = runL l 10 0 := by omega
        rw [e1, runL_take _ _ _ _ (by omega), runL_take _ _ _ _ (by omega), bat_take _ _ _ (by omega), bat_take _ _ _ (by omega), if_neg hne]
        rw [if_neg (by rintro ⟨-, -, -, a4, -⟩; rw [h2] at a4; omega), if_pos ⟨by simp; omega, h2, by omega⟩]
        simp
      · rename_i hp
        cases hf
        simp only [] at hk ⊢
        have hlt : ¬ runL l 10 0 < (l.take (runL l 10 0)).length := by rw [List.length_take]; omega
        rw [Nat.min_self, if_neg hne, if_neg (fun a => hlt a.2.2.1), if_neg (fun a => hlt a.1)]
/-- A numeral that is read. -/
theorem scanL_ok {l : List UInt8} (h : (scanL l 0).2.2.2 = 0) : ∃ f, findL l 0 = some f ∧ 0 < f.end_ ∧ f.end_ ≤ l.length ∧ (scanL l 0).2.2.1 = f.end_ ∧ (numT l f).2.2 = 0 ∧ scanL l 0 = ((numT l f).1, (numT l f).2.1, (f.end_ : Int), 0) := by
  unfold scanL at h ⊢
  rw [if_neg (by simp)] at h ⊢
  rw [Int.toNat_zero] at h ⊢
  cases hf : findL l 0 with
  | none => rw [hf] at h; cases h
  | some f =>
    rw [hf] at h
    simp only [] at h ⊢
    have hk := find_kind (Nat.zero_le _) hf
    have h1 : 0 < f.end_ := by cases hk <;> simp only [] <;> omega
    by_cases h0 : (numT l f).2.2 = 0
    · rw [if_pos h0]
      exact ⟨f, rfl, h1, kind_end hk, rfl, h0, rfl⟩
    · rw [if_neg h0] at h; exact absurd h h0
theorem scanL_take {l : List UInt8} (h : (scanL l 0).2.2.2 = 0) : scanL (l.take (scanL l 0).2.2.1.toNat) 0 = scanL l 0 := by
  obtain ⟨f, hf, h1, h2, h3, h4, h5⟩ := scanL_ok h
  have ht := find_take hf
  have hn : numT (l.take f.end_) f = numT l f := by
    have := num_app (l := l.take f.end_) (r := l.drop f.end_) ht
    rw [List.take_append_drop] at this
    exact this.symm
  rw [h3, Int.toNat_natCast, h5]
  unfold scanL
  rw [if_neg (by simp), Int.toNat_zero, ht]
  simp only []
  rw [hn, if_pos h4]
theorem numeral_bytes {l : List UInt8} (h : (scanL l 0).2.2.2 = 0) : ∀ c ∈ l.take (scanL l 0).2.2.1.toNat, numByte c := by
  obtain ⟨f, hf, h1, h2, h3, h4, h5⟩ := scanL_ok h
  rw [h3, Int.toNat_natCast]
  exact whole_bytes (find_kind (Nat.zero_le _) (find_take hf)) (by simp; omega)

theorem prefix_take {s l : List UInt8} (h : s.isPrefixOf l = true) : s = l.take s.length := List.prefix_iff_eq_take.1 (List.isPrefixOf_iff_prefix.1 h)
theorem syms_ok : ∀ s ∈ syms, s ≠ [] ∧ s.length ≤ 3 ∧ ∀ c ∈ s, c.toNat ≠ 10 := by decide
theorem symbolT_ok {r : List UInt8} (h : (symbolT r).e = 0) : ∃ s, s ∈ syms ∧ s.isPrefixOf r = true ∧ symbolT r = ⟨0, 5, s, s.length⟩ := by
  unfold symbolT at h ⊢
  cases hf : syms.find? (fun s => s.isPrefixOf r) with
  | none => rw [hf] at h; cases h
  | some s => exact ⟨s, List.mem_of_find?_eq_some hf, by simpa using List.find?_some hf, rfl⟩
/-- A token that is read. -/
theorem tokT_ok {r : List UInt8} (he : (tokT r).e = 0) : 1 ≤ (tokT r).n ∧ (tokT r).n ≤ r.length ∧ (∀ c ∈ r.take (tokT r).n, c.toNat ≠ 10) ∧ ((tokT r).k ≠ 4 → (tokT r).x = r.take (tokT r).n) ∧ ((tokT r).k = 4 → (tokT r).x.length + 2 ≤ (tokT r).n ∧ (tokT r).x.length ≤ 4096) := by
  cases r with
  | nil => cases he
  | cons c t =>
    unfold tokT at he ⊢
    simp only [] at he ⊢
    split at he
    · rename_i hl
      rw [if_pos hl]
      have hw : wordB c = true := by unfold wordB; rw [hl]; rfl
      have h1 := spanN_yes (l := t) hw
      have h2 := spanN_le wordB (c :: t)
      unfold wordT at he ⊢
      split at he
      · cases he
      · rename_i h40
        rw [if_neg h40]
        refine ⟨by simp only []; omega, h2, fun d hd => word_not10 (span_all (Nat.le_refl _) d hd), fun _ => rfl, fun h => ?_⟩
        simp only [] at h
        split at h <;> omega
    · rename_i hl
      rw [if_neg hl]
      split at he
      · rename_i hd
        rw [if_pos hd]
        unfold numberT at he ⊢
        split at he
        · rename_i h0
          rw [if_pos h0]
          obtain ⟨f, hf, h1, h2, h3, h4, h5⟩ := scanL_ok h0
          have hb := numeral_bytes h0
          split at he
          · cases he
          · rename_i hw
            rw [if_neg hw]
            refine ⟨by simp only []; omega, by simp only []; omega, fun d hd => numByte_not10 (hb d hd), fun _ => rfl, fun h => by cases h⟩
        · rename_i h0; exact absurd he h0
      · rename_i hd
        rw [if_neg hd]
        split at he
        · rename_i hq
          rw [if_pos hq]
          unfold stringT at he ⊢
          split at he
          · rename_i h0
            rw [if_pos h0]
            obtain ⟨a1, a2, a3, a4, a5⟩ := litT_ok c (by omega) t.length t 0 (Nat.le_refl _) (by omega) h0
            refine ⟨by simp only []; omega, by simp only [List.length_cons]; omega, fun d hd => ?_, fun h => absurd rfl h, fun _ => ⟨by simp only []; omega, by simp only []; omega⟩⟩
            simp only [List.take_succ_cons] at hd
            rcases List.mem_cons.1 hd with rfl | hd
            · omega
            · exact a5 d hd
          · rename_i h0; exact absurd he h0
        · rename_i hq
          rw [if_neg hq]
          obtain ⟨s, h1, h2, h3⟩ := symbolT_ok he
          rw [h3]
          obtain ⟨s1, s2, s3⟩ := syms_ok s h1
          have hp := prefix_take h2
          have hl : s.length ≤ (c :: t).length := (List.isPrefixOf_iff_prefix.1 h2).length_le
          refine ⟨List.length_pos_iff.2 s1, hl, fun d hd => ?_, fun _ => hp, fun h => by cases h⟩
          simp only [] at hd
          rw [← hp] at hd
          exact s3 d hd

/-- A token ahead of what is read behind it. -/
def scP (t : Tk) (x : List Tk × Nat × Int) : List Tk × Nat × Int := if x.2.2 = 0 then (t :: x.1, 0, 0) else ([], x.2.1, x.2.2)
theorem scanA_nil {r : List UInt8} {i ln : Nat} (h : r.drop (gapN r).1 = []) : scanA r i ln = ([], 0, 0) := by rw [scanA, dif_pos h]
theorem scanA_err {r : List UInt8} {i ln : Nat} (h : r.drop (gapN r).1 ≠ []) (he : (tokT (r.drop (gapN r).1)).e ≠ 0) : scanA r i ln = ([], ln + (gapN r).2, (tokT (r.drop (gapN r).1)).e) := by rw [scanA, dif_neg h, if_neg he]
theorem scanA_tok {r : List UInt8} {i ln : Nat} (h : r.drop (gapN r).1 ≠ []) (he : (tokT (r.drop (gapN r).1)).e = 0) :
    scanA r i ln = scP ⟨(tokT (r.drop (gapN r).1)).k, (tokT (r.drop (gapN r).1)).x, ln + (gapN r).2, i + (gapN r).1⟩ (scanA ((r.drop (gapN r).1).drop (tokT (r.drop (gapN r).1)).n) (i + (gapN r).1 + (tokT (r.drop (gapN r).1)).n) (ln + (gapN r).2)) := by
  have hp := (tokT_ok he).1
  rw [scanA, dif_neg h, if_pos he, Nat.max_eq_right hp]
  rfl
theorem scanA_eq {r r' : List UInt8} {i i' ln ln' : Nat} (h : r.drop (gapN r).1 = r'.drop (gapN r').1) (hi : i + (gapN r).1 = i' + (gapN r').1) (hl : ln + (gapN r).2 = ln' + (gapN r').2) : scanA r i ln = scanA r' i' ln' := by
  by_cases h0 : r.drop (gapN r).1 = []
  · rw [scanA_nil h0, scanA_nil (h ▸ h0)]
  · by_cases he : (tokT (r.drop (gapN r).1)).e = 0
    · rw [scanA_tok h0 he, scanA_tok (r := r') (h ▸ h0) (h ▸ he), h, hi, hl]
    · rw [scanA_err h0 he, scanA_err (r := r') (h ▸ h0) (h ▸ he), h, hl]

/-- The tokens further behind and below. -/
def shR (d e : Nat) (x : List Tk × Nat × Int) : List Tk × Nat × Int := (x.1.map fun t => ⟨t.k, t.x, t.ln + e, t.at_ + d⟩, if x.2.2 = 0 then 0 else x.2.1 + e, x.2.2)
theorem scP_sh (d e : Nat) (t : Tk) (x : List Tk × Nat × Int) : scP ⟨t.k, t.x, t.ln + e, t.at_ + d⟩ (shR d e x) = shR d e (scP t x) := by
  unfold scP shR
  by_cases h : x.2.2 = 0
  · simp [h]
  · simp [h]
theorem drop_len {r : List UInt8} (g n : Nat) (h : r.drop g ≠ []) (hn : 1 ≤ n) : ((r.drop g).drop n).length < r.length := by
  have := List.length_pos_iff.2 h
  simp at this ⊢
  omega
theorem scanA_shift (d e : Nat) (m : Nat) : ∀ (r : List UInt8) (i ln : Nat), r.length ≤ m → scanA r (i + d) (ln + e) = shR d e (scanA r i ln) := by
  induction m with
  | zero =>
    intro r i ln h
    obtain rfl : r = [] := List.eq_nil_of_length_eq_zero (by omega)
    rw [scanA_nil (by simp), scanA_nil (by simp)]; rfl
  | succ m ih =>
    intro r i ln h
    by_cases h0 : r.drop (gapN r).1 = []
    · rw [scanA_nil h0, scanA_nil h0]; rfl
    · by_cases he : (tokT (r.drop (gapN r).1)).e = 0
      · have hl := drop_len (gapN r).1 (tokT (r.drop (gapN r).1)).n h0 (tokT_ok he).1
        rw [scanA_tok h0 he, scanA_tok h0 he, ← scP_sh, ← ih _ _ _ (by omega)]
        simp only [Nat.add_assoc, Nat.add_comm]
      · rw [scanA_err h0 he, scanA_err h0 he]
        unfold shR
        rw [if_neg he]
        simp only [List.map_nil, Prod.mk.injEq, true_and, and_true]
        omega

/-- What is read of two texts. -/
def apR (x y : List Tk × Nat × Int) : List Tk × Nat × Int := if x.2.2 = 0 then (if y.2.2 = 0 then (x.1 ++ y.1, 0, 0) else ([], y.2.1, y.2.2)) else ([], x.2.1, x.2.2)
theorem scP_ap (t : Tk) (x y : List Tk × Nat × Int) : scP t (apR x y) = apR (scP t x) y := by
  unfold scP apR
  by_cases h : x.2.2 = 0
  · by_cases h2 : y.2.2 = 0 <;> simp [h, h2]
  · simp [h]
theorem scanA_form (r : List UInt8) (i ln : Nat) : (scanA r i ln).2.2 = 0 ∧ (scanA r i ln).2.1 = 0 ∨ (scanA r i ln).2.2 ≠ 0 ∧ (scanA r i ln).1 = [] := by
  by_cases h0 : r.drop (gapN r).1 = []
  · rw [scanA_nil h0]; exact .inl ⟨rfl, rfl⟩
  · by_cases he : (tokT (r.drop (gapN r).1)).e = 0
    · rw [scanA_tok h0 he]
      unfold scP
      split
      · exact .inl ⟨rfl, rfl⟩
      · rename_i h; exact .inr ⟨h, rfl⟩
    · rw [scanA_err h0 he]; exact .inr ⟨he, rfl⟩
theorem apR_nil {y : List Tk × Nat × Int} (h : y.2.2 = 0 ∧ y.2.1 = 0 ∨ y.2.2 ≠ 0 ∧ y.1 = []) : apR ([], 0, 0) y = y := by
  obtain ⟨y1, y2, y3⟩ := y
  unfold apR
  rw [if_pos rfl]
  rcases h with ⟨h1, h2⟩ | ⟨h1, h2⟩
  · simp only [] at h1 h2; subst h1 h2; simp
  · simp only [] at h1 h2; subst h2; rw [if_neg h1]
theorem scanA_app (b : List UInt8) (m : Nat) : ∀ (r : List UInt8) (i ln : Nat), r.length ≤ m → scanA (r ++ 10 :: b) i ln = apR (scanA r i ln) (scanA b (i + r.length + 1) (ln + nlN r + 1)) := by
  induction m with
  | zero =>
    intro r i ln h
    obtain rfl : r = [] := List.eq_nil_of_length_eq_zero (by omega)
    rw [scanA_nil (r := []) (by simp), apR_nil (scanA_form _ _ _)]
    have hg : gapN ([] ++ 10 :: b) = ((gapN b).1 + 1, (gapN b).2 + 1) := by rw [List.nil_append, gapN_nl (by rfl)]
    refine scanA_eq ?_ ?_ ?_
    · rw [hg]; simp
    · rw [hg]; simp; omega
    · rw [hg, nlN_nil]; simp; omega
  | succ m ih =>
    intro r i ln h
    have hg := gapN_app b r.length r (Nat.le_refl _)
    have hc := gapN_count r.length r (Nat.le_refl _)
    have hle := gapN_le r.length r (Nat.le_refl _)
    by_cases h0 : r.drop (gapN r).1 = []
    · rw [if_pos h0] at hg
      have hlen : (gapN r).1 = r.length := by have := List.drop_eq_nil_iff.1 h0; omega
      rw [hlen, List.take_length] at hc
      rw [scanA_nil (r := r) h0, apR_nil (scanA_form _ _ _)]
      refine scanA_eq ?_ ?_ ?_
      · rw [hg]
        simp only []
        rw [show (gapN b).1 + 1 + r.length = r.length + ((gapN b).1 + 1) by omega, ← List.drop_drop, List.drop_left]
        rfl
      · rw [hg]; simp only []; omega
      · rw [hg, hc]; simp only []; omega
    · rw [if_neg h0] at hg
      have hd : (r ++ 10 :: b).drop (gapN r).1 = r.drop (gapN r).1 ++ 10 :: b := drop_app hle
      have ht := tokT_app (b := b) h0
      have hne : (r ++ 10 :: b).drop (gapN (r ++ 10 :: b)).1 ≠ [] := by rw [hg, hd]; simp
      by_cases he : (tokT (r.drop (gapN r).1)).e = 0
      · have hok := tokT_ok he
        have hl := drop_len (gapN r).1 (tokT (r.drop (gapN r).1)).n h0 hok.1
        have hcount : nlN r = (gapN r).2 + nlN ((r.drop (gapN r).1).drop (tokT (r.drop (gapN r).1)).n) := by
          have e1 : nlN r = nlN (r.take (gapN r).1) + nlN (r.drop (gapN r).1) := by rw [← nlN_app, List.take_append_drop]
          have e2 : nlN (r.drop (gapN r).1) = nlN ((r.drop (gapN r).1).take (tokT (r.drop (gapN r).1)).n) + nlN ((r.drop (gapN r).1).drop (tokT (r.drop (gapN r).1)).n) := by rw [← nlN_app, List.take_append_drop]
          rw [nlN_none hok.2.2.1] at e2
          omega
        rw [scanA_tok hne (by rw [hg, hd, ht]; exact he), scanA_tok h0 he, hg, hd, ht, drop_app hok.2.1, ih _ _ _ (by omega), scP_ap]
        have e3 : ((r.drop (gapN r).1).drop (tokT (r.drop (gapN r).1)).n).length = r.length - (gapN r).1 - (tokT (r.drop (gapN r).1)).n := by rw [List.length_drop, List.length_drop]
        have e4 := hok.2.1
        rw [List.length_drop] at e4
        congr 2
        · rw [e3]; omega
        · omega
      · rw [scanA_err hne (by rw [hg, hd, ht]; exact he), scanA_err h0 he, hg, hd, ht]
        unfold apR
        rw [if_neg he]
end Go.Proofs.YtemlijadhdejeaaGreatDoor

/- Tokens that are joined are read again; literals; names and keywords; places: plain facts, no program in sight. -/
namespace Go.Proofs.YtemlijadhdejeaaGreatDoor
set_option linter.unusedVariables false

/-- The literal of a byte. -/
def quoteC (c : UInt8) : List UInt8 :=
  if c.toNat = 10 then [92, 110] else if c.toNat = 9 then [92, 116] else if c.toNat = 92 ∨ c.toNat = 34 then [92, c]
  else if c.toNat < 32 ∨ 126 < c.toNat then [92, UInt8.ofNat (48 + c.toNat / 100), UInt8.ofNat (48 + c.toNat / 10 % 10), UInt8.ofNat (48 + c.toNat % 10)] else [c]
/-- The bytes of a literal between its quotes. -/
def quoteM (l : List UInt8) : List UInt8 := l.flatMap quoteC
/-- The literal of a string. -/
def quoteL (l : List UInt8) : List UInt8 := 34 :: (quoteM l ++ [34])
theorem quoteM_cons (c : UInt8) (l : List UInt8) : quoteM (c :: l) = quoteC c ++ quoteM l := by unfold quoteM; simp
theorem quoteM_snoc (l : List UInt8) (c : UInt8) : quoteM (l ++ [c]) = quoteM l ++ quoteC c := by unfold quoteM; simp
theorem quoteC_len (c : UInt8) : 1 ≤ (quoteC c).length ∧ (quoteC c).length ≤ 4 := by
  unfold quoteC
  repeat' split
  all_goals simp
theorem quoteM_len (l : List UInt8) : (quoteM l).length ≤ 4 * l.length := by
  induction l with
  | nil => simp [quoteM]
  | cons c l ih => rw [quoteM_cons, List.length_append, List.length_cons]; have := (quoteC_len c).2; omega

theorem three_digits : ∀ c : Fin 256, (c.val < 32 ∨ 126 < c.val) → digB (UInt8.ofNat (48 + c.val / 100)) = true ∧ digB (UInt8.ofNat (48 + c.val / 10 % 10)) = true ∧ digB (UInt8.ofNat (48 + c.val % 10)) = true ∧ valN 10 [UInt8.ofNat (48 + c.val / 100), UInt8.ofNat (48 + c.val / 10 % 10), UInt8.ofNat (48 + c.val % 10)] = c.val := by decide +kernel
theorem first_digit : ∀ c : Fin 256, digB (UInt8.ofNat c.val) = true → c.val ≠ 110 ∧ c.val ≠ 116 ∧ c.val ≠ 92 ∧ c.val ≠ 39 ∧ c.val ≠ 34 ∧ c.val ≠ 120 := by decide +kernel
theorem dig_ne {c : UInt8} (h : digB c = true) : c.toNat ≠ 110 ∧ c.toNat ≠ 116 ∧ c.toNat ≠ 92 ∧ c.toNat ≠ 39 ∧ c.toNat ≠ 34 ∧ c.toNat ≠ 120 := by
  have := first_digit ⟨c.toNat, UInt8.toNat_lt c⟩ (by simpa using h)
  exact this
theorem esc_three {a b c : UInt8} (ha : digB a = true) (hb : digB b = true) (hc : digB c = true) (hv : ¬ 255 < valN 10 [a, b, c]) (r : List UInt8) : escT (a :: b :: c :: r) = (0, valN 10 [a, b, c], 3) := by
  obtain ⟨d1, d2, d3, d4, d5, d6⟩ := dig_ne ha
  have hs : min (spanN digB (a :: b :: c :: r)) 3 = 3 := by rw [spanN_yes ha, spanN_yes hb, spanN_yes hc]; omega
  unfold escT
  simp only []
  rw [if_neg d1, if_neg d2, if_neg (by omega), if_neg d6, if_pos ha, hs]
  rw [show (a :: b :: c :: r).take 3 = [a, b, c] from rfl, if_neg hv]
/-- A byte's literal is read as the byte. -/
theorem lit_quoteC (c : UInt8) (r : List UInt8) (n : Nat) (hn : n < 4096) : litT 34 (quoteC c ++ r) n = litP c (quoteC c).length (litT 34 r (n + 1)) := by
  have back : UInt8.ofNat c.toNat = c := by simp
  unfold quoteC
  split
  · rename_i h
    have : c = 10 := UInt8.toNat_inj.1 h
    subst this
    rw [List.cons_append, litT_esc (by rfl) (by decide)]
    have : escT ([110] ++ r) = (0, 10, 1) := by unfold escT; rfl
    rw [this, if_pos rfl, if_neg (by omega)]; rfl
  · split
    · rename_i h
      have : c = 9 := UInt8.toNat_inj.1 h
      subst this
      rw [List.cons_append, litT_esc (by rfl) (by decide)]
      have : escT ([116] ++ r) = (0, 9, 1) := by unfold escT; rfl
      rw [this, if_pos rfl, if_neg (by omega)]; rfl
    · split
      · rename_i h
        rw [List.cons_append, litT_esc (by rfl) (by decide)]
        have : escT ([c] ++ r) = (0, c.toNat, 1) := by
          show escT (c :: r) = _
          unfold escT
          simp only []
          rw [if_neg (by omega), if_neg (by omega), if_pos (by omega)]
        rw [this, if_pos rfl, if_neg (by omega)]
        simp only [back]
        rfl
      · split
        · rename_i h
          obtain ⟨h1, h2, h3, h4⟩ := three_digits ⟨c.toNat, UInt8.toNat_lt c⟩ h
          have hlt := UInt8.toNat_lt c
          rw [List.cons_append, litT_esc (by rfl) (by decide)]
          simp only [] at h1 h2 h3 h4
          have := esc_three h1 h2 h3 (by rw [h4]; omega) r
          rw [List.cons_append, List.cons_append, List.cons_append, List.nil_append, this, if_pos rfl, if_neg (by omega), h4]
          simp only [back]
          rfl
        · rename_i h10 h9 h34 hr
          show litT 34 (c :: r) n = _
          rw [litT_any h10 (by rintro rfl; exact h34 (.inr rfl)) (by omega), if_neg (by omega)]
          rfl
/-- A literal is read as its string. -/
theorem lit_quoteM (x : List UInt8) : ∀ (r : List UInt8) (n : Nat), n + x.length ≤ 4096 → litT 34 (quoteM x ++ 34 :: r) n = (0, x, (quoteM x).length + 1) := by
  induction x with
  | nil => intro r n _; rw [show quoteM [] = [] from rfl, List.nil_append, litT_end (by decide)]; rfl
  | cons c x ih =>
    intro r n h
    simp only [List.length_cons] at h
    rw [quoteM_cons, List.append_assoc, lit_quoteC _ _ _ (by omega), ih r (n + 1) (by omega)]
    unfold litP
    simp only [if_true, Prod.mk.injEq, true_and, List.length_append]
    omega
theorem tok_quote {x : List UInt8} (h : x.length ≤ 4096) (r : List UInt8) : tokT (quoteL x ++ r) = ⟨0, 4, x, (quoteL x).length⟩ := by
  have hl := lit_quoteM x r 0 (by omega)
  have e : quoteL x ++ r = 34 :: (quoteM x ++ 34 :: r) := by unfold quoteL; simp
  rw [e]
  unfold tokT stringT
  simp only []
  rw [if_neg (by decide), if_neg (by decide), if_pos (by decide), hl]
  unfold quoteL
  simp

/-- A text that is one token, with something behind it that does not belong to it. -/
theorem word_all {w : List UInt8} (h : ∀ c ∈ w, wordB c = true) : spanN wordB w = w.length := by
  induction w with
  | nil => rfl
  | cons c w ih => rw [spanN_yes (h c (List.mem_cons_self)), ih (fun d hd => h d (List.mem_cons_of_mem _ hd))]; rfl
theorem sp_word : wordB 32 = false := by decide
theorem sp_stop : stopN 32 := by unfold stopN; decide
theorem sp_syms : ∀ s ∈ syms, (32 : UInt8) ∉ s := by decide
/-- Nothing, or a blank ahead. -/
def behindP (b : List UInt8) : Prop := b = [] ∨ ∃ r, b = 32 :: r
theorem wordT_beh {b : List UInt8} (hb : behindP b) (l : List UInt8) : wordT (l ++ b) = wordT l := by
  rcases hb with rfl | ⟨r, rfl⟩
  · rw [List.append_nil]
  · exact wordT_app sp_word l r
theorem numberT_beh {b : List UInt8} (hb : behindP b) (l : List UInt8) : numberT (l ++ b) = numberT l := by
  rcases hb with rfl | ⟨r, rfl⟩
  · rw [List.append_nil]
  · exact numberT_app sp_stop sp_word l r
theorem symbolT_beh {b : List UInt8} (hb : behindP b) (l : List UInt8) : symbolT (l ++ b) = symbolT l := by
  rcases hb with rfl | ⟨r, rfl⟩
  · rw [List.append_nil]
  · exact symbolT_app sp_syms l r
theorem syms_self : ∀ s ∈ syms, (syms.find? (fun t => t.isPrefixOf s)) = some s := by decide
theorem symbolT_self {s : List UInt8} (h : s ∈ syms) : symbolT s = ⟨0, 5, s, s.length⟩ := by unfold symbolT; rw [syms_self s h]
theorem sym_heads : ∀ s ∈ syms, ∀ c, s.head? = some c → letB c = false ∧ digB c = false ∧ c.toNat ≠ 39 ∧ c.toNat ≠ 34 ∧ c.toNat ≠ 10 ∧ blkB c = false ∧ (c.toNat = 45 → s = [45]) := by
  have : ∀ s ∈ syms, ∀ c ∈ s.head?, letB c = false ∧ digB c = false ∧ c.toNat ≠ 39 ∧ c.toNat ≠ 34 ∧ c.toNat ≠ 10 ∧ blkB c = false ∧ (c.toNat = 45 → s = [45]) := by decide
  exact this

/-- How a token is written. -/
def rendT (k : Int) (x : List UInt8) : List UInt8 := if k = 4 then quoteL x else x
/-- A token that, written with a blank or nothing behind it, is read as itself. -/
structure Reads (k : Int) (x : List UInt8) : Prop where
  tok : ∀ b, behindP b → tokT (rendT k x ++ b) = ⟨0, k, x, (rendT k x).length⟩
  gap : ∀ b, behindP b → gapN (rendT k x ++ b) = (0, 0)
  ne : rendT k x ≠ []
theorem gap_head {c : UInt8} {t : List UInt8} (h0 : c.toNat ≠ 10) (h1 : blkB c = false) (h2 : c.toNat ≠ 45) : gapN (c :: t) = (0, 0) := gapN_stop h0 h1 (by omega)
theorem let_gap : ∀ c : Fin 256, (letB (UInt8.ofNat c.val) || digB (UInt8.ofNat c.val)) = true → c.val ≠ 10 ∧ blkB (UInt8.ofNat c.val) = false ∧ c.val ≠ 45 := by decide +kernel
theorem word_gap {c : UInt8} (h : (letB c || digB c) = true) (t : List UInt8) : gapN (c :: t) = (0, 0) := by
  have := let_gap ⟨c.toNat, UInt8.toNat_lt c⟩ (by simpa using h)
  simp only [UInt8.ofNat_toNat] at this
  exact gap_head this.1 this.2.1 this.2.2
theorem reads_string {x : List UInt8} (h : x.length ≤ 4096) : Reads 4 x := by
  have e : rendT 4 x = quoteL x := if_pos rfl
  refine ⟨fun b _ => by rw [e]; exact tok_quote h b, fun b _ => ?_, by rw [e]; simp [quoteL]⟩
  rw [e]
  show gapN (34 :: (quoteM x ++ [34] ++ b)) = _
  exact gap_head (by decide) (by decide) (by decide)
theorem reads_symbol {s : List UInt8} (h : s ∈ syms) : Reads 5 s := by
  have e : rendT 5 s = s := if_neg (by omega)
  obtain ⟨h1, -, -⟩ := syms_ok s h
  cases hs : s with
  | nil => exact absurd hs h1
  | cons c t =>
    rw [hs] at e
    obtain ⟨a1, a2, a3, a4, a5, a6, a7⟩ := sym_heads s h c (by rw [hs]; rfl)
    refine ⟨fun b hb => ?_, fun b hb => ?_, by rw [e]; simp⟩
    · rw [e]
      have h2 := symbolT_beh hb s
      rw [symbolT_self h, hs] at h2
      rw [List.cons_append] at h2 ⊢
      unfold tokT
      simp only []
      rw [if_neg (by rw [a1]; simp), if_neg (by rw [a2]; simp), if_neg (by omega), h2]
    · rw [e]
      by_cases h45 : c.toNat = 45
      · have := a7 h45
        rw [hs] at this
        obtain rfl : t = [] := by simp at this; exact this.2
        refine gapN_stop a5 a6 ?_
        rintro ⟨-, g2⟩
        rcases hb with rfl | ⟨r, rfl⟩
        · simp at g2
        · simp at g2
      · exact gap_head a5 a6 h45
theorem reads_word {w : List UInt8} {c : UInt8} {t : List UInt8} (hw : w = c :: t) (hc : letB c = true) (ha : ∀ d ∈ w, wordB d = true) (hl : w.length ≤ 40) : Reads (if keyB w then 2 else 1) w := by
  have e : rendT (if keyB w then 2 else 1) w = w := by
    unfold rendT
    rw [if_neg]
    split <;> omega
  have hs := word_all ha
  have hT : wordT w = ⟨0, if keyB w then 2 else 1, w, w.length⟩ := by
    unfold wordT
    rw [hs, if_neg (by omega), List.take_length]
  refine ⟨fun b hb => ?_, fun b hb => ?_, by rw [e, hw]; simp⟩
  · rw [e]
    have h2 := wordT_beh hb w
    rw [hT] at h2
    rw [← h2, hw, List.cons_append]
    unfold tokT
    simp only []
    rw [if_pos hc]
  · rw [e, hw, List.cons_append]
    exact word_gap (by rw [hc]; rfl) _
theorem reads_number {l : List UInt8} {c : UInt8} {t : List UInt8} (hl : l = c :: t) (hd : letB c = false) (hc : digB c = true) (h0 : (scanL l 0).2.2.2 = 0) : Reads 3 (l.take (scanL l 0).2.2.1.toNat) := by
  have e : rendT 3 (l.take (scanL l 0).2.2.1.toNat) = l.take (scanL l 0).2.2.1.toNat := if_neg (by omega)
  obtain ⟨f, hf, h1, h2, h3, h4, h5⟩ := scanL_ok h0
  have ht := scanL_take h0
  have hx : ∃ u, l.take (scanL l 0).2.2.1.toNat = c :: u := by
    rw [h3, Int.toNat_natCast, hl]
    obtain ⟨m, hm⟩ : ∃ m, f.end_ = m + 1 := ⟨f.end_ - 1, by omega⟩
    rw [hm, List.take_succ_cons]
    exact ⟨_, rfl⟩
  have hlen : (l.take (scanL l 0).2.2.1.toNat).length = (scanL l 0).2.2.1.toNat := by rw [List.length_take]; omega
  have hT : numberT (l.take (scanL l 0).2.2.1.toNat) = ⟨0, 3, l.take (scanL l 0).2.2.1.toNat, (l.take (scanL l 0).2.2.1.toNat).length⟩ := by
    have hw : wordAt (l.take (scanL l 0).2.2.1.toNat) (scanL l 0).2.2.1.toNat = false := by
      unfold wordAt
      rw [List.getElem?_eq_none (by omega)]
    unfold numberT
    rw [ht, if_pos h0, hw]
    simp only [Bool.false_eq_true, if_false]
    rw [List.take_take, Nat.min_self, hlen]
  generalize l.take (scanL l 0).2.2.1.toNat = x at *
  obtain ⟨u, hu⟩ := hx
  refine ⟨fun b hb => ?_, fun b hb => ?_, by rw [e, hu]; simp⟩
  · rw [e]
    have h6 := numberT_beh hb x
    rw [hT] at h6
    rw [← h6, hu, List.cons_append]
    unfold tokT
    simp only []
    rw [if_neg (by rw [hd]; simp), if_pos hc]
  · rw [e, hu, List.cons_append]
    exact word_gap (by rw [hc]; simp) _
/-- What is read is read again. -/
theorem tok_reads {r : List UInt8} (he : (tokT r).e = 0) : Reads (tokT r).k (tokT r).x := by
  cases r with
  | nil => cases he
  | cons c t =>
    unfold tokT at he ⊢
    simp only [] at he ⊢
    by_cases hl : letB c = true
    · rw [if_pos hl] at he ⊢
      have hw : wordB c = true := by unfold wordB; rw [hl]; rfl
      have h1 := spanN_yes (l := t) hw
      have h2 := spanN_le wordB (c :: t)
      unfold wordT at he ⊢
      by_cases h40 : 40 < spanN wordB (c :: t)
      · rw [if_pos h40] at he; cases he
      · rw [if_neg h40]
        have hx : (c :: t).take (spanN wordB (c :: t)) = c :: t.take (spanN wordB t) := by rw [h1, List.take_succ_cons]
        exact reads_word hx hl (span_all (Nat.le_refl _)) (by rw [List.length_take]; omega)
    · rw [if_neg hl] at he ⊢
      by_cases hd : digB c = true
      · rw [if_pos hd] at he ⊢
        unfold numberT at he ⊢
        by_cases h0 : (scanL (c :: t) 0).2.2.2 = 0
        · rw [if_pos h0] at he ⊢
          split at he
          · cases he
          · rename_i hw
            rw [if_neg hw]
            exact reads_number rfl (by simpa using hl) hd h0
        · rw [if_neg h0] at he; exact absurd he h0
      · rw [if_neg hd] at he ⊢
        by_cases hq : c.toNat = 39 ∨ c.toNat = 34
        · rw [if_pos hq] at he ⊢
          unfold stringT at he ⊢
          by_cases h0 : (litT c t 0).1 = 0
          · rw [if_pos h0]
            have h5 := (litT_ok c (by omega) t.length t 0 (Nat.le_refl _) (by omega) h0).2.2.2.1
            have h6 : (litT c t 0).2.1.length ≤ 4096 := by omega
            exact reads_string h6
          · rw [if_neg h0] at he; exact absurd he h0
        · rw [if_neg hq] at he ⊢
          obtain ⟨s, h1, -, h3⟩ := symbolT_ok he
          rw [h3]
          exact reads_symbol h1

/-- The text of tokens: their texts with blanks between them. -/
def joinL : List (Int × List UInt8) → List UInt8
  | [] => []
  | [t] => rendT t.1 t.2
  | t :: u :: l => rendT t.1 t.2 ++ 32 :: joinL (u :: l)
def plain2 (l : List Tk) : List (Int × List UInt8) := l.map fun t => (t.k, t.x)
theorem scan_join1 {k : Int} {x : List UInt8} (h : Reads k x) (b : List UInt8) (hb : behindP b) (i ln : Nat) : scanA (rendT k x ++ b) i ln = scP ⟨k, x, ln, i⟩ (scanA b (i + (rendT k x).length) ln) := by
  have hg := h.gap b hb
  have ht := h.tok b hb
  have hd : (rendT k x ++ b).drop (gapN (rendT k x ++ b)).1 = rendT k x ++ b := by rw [hg]; rfl
  have h0 : (rendT k x ++ b).drop (gapN (rendT k x ++ b)).1 ≠ [] := by rw [hd]; have := h.ne; simp [this]
  rw [scanA_tok h0 (by rw [hd, ht]), hd, ht, hg]
  simp only [Nat.add_zero]
  rw [List.drop_left]
theorem scan_blank (b : List UInt8) (i ln : Nat) : scanA (32 :: b) i ln = scanA b (i + 1) ln := by
  have hg : gapN (32 :: b) = ((gapN b).1 + 1, (gapN b).2) := gapN_blank (by decide) (by decide)
  refine scanA_eq ?_ ?_ ?_ <;> rw [hg]
  · rfl
  · simp only []; omega
theorem scan_nil (i ln : Nat) : scanA [] i ln = ([], 0, 0) := scanA_nil (by simp)
/-- Joined tokens are read as themselves, in one line. -/
theorem scan_joined : ∀ (l : List (Int × List UInt8)), (∀ t ∈ l, Reads t.1 t.2) → ∀ i ln, (scanA (joinL l) i ln).2.2 = 0 ∧ plain2 (scanA (joinL l) i ln).1 = l ∧ ∀ t ∈ (scanA (joinL l) i ln).1, t.ln = ln
  | [], _, i, ln => by rw [joinL, scan_nil]; exact ⟨rfl, rfl, fun t ht => by cases ht⟩
  | [t], h, i, ln => by
    have ht := h t (List.mem_cons_self)
    have := scan_join1 ht [] (.inl rfl) i ln
    rw [List.append_nil] at this
    rw [joinL, this, scan_nil]
    refine ⟨rfl, rfl, fun u hu => ?_⟩
    simp [scP] at hu; subst hu; rfl
  | t :: u :: l, h, i, ln => by
    have ht := h t (List.mem_cons_self)
    obtain ⟨h1, h2, h3⟩ := scan_joined (u :: l) (fun v hv => h v (List.mem_cons_of_mem _ hv)) (i + (rendT t.1 t.2).length + 1) ln
    rw [joinL, scan_join1 ht _ (.inr ⟨_, rfl⟩) i ln, scan_blank]
    generalize scanA (joinL (u :: l)) (i + (rendT t.1 t.2).length + 1) ln = y at *
    unfold scP
    rw [if_pos h1]
    refine ⟨rfl, ?_, fun v hv => ?_⟩
    · unfold plain2 at h2 ⊢
      rw [List.map_cons, h2]
    · rcases List.mem_cons.1 hv with rfl | hv
      · rfl
      · exact h3 v hv
/-- The tokens of a text: each can be read again; how long they are when written. -/
theorem scan_reads (m : Nat) : ∀ (r : List UInt8) (i ln : Nat), r.length ≤ m → (∀ t ∈ (scanA r i ln).1, Reads t.k t.x ∧ t.x.length ≤ r.length ∧ (t.k = 4 → t.x.length ≤ 4096)) ∧ (joinL (plain2 (scanA r i ln).1)).length ≤ 5 * r.length ∧ (scanA r i ln).1.length ≤ r.length := by
  induction m with
  | zero =>
    intro r i ln h
    obtain rfl : r = [] := List.eq_nil_of_length_eq_zero (by omega)
    rw [scan_nil]
    exact ⟨(fun t ht => by cases ht), by simp [plain2, joinL], by simp⟩
  | succ m ih =>
    intro r i ln h
    by_cases h0 : r.drop (gapN r).1 = []
    · rw [scanA_nil h0]
      exact ⟨(fun t ht => by cases ht), by simp [plain2, joinL], by simp⟩
    · by_cases he : (tokT (r.drop (gapN r).1)).e = 0
      · have hok := tokT_ok he
        have hl := drop_len (gapN r).1 (tokT (r.drop (gapN r).1)).n h0 hok.1
        have hR := tok_reads he
        have hdl : (r.drop (gapN r).1).length ≤ r.length := by simp
        have hle := hok.2.1
        rw [scanA_tok h0 he]
        obtain ⟨h1, h2, h3⟩ := ih ((r.drop (gapN r).1).drop (tokT (r.drop (gapN r).1)).n) (i + (gapN r).1 + (tokT (r.drop (gapN r).1)).n) (ln + (gapN r).2) (by omega)
        have hrl : ((r.drop (gapN r).1).drop (tokT (r.drop (gapN r).1)).n).length = (r.drop (gapN r).1).length - (tokT (r.drop (gapN r).1)).n := by rw [List.length_drop, List.length_drop]
        generalize scanA ((r.drop (gapN r).1).drop (tokT (r.drop (gapN r).1)).n) (i + (gapN r).1 + (tokT (r.drop (gapN r).1)).n) (ln + (gapN r).2) = y at *
        have hxl : (tokT (r.drop (gapN r).1)).x.length ≤ (tokT (r.drop (gapN r).1)).n := by
          by_cases h4 : (tokT (r.drop (gapN r).1)).k = 4
          · have := (hok.2.2.2.2 h4).1; omega
          · rw [hok.2.2.2.1 h4, List.length_take]; omega
        have hren : (rendT (tokT (r.drop (gapN r).1)).k (tokT (r.drop (gapN r).1)).x).length + 1 ≤ 5 * (tokT (r.drop (gapN r).1)).n := by
          have hn := hok.1
          unfold rendT
          split
          · rename_i h4
            have h5 := (hok.2.2.2.2 h4).1
            have h6 := quoteM_len (tokT (r.drop (gapN r).1)).x
            unfold quoteL
            simp only [List.length_cons, List.length_append, List.length_nil]
            omega
          · omega
        unfold scP
        split
        · refine ⟨fun t ht => ?_, ?_, ?_⟩
          · rcases List.mem_cons.1 ht with rfl | ht
            · exact ⟨hR, by simp only []; omega, fun h4 => (hok.2.2.2.2 h4).2⟩
            · obtain ⟨a1, a2, a3⟩ := h1 t ht
              exact ⟨a1, by omega, a3⟩
          · unfold plain2 at h2 ⊢
            rw [List.map_cons]
            cases hy : y.1.map (fun t => (t.k, t.x)) with
            | nil => rw [joinL]; simp only []; omega
            | cons u v =>
              rw [hy] at h2
              rw [joinL, List.length_append, List.length_cons]
              simp only []; omega
          · simp only [List.length_cons]; omega
        · exact ⟨(fun t ht => by cases ht), by simp [plain2, joinL], by simp⟩
      · rw [scanA_err h0 he]
        exact ⟨(fun t ht => by cases ht), by simp [plain2, joinL], by simp⟩

/-- Each token at its place: behind the one before it, in its line, with its bytes. -/
def PlaceOk (s : List UInt8) : List Tk → Nat → Prop
  | [], _ => True
  | t :: l, e => e ≤ t.at_ ∧ t.at_ < s.length ∧ t.ln = 1 + nlN (s.take t.at_) ∧ (t.k ≠ 4 → t.x ≠ [] ∧ t.x = (s.drop t.at_).take t.x.length) ∧ PlaceOk s l (if t.k = 4 then t.at_ + 1 else t.at_ + t.x.length)
theorem place_mono {s : List UInt8} : ∀ {l : List Tk} {e f : Nat}, f ≤ e → PlaceOk s l e → PlaceOk s l f
  | [], _, _, _, _ => trivial
  | t :: l, e, f, h, hp => ⟨Nat.le_trans h hp.1, hp.2⟩
theorem scan_places (m : Nat) : ∀ (p r : List UInt8), r.length ≤ m → PlaceOk (p ++ r) (scanA r p.length (1 + nlN p)).1 p.length := by
  induction m with
  | zero =>
    intro p r h
    obtain rfl : r = [] := List.eq_nil_of_length_eq_zero (by omega)
    rw [scan_nil]; trivial
  | succ m ih =>
    intro p r h
    have hc := gapN_count r.length r (Nat.le_refl _)
    have hgl := gapN_le r.length r (Nat.le_refl _)
    by_cases h0 : r.drop (gapN r).1 = []
    · rw [scanA_nil h0]; trivial
    · by_cases he : (tokT (r.drop (gapN r).1)).e = 0
      · have hok := tokT_ok he
        have hl := drop_len (gapN r).1 (tokT (r.drop (gapN r).1)).n h0 hok.1
        have hrl : (r.drop (gapN r).1).length = r.length - (gapN r).1 := by simp
        have hle := hok.2.1
        have h1 := hok.1
        have hsplit : r = r.take (gapN r).1 ++ ((r.drop (gapN r).1).take (tokT (r.drop (gapN r).1)).n ++ (r.drop (gapN r).1).drop (tokT (r.drop (gapN r).1)).n) := by rw [List.take_append_drop, List.take_append_drop]
        have hi := ih (p ++ r.take (gapN r).1 ++ (r.drop (gapN r).1).take (tokT (r.drop (gapN r).1)).n) ((r.drop (gapN r).1).drop (tokT (r.drop (gapN r).1)).n) (by omega)
        have e1 : p ++ r.take (gapN r).1 ++ (r.drop (gapN r).1).take (tokT (r.drop (gapN r).1)).n ++ (r.drop (gapN r).1).drop (tokT (r.drop (gapN r).1)).n = p ++ r := by
          rw [List.append_assoc, List.append_assoc, ← hsplit]
        have e2 : (p ++ r.take (gapN r).1 ++ (r.drop (gapN r).1).take (tokT (r.drop (gapN r).1)).n).length = p.length + (gapN r).1 + (tokT (r.drop (gapN r).1)).n := by
          simp only [List.length_append, List.length_take]; omega
        have e3 : nlN (p ++ r.take (gapN r).1 ++ (r.drop (gapN r).1).take (tokT (r.drop (gapN r).1)).n) = nlN p + (gapN r).2 := by
          rw [nlN_app, nlN_app, hc, nlN_none hok.2.2.1]; omega
        rw [e1, e2, e3, ← Nat.add_assoc] at hi
        rw [scanA_tok h0 he]
        unfold scP
        split
        · have e4 : (p ++ r).take (p.length + (gapN r).1) = p ++ r.take (gapN r).1 := by rw [List.take_length_add_append]
          have e5 : (p ++ r).drop (p.length + (gapN r).1) = r.drop (gapN r).1 := by rw [List.drop_length_add_append]
          refine ⟨by simp only []; omega, by simp only [List.length_append]; omega, ?_, ?_, ?_⟩
          · simp only []
            rw [e4, nlN_app, hc]; omega
          · intro h4
            simp only [] at h4 ⊢
            have hx := hok.2.2.2.1 h4
            rw [e5]
            have hxl : (tokT (r.drop (gapN r).1)).x.length = (tokT (r.drop (gapN r).1)).n := by rw [hx, List.length_take]; omega
            refine ⟨fun hn => ?_, by rw [hxl]; exact hx⟩
            rw [hn] at hxl
            simp at hxl; omega
          · simp only []
            refine place_mono ?_ hi
            split
            · rename_i h4
              have := (hok.2.2.2.2 h4).1
              omega
            · rename_i h4
              have hx := hok.2.2.2.1 h4
              have : (tokT (r.drop (gapN r).1)).x.length ≤ (tokT (r.drop (gapN r).1)).n := by rw [hx, List.length_take]; omega
              omega
        · trivial
      · rw [scanA_err h0 he]; trivial
end Go.Proofs.YtemlijadhdejeaaGreatDoor

/- A literal is a single token, and so is a name and a keyword: plain facts. -/
namespace Go.Proofs.YtemlijadhdejeaaGreatDoor
set_option linter.unusedVariables false

theorem scan_one {k : Int} {x : List UInt8} (h : Reads k x) : scanA (rendT k x) 0 1 = ([⟨k, x, 1, 0⟩], 0, 0) := by
  have := scan_join1 h [] (.inl rfl) 0 1
  rw [List.append_nil] at this
  rw [this, scan_nil]
  rfl
theorem scan_quote {x : List UInt8} (h : x.length ≤ 4096) : scanA (quoteL x) 0 1 = ([⟨4, x, 1, 0⟩], 0, 0) := by
  have := scan_one (reads_string h)
  rwa [show rendT 4 x = quoteL x from if_pos rfl] at this
/-- Whether a string is a name. -/
def nameB (l : List UInt8) : Bool := match l with | [] => false | c :: _ => decide (l.length ≤ 40) && (!keyB l && (letB c && l.all wordB))
theorem nameB_cons (c : UInt8) (t : List UInt8) : nameB (c :: t) = (decide ((c :: t).length ≤ 40) && (!keyB (c :: t) && (letB c && (c :: t).all wordB))) := rfl
theorem keys_words : ∀ k ∈ keys, (∃ c t, k = c :: t ∧ letB c = true) ∧ (∀ d ∈ k, wordB d = true) ∧ k.length ≤ 40 := by
  have h : ∀ k ∈ keys, (match k with | [] => false | c :: _ => letB c) = true ∧ (∀ d ∈ k, wordB d = true) ∧ k.length ≤ 40 := by decide
  intro k hk
  obtain ⟨h1, h2, h3⟩ := h k hk
  refine ⟨?_, h2, h3⟩
  cases k with
  | nil => cases h1
  | cons c t => exact ⟨c, t, rfl, h1⟩
theorem rend_word (w : List UInt8) : rendT (if keyB w then 2 else 1) w = w := by
  unfold rendT
  rw [if_neg]
  split <;> omega
theorem scan_name {w : List UInt8} (h : nameB w = true) : scanA w 0 1 = ([⟨1, w, 1, 0⟩], 0, 0) ∧ keyB w = false := by
  cases hw : w with
  | nil => rw [hw] at h; cases h
  | cons c t =>
    rw [← hw]
    rw [hw, nameB_cons, ← hw] at h
    simp only [Bool.and_eq_true, decide_eq_true_eq, Bool.not_eq_true', List.all_eq_true] at h
    obtain ⟨h1, h2, h3, h4⟩ := h
    have := scan_one (reads_word hw h3 h4 h1)
    rw [rend_word, h2] at this
    exact ⟨this, h2⟩
theorem scan_key {w : List UInt8} (h : keyB w = true) : scanA w 0 1 = ([⟨2, w, 1, 0⟩], 0, 0) := by
  have hm : w ∈ keys := by unfold keyB at h; simpa using h
  obtain ⟨⟨c, t, hw, hc⟩, ha, hl⟩ := keys_words w hm
  have := scan_one (reads_word hw hc ha hl)
  rw [rend_word, h] at this
  exact this
theorem spanN_all (p : UInt8 → Bool) (l : List UInt8) : decide (spanN p l = l.length) = l.all p := by
  induction l with
  | nil => rfl
  | cons c l ih =>
    cases hc : p c
    · rw [spanN_no hc, List.all_cons, hc]; rfl
    · rw [spanN_yes hc, List.all_cons, hc, ← ih]; simp
/-- The reference's words for it. -/
theorem let_dig : ∀ c : Fin 256, wordB (UInt8.ofNat c.val) = true → (letB (UInt8.ofNat c.val) = !digB (UInt8.ofNat c.val)) := by decide +kernel
theorem let_of_word {c : UInt8} (h : wordB c = true) : letB c = !digB c := by
  have := let_dig ⟨c.toNat, UInt8.toNat_lt c⟩ (by simpa using h)
  simpa using this
theorem nameB_ref (c : UInt8) (t : List UInt8) : nameB (c :: t) = (decide ((c :: t).length ≤ 40) && (!digB c && (!keyB (c :: t) && (c :: t).all wordB))) := by
  rw [nameB_cons]
  cases ha : (c :: t).all wordB
  · simp
  · have hw : wordB c = true := by rw [List.all_cons] at ha; simp at ha; exact ha.1
    rw [let_of_word hw]
    cases decide ((c :: t).length ≤ 40) <;> cases digB c <;> cases keyB (c :: t) <;> rfl
/-- The text of tokens, token by token from the left. -/
def joinR : List (Int × List UInt8) → List UInt8
  | [] => []
  | t :: l => 32 :: (rendT t.1 t.2 ++ joinR l)
theorem joinL_eq : ∀ (l : List (Int × List UInt8)), joinL l = (joinR l).drop 1
  | [] => rfl
  | [t] => by simp [joinL, joinR]
  | t :: u :: l => by rw [joinL, joinL_eq (u :: l)]; simp [joinR]
theorem joinL_snoc {l : List (Int × List UInt8)} (h : l ≠ []) (t : Int × List UInt8) : joinL (l ++ [t]) = joinL l ++ 32 :: rendT t.1 t.2 := by
  have e : ∀ l : List (Int × List UInt8), joinR (l ++ [t]) = joinR l ++ 32 :: rendT t.1 t.2 := by
    intro l
    induction l with
    | nil => simp [joinR]
    | cons x l ih => rw [List.cons_append, joinR, ih, joinR]; simp
  rw [joinL_eq, e, joinL_eq]
  cases l with
  | nil => exact absurd rfl h
  | cons x l => simp [joinR]
/-- The shelf's word for it. -/
theorem join_words (l : List (Int × List UInt8)) : List.intercalate [32] (l.map fun t => rendT t.1 t.2) = joinL l := by
  match l with
  | [] => rfl
  | [t] => simp [joinL, List.intercalate]
  | t :: u :: l =>
    have := join_words (u :: l)
    rw [joinL, ← this]
    simp [List.intercalate]
theorem joinL_len (n : Nat) : ∀ (l : List (Int × List UInt8)), (∀ t ∈ l, t.2.length ≤ n) → (joinL l).length ≤ l.length * (4 * n + 3)
  | [], _ => by simp [joinL]
  | [t], h => by
    have h1 := h t (List.mem_cons_self)
    have h2 := quoteM_len t.2
    rw [joinL]
    unfold rendT quoteL
    split <;> (try simp) <;> omega
  | t :: u :: l, h => by
    have h1 := h t (List.mem_cons_self)
    have h2 := quoteM_len t.2
    have h3 := joinL_len n (u :: l) (fun v hv => h v (List.mem_cons_of_mem _ hv))
    have h4 : (rendT t.1 t.2).length ≤ 4 * n + 2 := by unfold rendT quoteL; split <;> (try simp) <;> omega
    rw [joinL, List.length_append, List.length_cons]
    simp only [List.length_cons] at h3 ⊢
    have e : (l.length + 1 + 1) * (4 * n + 3) = (l.length + 1) * (4 * n + 3) + (4 * n + 3) := by rw [Nat.add_mul, Nat.one_mul]
    rw [e]
    omega
end Go.Proofs.YtemlijadhdejeaaGreatDoor
